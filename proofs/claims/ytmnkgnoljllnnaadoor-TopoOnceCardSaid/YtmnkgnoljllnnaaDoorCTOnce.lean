/-
  A layout that hangs together, with one signal, exit, flank more that is there already: the rule that is broken. And: an append onto a new empty slice in a drawn region, told by relations.
-/
import Derived.Test.YtmnkgnoljllnnaaDoorM5
import Derived.ArgAppend
import Derived.OwnWalkIn
import Derived.Deep.DeepCutAuto
import Derived.Deep.AppendLies

namespace Go.Proofs.YtmnkgnoljllnnaaDoor
open Go.RowKit Go.Shelf

theorem once_sigs {L : Lay} (h : topoR L = true) {j : Nat} {x : Prt} (hx : L.sigs[j]? = some x) (hn : L.sigs.length < 12) : checkL (swap L (L.sigs ++ [x]) L.exits L.flanks) = (2, (L.sigs.length : Int), 90) := by
  obtain ⟨hr, ha⟩ := (topoR_iff L).1 h
  obtain ⟨⟨_, _, l2, l3⟩, _, _, hf, _⟩ := (right_iff L).1 hr
  have hR : rightL (swap L (L.sigs ++ [x]) L.exits L.flanks) = true := right_swap hr (fun y hy => by
    rcases List.mem_append.1 hy with hy | hy
    · exact hy
    · rw [List.mem_singleton.1 hy]; exact List.mem_of_getElem? hx) (fun _ hy => hy) hf (by simp; omega) l2 l3
  have hj : j < L.sigs.length := (List.getElem?_eq_some_iff.1 hx).1
  have h1 : ruleN (swap L (L.sigs ++ [x]) L.exits L.flanks) 1 = (L.sigs.length : Int) := by
    show firstDup (sigP (swap L (L.sigs ++ [x]) L.exits L.flanks)) (L.sigs ++ [x]).length = _
    refine firstDup_at (by simp) (fun k hk => dupAt_false.2 fun i hi => ?_) (dupAt_hit hj ?_)
    · have := (rule1_neg L).1 (ha 1 (by omega)) k hk i hi
      unfold sigP at this ⊢
      simpa [swap, List.getElem?_append_left hk, List.getElem?_append_left (Nat.lt_trans hi hk)] using this
    · unfold sigP
      simp only [swap, List.getElem?_append_left hj, hx]
      simp
  have := check_hit hR (n := 1) (by omega) (fun j hj => by
    obtain rfl : j = 0 := by omega
    rw [rule0_neg, joined_swap]
    exact (rule0_neg L).1 (ha 0 (by omega))) (by rw [h1]; omega)
  rw [this, h1]
  rfl
theorem once_exits {L : Lay} (h : topoR L = true) {j : Nat} {x : Ext'} (hx : L.exits[j]? = some x) (hn : L.exits.length < 12) : checkL (swap L L.sigs (L.exits ++ [x]) L.flanks) = (3, (L.exits.length : Int), 90) := by
  obtain ⟨hr, ha⟩ := (topoR_iff L).1 h
  obtain ⟨⟨_, l1, _, l3⟩, _, _, hf, _⟩ := (right_iff L).1 hr
  have hR : rightL (swap L L.sigs (L.exits ++ [x]) L.flanks) = true := right_swap hr (fun _ hy => hy) (fun y hy => by
    rcases List.mem_append.1 hy with hy | hy
    · exact hy
    · rw [List.mem_singleton.1 hy]; exact List.mem_of_getElem? hx) hf l1 (by simp; omega) l3
  have hj : j < L.exits.length := (List.getElem?_eq_some_iff.1 hx).1
  have h1 : ruleN (swap L L.sigs (L.exits ++ [x]) L.flanks) 2 = (L.exits.length : Int) := by
    show firstDup (exQ (swap L L.sigs (L.exits ++ [x]) L.flanks)) (L.exits ++ [x]).length = _
    refine firstDup_at (by simp) (fun k hk => dupAt_false.2 fun i hi => ?_) (dupAt_hit hj ?_)
    · have := (rule2_neg L).1 (ha 2 (by omega)) k hk i hi
      unfold exQ at this ⊢
      simpa [swap, List.getElem?_append_left hk, List.getElem?_append_left (Nat.lt_trans hi hk)] using this
    · unfold exQ
      simp only [swap, List.getElem?_append_left hj, hx]
      simp
  have := check_hit hR (n := 2) (by omega) (fun j hj => by
    obtain rfl | rfl : j = 0 ∨ j = 1 := by omega
    · rw [rule0_neg, joined_swap]; exact (rule0_neg L).1 (ha 0 (by omega))
    · exact ha 1 (by omega)) (by rw [h1]; omega)
  rw [this, h1]
  rfl
def turnF (x : Flk) : Flk := ⟨x.s, x.way, x.pt, 1 - x.pos⟩
theorem once_flanks {L : Lay} (h : topoR L = true) {j : Nat} {x : Flk} (hx : L.flanks[j]? = some x) (hn : L.flanks.length < 16) : checkL (swap L L.sigs L.exits (L.flanks ++ [turnF x])) = (5, (L.flanks.length : Int), 90) := by
  obtain ⟨hr, ha⟩ := (topoR_iff L).1 h
  obtain ⟨⟨_, l1, l2, _⟩, _, _, hf, _⟩ := (right_iff L).1 hr
  have hR : rightL (swap L L.sigs L.exits (L.flanks ++ [turnF x])) = true := right_swap hr (fun _ hy => hy) (fun _ hy => hy) (fun y hy => by
    rcases List.mem_append.1 hy with hy | hy
    · exact hf y hy
    · rw [List.mem_singleton.1 hy]
      have hxx := of_decide_eq_true (hf x (List.mem_of_getElem? hx))
      unfold flankT
      refine decide_eq_true ?_
      obtain ⟨h1, h2, h3, h4, h5, h6⟩ := hxx
      exact ⟨h1, h2, h3, by show 0 ≤ 1 - x.pos; omega, by show 1 - x.pos ≤ 1; omega, h6⟩) l1 l2 (by simp; omega)
  have hj : j < L.flanks.length := (List.getElem?_eq_some_iff.1 hx).1
  have h1 : ruleN (swap L L.sigs L.exits (L.flanks ++ [turnF x])) 4 = (L.flanks.length : Int) := by
    show firstDup (flQ (swap L L.sigs L.exits (L.flanks ++ [turnF x]))) (L.flanks ++ [turnF x]).length = _
    refine firstDup_at (by simp) (fun k hk => dupAt_false.2 fun i hi => ?_) (dupAt_hit hj ?_)
    · have := (rule4_neg L).1 (ha 4 (by omega)) k hk i hi
      unfold flQ at this ⊢
      simpa [swap, List.getElem?_append_left hk, List.getElem?_append_left (Nat.lt_trans hi hk)] using this
    · unfold flQ
      simp only [swap, List.getElem?_append_left hj, hx]
      simp [bareF, turnF]
  have := check_hit hR (n := 4) (by omega) (fun j hj => by
    obtain rfl | rfl | rfl | rfl : j = 0 ∨ j = 1 ∨ j = 2 ∨ j = 3 := by omega
    · rw [rule0_neg, joined_swap]; exact (rule0_neg L).1 (ha 0 (by omega))
    · exact ha 1 (by omega)
    · exact ha 2 (by omega)
    · rw [rule3_neg]
      intro y hy
      rw [overOk_swap]
      exact (rule3_neg L).1 (ha 3 (by omega)) y hy) (by rw [h1]; omega)
  rw [this, h1]
  rfl

theorem owns_below {W W' : World} {base : Nat} {e : TypeId} {size : Nat} {v : Value} {n : Nat} {xs : List Value} (h : W.ownsRow base e size v n xs) (k : Below W.heap.size W W') : W'.ownsRow base e size v n xs := by
  refine ⟨h.1, ?_⟩
  rcases h.2 with hn | ⟨g, cap, cur, e, hb, hgg, rest⟩
  · exact .inl hn
  · exact .inr ⟨g, cap, cur, e, hb, (k.block g (Array.getElem?_eq_some_iff.1 hgg).1).trans hgg, rest⟩
theorem owns_base {W : World} {base base' : Nat} {e : TypeId} {size : Nat} {v : Value} {n : Nat} {xs : List Value} (h : W.ownsRow base e size v n xs) (k : base' ≤ base) : W.ownsRow base' e size v n xs := by
  refine ⟨h.1, ?_⟩
  rcases h.2 with hn | ⟨g, cap, cur, e, hb, hgg, rest⟩
  · exact .inl hn
  · exact .inr ⟨g, cap, cur, e, Nat.le_trans k hb, hgg, rest⟩
/-- A new slice of nothing. -/
def NoneS (v : Value) (_ : World) : Prop := ∃ g, v = .slice (some ⟨g, 0, none⟩) 0 0
theorem rel_none {P : Program} {U W : World} {r : Result Next} {g : Nat} {o : Obj} (h : r = .ok (.value (.slice (some ⟨g, 0, none⟩) 0 0)) (W.alloc o)) (hC : ClB U W) : relUpon P (ClB U) StB W NoneS r := by
  rw [h]
  exact ⟨hC.step bself, bself, g, rfl⟩
/-- A new slice of one element. -/
def OneS (U : World) (cs : Array Value) (v : Value) (w : World) : Prop := ∃ g, v = .slice (some ⟨g, 0, none⟩) 1 1 ∧ U.heap.size ≤ g ∧ g < w.heap.size ∧ ∀ i, w.cell? ⟨g, i, none⟩ = cs[i]?
theorem OneS.step {U W W' : World} {cs : Array Value} {v : Value} (h : OneS U cs v W) (k : StB W W') : OneS U cs v W' := by
  obtain ⟨g, e, hb, hl, hc⟩ := h
  exact ⟨g, e, hb, Nat.lt_of_lt_of_le hl k.size, fun i => (k.cell (p := ⟨g, i, none⟩) hl).trans (hc i)⟩
theorem rel_one {P : Program} {U W : World} {r : Result Next} {cs : Array Value} {T : TypeId} (h : r = .ok (.value (.slice (some ⟨W.heap.size, 0, none⟩) 1 1)) (W.alloc (.cells cs T))) (hC : ClB U W) : relUpon P (ClB U) StB W (OneS U cs) r := by
  rw [h]
  exact ⟨hC.step bself, bself, _, rfl, hC.size, by simp, fun i => by rw [World.cell?_alloc_at _ _ _ _ rfl]⟩
/-- What is appended to a new slice of nothing lies in a row of its own. -/
theorem rel_append {P : Program} {U W : World} {ρ : Operand → Value} {dst : Option Tmp} {ty : TypeId} {pos : String} {after : Array Edge} {guard : Option (Nat × Bool)} {s x : Nat} {t e : TypeId} {i : TypeInfo} {z : Value} {size bytes : Nat}
    (h1 : P.underlying t = some (.slice e)) (h2 : P.info? e = some i) (h3 : i.zero = some z) (h4 : i.size = size) (h5 : i.bytes = bytes) (h6 : z.cells.size = size) (h7 : 0 < size)
    {g : Nat} (hs : ρ (.tmp s) = .slice (some ⟨g, 0, none⟩) 0 0) {ad : Addr} {m c : Nat} {news : List Value} (hx : ρ (.tmp x) = .slice (some ad) m c) (hn : news.length = m * size) (hc : ∀ j u, news[j]? = some u → W.cell? (ad.add j) = some u)
    (hm : 0 < m) (b1 : m ≤ maxLen) (b2 : m * bytes ≤ 140737488355328) (hC : ClB U W) :
    relUpon P (ClB U) StB W (fun v w' => w'.ownsRow U.heap.size e size v m news) ((execOp ρ ⟨dst, .call { callee := .builtin .append, args := #[.tmp s, .tmp x], argTypes := #[t, t] }, ty, pos, after, guard⟩).run P W) := by
  obtain ⟨v', w', hrun, r1, r2⟩ := run_append_arg_grows (P := P) (w := W) t ty e i z size bytes h1 h2 h3 h4 h5 h6 h7 ⟨g, 0, none⟩ 0 0 [] (by simp) (fun j u h => by simp at h) ad m c news hn hc (by omega) (by omega) (by simpa using b2)
  have hb : Below W.heap.size W w' := (Below.refl _ _).grown r2 (Nat.le_refl _) (fun k e => by cases e)
  have hr : (execOp ρ ⟨dst, .call { callee := .builtin .append, args := #[.tmp s, .tmp x], argTypes := #[t, t] }, ty, pos, after, guard⟩).run P W = .ok (.value v') w' := by
    simp [execOp, resolve, invoke, builtin, hs, hx, hrun, Result.andThen]
  rw [hr]
  refine ⟨hC.step hb, hb, ?_⟩
  have := owns_base r1 hC.size
  rwa [Nat.zero_add, List.nil_append] at this
end Go.Proofs.YtmnkgnoljllnnaaDoor

/-
  The walk of TopoOnce.
-/
namespace Go.Proofs.YtmnkgnoljllnnaaDoor
open Go.RowKit Go.Shelf

set_option maxRecDepth 100000 in
set_option maxHeartbeats 16000000 in
theorem topoOnce_walk (L : Lay) (P : Where) (at0 : Int) (w : World) (hL : LayAt w P L) (KE : Kinds w ∧ JEnd w) :
    Calls Tryd.prog 5 #[L.val P, .int .i64 at0] w fun e w' => e = .returned (.bool true) ∧ Below w.heap.size w w' := by
  have hG := fun w1 (h : Below w.heap.size w w1) => rGreat_of L P w1 (hL.below h)
  have h4 := fun w1 (h : Below w.heap.size w w1) => topoRight_any L P w1 (hL.below h) (KE.1.below h) (KE.2.below h)
  have hW := fun w1 (h : Below w.heap.size w w1) => wakes9_any w1 (KE.1.below h) (KE.2.below h)
  obtain ⟨q, hq⟩ : ∃ q, q = topoR L := ⟨_, rfl⟩
  rw [← hq] at h4
  have HL := Lib.hid hL
  have HKE := Lib.hid KE
  have m1 := Nat.le_trans HL.out.l1.1 HL.out.l1.2
  have m2 := Nat.le_trans HL.out.l2.1 HL.out.l2.2
  have m3 := Nat.le_trans HL.out.l3.1 HL.out.l3.2
  obtain ⟨a0, a1, a2, a3, p0, p1, p2, p3⟩ := P
  unfold Lay.val at hG h4 ⊢
  have HG := Lib.hid hG
  have HC := Lib.hid h4
  have HW := Lib.hid hW
  have HQ := Lib.hid hq
  clear hG h4 hW hq hL KE
  go_enter Tryd.func5, Tryd.ntmps5
  go_wp2_with fail
  (with_reducible refine (HG.out (w.alloc (.cells #[.slice a0 L.secs.length p0, .slice a1 L.sigs.length p1, .slice a2 L.exits.length p2, .slice a3 L.flanks.length p3, .int .i64 L.t0, .int .i64 L.t1, .int .i64 L.t2, .int .i64 L.t3, .int .i64 L.t4, .int .i64 L.t5, .int .i64 L.t6] 29)) bself).mono ?_)
  rintro e w1 ⟨g, rfl, _, b1⟩
  have HB1 := Lib.hid (bnew b1)
  cases g with
  | true =>
    clear b1
    go_wp2_with fail
    (with_reducible refine (HW.out _ HB1.out).mono ?_)
    rintro e w9 ⟨rfl, b9⟩
    have HB9 := Lib.hid (bchain HB1.out b9)
    clear b9
    go_wp2
    go_ret
    exact ⟨rfl, HB9.out⟩
  | false =>
  have hbx : BoxL w1 w.heap.size L ⟨a0, a1, a2, a3, p0, p1, p2, p3⟩ := (BoxL.make (L := L) (p := ⟨a0, a1, a2, a3, p0, p1, p2, p3⟩) _ rfl).below b1
  have HX1 := Lib.hid hbx
  obtain ⟨c0, c1, c2, c3, c4, c5, c6, c7, c8, c9, c10⟩ := hbx.cells
  have lg := hbx.1
  dsimp only at c0 c1 c2 c3
  clear b1 hbx
  go_wp2_with fail
  (with_reducible refine (HC.out _ HB1.out).mono ?_)
  rintro e w2 ⟨rfl, b2⟩
  have HB2 := Lib.hid (bchain HB1.out b2)
  have HX2 := Lib.hid (HX1.out.below b2)
  clear c0 c1 c2 c3 c4 c5 c6 c7 c8 c9 c10 lg b2
  cases q with
  | false =>
    clear HX2
    go_wp2_with fail
    (with_reducible refine (HW.out _ HB2.out).mono ?_)
    rintro e w9 ⟨rfl, b9⟩
    have HB9 := Lib.hid (bchain HB2.out b9)
    clear b9
    go_wp2
    go_ret
    exact ⟨rfl, HB9.out⟩
  | true =>
  have HT := Lib.hid HQ.out.symm
  obtain ⟨c0, c1, c2, c3, c4, c5, c6, c7, c8, c9, c10⟩ := HX2.out.cells
  have lg := HX2.out.1
  dsimp only at c0 c1 c2 c3
  go_upto_region 4 with fail
  go_cut [37] (fun s w' => s = .bool (decide (0 < L.sigs.length) && decide (L.sigs.length < 12)) ∧ w' = w2)
  case first =>
    by_cases h0 : 0 < L.sigs.length
    · have e0 : decide (0 < L.sigs.length) = true := decide_eq_true h0
      have e0i : decide ((0 : Int) < (L.sigs.length : Int)) = true := decide_eq_true (by omega)
      by_cases h1 : L.sigs.length < 12
      · have e1 : decide (L.sigs.length < 12) = true := decide_eq_true h1
        have e1i : decide ((L.sigs.length : Int) < 12) = true := decide_eq_true (by omega)
        go_wp2_with fail
        all_goals first | (exfalso; omega) | (go_meet; exact ⟨by simp [e0, e1], rfl⟩)
      · have e1 : decide (L.sigs.length < 12) = false := decide_eq_false h1
        have e1i : decide ((L.sigs.length : Int) < 12) = false := decide_eq_false (by omega)
        go_wp2_with fail
        all_goals first | (exfalso; omega) | (go_meet; exact ⟨by simp [e1], rfl⟩)
    · have e0 : decide (0 < L.sigs.length) = false := decide_eq_false h0
      have e0i : decide ((0 : Int) < (L.sigs.length : Int)) = false := decide_eq_false (by omega)
      go_wp2_with fail
      all_goals first | (exfalso; omega) | (go_meet; exact ⟨by simp [e0], rfl⟩)
  case rest =>
  obtain ⟨rfl, rfl⟩ := hcut
  go_upto_if 37 with fail
  go_cut [] (fun w' => Hid (Below w.heap.size w w') ∧ Hid (BoxL w' w.heap.size L ⟨a0, a1, a2, a3, p0, p1, p2, p3⟩))
  case first =>
    by_cases hin : 0 < L.sigs.length ∧ L.sigs.length < 12
    · have hbb : (decide (0 < L.sigs.length) && decide (L.sigs.length < 12)) = true := by rw [Bool.and_eq_true, decide_eq_true_iff, decide_eq_true_iff]; exact hin
      rw [hbb]
      obtain ⟨hn0, h12⟩ := hin
      clear hbb
      have hl1 := Int.tmod_lt_of_pos at0 (show (0 : Int) < (L.sigs.length : Int) by omega)
      have hl2 := Int.lt_tmod_of_pos at0 (show (0 : Int) < (L.sigs.length : Int) by omega)
      have hp1 := Int.tmod_nonneg (L.sigs.length : Int) (show (0 : Int) ≤ Int.tmod at0 (L.sigs.length : Int) + (L.sigs.length : Int) by omega)
      have hp2 := Int.tmod_lt_of_pos (Int.tmod at0 (L.sigs.length : Int) + (L.sigs.length : Int)) (show (0 : Int) < (L.sigs.length : Int) by omega)
      obtain ⟨j, hj⟩ : ∃ j : Nat, Int.tmod (Int.tmod at0 (L.sigs.length : Int) + (L.sigs.length : Int)) (L.sigs.length : Int) = (j : Int) := ⟨(Int.tmod (Int.tmod at0 (L.sigs.length : Int) + (L.sigs.length : Int)) (L.sigs.length : Int)).toNat, by omega⟩
      have hjn : j < L.sigs.length := by omega
      obtain ⟨sb, so, ea, hrow⟩ := HL.out.sigs.get (j := j) (hjn)
      obtain ⟨x, hx⟩ : ∃ x, L.sigs[j]? = some x := ⟨_, List.getElem?_eq_getElem (hjn)⟩
      have hxL := hx
      have hones : ∀ u ∈ L.sigs.flatMap Prt.enc, u.oneCell' = true := by
        intro u hu
        obtain ⟨y, hy, hu⟩ := List.mem_flatMap.1 hu
        simp only [Prt.enc, List.mem_cons, List.not_mem_nil, or_false] at hu
        rcases hu with rfl | rfl <;> rfl
      obtain ⟨i0, zz0, hi, hz, hs1, hs2, hs3⟩ := info_Signal
      have HI := Lib.hid (⟨hi, hz, hs1, hs2, hs3⟩ : _ ∧ _ ∧ _ ∧ _ ∧ _)
      clear hi hz hs1 hs2 hs3
      dsimp only at ea
      subst ea
      have hr1 : IntKind.i64.wrap (Int.tmod at0 (L.sigs.length : Int)) = Int.tmod at0 (L.sigs.length : Int) := IntWalk.i64_in _ (by omega)
      have hr2 : IntKind.i64.wrap (Int.tmod at0 (L.sigs.length : Int) + (L.sigs.length : Int)) = Int.tmod at0 (L.sigs.length : Int) + (L.sigs.length : Int) := IntWalk.i64_in _ (by omega)
      have hr3 : IntKind.i64.wrap (Int.tmod (Int.tmod at0 (L.sigs.length : Int) + (L.sigs.length : Int)) (L.sigs.length : Int)) = (j : Int) := by rw [hj]; exact IntWalk.i64_in _ (by omega)
      have z0' : w.cell? ⟨sb, so + j * 2, none⟩ = some (.int .i64 x.s) := hrow.2 j x hx 0 _ rfl
      have z1' : w.cell? ⟨sb, so + j * 2 + 1, none⟩ = some (.int .i64 x.p) := hrow.2 j x hx 1 _ rfl
      have HJ := Lib.hid (⟨hr1, hr2, hr3, hj⟩ : _ ∧ _ ∧ _ ∧ _)
      clear hl1 hl2 hp1 hp2 hr1 hr2 hr3 hj
      go_wp2_with fail
      obtain ⟨U, hUe⟩ : ∃ U, U = wc.alloc (.cells #[.slice a0 L.secs.length p0, .slice (some ⟨sb, so, none⟩) L.sigs.length p1, .slice a2 L.exits.length p2, .slice a3 L.flanks.length p3, .int .i64 L.t0, .int .i64 L.t1, .int .i64 L.t2, .int .i64 L.t3, .int .i64 L.t4, .int .i64 L.t5, .int .i64 L.t6] 29) := ⟨_, rfl⟩
      have hU0 : Below wc.heap.size wc U := by rw [hUe]; exact bself
      have hBm : BoxL U wc.heap.size L ⟨a0, (some ⟨sb, so, none⟩), a2, a3, p0, p1, p2, p3⟩ := by rw [hUe]; exact BoxL.make (L := L) (p := ⟨a0, (some ⟨sb, so, none⟩), a2, a3, p0, p1, p2, p3⟩) 29 rfl
      have hBf : U.frozen? ⟨wc.heap.size, 1, none⟩ = false := by rw [hUe]; simp [go_sem]
      have hU : Below w.heap.size w U := bchain HB2.out hU0
      have hXU := HX2.out.below hU0
      have cs : ∀ V', ClB U V' → V'.cell? ⟨w.heap.size, 1, none⟩ = some (.slice (some ⟨sb, so, none⟩) L.sigs.length p1) := fun V' h => (hXU.below h).cells.2.1
      have z0 : ∀ V', ClB U V' → V'.cell? ⟨sb, so + j * 2, none⟩ = _ := fun V' h => ((bchain hU h).cell (p := ⟨sb, so + j * 2, none⟩) hrow.1).trans z0'
      have z1 : ∀ V', ClB U V' → V'.cell? ⟨sb, so + j * 2 + 1, none⟩ = _ := fun V' h => ((bchain hU h).cell (p := ⟨sb, so + j * 2 + 1, none⟩) hrow.1).trans z1'
      have HNEWS := Lib.hid (⟨by rw [flat_len (enc := Prt.enc) (k := 2) (fun _ => rfl)], fun V' (h : ClB U V') i u hu => (by
        have hc := flat_cells (enc := Prt.enc) (k := 2) (fun _ => rfl) (by decide) hrow i u hu
        rw [add_at] at hc ⊢
        exact ((bchain hU h).cell (p := ⟨sb, so + i, none⟩) hrow.1).trans hc), by unfold maxLen; omega, by
        have h2 := Nat.mul_le_mul (Nat.le_of_lt h12) HI.out.2.2.2.2
        omega⟩ : (L.sigs.flatMap Prt.enc).length = L.sigs.length * 2 ∧ (∀ V', ClB U V' → ∀ i u, (L.sigs.flatMap Prt.enc)[i]? = some u → V'.cell? ((⟨sb, so, none⟩ : Addr).add i) = some u) ∧ L.sigs.length ≤ maxLen ∧ L.sigs.length * i0.bytes ≤ 140737488355328)
      rw [← hUe]
      have hr2 := HJ.out.2.1
      have hj := HJ.out.2.2.2
      have hnz : ¬ L.sigs = [] := fun h => by rw [h] at hn0; exact absurd hn0 (by simp)
      have HBM := Lib.hid (⟨hBm, hBf, hU, hXU⟩ : _ ∧ _ ∧ _ ∧ _)
      have HUE := Lib.hid hUe
      have HLW := Lib.hid (show w.heap.size < wc.heap.size from HX2.out.1)
      have hg6 : wc.heap.size < U.heap.size := hBm.1
      clear hUe hU0 hBm hBf hXU c0 c1 c2 c3 c4 c5 c6 c7 c8 c9 c10 lg
      generalize wc.heap.size = g6 at HBM hg6 HLW ⊢
      focus
        refine (wpIn_wide (n := 5)).1 (wpIn_region_rel_head (.inl rfl) 16 [([], none), ([(2, none)], none), ([(40, some 0)], none), ([(39, some 2), (41, some 0)], none), ([(2, none)], none), ([(43, some 0)], none), ([(1, none)], none), ([(5, none)], none), ([(45, some 1), (46, some 0)], none), ([(5, none)], none), ([(47, some 1), (48, some 0)], none), ([(5, none)], none), ([(49, some 1), (50, some 0)], none), ([(44, some 7), (51, some 0)], none), ([(52, some 0)], none), ([(53, some 0)], none)] [(0, 54), (12, 42)] (by kernel_rfl) (by kernel_rfl) (by kernel_rfl) (by kernel_rfl) (by kernel_rfl) (by kernel_rfl) (by kernel_rfl) (by kernel_rfl) ?_)
        simp only [List.take_succ_cons, List.take_zero, List.drop_succ_cons, List.drop_zero]
        refine ⟨NoneS, fun _ _ _ h _ => h, ?_, ?_⟩
        · intro ρ W hk hC
          simp only [seen, obOp]
          exact rel_none (g := W.heap.size) (o := .cells #[] 51) (by simp [go_sem]) hC
        refine ob_det (c := .pointer (some ⟨w.heap.size, 1, none⟩)) ?_ ?_
        · intro ρ W hk hC
          simp only [seen, obOp]
          rintro h2
          replace h2 : ρ (.tmp 2) = .pointer (some ⟨w.heap.size, 0, none⟩) := h2.trans rfl
          exact rel_value (by simp [go_sem, h2]) hC
        refine ob_det (c := .slice (some ⟨sb, so, none⟩) L.sigs.length p1) ?_ ?_
        · intro ρ W hk hC
          simp only [seen, obOp, List.getD_cons_zero]
          rintro h40
          exact rel_value (by simp [go_sem, h40, cs W hC]) hC
        refine ⟨fun v W => W.ownsRow U.heap.size 51 2 v L.sigs.length (L.sigs.flatMap Prt.enc), fun _ _ _ h k => owns_below h k, ?_, ?_⟩
        · intro ρ W hk hC
          simp only [seen, obOp, List.getD_cons_zero, List.getD_cons_succ]
          rintro ⟨g0, h39⟩ h41
          exact rel_append Tryd.underlying23 HI.out.1 HI.out.2.1 HI.out.2.2.1 rfl HI.out.2.2.2.1 (by decide) h39 h41 HNEWS.out.1 (fun i u hu => HNEWS.out.2.1 W hC i u hu) hn0 HNEWS.out.2.2.1 HNEWS.out.2.2.2 hC
        refine ob_det (c := .pointer (some ⟨w.heap.size, 1, none⟩)) ?_ ?_
        · intro ρ W hk hC
          simp only [seen, obOp]
          rintro h2
          replace h2 : ρ (.tmp 2) = .pointer (some ⟨w.heap.size, 0, none⟩) := h2.trans rfl
          exact rel_value (by simp [go_sem, h2]) hC
        refine ob_det (c := .slice (some ⟨sb, so, none⟩) L.sigs.length p1) ?_ ?_
        · intro ρ W hk hC
          simp only [seen, obOp, List.getD_cons_zero]
          rintro h43
          exact rel_value (by simp [go_sem, h43, cs W hC]) hC
        refine ob_det (c := .int .i64 at0) ?_ ?_
        · intro ρ W hk hC
          simp only [seen, obOp]
          rintro h1
          replace h1 : ρ (.tmp 1) = .int .i64 at0 := h1.trans rfl
          exact rel_value (by simp [go_sem, h1]) hC
        refine ob_det (c := .int .i64 (L.sigs.length : Nat)) ?_ ?_
        · intro ρ W hk hC
          simp only [seen, obOp]
          rintro h5
          replace h5 : ρ (.tmp 5) = .int .i64 (L.sigs.length : Nat) := h5.trans rfl
          exact rel_value (by simp [go_sem, h5]) hC
        refine ob_det (c := .int .i64 (Int.tmod at0 (L.sigs.length : Nat))) ?_ ?_
        · intro ρ W hk hC
          simp only [seen, obOp, List.getD_cons_zero, List.getD_cons_succ]
          rintro h45 h46
          exact rel_value (by simp [go_sem, h45, h46, hnz]) hC
        refine ob_det (c := .int .i64 (L.sigs.length : Nat)) ?_ ?_
        · intro ρ W hk hC
          simp only [seen, obOp]
          rintro h5
          replace h5 : ρ (.tmp 5) = .int .i64 (L.sigs.length : Nat) := h5.trans rfl
          exact rel_value (by simp [go_sem, h5]) hC
        refine ob_det (c := .int .i64 (Int.tmod at0 (L.sigs.length : Nat) + (L.sigs.length : Nat))) ?_ ?_
        · intro ρ W hk hC
          simp only [seen, obOp, List.getD_cons_zero, List.getD_cons_succ]
          rintro h47 h48
          exact rel_value (by simp [go_sem, h47, h48, hr2]) hC
        refine ob_det (c := .int .i64 (L.sigs.length : Nat)) ?_ ?_
        · intro ρ W hk hC
          simp only [seen, obOp]
          rintro h5
          replace h5 : ρ (.tmp 5) = .int .i64 (L.sigs.length : Nat) := h5.trans rfl
          exact rel_value (by simp [go_sem, h5]) hC
        refine ob_det (c := .int .i64 (j : Nat)) ?_ ?_
        · intro ρ W hk hC
          simp only [seen, obOp, List.getD_cons_zero, List.getD_cons_succ]
          rintro h49 h50
          exact rel_value (by simp [go_sem, h49, h50, hnz, hj]) hC
        refine ob_det (c := .pointer (some ⟨sb, so + j * 2, none⟩)) ?_ ?_
        · intro ρ W hk hC
          simp only [seen, obOp, List.getD_cons_zero, List.getD_cons_succ]
          rintro h44 h51
          exact rel_value (by simp [go_sem, h44, h51, hjn]) hC
        refine ob_det (c := .agg #[.int .i64 x.s, .int .i64 x.p]) ?_ ?_
        · intro ρ W hk hC
          simp only [seen, obOp, List.getD_cons_zero]
          rintro h52
          exact rel_value (by simp [go_sem, h52, z0 W hC, z1 W hC]) hC
        refine ⟨OneS U #[.int .i64 x.s, .int .i64 x.p], fun _ _ _ h k => h.step k, ?_, ?_⟩
        · intro ρ W hk hC
          simp only [seen, obOp, List.getD_cons_zero]
          rintro h53
          exact rel_one (cs := #[.int .i64 x.s, .int .i64 x.p]) (T := 51) (by simp [go_sem, h53]) hC
        intro vs w5 hC5
        simp only [endSeen, List.getD_cons_zero, List.getD_cons_succ]
        intro h54 h42
        simp only [writeAll, List.setIfInBounds_toArray, List.set_cons_zero, List.set_cons_succ]
        obtain ⟨g1, hg1, lg1, lg1', cg1⟩ := h54
        replace h42 : w5.ownsRow U.heap.size 51 2 (vs 42) L.sigs.length (L.sigs.flatMap Prt.enc) := h42
        obtain ⟨g0, cap0, hg0, hb0, hl0⟩ := World.ownsRow.form h42 hn0
        rw [hg0] at h42
        rw [hg1, hg0]
        have hlow : ∀ kk, (Value.slice (some ⟨g0, 0, none⟩) L.sigs.length cap0).ownBlock = some kk → U.heap.size ≤ kk := fun kk e => by
          have e2 : g0 = kk := by simpa [Value.ownBlock] using e
          omega
        have HT5 := Lib.hid (⟨hC5, hlow⟩ : _ ∧ _)
        clear hlow hb0 hl0 hg0 hg1
        refine wpListIn_append_own _ rfl _ _ 23 rfl U.heap.size 51 i0 zz0 2 i0.bytes Tryd.underlying23 HI.out.1 HI.out.2.1 HI.out.2.2.1 rfl HI.out.2.2.2.1 (by decide) _ L.sigs.length (L.sigs.flatMap Prt.enc) (by rfl) h42 ⟨g1, 0, none⟩ 1 1 (Prt.enc x) (by rfl) rfl ?x1 ?x2 ?x3 ?x4 ?x5 ?_
        case x1 =>
          intro i u hu
          rw [add_at]
          have := cg1 i
          rw [Nat.zero_add, this]
          simpa [Prt.enc] using hu
        case x2 =>
          intro u hu
          exact hones u (List.mem_flatMap.2 ⟨x, List.mem_of_getElem? hx, hu⟩)
        case x3 => unfold maxLen; omega
        case x4 =>
          have h2 := Nat.mul_le_mul (show L.sigs.length + 1 ≤ 12 by omega) HI.out.2.2.2.2
          omega
        case x5 => exact HT5.out.1.size
        intro v' w6 hown' hgrow _
        have hb6 : Below U.heap.size U w6 := HT5.out.1.grown hgrow HT5.out.1.size HT5.out.2
        have hown2 : w6.ownsRow U.heap.size 51 2 v' (L.sigs ++ [x]).length ((L.sigs ++ [x]).flatMap Prt.enc) := by
          rw [List.length_append, List.flatMap_append, List.flatMap_cons, List.flatMap_nil, List.append_nil]
          exact hown'
        obtain ⟨AA, ccap, rfl, hcap1, hcap2, hAT⟩ := at_of_row (enc := Prt.enc) (k := 2) (fun _ => rfl) (by decide) hown2
        have hAb : ∀ b off, AA = some ⟨b, off, none⟩ → U.heap.size ≤ b := by
          intro b off e
          rcases hown2.2 with ⟨h, _⟩ | ⟨g, cap, cur, h, hb, _⟩
          · injection h with h1
            rw [h1] at e
            cases e
          · injection h with h1
            rw [h1] at e
            cases e
            exact hb
        have hll : (L.sigs ++ [x]).length = L.sigs.length + 1 := by rw [List.length_append]; rfl
        rw [hll] at hcap1 ⊢
        have hm6 := HBM.out.1.below hb6
        obtain ⟨c0, c1, c2, c3, c4, c5, c6, c7, c8, c9, c10⟩ := hm6.cells
        dsimp only at c0 c1 c2 c3
        have f2 : w6.frozen? ⟨g6, 1, none⟩ = false := (hb6.frozen (p := ⟨g6, 1, none⟩) hg6).trans HBM.out.2.1
        have l6 : g6 < w6.heap.size := hm6.1
        have lwg : w.heap.size < g6 := HLW.out
        obtain ⟨W7, hW7⟩ : ∃ W7, W7 = w6.setCell ⟨g6, 1, none⟩ (.slice AA (L.sigs.length + 1) ccap) := ⟨_, rfl⟩
        have hw7 : Below w.heap.size w W7 := by rw [hW7]; exact (bchain HBM.out.2.2.1 hb6).setCell (p := ⟨g6, 1, none⟩) (by dsimp only; omega) _
        have hx7 : BoxL W7 w.heap.size L ⟨a0, (some ⟨sb, so, none⟩), a2, a3, p0, p1, p2, p3⟩ := by rw [hW7]; exact (HBM.out.2.2.2.below hb6).set (by omega)
        have hA7 : At W7 2 Prt.enc AA (L.sigs ++ [x]) := by
          rw [hW7]
          rcases hAT with h | ⟨b, off, e, hr⟩
          · exact .inl h
          · exact .inr ⟨b, off, e, hr.set (by have := hAb b off e; omega)⟩
        have hMl : LayAt W7 ⟨a0, AA, a2, a3, p0, ccap, p2, p3⟩ (swap L (L.sigs ++ [x]) L.exits L.flanks) := ⟨(HL.out.below hw7).secs, hA7, (HL.out.below hw7).exits, (HL.out.below hw7).flanks, HL.out.l0, ⟨by show (L.sigs ++ [x]).length ≤ _; simpa using hcap1, hcap2⟩, HL.out.l2, HL.out.l3, HL.out.kinds⟩
        have hMc := check_any (swap L (L.sigs ++ [x]) L.exits L.flanks) ⟨a0, AA, a2, a3, p0, ccap, p2, p3⟩ W7 hMl (HKE.out.1.below hw7) (HKE.out.2.below hw7)
        rw [once_sigs HT.out hxL h12] at hMc
        replace hMc : Calls Tryd.prog 10 #[.agg #[.slice a0 L.secs.length p0, .slice AA (L.sigs.length + 1) ccap, .slice a2 L.exits.length p2, .slice a3 L.flanks.length p3, .int .i64 L.t0, .int .i64 L.t1, .int .i64 L.t2, .int .i64 L.t3, .int .i64 L.t4, .int .i64 L.t5, .int .i64 L.t6]] W7 fun e w' => e = .returned (.tuple #[.int .i64 2, .int .i64 (L.sigs.length : Nat), .int .i64 90]) ∧ Below W7.heap.size W7 w' := by
          simpa [Lay.val, swap] using hMc
        rw [hW7] at hMc
        have HM := Lib.hid hMc
        have HW7 := Lib.hid (⟨hw7, hx7, hW7⟩ : _ ∧ _ ∧ _)
        clear hown' hown2 hgrow hcap1 hcap2 hAT hAb hm6 hA7 hMl hMc hW7 hw7 hx7 hb6 lwg hll hj hr2 hnz
        gi_wp2
        go_wp2_with fail
        (with_reducible refine HM.out.mono ?_)
        rintro e w8 ⟨rfl, b8⟩
        rw [← HW7.out.2.2] at b8
        have HX8 := Lib.hid (HW7.out.2.1.below b8)
        have HB8 := Lib.hid (bchain HW7.out.1 b8)
        clear c0 c1 c2 c3 c4 c5 c6 c7 c8 c9 c10 f2 l6 b8
        go_wp2_with fail
        go_meet
        exact ⟨HB8, HX8⟩
    · have hbb : (decide (0 < L.sigs.length) && decide (L.sigs.length < 12)) = false := by rw [Bool.and_eq_false_iff, decide_eq_false_iff_not, decide_eq_false_iff_not]; omega
      rw [hbb]
      clear c0 c1 c2 c3 c4 c5 c6 c7 c8 c9 c10 lg hbb
      go_wp2_with fail
      go_meet
      exact ⟨HB2, HX2⟩
  case rest =>
  obtain ⟨HBn1, HXn1⟩ := hcut
  obtain ⟨c0, c1, c2, c3, c4, c5, c6, c7, c8, c9, c10⟩ := HXn1.out.cells
  have lg := HXn1.out.1
  dsimp only at c0 c1 c2 c3
  go_upto_region 11 with fail
  go_cut [82] (fun s w' => s = .bool (decide (0 < L.exits.length) && decide (L.exits.length < 12)) ∧ w' = wc)
  case first =>
    by_cases h0 : 0 < L.exits.length
    · have e0 : decide (0 < L.exits.length) = true := decide_eq_true h0
      have e0i : decide ((0 : Int) < (L.exits.length : Int)) = true := decide_eq_true (by omega)
      by_cases h1 : L.exits.length < 12
      · have e1 : decide (L.exits.length < 12) = true := decide_eq_true h1
        have e1i : decide ((L.exits.length : Int) < 12) = true := decide_eq_true (by omega)
        go_wp2_with fail
        all_goals first | (exfalso; omega) | (go_meet; exact ⟨by simp [e0, e1], rfl⟩)
      · have e1 : decide (L.exits.length < 12) = false := decide_eq_false h1
        have e1i : decide ((L.exits.length : Int) < 12) = false := decide_eq_false (by omega)
        go_wp2_with fail
        all_goals first | (exfalso; omega) | (go_meet; exact ⟨by simp [e1], rfl⟩)
    · have e0 : decide (0 < L.exits.length) = false := decide_eq_false h0
      have e0i : decide ((0 : Int) < (L.exits.length : Int)) = false := decide_eq_false (by omega)
      go_wp2_with fail
      all_goals first | (exfalso; omega) | (go_meet; exact ⟨by simp [e0], rfl⟩)
  case rest =>
  obtain ⟨rfl, rfl⟩ := hcut
  go_upto_if 82 with fail
  go_cut [] (fun w' => Hid (Below w.heap.size w w') ∧ Hid (BoxL w' w.heap.size L ⟨a0, a1, a2, a3, p0, p1, p2, p3⟩))
  case first =>
    by_cases hin : 0 < L.exits.length ∧ L.exits.length < 12
    · have hbb : (decide (0 < L.exits.length) && decide (L.exits.length < 12)) = true := by rw [Bool.and_eq_true, decide_eq_true_iff, decide_eq_true_iff]; exact hin
      rw [hbb]
      obtain ⟨hn0, h12⟩ := hin
      clear hbb
      have hl1 := Int.tmod_lt_of_pos at0 (show (0 : Int) < (L.exits.length : Int) by omega)
      have hl2 := Int.lt_tmod_of_pos at0 (show (0 : Int) < (L.exits.length : Int) by omega)
      have hp1 := Int.tmod_nonneg (L.exits.length : Int) (show (0 : Int) ≤ Int.tmod at0 (L.exits.length : Int) + (L.exits.length : Int) by omega)
      have hp2 := Int.tmod_lt_of_pos (Int.tmod at0 (L.exits.length : Int) + (L.exits.length : Int)) (show (0 : Int) < (L.exits.length : Int) by omega)
      obtain ⟨j, hj⟩ : ∃ j : Nat, Int.tmod (Int.tmod at0 (L.exits.length : Int) + (L.exits.length : Int)) (L.exits.length : Int) = (j : Int) := ⟨(Int.tmod (Int.tmod at0 (L.exits.length : Int) + (L.exits.length : Int)) (L.exits.length : Int)).toNat, by omega⟩
      have hjn : j < L.exits.length := by omega
      obtain ⟨es0, hes, hAt, hov⟩ := HL.out.exits
      have hxl : es0.length = L.exits.length := by rw [← hes, List.length_map]
      obtain ⟨sb, so, ea, hrow⟩ := hAt.get (j := j) (by rw [hxl]; exact hjn)
      obtain ⟨x, hx⟩ : ∃ x, es0[j]? = some x := ⟨_, List.getElem?_eq_getElem (by rw [hxl]; exact hjn)⟩
      have hxL : L.exits[j]? = some x.1 := by rw [← hes, List.getElem?_map, hx]; rfl
      have hones : ∀ u ∈ es0.flatMap Ext'.enc, u.oneCell' = true := by
        intro u hu
        obtain ⟨y, hy, hu⟩ := List.mem_flatMap.1 hu
        obtain ⟨vA, vc, ve, _⟩ := hov y hy
        simp only [Ext'.enc, List.mem_cons, List.not_mem_nil, or_false] at hu
        rcases hu with rfl | rfl | rfl
        · rfl
        · rfl
        · rw [ve]; rfl
      obtain ⟨vA, vc, ve, hvl, hvm, hva⟩ := hov x (List.mem_of_getElem? hx)
      obtain ⟨ol, hol⟩ : ∃ ol, ol = x.1.over.length := ⟨_, rfl⟩
      rw [← hol] at ve hvl
      obtain ⟨i0, zz0, hi, hz, hs1, hs2, hs3⟩ := info_Exit
      have HI := Lib.hid (⟨hi, hz, hs1, hs2, hs3⟩ : _ ∧ _ ∧ _ ∧ _ ∧ _)
      clear hi hz hs1 hs2 hs3
      dsimp only at ea
      subst ea
      have hr1 : IntKind.i64.wrap (Int.tmod at0 (L.exits.length : Int)) = Int.tmod at0 (L.exits.length : Int) := IntWalk.i64_in _ (by omega)
      have hr2 : IntKind.i64.wrap (Int.tmod at0 (L.exits.length : Int) + (L.exits.length : Int)) = Int.tmod at0 (L.exits.length : Int) + (L.exits.length : Int) := IntWalk.i64_in _ (by omega)
      have hr3 : IntKind.i64.wrap (Int.tmod (Int.tmod at0 (L.exits.length : Int) + (L.exits.length : Int)) (L.exits.length : Int)) = (j : Int) := by rw [hj]; exact IntWalk.i64_in _ (by omega)
      have z0' : w.cell? ⟨sb, so + j * 3, none⟩ = some (.int .i64 x.1.s) := hrow.2 j x hx 0 _ rfl
      have z1' : w.cell? ⟨sb, so + j * 3 + 1, none⟩ = some (.int .i64 x.1.p) := hrow.2 j x hx 1 _ rfl
      have z2' : w.cell? ⟨sb, so + j * 3 + 2, none⟩ = some (.slice vA ol vc) := (hrow.2 j x hx 2 _ rfl).trans (by rw [ve])
      have HJ := Lib.hid (⟨hr1, hr2, hr3, hj⟩ : _ ∧ _ ∧ _ ∧ _)
      clear hl1 hl2 hp1 hp2 hr1 hr2 hr3 hj
      go_wp2_with fail
      obtain ⟨U, hUe⟩ : ∃ U, U = wc.alloc (.cells #[.slice a0 L.secs.length p0, .slice a1 L.sigs.length p1, .slice (some ⟨sb, so, none⟩) L.exits.length p2, .slice a3 L.flanks.length p3, .int .i64 L.t0, .int .i64 L.t1, .int .i64 L.t2, .int .i64 L.t3, .int .i64 L.t4, .int .i64 L.t5, .int .i64 L.t6] 29) := ⟨_, rfl⟩
      have hU0 : Below wc.heap.size wc U := by rw [hUe]; exact bself
      have hBm : BoxL U wc.heap.size L ⟨a0, a1, (some ⟨sb, so, none⟩), a3, p0, p1, p2, p3⟩ := by rw [hUe]; exact BoxL.make (L := L) (p := ⟨a0, a1, (some ⟨sb, so, none⟩), a3, p0, p1, p2, p3⟩) 29 rfl
      have hBf : U.frozen? ⟨wc.heap.size, 2, none⟩ = false := by rw [hUe]; simp [go_sem]
      have hU : Below w.heap.size w U := bchain HBn1.out hU0
      have hXU := HXn1.out.below hU0
      have cs : ∀ V', ClB U V' → V'.cell? ⟨w.heap.size, 2, none⟩ = some (.slice (some ⟨sb, so, none⟩) L.exits.length p2) := fun V' h => (hXU.below h).cells.2.2.1
      have z0 : ∀ V', ClB U V' → V'.cell? ⟨sb, so + j * 3, none⟩ = _ := fun V' h => ((bchain hU h).cell (p := ⟨sb, so + j * 3, none⟩) hrow.1).trans z0'
      have z1 : ∀ V', ClB U V' → V'.cell? ⟨sb, so + j * 3 + 1, none⟩ = _ := fun V' h => ((bchain hU h).cell (p := ⟨sb, so + j * 3 + 1, none⟩) hrow.1).trans z1'
      have z2 : ∀ V', ClB U V' → V'.cell? ⟨sb, so + j * 3 + 2, none⟩ = _ := fun V' h => ((bchain hU h).cell (p := ⟨sb, so + j * 3 + 2, none⟩) hrow.1).trans z2'
      have HNEWS := Lib.hid (⟨by rw [flat_len (enc := Ext'.enc) (k := 3) (fun _ => rfl), hxl], fun V' (h : ClB U V') i u hu => (by
        have hc := flat_cells (enc := Ext'.enc) (k := 3) (fun _ => rfl) (by decide) hrow i u hu
        rw [add_at] at hc ⊢
        exact ((bchain hU h).cell (p := ⟨sb, so + i, none⟩) hrow.1).trans hc), by unfold maxLen; omega, by
        have h2 := Nat.mul_le_mul (Nat.le_of_lt h12) HI.out.2.2.2.2
        omega⟩ : (es0.flatMap Ext'.enc).length = L.exits.length * 3 ∧ (∀ V', ClB U V' → ∀ i u, (es0.flatMap Ext'.enc)[i]? = some u → V'.cell? ((⟨sb, so, none⟩ : Addr).add i) = some u) ∧ L.exits.length ≤ maxLen ∧ L.exits.length * i0.bytes ≤ 140737488355328)
      rw [← hUe]
      have hr2 := HJ.out.2.1
      have hj := HJ.out.2.2.2
      have hnz : ¬ L.exits = [] := fun h => by rw [h] at hn0; exact absurd hn0 (by simp)
      have HBM := Lib.hid (⟨hBm, hBf, hU, hXU⟩ : _ ∧ _ ∧ _ ∧ _)
      have HUE := Lib.hid hUe
      have HLW := Lib.hid (show w.heap.size < wc.heap.size from HXn1.out.1)
      have hg6 : wc.heap.size < U.heap.size := hBm.1
      clear hUe hU0 hBm hBf hXU c0 c1 c2 c3 c4 c5 c6 c7 c8 c9 c10 lg
      generalize wc.heap.size = g6 at HBM hg6 HLW ⊢
      focus
        refine (wpIn_wide (n := 5)).1 (wpIn_region_rel_head (.inl rfl) 16 [([], none), ([(2, none)], none), ([(85, some 0)], none), ([(84, some 2), (86, some 0)], none), ([(2, none)], none), ([(88, some 0)], none), ([(1, none)], none), ([(10, none)], none), ([(90, some 1), (91, some 0)], none), ([(10, none)], none), ([(92, some 1), (93, some 0)], none), ([(10, none)], none), ([(94, some 1), (95, some 0)], none), ([(89, some 7), (96, some 0)], none), ([(97, some 0)], none), ([(98, some 0)], none)] [(0, 99), (12, 87)] (by kernel_rfl) (by kernel_rfl) (by kernel_rfl) (by kernel_rfl) (by kernel_rfl) (by kernel_rfl) (by kernel_rfl) (by kernel_rfl) ?_)
        simp only [List.take_succ_cons, List.take_zero, List.drop_succ_cons, List.drop_zero]
        refine ⟨NoneS, fun _ _ _ h _ => h, ?_, ?_⟩
        · intro ρ W hk hC
          simp only [seen, obOp]
          exact rel_none (g := W.heap.size) (o := .cells #[] 40) (by simp [go_sem]) hC
        refine ob_det (c := .pointer (some ⟨w.heap.size, 2, none⟩)) ?_ ?_
        · intro ρ W hk hC
          simp only [seen, obOp]
          rintro h2
          replace h2 : ρ (.tmp 2) = .pointer (some ⟨w.heap.size, 0, none⟩) := h2.trans rfl
          exact rel_value (by simp [go_sem, h2]) hC
        refine ob_det (c := .slice (some ⟨sb, so, none⟩) L.exits.length p2) ?_ ?_
        · intro ρ W hk hC
          simp only [seen, obOp, List.getD_cons_zero]
          rintro h85
          exact rel_value (by simp [go_sem, h85, cs W hC]) hC
        refine ⟨fun v W => W.ownsRow U.heap.size 40 3 v L.exits.length (es0.flatMap Ext'.enc), fun _ _ _ h k => owns_below h k, ?_, ?_⟩
        · intro ρ W hk hC
          simp only [seen, obOp, List.getD_cons_zero, List.getD_cons_succ]
          rintro ⟨g0, h84⟩ h86
          exact rel_append Tryd.underlying24 HI.out.1 HI.out.2.1 HI.out.2.2.1 rfl HI.out.2.2.2.1 (by decide) h84 h86 HNEWS.out.1 (fun i u hu => HNEWS.out.2.1 W hC i u hu) hn0 HNEWS.out.2.2.1 HNEWS.out.2.2.2 hC
        refine ob_det (c := .pointer (some ⟨w.heap.size, 2, none⟩)) ?_ ?_
        · intro ρ W hk hC
          simp only [seen, obOp]
          rintro h2
          replace h2 : ρ (.tmp 2) = .pointer (some ⟨w.heap.size, 0, none⟩) := h2.trans rfl
          exact rel_value (by simp [go_sem, h2]) hC
        refine ob_det (c := .slice (some ⟨sb, so, none⟩) L.exits.length p2) ?_ ?_
        · intro ρ W hk hC
          simp only [seen, obOp, List.getD_cons_zero]
          rintro h88
          exact rel_value (by simp [go_sem, h88, cs W hC]) hC
        refine ob_det (c := .int .i64 at0) ?_ ?_
        · intro ρ W hk hC
          simp only [seen, obOp]
          rintro h1
          replace h1 : ρ (.tmp 1) = .int .i64 at0 := h1.trans rfl
          exact rel_value (by simp [go_sem, h1]) hC
        refine ob_det (c := .int .i64 (L.exits.length : Nat)) ?_ ?_
        · intro ρ W hk hC
          simp only [seen, obOp]
          rintro h10
          replace h10 : ρ (.tmp 10) = .int .i64 (L.exits.length : Nat) := h10.trans rfl
          exact rel_value (by simp [go_sem, h10]) hC
        refine ob_det (c := .int .i64 (Int.tmod at0 (L.exits.length : Nat))) ?_ ?_
        · intro ρ W hk hC
          simp only [seen, obOp, List.getD_cons_zero, List.getD_cons_succ]
          rintro h90 h91
          exact rel_value (by simp [go_sem, h90, h91, hnz]) hC
        refine ob_det (c := .int .i64 (L.exits.length : Nat)) ?_ ?_
        · intro ρ W hk hC
          simp only [seen, obOp]
          rintro h10
          replace h10 : ρ (.tmp 10) = .int .i64 (L.exits.length : Nat) := h10.trans rfl
          exact rel_value (by simp [go_sem, h10]) hC
        refine ob_det (c := .int .i64 (Int.tmod at0 (L.exits.length : Nat) + (L.exits.length : Nat))) ?_ ?_
        · intro ρ W hk hC
          simp only [seen, obOp, List.getD_cons_zero, List.getD_cons_succ]
          rintro h92 h93
          exact rel_value (by simp [go_sem, h92, h93, hr2]) hC
        refine ob_det (c := .int .i64 (L.exits.length : Nat)) ?_ ?_
        · intro ρ W hk hC
          simp only [seen, obOp]
          rintro h10
          replace h10 : ρ (.tmp 10) = .int .i64 (L.exits.length : Nat) := h10.trans rfl
          exact rel_value (by simp [go_sem, h10]) hC
        refine ob_det (c := .int .i64 (j : Nat)) ?_ ?_
        · intro ρ W hk hC
          simp only [seen, obOp, List.getD_cons_zero, List.getD_cons_succ]
          rintro h94 h95
          exact rel_value (by simp [go_sem, h94, h95, hnz, hj]) hC
        refine ob_det (c := .pointer (some ⟨sb, so + j * 3, none⟩)) ?_ ?_
        · intro ρ W hk hC
          simp only [seen, obOp, List.getD_cons_zero, List.getD_cons_succ]
          rintro h89 h96
          exact rel_value (by simp [go_sem, h89, h96, hjn]) hC
        refine ob_det (c := .agg #[.int .i64 x.1.s, .int .i64 x.1.p, .slice vA ol vc]) ?_ ?_
        · intro ρ W hk hC
          simp only [seen, obOp, List.getD_cons_zero]
          rintro h97
          exact rel_value (by simp [go_sem, h97, z0 W hC, z1 W hC, z2 W hC]) hC
        refine ⟨OneS U #[.int .i64 x.1.s, .int .i64 x.1.p, .slice vA ol vc], fun _ _ _ h k => h.step k, ?_, ?_⟩
        · intro ρ W hk hC
          simp only [seen, obOp, List.getD_cons_zero]
          rintro h98
          exact rel_one (cs := #[.int .i64 x.1.s, .int .i64 x.1.p, .slice vA ol vc]) (T := 40) (by simp [go_sem, h98]) hC
        intro vs w5 hC5
        simp only [endSeen, List.getD_cons_zero, List.getD_cons_succ]
        intro h54 h42
        simp only [writeAll, List.setIfInBounds_toArray, List.set_cons_zero, List.set_cons_succ]
        obtain ⟨g1, hg1, lg1, lg1', cg1⟩ := h54
        replace h42 : w5.ownsRow U.heap.size 40 3 (vs 87) L.exits.length (es0.flatMap Ext'.enc) := h42
        obtain ⟨g0, cap0, hg0, hb0, hl0⟩ := World.ownsRow.form h42 hn0
        rw [hg0] at h42
        rw [hg1, hg0]
        have hlow : ∀ kk, (Value.slice (some ⟨g0, 0, none⟩) L.exits.length cap0).ownBlock = some kk → U.heap.size ≤ kk := fun kk e => by
          have e2 : g0 = kk := by simpa [Value.ownBlock] using e
          omega
        have HT5 := Lib.hid (⟨hC5, hlow⟩ : _ ∧ _)
        clear hlow hb0 hl0 hg0 hg1
        refine wpListIn_append_own _ rfl _ _ 24 rfl U.heap.size 40 i0 zz0 3 i0.bytes Tryd.underlying24 HI.out.1 HI.out.2.1 HI.out.2.2.1 rfl HI.out.2.2.2.1 (by decide) _ L.exits.length (es0.flatMap Ext'.enc) (by rfl) h42 ⟨g1, 0, none⟩ 1 1 (Ext'.enc x) (by rfl) rfl ?x1 ?x2 ?x3 ?x4 ?x5 ?_
        case x1 =>
          intro i u hu
          rw [add_at]
          have := cg1 i
          rw [Nat.zero_add, this]
          simpa [Ext'.enc, ve] using hu
        case x2 =>
          intro u hu
          exact hones u (List.mem_flatMap.2 ⟨x, List.mem_of_getElem? hx, hu⟩)
        case x3 => unfold maxLen; omega
        case x4 =>
          have h2 := Nat.mul_le_mul (show L.exits.length + 1 ≤ 12 by omega) HI.out.2.2.2.2
          omega
        case x5 => exact HT5.out.1.size
        intro v' w6 hown' hgrow _
        have hb6 : Below U.heap.size U w6 := HT5.out.1.grown hgrow HT5.out.1.size HT5.out.2
        have hown2 : w6.ownsRow U.heap.size 40 3 v' (es0 ++ [x]).length ((es0 ++ [x]).flatMap Ext'.enc) := by
          rw [List.length_append, List.flatMap_append, List.flatMap_cons, List.flatMap_nil, List.append_nil, hxl]
          exact hown'
        obtain ⟨AA, ccap, rfl, hcap1, hcap2, hAT⟩ := at_of_row (enc := Ext'.enc) (k := 3) (fun _ => rfl) (by decide) hown2
        have hAb : ∀ b off, AA = some ⟨b, off, none⟩ → U.heap.size ≤ b := by
          intro b off e
          rcases hown2.2 with ⟨h, _⟩ | ⟨g, cap, cur, h, hb, _⟩
          · injection h with h1
            rw [h1] at e
            cases e
          · injection h with h1
            rw [h1] at e
            cases e
            exact hb
        have hll : (es0 ++ [x]).length = L.exits.length + 1 := by rw [List.length_append, hxl]; rfl
        rw [hll] at hcap1 ⊢
        have hm6 := HBM.out.1.below hb6
        obtain ⟨c0, c1, c2, c3, c4, c5, c6, c7, c8, c9, c10⟩ := hm6.cells
        dsimp only at c0 c1 c2 c3
        have f2 : w6.frozen? ⟨g6, 2, none⟩ = false := (hb6.frozen (p := ⟨g6, 2, none⟩) hg6).trans HBM.out.2.1
        have l6 : g6 < w6.heap.size := hm6.1
        have lwg : w.heap.size < g6 := HLW.out
        obtain ⟨W7, hW7⟩ : ∃ W7, W7 = w6.setCell ⟨g6, 2, none⟩ (.slice AA (L.exits.length + 1) ccap) := ⟨_, rfl⟩
        have hw7 : Below w.heap.size w W7 := by rw [hW7]; exact (bchain HBM.out.2.2.1 hb6).setCell (p := ⟨g6, 2, none⟩) (by dsimp only; omega) _
        have hx7 : BoxL W7 w.heap.size L ⟨a0, a1, (some ⟨sb, so, none⟩), a3, p0, p1, p2, p3⟩ := by rw [hW7]; exact (HBM.out.2.2.2.below hb6).set (by omega)
        have hA7 : At W7 3 Ext'.enc AA (es0 ++ [x]) := by
          rw [hW7]
          rcases hAT with h | ⟨b, off, e, hr⟩
          · exact .inl h
          · exact .inr ⟨b, off, e, hr.set (by have := hAb b off e; omega)⟩
        have hMl : LayAt W7 ⟨a0, a1, AA, a3, p0, p1, ccap, p3⟩ (swap L L.sigs (L.exits ++ [x.1]) L.flanks) := ⟨(HL.out.below hw7).secs, (HL.out.below hw7).sigs, ⟨es0 ++ [x], by show _ = L.exits ++ [x.1]; rw [← hes]; simp, hA7, fun y hy => by
          rcases List.mem_append.1 hy with hy | hy
          · exact (hov y hy).below hw7
          · rw [List.mem_singleton.1 hy]; exact (hov x (List.mem_of_getElem? hx)).below hw7⟩, (HL.out.below hw7).flanks, HL.out.l0, HL.out.l1, ⟨by show (L.exits ++ [x.1]).length ≤ _; simpa [hxl] using hcap1, hcap2⟩, HL.out.l3, HL.out.kinds⟩
        have hMc := check_any (swap L L.sigs (L.exits ++ [x.1]) L.flanks) ⟨a0, a1, AA, a3, p0, p1, ccap, p3⟩ W7 hMl (HKE.out.1.below hw7) (HKE.out.2.below hw7)
        rw [once_exits HT.out hxL h12] at hMc
        replace hMc : Calls Tryd.prog 10 #[.agg #[.slice a0 L.secs.length p0, .slice a1 L.sigs.length p1, .slice AA (L.exits.length + 1) ccap, .slice a3 L.flanks.length p3, .int .i64 L.t0, .int .i64 L.t1, .int .i64 L.t2, .int .i64 L.t3, .int .i64 L.t4, .int .i64 L.t5, .int .i64 L.t6]] W7 fun e w' => e = .returned (.tuple #[.int .i64 3, .int .i64 (L.exits.length : Nat), .int .i64 90]) ∧ Below W7.heap.size W7 w' := by
          simpa [Lay.val, swap] using hMc
        rw [hW7] at hMc
        have HM := Lib.hid hMc
        have HW7 := Lib.hid (⟨hw7, hx7, hW7⟩ : _ ∧ _ ∧ _)
        clear hown' hown2 hgrow hcap1 hcap2 hAT hAb hm6 hA7 hMl hMc hW7 hw7 hx7 hb6 lwg hll hj hr2 hnz
        gi_wp2
        go_wp2_with fail
        (with_reducible refine HM.out.mono ?_)
        rintro e w8 ⟨rfl, b8⟩
        rw [← HW7.out.2.2] at b8
        have HX8 := Lib.hid (HW7.out.2.1.below b8)
        have HB8 := Lib.hid (bchain HW7.out.1 b8)
        clear c0 c1 c2 c3 c4 c5 c6 c7 c8 c9 c10 f2 l6 b8
        go_wp2_with fail
        go_meet
        exact ⟨HB8, HX8⟩
    · have hbb : (decide (0 < L.exits.length) && decide (L.exits.length < 12)) = false := by rw [Bool.and_eq_false_iff, decide_eq_false_iff_not, decide_eq_false_iff_not]; omega
      rw [hbb]
      clear c0 c1 c2 c3 c4 c5 c6 c7 c8 c9 c10 lg hbb
      go_wp2_with fail
      go_meet
      exact ⟨HBn1, HXn1⟩
  case rest =>
  obtain ⟨HBn2, HXn2⟩ := hcut
  obtain ⟨c0, c1, c2, c3, c4, c5, c6, c7, c8, c9, c10⟩ := HXn2.out.cells
  have lg := HXn2.out.1
  dsimp only at c0 c1 c2 c3
  go_upto_region 18 with fail
  go_cut [127] (fun s w' => s = .bool (decide (0 < L.flanks.length) && decide (L.flanks.length < 16)) ∧ w' = wc)
  case first =>
    by_cases h0 : 0 < L.flanks.length
    · have e0 : decide (0 < L.flanks.length) = true := decide_eq_true h0
      have e0i : decide ((0 : Int) < (L.flanks.length : Int)) = true := decide_eq_true (by omega)
      by_cases h1 : L.flanks.length < 16
      · have e1 : decide (L.flanks.length < 16) = true := decide_eq_true h1
        have e1i : decide ((L.flanks.length : Int) < 16) = true := decide_eq_true (by omega)
        go_wp2_with fail
        all_goals first | (exfalso; omega) | (go_meet; exact ⟨by simp [e0, e1], rfl⟩)
      · have e1 : decide (L.flanks.length < 16) = false := decide_eq_false h1
        have e1i : decide ((L.flanks.length : Int) < 16) = false := decide_eq_false (by omega)
        go_wp2_with fail
        all_goals first | (exfalso; omega) | (go_meet; exact ⟨by simp [e1], rfl⟩)
    · have e0 : decide (0 < L.flanks.length) = false := decide_eq_false h0
      have e0i : decide ((0 : Int) < (L.flanks.length : Int)) = false := decide_eq_false (by omega)
      go_wp2_with fail
      all_goals first | (exfalso; omega) | (go_meet; exact ⟨by simp [e0], rfl⟩)
  case rest =>
  obtain ⟨rfl, rfl⟩ := hcut
  go_upto_if 127 with fail
  go_cut [] (fun w' => Hid (Below w.heap.size w w') ∧ Hid (BoxL w' w.heap.size L ⟨a0, a1, a2, a3, p0, p1, p2, p3⟩))
  case first =>
    by_cases hin : 0 < L.flanks.length ∧ L.flanks.length < 16
    · have hbb : (decide (0 < L.flanks.length) && decide (L.flanks.length < 16)) = true := by rw [Bool.and_eq_true, decide_eq_true_iff, decide_eq_true_iff]; exact hin
      rw [hbb]
      obtain ⟨hn0, h12⟩ := hin
      clear hbb
      have hl1 := Int.tmod_lt_of_pos at0 (show (0 : Int) < (L.flanks.length : Int) by omega)
      have hl2 := Int.lt_tmod_of_pos at0 (show (0 : Int) < (L.flanks.length : Int) by omega)
      have hp1 := Int.tmod_nonneg (L.flanks.length : Int) (show (0 : Int) ≤ Int.tmod at0 (L.flanks.length : Int) + (L.flanks.length : Int) by omega)
      have hp2 := Int.tmod_lt_of_pos (Int.tmod at0 (L.flanks.length : Int) + (L.flanks.length : Int)) (show (0 : Int) < (L.flanks.length : Int) by omega)
      obtain ⟨j, hj⟩ : ∃ j : Nat, Int.tmod (Int.tmod at0 (L.flanks.length : Int) + (L.flanks.length : Int)) (L.flanks.length : Int) = (j : Int) := ⟨(Int.tmod (Int.tmod at0 (L.flanks.length : Int) + (L.flanks.length : Int)) (L.flanks.length : Int)).toNat, by omega⟩
      have hjn : j < L.flanks.length := by omega
      obtain ⟨sb, so, ea, hrow⟩ := HL.out.flanks.get (j := j) hjn
      obtain ⟨x, hx⟩ : ∃ x, L.flanks[j]? = some x := ⟨_, List.getElem?_eq_getElem hjn⟩
      have hpos := (of_decide_eq_true (((right_iff L).1 ((topoR_iff L).1 HT.out).1).2.2.2.1 x (List.mem_of_getElem? hx))).2.2.2
      have hps0 : 0 ≤ x.pos := hpos.1
      have hps1 : x.pos ≤ 1 := hpos.2.1
      obtain ⟨i0, zz0, hi, hz, hs1, hs2, hs3⟩ := info_Flank
      have HI := Lib.hid (⟨hi, hz, hs1, hs2, hs3⟩ : _ ∧ _ ∧ _ ∧ _ ∧ _)
      clear hi hz hs1 hs2 hs3 hpos
      dsimp only at ea
      subst ea
      have hr2 : IntKind.i64.wrap (Int.tmod at0 (L.flanks.length : Int) + (L.flanks.length : Int)) = Int.tmod at0 (L.flanks.length : Int) + (L.flanks.length : Int) := IntWalk.i64_in _ (by omega)
      have z0' : w.cell? ⟨sb, so + j * 4, none⟩ = some (.int .i64 x.s) := hrow.2 j x hx 0 _ rfl
      have z1' : w.cell? ⟨sb, so + j * 4 + 1, none⟩ = some (.int .i64 x.way) := hrow.2 j x hx 1 _ rfl
      have z2' : w.cell? ⟨sb, so + j * 4 + 2, none⟩ = some (.int .i64 x.pt) := hrow.2 j x hx 2 _ rfl
      have z3' : w.cell? ⟨sb, so + j * 4 + 3, none⟩ = some (.int .i64 x.pos) := hrow.2 j x hx 3 _ rfl
      have HJ := Lib.hid (⟨hr2, hj⟩ : _ ∧ _)
      clear hl1 hl2 hp1 hp2 hr2 hj
      go_wp2_with fail
      obtain ⟨U, hUe⟩ : ∃ U, U = wc.alloc (.cells #[.slice a0 L.secs.length p0, .slice a1 L.sigs.length p1, .slice a2 L.exits.length p2, .slice (some ⟨sb, so, none⟩) L.flanks.length p3, .int .i64 L.t0, .int .i64 L.t1, .int .i64 L.t2, .int .i64 L.t3, .int .i64 L.t4, .int .i64 L.t5, .int .i64 L.t6] 29) := ⟨_, rfl⟩
      have hU0 : Below wc.heap.size wc U := by rw [hUe]; exact bself
      have hBm : BoxL U wc.heap.size L ⟨a0, a1, a2, (some ⟨sb, so, none⟩), p0, p1, p2, p3⟩ := by rw [hUe]; exact BoxL.make (L := L) (p := ⟨a0, a1, a2, (some ⟨sb, so, none⟩), p0, p1, p2, p3⟩) 29 rfl
      have hBf : U.frozen? ⟨wc.heap.size, 3, none⟩ = false := by rw [hUe]; simp [go_sem]
      have hU : Below w.heap.size w U := bchain HBn2.out hU0
      have hXU := HXn2.out.below hU0
      have cs : ∀ V', ClB U V' → V'.cell? ⟨w.heap.size, 3, none⟩ = some (.slice (some ⟨sb, so, none⟩) L.flanks.length p3) := fun V' h => (hXU.below h).cells.2.2.2.1
      have z0 : ∀ V', ClB U V' → V'.cell? ⟨sb, so + j * 4, none⟩ = _ := fun V' h => ((bchain hU h).cell (p := ⟨sb, so + j * 4, none⟩) hrow.1).trans z0'
      have z1 : ∀ V', ClB U V' → V'.cell? ⟨sb, so + j * 4 + 1, none⟩ = _ := fun V' h => ((bchain hU h).cell (p := ⟨sb, so + j * 4 + 1, none⟩) hrow.1).trans z1'
      have z2 : ∀ V', ClB U V' → V'.cell? ⟨sb, so + j * 4 + 2, none⟩ = _ := fun V' h => ((bchain hU h).cell (p := ⟨sb, so + j * 4 + 2, none⟩) hrow.1).trans z2'
      have z3 : ∀ V', ClB U V' → V'.cell? ⟨sb, so + j * 4 + 3, none⟩ = _ := fun V' h => ((bchain hU h).cell (p := ⟨sb, so + j * 4 + 3, none⟩) hrow.1).trans z3'
      have HNEWS := Lib.hid (⟨by rw [flat_len (enc := Flk.enc) (k := 4) (fun _ => rfl)], fun V' (h : ClB U V') i u hu => (by
        have hc := flat_cells (enc := Flk.enc) (k := 4) (fun _ => rfl) (by decide) hrow i u hu
        rw [add_at] at hc ⊢
        exact ((bchain hU h).cell (p := ⟨sb, so + i, none⟩) hrow.1).trans hc), by unfold maxLen; omega, by
        have h2 := Nat.mul_le_mul (Nat.le_of_lt h12) HI.out.2.2.2.2
        omega⟩ : (L.flanks.flatMap Flk.enc).length = L.flanks.length * 4 ∧ (∀ V', ClB U V' → ∀ i u, (L.flanks.flatMap Flk.enc)[i]? = some u → V'.cell? ((⟨sb, so, none⟩ : Addr).add i) = some u) ∧ L.flanks.length ≤ maxLen ∧ L.flanks.length * i0.bytes ≤ 140737488355328)
      rw [← hUe]
      have hr2 := HJ.out.1
      have hj := HJ.out.2
      have hnz : ¬ L.flanks = [] := fun h => by rw [h] at hn0; exact absurd hn0 (by simp)
      have HBM := Lib.hid (⟨hBm, hBf, hU, hXU⟩ : _ ∧ _ ∧ _ ∧ _)
      have HLW := Lib.hid (show w.heap.size < wc.heap.size from HXn2.out.1)
      have hg6 : wc.heap.size < U.heap.size := hBm.1
      clear hUe hU0 hBm hBf hXU c0 c1 c2 c3 c4 c5 c6 c7 c8 c9 c10 lg
      generalize wc.heap.size = g6 at HBM hg6 HLW ⊢
      focus
        refine (wpIn_wide (n := 5)).1 (wpIn_region_rel_head (.inl rfl) 12 [([(2, none)], none), ([(129, some 0)], none), ([(1, none)], none), ([(15, none)], none), ([(131, some 1), (132, some 0)], none), ([(15, none)], none), ([(133, some 1), (134, some 0)], none), ([(15, none)], none), ([(135, some 1), (136, some 0)], none), ([(130, some 7), (137, some 0)], none), ([(138, some 0)], none), ([], none)] [(0, 17), (1, 139)] (by kernel_rfl) (by kernel_rfl) (by kernel_rfl) (by kernel_rfl) (by kernel_rfl) (by kernel_rfl) (by kernel_rfl) (by kernel_rfl) ?_)
        simp only [List.take_succ_cons, List.take_zero, List.drop_succ_cons, List.drop_zero]
        refine ob_det (c := .pointer (some ⟨w.heap.size, 3, none⟩)) ?_ ?_
        · intro ρ W hk hC
          simp only [seen, obOp]
          rintro h2
          replace h2 : ρ (.tmp 2) = .pointer (some ⟨w.heap.size, 0, none⟩) := h2.trans rfl
          exact rel_value (by simp [go_sem, h2]) hC
        refine ob_det (c := .slice (some ⟨sb, so, none⟩) L.flanks.length p3) ?_ ?_
        · intro ρ W hk hC
          simp only [seen, obOp, List.getD_cons_zero]
          rintro h129
          exact rel_value (by simp [go_sem, h129, cs W hC]) hC
        refine ob_det (c := .int .i64 at0) ?_ ?_
        · intro ρ W hk hC
          simp only [seen, obOp]
          rintro h1
          replace h1 : ρ (.tmp 1) = .int .i64 at0 := h1.trans rfl
          exact rel_value (by simp [go_sem, h1]) hC
        refine ob_det (c := .int .i64 (L.flanks.length : Nat)) ?_ ?_
        · intro ρ W hk hC
          simp only [seen, obOp]
          rintro h15
          replace h15 : ρ (.tmp 15) = .int .i64 (L.flanks.length : Nat) := h15.trans rfl
          exact rel_value (by simp [go_sem, h15]) hC
        refine ob_det (c := .int .i64 (Int.tmod at0 (L.flanks.length : Nat))) ?_ ?_
        · intro ρ W hk hC
          simp only [seen, obOp, List.getD_cons_zero, List.getD_cons_succ]
          rintro h131 h132
          exact rel_value (by simp [go_sem, h131, h132, hnz]) hC
        refine ob_det (c := .int .i64 (L.flanks.length : Nat)) ?_ ?_
        · intro ρ W hk hC
          simp only [seen, obOp]
          rintro h15
          replace h15 : ρ (.tmp 15) = .int .i64 (L.flanks.length : Nat) := h15.trans rfl
          exact rel_value (by simp [go_sem, h15]) hC
        refine ob_det (c := .int .i64 (Int.tmod at0 (L.flanks.length : Nat) + (L.flanks.length : Nat))) ?_ ?_
        · intro ρ W hk hC
          simp only [seen, obOp, List.getD_cons_zero, List.getD_cons_succ]
          rintro h133 h134
          exact rel_value (by simp [go_sem, h133, h134, hr2]) hC
        refine ob_det (c := .int .i64 (L.flanks.length : Nat)) ?_ ?_
        · intro ρ W hk hC
          simp only [seen, obOp]
          rintro h15
          replace h15 : ρ (.tmp 15) = .int .i64 (L.flanks.length : Nat) := h15.trans rfl
          exact rel_value (by simp [go_sem, h15]) hC
        refine ob_det (c := .int .i64 (j : Nat)) ?_ ?_
        · intro ρ W hk hC
          simp only [seen, obOp, List.getD_cons_zero, List.getD_cons_succ]
          rintro h135 h136
          exact rel_value (by simp [go_sem, h135, h136, hnz, hj]) hC
        refine ob_det (c := .pointer (some ⟨sb, so + j * 4, none⟩)) ?_ ?_
        · intro ρ W hk hC
          simp only [seen, obOp, List.getD_cons_zero, List.getD_cons_succ]
          rintro h130 h137
          exact rel_value (by simp [go_sem, h130, h137, hjn]) hC
        refine ob_det (c := .agg #[.int .i64 x.s, .int .i64 x.way, .int .i64 x.pt, .int .i64 x.pos]) ?_ ?_
        · intro ρ W hk hC
          simp only [seen, obOp, List.getD_cons_zero]
          rintro h138
          exact rel_value (by simp [go_sem, h138, z0 W hC, z1 W hC, z2 W hC, z3 W hC]) hC
        refine ⟨IsNew U #[.int .i64 0, .int .i64 0, .int .i64 0, .int .i64 0], fun v w w' h k => h.step k, ?_, ?_⟩
        · intro ρ W hk hC
          simp only [seen, obOp]
          exact rel_new (cs := #[.int .i64 0, .int .i64 0, .int .i64 0, .int .i64 0]) (T := 53) (by simp [go_sem]) hC
        intro vs w5 hC5
        simp only [endSeen, List.getD_cons_zero, List.getD_cons_succ]
        intro h17 h139
        simp only [writeAll, List.setIfInBounds_toArray, List.set_cons_zero, List.set_cons_succ, h139]
        obtain ⟨b, hb, lgb, lgb', cb, fb⟩ := h17
        rw [hb]
        have k0 := cb 0
        have k1 := cb 1
        have k2 := cb 2
        have k3 := cb 3
        simp only [List.getElem?_toArray, List.getElem?_cons_zero, List.getElem?_cons_succ] at k0 k1 k2 k3
        have f0 := fb 0
        have f1 := fb 1
        have f2 := fb 2
        have f3 := fb 3
        have HC5 := Lib.hid (⟨hC5, lgb⟩ : _ ∧ _)
        clear cb fb hC5 hb
        gi_wp2
        go_wp2_with fail
        obtain ⟨V, hV⟩ : ∃ V, V = (((((w5.setCell ⟨b, 0, none⟩ (.int .i64 x.s)).setCell ⟨b, 1, none⟩ (.int .i64 x.way)).setCell ⟨b, 2, none⟩ (.int .i64 x.pt)).setCell ⟨b, 3, none⟩ (.int .i64 x.pos)).setCell ⟨b, 3, none⟩ (.int .i64 (1 - x.pos))) := ⟨_, rfl⟩
        have hUV : Below U.heap.size U V := by
          rw [hV]
          exact ((((HC5.out.1.setCell (p := ⟨b, 0, none⟩) HC5.out.2 _).setCell (p := ⟨b, 1, none⟩) HC5.out.2 _).setCell (p := ⟨b, 2, none⟩) HC5.out.2 _).setCell (p := ⟨b, 3, none⟩) HC5.out.2 _).setCell (p := ⟨b, 3, none⟩) HC5.out.2 _
        have lbV : b < V.heap.size := by rw [hV]; simpa [World.setCell] using lgb'
        have v0 : ∀ V', ClB V V' → V'.cell? ⟨b, 0, none⟩ = some (.int .i64 x.s) := fun V' h => (h.cell (p := ⟨b, 0, none⟩) lbV).trans (by rw [hV]; simp [go_sem, k0])
        have v1 : ∀ V', ClB V V' → V'.cell? ⟨b, 1, none⟩ = some (.int .i64 x.way) := fun V' h => (h.cell (p := ⟨b, 1, none⟩) lbV).trans (by rw [hV]; simp [go_sem, k1])
        have v2 : ∀ V', ClB V V' → V'.cell? ⟨b, 2, none⟩ = some (.int .i64 x.pt) := fun V' h => (h.cell (p := ⟨b, 2, none⟩) lbV).trans (by rw [hV]; simp [go_sem, k2])
        have v3 : ∀ V', ClB V V' → V'.cell? ⟨b, 3, none⟩ = some (.int .i64 (1 - x.pos)) := fun V' h => (h.cell (p := ⟨b, 3, none⟩) lbV).trans (by
          have k3' : ((((w5.setCell ⟨b, 0, none⟩ (.int .i64 x.s)).setCell ⟨b, 1, none⟩ (.int .i64 x.way)).setCell ⟨b, 2, none⟩ (.int .i64 x.pt)).setCell ⟨b, 3, none⟩ (.int .i64 x.pos)).cell? ⟨b, 3, none⟩ = some (.int .i64 x.pos) := by simp [go_sem, k3]
          rw [hV]
          exact World.cell?_setCell_same _ _ _ k3')
        rw [← hV]
        have HUV := Lib.hid hUV
        replace cs : ∀ V', ClB V V' → V'.cell? ⟨w.heap.size, 3, none⟩ = some (.slice (some ⟨sb, so, none⟩) L.flanks.length p3) := fun V' h => cs V' (bchain hUV h)
        clear hV hUV lbV k0 k1 k2 k3 f0 f1 f2 f3 z0 z1 z2 z3 lgb lgb'
        focus
          refine (wpIn_wide (n := 5)).1 (wpIn_region_rel_head (.inl rfl) 6 [([], none), ([(2, none)], none), ([(145, some 0)], none), ([(144, some 2), (146, some 0)], none), ([(17, none)], none), ([(148, some 0)], none)] [(0, 149), (2, 147)] (by kernel_rfl) (by kernel_rfl) (by kernel_rfl) (by kernel_rfl) (by kernel_rfl) (by kernel_rfl) (by kernel_rfl) (by kernel_rfl) ?_)
          simp only [List.take_succ_cons, List.take_zero, List.drop_succ_cons, List.drop_zero]
          refine ⟨NoneS, fun _ _ _ h _ => h, ?_, ?_⟩
          · intro ρ W hk hC
            simp only [seen, obOp]
            exact rel_none (g := W.heap.size) (o := .cells #[] 53) (by simp [go_sem]) hC
          refine ob_det (c := .pointer (some ⟨w.heap.size, 3, none⟩)) ?_ ?_
          · intro ρ W hk hC
            simp only [seen, obOp]
            rintro h2
            replace h2 : ρ (.tmp 2) = .pointer (some ⟨w.heap.size, 0, none⟩) := h2.trans rfl
            exact rel_value (by simp [go_sem, h2]) hC
          refine ob_det (c := .slice (some ⟨sb, so, none⟩) L.flanks.length p3) ?_ ?_
          · intro ρ W hk hC
            simp only [seen, obOp, List.getD_cons_zero]
            rintro h145
            exact rel_value (by simp [go_sem, h145, cs W hC]) hC
          refine ⟨fun v W => W.ownsRow V.heap.size 53 4 v L.flanks.length (L.flanks.flatMap Flk.enc), fun _ _ _ h k => owns_below h k, ?_, ?_⟩
          · intro ρ W hk hC
            simp only [seen, obOp, List.getD_cons_zero, List.getD_cons_succ]
            rintro ⟨g0, h144⟩ h146
            exact rel_append Tryd.underlying25 HI.out.1 HI.out.2.1 HI.out.2.2.1 rfl HI.out.2.2.2.1 (by decide) h144 h146 HNEWS.out.1 (fun i u hu => HNEWS.out.2.1 W (bchain HUV.out hC) i u hu) hn0 HNEWS.out.2.2.1 HNEWS.out.2.2.2 hC
          refine ob_det (c := .agg #[.int .i64 x.s, .int .i64 x.way, .int .i64 x.pt, .int .i64 (1 - x.pos)]) ?_ ?_
          · intro ρ W hk hC
            simp only [seen, obOp]
            rintro h17
            replace h17 : ρ (.tmp 17) = .pointer (some ⟨b, 0, none⟩) := h17.trans rfl
            exact rel_value (by simp [go_sem, h17, v0 W hC, v1 W hC, v2 W hC, v3 W hC]) hC
          refine ⟨OneS V #[.int .i64 x.s, .int .i64 x.way, .int .i64 x.pt, .int .i64 (1 - x.pos)], fun _ _ _ h k => h.step k, ?_, ?_⟩
          · intro ρ W hk hC
            simp only [seen, obOp, List.getD_cons_zero]
            rintro h148
            exact rel_one (cs := #[.int .i64 x.s, .int .i64 x.way, .int .i64 x.pt, .int .i64 (1 - x.pos)]) (T := 53) (by simp [go_sem, h148]) hC
          intro vs w5 hC5
          simp only [endSeen, List.getD_cons_zero, List.getD_cons_succ]
          intro h54 h42
          simp only [writeAll, List.setIfInBounds_toArray, List.set_cons_zero, List.set_cons_succ]
          obtain ⟨g1, hg1, lg1, lg1', cg1⟩ := h54
          replace h42 : w5.ownsRow V.heap.size 53 4 (vs 147) L.flanks.length (L.flanks.flatMap Flk.enc) := h42
          obtain ⟨g0, cap0, hg0, hb0, hl0⟩ := World.ownsRow.form h42 hn0
          rw [hg0] at h42
          rw [hg1, hg0]
          have hUs := HUV.out.size
          have hlow : ∀ kk, (Value.slice (some ⟨g0, 0, none⟩) L.flanks.length cap0).ownBlock = some kk → U.heap.size ≤ kk := fun kk e => by
            have e2 : g0 = kk := by simpa [Value.ownBlock] using e
            omega
          have HT5 := Lib.hid (⟨bchain HUV.out hC5, hlow⟩ : _ ∧ _)
          have h42u := owns_base h42 hUs
          clear hlow hb0 hl0 hg0 hg1 h42
          refine wpListIn_append_own _ rfl _ _ 25 rfl U.heap.size 53 i0 zz0 4 i0.bytes Tryd.underlying25 HI.out.1 HI.out.2.1 HI.out.2.2.1 rfl HI.out.2.2.2.1 (by decide) _ L.flanks.length (L.flanks.flatMap Flk.enc) (by rfl) h42u ⟨g1, 0, none⟩ 1 1 (Flk.enc (turnF x)) (by rfl) rfl ?x1 ?x2 ?x3 ?x4 ?x5 ?_
          case x1 =>
            intro i u hu
            rw [add_at]
            have := cg1 i
            rw [Nat.zero_add, this]
            simpa [Flk.enc, turnF] using hu
          case x2 =>
            intro u hu
            simp only [Flk.enc, List.mem_cons, List.not_mem_nil, or_false] at hu
            rcases hu with rfl | rfl | rfl | rfl <;> rfl
          case x3 => unfold maxLen; omega
          case x4 =>
            have h2 := Nat.mul_le_mul (show L.flanks.length + 1 ≤ 16 by omega) HI.out.2.2.2.2
            omega
          case x5 => exact HT5.out.1.size
          intro v' w6 hown' hgrow _
          have hb6 : Below U.heap.size U w6 := HT5.out.1.grown hgrow HT5.out.1.size HT5.out.2
          have hown2 : w6.ownsRow U.heap.size 53 4 v' (L.flanks ++ [turnF x]).length ((L.flanks ++ [turnF x]).flatMap Flk.enc) := by
            rw [List.length_append, List.flatMap_append, List.flatMap_cons, List.flatMap_nil, List.append_nil]
            exact hown'
          obtain ⟨AA, ccap, rfl, hcap1, hcap2, hAT⟩ := at_of_row (enc := Flk.enc) (k := 4) (fun _ => rfl) (by decide) hown2
          have hAb : ∀ b off, AA = some ⟨b, off, none⟩ → U.heap.size ≤ b := by
            intro b off e
            rcases hown2.2 with ⟨h, _⟩ | ⟨g, cap, cur, h, hb, _⟩
            · injection h with h1
              rw [h1] at e
              cases e
            · injection h with h1
              rw [h1] at e
              cases e
              exact hb
          have hll : (L.flanks ++ [turnF x]).length = L.flanks.length + 1 := by rw [List.length_append]; rfl
          rw [hll] at hcap1 ⊢
          have hm6 := HBM.out.1.below hb6
          obtain ⟨c0, c1, c2, c3, c4, c5, c6, c7, c8, c9, c10⟩ := hm6.cells
          dsimp only at c0 c1 c2 c3
          have f2 : w6.frozen? ⟨g6, 3, none⟩ = false := (hb6.frozen (p := ⟨g6, 3, none⟩) hg6).trans HBM.out.2.1
          have l6 : g6 < w6.heap.size := hm6.1
          have lwg : w.heap.size < g6 := HLW.out
          obtain ⟨W7, hW7⟩ : ∃ W7, W7 = w6.setCell ⟨g6, 3, none⟩ (.slice AA (L.flanks.length + 1) ccap) := ⟨_, rfl⟩
          have hw7 : Below w.heap.size w W7 := by rw [hW7]; exact (bchain HBM.out.2.2.1 hb6).setCell (p := ⟨g6, 3, none⟩) (by dsimp only; omega) _
          have hx7 : BoxL W7 w.heap.size L ⟨a0, a1, a2, (some ⟨sb, so, none⟩), p0, p1, p2, p3⟩ := by rw [hW7]; exact (HBM.out.2.2.2.below hb6).set (by omega)
          have hA7 : At W7 4 Flk.enc AA (L.flanks ++ [turnF x]) := by
            rw [hW7]
            rcases hAT with h | ⟨b, off, e, hr⟩
            · exact .inl h
            · exact .inr ⟨b, off, e, hr.set (by have := hAb b off e; omega)⟩
          have hMl : LayAt W7 ⟨a0, a1, a2, AA, p0, p1, p2, ccap⟩ (swap L L.sigs L.exits (L.flanks ++ [turnF x])) := ⟨(HL.out.below hw7).secs, (HL.out.below hw7).sigs, (HL.out.below hw7).exits, hA7, HL.out.l0, HL.out.l1, HL.out.l2, ⟨by show (L.flanks ++ [turnF x]).length ≤ _; simpa using hcap1, hcap2⟩, HL.out.kinds⟩
          have hMc := check_any (swap L L.sigs L.exits (L.flanks ++ [turnF x])) ⟨a0, a1, a2, AA, p0, p1, p2, ccap⟩ W7 hMl (HKE.out.1.below hw7) (HKE.out.2.below hw7)
          rw [once_flanks HT.out hx h12] at hMc
          replace hMc : Calls Tryd.prog 10 #[.agg #[.slice a0 L.secs.length p0, .slice a1 L.sigs.length p1, .slice a2 L.exits.length p2, .slice AA (L.flanks.length + 1) ccap, .int .i64 L.t0, .int .i64 L.t1, .int .i64 L.t2, .int .i64 L.t3, .int .i64 L.t4, .int .i64 L.t5, .int .i64 L.t6]] W7 fun e w' => e = .returned (.tuple #[.int .i64 5, .int .i64 (L.flanks.length : Nat), .int .i64 90]) ∧ Below W7.heap.size W7 w' := by
            simpa [Lay.val, swap] using hMc
          rw [hW7] at hMc
          have HM := Lib.hid hMc
          have HW7 := Lib.hid (⟨hw7, hx7, hW7⟩ : _ ∧ _ ∧ _)
          clear hown' hown2 hgrow hcap1 hcap2 hAT hAb hm6 hA7 hMl hMc hW7 hw7 hx7 hb6 lwg hll hj hr2 hnz hUs
          gi_wp2
          go_wp2_with fail
          (with_reducible refine HM.out.mono ?_)
          rintro e w8 ⟨rfl, b8⟩
          rw [← HW7.out.2.2] at b8
          have HX8 := Lib.hid (HW7.out.2.1.below b8)
          have HB8 := Lib.hid (bchain HW7.out.1 b8)
          clear c0 c1 c2 c3 c4 c5 c6 c7 c8 c9 c10 f2 l6 b8
          go_wp2_with fail
          go_meet
          exact ⟨HB8, HX8⟩
    · have hbb : (decide (0 < L.flanks.length) && decide (L.flanks.length < 16)) = false := by rw [Bool.and_eq_false_iff, decide_eq_false_iff_not, decide_eq_false_iff_not]; omega
      rw [hbb]
      clear c0 c1 c2 c3 c4 c5 c6 c7 c8 c9 c10 lg hbb
      go_wp2_with fail
      go_meet
      exact ⟨HBn2, HXn2⟩
  case rest =>
  obtain ⟨HBn3, HXn3⟩ := hcut
  go_wp2_with fail
  (with_reducible refine (HW.out _ HBn3.out).mono ?_)
  rintro e w9 ⟨rfl, b9⟩
  have HB9 := Lib.hid (bchain HBn3.out b9)
  clear b9
  go_wp2
  go_ret
  exact ⟨rfl, HB9.out⟩
end Go.Proofs.YtmnkgnoljllnnaaDoor

/-
  TopoOnce: in a layout that hangs together no two signals, no two exits are at one port, no two flanks want one point for one way; with one signal, exit, flank more that is there already the rule of it is broken, by the last one.
  Conditions: port.kinds and port.none (and join.end, where it is listed) start as the program's text lays them (the tied card; it ties them to the pruned copy that the seat holds).
-/
namespace Go.Proofs.YtmnkgnoljllnnaaDoor
open Go.RowKit Go.WideShapes Go.ChangeShapes Go.ChangeAt Go.WideMaps Go.WideElems Go.Joins Go.Deep

set_option maxRecDepth 100000 in
theorem topoOnce_lifted (os : Os) (started : os.Started) (H : Type) (enc : TypeId × Value → H) :
    ReturnsInHanded {} Tryd.checked os 5 .any (fun w args => (Rows.topoOnceSpec.pre enc Tryd.prog Tryd.f5 [] false w args ∧ laidMetH Tryd.prog laidL w) ∧ sizedMet enc Tryd.prog Tryd.f5 (OpenSpec.ofChange Rows.topoOnceSpec) false w args)
      (Rows.topoOnceSpec.post enc Tryd.prog Tryd.f5 false true false false) := by
  refine law_lifted_laid (C := Tryd.checked) (tb := 4) ownP started (by kernel_rfl) Tryd.func5
    (ChangeSpec.witness_shaped (enc := enc) (C := Tryd.checked) (os := os) (X := fun w _ => laidMetH Tryd.prog laidL w) false (World.doorLaid Tryd.prog 400 os) #[.agg #[.slice none 0 0, .slice none 0 0, .slice none 0 0, .slice none 0 0, .int .i64 0, .int .i64 0, .int .i64 0, .int .i64 0, .int .i64 0, .int .i64 0, .int .i64 0], .int .i64 0] 8 rfl (World.shaped_of_RefB (by kernel_rfl) (by kernel_rfl)) (by kernel_rfl) (by kernel_rfl) (by kernel_rfl) (door_met os _))
    laidP (by kernel_rfl) rfl rfl Tryd.underlying4 ?_
  intro W base args ds p hval0 hA0 hlt hL
  have hval : ∀ (j : Nat) t v, Tryd.f5.params[j]? = some t → args[j]? = some v → Value.okWide Tryd.prog W .any base t v := hval0
  have hA : DataW.TrodAll enc Tryd.prog W 0 (fun _ => true) true Tryd.f5.params.toList args.toList ds p := hA0
  clear hval0 hA0
  rw [Tryd.params5] at hA hval
  obtain ⟨vs⟩ := args
  dsimp only at hA
  obtain ⟨v0, vs0, d0, ds0, p0, q0, rfl, rfl, rfl, h0, hA⟩ := trodAll_cons hA
  obtain ⟨v1, vs1, d1, ds1, p1, q1, rfl, rfl, rfl, h1, hA⟩ := trodAll_cons hA
  obtain ⟨rfl, rfl, rfl⟩ := trodAll_nil hA
  obtain ⟨L0, w0, rfl, hl0⟩ := open_layout (hval 0 29 v0 rfl rfl) h0
  obtain ⟨x1, rfl, rfl, rfl, b1⟩ := open_int Tryd.underlying3 (hval 1 3 v1 rfl rfl) h1
  exact ⟨⟨rfl, rfl, rfl⟩, topoOnce_walk L0 w0 x1 W hl0 (kinds_of_laid hL)⟩

theorem topoOnce_holds : Rows.TopoOnceSaid :=
  OpenClaim.holds_of_wide 5 Tryd.f5 rfl rfl rfl rfl rfl rfl rfl ⟨rfl, rfl, rfl, rfl, rfl⟩ rfl rfl rfl rfl rfl (by kernel_rfl) Tryd.func5 (by kernel_rfl)
    (of_decide_eq_true (by kernel_rfl)) (by unfold Func.isWrapper; first | (rw [if_pos (by decide +kernel)]; kernel_rfl) | (rw [if_neg (of_decide_eq_false (by kernel_rfl))]; exact ⟨rfl, rfl⟩))
    (fun os started H enc _ => topoOnce_lifted os started H enc)

theorem topoOnce_card : Rows.TopoOnceCardSaid :=
  Claim7.holds_tied_plain_at .later [] [.data, .data, .data] true (true, "3cd35ec731902af1efb8ad1e66760989928f8fbf6ddfd2ac00e438de07536a54") false
    topoOnce_holds (fun _ h => by cases h) (by kernel_rfl) (fun _ h => by cases h) topoOnce_row_tie rfl ⟨rfl, rfl⟩ (by kernel_rfl) rfl
    (fun f fn hf hfn => by
      obtain rfl : f = 5 := Option.some.inj ((show Tryd.prog.funcNamed "lockbar/lockbarlaw09.TopoOnce" = some 5 by kernel_rfl).symm.trans hf) |>.symm
      obtain rfl : fn = Tryd.f5 := (Option.some.inj (Tryd.func5.symm.trans hfn)).symm
      exact ⟨by kernel_rfl, fun j t ht => by
        rw [Tryd.params5] at ht
        have hm : t ∈ [29, 3] := by simpa using Array.mem_of_getElem? ht
        have hall : ([29, 3].all fun u => !Tryd.prog.wantsStandIn u) = true := by kernel_rfl
        exact (show Tryd.prog.wantsStandIn t = false by simpa using List.all_eq_true.1 hall t hm)⟩)
    (by kernel_rfl)
#print axioms topoOnce_card
end Go.Proofs.YtmnkgnoljllnnaaDoor
