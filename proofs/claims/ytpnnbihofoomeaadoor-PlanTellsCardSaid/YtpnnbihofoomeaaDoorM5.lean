/-
  bits.Pad; bits.Take.
-/
import Derived.Test.YtpnnbihofoomeaaDoorM4

namespace Go.Proofs.YtpnnbihofoomeaaDoor
open Go.RowKit Go.Shelf

set_option maxRecDepth 100000 in
set_option maxHeartbeats 4000000 in
theorem bPad_any (A : Option Addr) (n cap N : Nat) (bs : List Nat) (w : World) (hn : n = bs.length) (hA : At w 1 bEnc A bs) (hok : BitsOk bs N) :
    Calls Tryd.prog 25 #[.agg #[.slice A n cap, .int .i64 N]] w fun e w' => ∃ v, e = .returned (.tuple #[.agg #[v, .int .i64 (8 * bs.length : Nat)], .int .i64 0]) ∧ w'.ownsRow w.heap.size 5 1 v bs.length (bs.flatMap bEnc) ∧ Below w.heap.size w w' := by
  have HC := Lib.hid (fun W (h : Below w.heap.size w W) => bBegin_any A n cap N bs W hn (hA.below h) hok)
  have hl : bs.length ≤ 1001 := by have := hok.1; have := hok.2.1; omega
  obtain ⟨m, hm⟩ : ∃ m, m = bs.length := ⟨_, rfl⟩
  rw [← hm] at HC hl
  have e1 : IntKind.i64.wrap ((m : Int) * 8) = ((8 * m : Nat) : Int) := by rw [IntWalk.i64_in _ (by omega)]; omega
  have HM := Lib.hid hm
  rw [← hm]
  clear hn hA hok hm
  go_enter Tryd.func25, Tryd.ntmps25
  go_wp2_with fail
  (with_reducible refine (HC.out _ (bchain bself bself)).mono ?_)
  rintro e w1 ⟨v, rfl, ho, b1⟩
  obtain ⟨A', c', rfl⟩ := ownsV ho
  obtain ⟨c1, f1, l1⟩ := bcell b1
  have y1 := l1 (w.heap.size + 1) (by simp)
  have x2 : w1.cell? ⟨w.heap.size + 1, 0, none⟩ = some (.slice none 0 0) := (c1 _ 0 (by simp)).trans (by simp [go_sem])
  have x3 : w1.cell? ⟨w.heap.size + 1, 1, none⟩ = some (.int .i64 0) := (c1 _ 1 (by simp)).trans (by simp [go_sem])
  have z1 : ∀ o, w1.frozen? ⟨w.heap.size + 1, o, none⟩ = false := fun o => (f1 _ o (by simp)).trans (by simp [go_sem])
  have hgh : w1.heap[w.heap.size + 1]? = some (.cells #[.slice none 0 0, .int .i64 0] 54 (0, 0)) := by
    rw [b1.block _ (by simp)]
    have := World.alloc_heap_new (w.alloc (.cells #[.slice A n cap, .int .i64 (N : Nat)] 54)) (.cells #[.slice none 0 0, .int .i64 0] 54)
    simpa using this
  have HO := Lib.hid (⟨ho, b1, hgh⟩ : _ ∧ _ ∧ _)
  clear ho b1 c1 f1 l1 hgh
  go_upto_region 2 with fail
  obtain ⟨w2, hw2⟩ : ∃ w2, w2 = (w1.setCell ⟨w.heap.size + 1, 0, none⟩ (.slice A' m c')).setCell ⟨w.heap.size + 1, 1, none⟩ (.int .i64 (N : Nat)) := ⟨_, rfl⟩
  rw [← hw2]
  have h1 := heap_setCell_same w1 (w.heap.size + 1) 0 _ _ (.slice A' m c') HO.out.2.2
  have h2 := heap_setCell_same _ (w.heap.size + 1) 1 _ _ (.int .i64 (N : Nat)) h1
  have o2 := keep_box (i := 1) (u := .int .i64 (N : Nat)) h1 (keep_box (i := 0) (u := .slice A' m c') HO.out.2.2 (owns_base HO.out.1 (show w.heap.size ≤ _ by simp; omega)))
  rw [← hw2] at h2 o2
  have hb2 : Below w.heap.size w w2 := by
    rw [hw2]
    exact ((bchain (bchain bself bself) HO.out.2.1).setCell (p := ⟨w.heap.size + 1, 0, none⟩) (by dsimp only; omega) _).setCell (p := ⟨w.heap.size + 1, 1, none⟩) (by dsimp only; omega) _
  replace h2 : w2.heap[w.heap.size + 1]? = some (.cells #[.slice A' m c', .int .i64 (N : Nat)] 54 (0, 0)) := h2
  have q0 : w2.cell? ⟨w.heap.size + 1, 0, none⟩ = some (.slice A' m c') := by simp [World.cell?, h2]
  have q1 : w2.cell? ⟨w.heap.size + 1, 1, none⟩ = some (.int .i64 N) := by simp [World.cell?, h2]
  have q2 : ∀ o, w2.frozen? ⟨w.heap.size + 1, o, none⟩ = false := fun o => frozen_of_row _ _ _ _ _ h2
  have q3 : w.heap.size + 1 < w2.heap.size := (Array.getElem?_eq_some_iff.1 h2).1
  have HO2 := Lib.hid (⟨o2, hb2, h2⟩ : _ ∧ _ ∧ _)
  clear hw2 h1 h2 o2 hb2 HO y1 x2 x3 z1
  go_upto_region 5 with fail
  obtain ⟨w4, hw4⟩ : ∃ w4, w4 = w2.setCell ⟨w.heap.size + 1, 1, none⟩ (.int .i64 (8 * m : Nat)) := ⟨_, rfl⟩
  have h3 := heap_setCell_same w2 (w.heap.size + 1) 1 _ _ (.int .i64 (8 * m : Nat)) HO2.out.2.2
  have o3 := keep_box (i := 1) (u := .int .i64 (8 * m : Nat)) HO2.out.2.2 HO2.out.1
  have hb3 : Below w.heap.size w w4 := by rw [hw4]; exact HO2.out.2.1.setCell (p := ⟨w.heap.size + 1, 1, none⟩) (by dsimp only; omega) _
  rw [← hw4] at h3 o3
  replace h3 : w4.heap[w.heap.size + 1]? = some (.cells #[.slice A' m c', .int .i64 (8 * m : Nat)] 54 (0, 0)) := h3
  have r0 : w4.cell? ⟨w.heap.size + 1, 0, none⟩ = some (.slice A' m c') := by simp [World.cell?, h3]
  have r1 : w4.cell? ⟨w.heap.size + 1, 1, none⟩ = some (.int .i64 (8 * m : Nat)) := by simp [World.cell?, h3]
  have r2 : ∀ o, w4.frozen? ⟨w.heap.size + 1, o, none⟩ = false := fun o => frozen_of_row _ _ _ _ _ h3
  have r3 : w.heap.size + 1 < w4.heap.size := (Array.getElem?_eq_some_iff.1 h3).1
  have HO4 := Lib.hid (⟨o3, hb3, h3⟩ : _ ∧ _ ∧ _)
  have HM8 : Hid ((8 * (m : Int)) = ((8 * m : Nat) : Int)) := Lib.hid (by omega)
  rw [HM8.out, ← hw4]
  clear hw4 h3 o3 hb3 q0 q1 q2 q3 e1 HO2
  go_wp2
  refine bodyPost_ret (v := .tuple #[.agg #[.slice A' m c', .int .i64 (8 * m : Nat)], .int .i64 0]) (by simp [results, Tryd.results25, go_sem, *]) rfl ⟨_, rfl, ?own, ?bel⟩
  case own => exact keep_box (heap_setCell_same _ _ _ _ _ _ HO4.out.2.2) (keep_box HO4.out.2.2 HO4.out.1)
  case bel =>
    repeat refine Below.setCell ?_ (by dsimp only; omega) _
    exact HO4.out.2.1

/-- The number of w bits from a on. -/
def takeN (f : Nat → Bool) (a : Nat) : Nat → Nat
  | 0 => 0
  | w + 1 => 2 * takeN f a w + bitN (f (a + w))
theorem takeN_lt (f : Nat → Bool) (a : Nat) : ∀ w, takeN f a w < 2 ^ w
  | 0 => by simp [takeN]
  | w + 1 => by
    have h := takeN_lt f a w
    have := bitN_le (f (a + w))
    rw [Nat.pow_succ]
    unfold takeN
    omega
theorem bitB_get {bs : List Nat} {i x : Nat} (h : bs[i / 8]? = some x) : bitN (bitB bs i) = x / 2 ^ (7 - i % 8) % 2 := by
  unfold bitB
  rw [List.getD_eq_getElem?_getD, h, Option.getD_some, Nat.testBit_eq_decide_div_mod_eq]
  have : x / 2 ^ (7 - i % 8) % 2 < 2 := Nat.mod_lt _ (by decide)
  unfold bitN
  by_cases h1 : x / 2 ^ (7 - i % 8) % 2 = 1
  · simp [h1]
  · have h0 : x / 2 ^ (7 - i % 8) % 2 = 0 := by omega
    simp [h0]
attribute [local go_sem] and1 and7

set_option maxRecDepth 100000 in
set_option maxHeartbeats 8000000 in
theorem bTake_any (A : Option Addr) (n cap N : Nat) (bs : List Nat) (a wd : Nat) (w : World) (hn : n = bs.length) (hA : At w 1 bEnc A bs) (hok : BitsOk bs N) (ha : a ≤ 100000) (hwd : wd ≤ 32) :
    Calls Tryd.prog 92 #[.agg #[.slice A n cap, .int .i64 N], .int .i64 a, .int .i64 wd] w fun e w' => e = .returned (if a + wd ≤ N then .tuple #[.int .i64 (takeN (bitB bs) a wd : Nat), .int .i64 0] else .tuple #[.int .i64 0, .int .i64 40]) ∧ Below w.heap.size w w' := by
  have HR := Lib.hid (fun W (h : Below w.heap.size w W) => bRight_yes A n cap N bs W hn (hA.below h) hok.1 hok.2.1 hok.2.2.1 hok.2.2.2)
  have d1 : ¬ (wd : Int) < 0 := by omega
  have d2 : ¬ (wd : Int) > 32 := by omega
  have d3 : ¬ (a : Int) < 0 := by omega
  have HX := Lib.hid (⟨hn, hA, hok⟩ : _ ∧ _ ∧ _)
  have hN : N ≤ 8000 := hok.2.1
  clear hn hA hok
  go_enter Tryd.func92, Tryd.ntmps92
  go_wp2_with fail
  refine wp_scope_fwd 0 rfl ?_
  go_wp2_with fail
  (with_reducible refine (HR.out _ bself).mono ?_)
  rintro e w1 ⟨rfl, b1⟩
  obtain ⟨c1, f1, l1⟩ := bcell b1
  have y0 := l1 w.heap.size (by simp)
  have x0 : w1.cell? ⟨w.heap.size, 0, none⟩ = some (.slice A n cap) := (c1 _ 0 (by simp)).trans (by simp [go_sem])
  have x1 : w1.cell? ⟨w.heap.size, 1, none⟩ = some (.int .i64 N) := (c1 _ 1 (by simp)).trans (by simp [go_sem])
  have HB := Lib.hid (bchain bself b1 : Below w.heap.size w w1)
  clear b1 c1 f1 l1
  by_cases h1 : a > N
  · have d4 : (a : Int) > (N : Int) := by omega
    have HF := Lib.hid (show ¬ a + wd ≤ N by omega)
    clear h1
    go_wp2_with fail
    refine wp_goto ?_
    refine ⟨rfl, ?_⟩
    go_wp2
    rw [Exit.noGoto_ret]
    exact bodyPost_ret (v := .tuple #[.int .i64 0, .int .i64 40]) (by simp [results, Tryd.results92, go_sem]) rfl ⟨by rw [if_neg HF.out], HB.out⟩
  have d4 : ¬ (a : Int) > (N : Int) := by omega
  have e1 : IntKind.i64.wrap ((N : Int) - (a : Int)) = (N : Int) - (a : Int) := IntWalk.i64_in _ (by omega)
  by_cases h2 : wd > N - a
  · have d5 : (wd : Int) > (N : Int) - (a : Int) := by omega
    have HF := Lib.hid (show ¬ a + wd ≤ N by omega)
    clear h1 h2
    go_wp2_with fail
    refine wp_goto ?_
    refine ⟨rfl, ?_⟩
    go_wp2
    rw [Exit.noGoto_ret]
    exact bodyPost_ret (v := .tuple #[.int .i64 0, .int .i64 40]) (by simp [results, Tryd.results92, go_sem]) rfl ⟨by rw [if_neg HF.out], HB.out⟩
  have d5 : ¬ (wd : Int) > (N : Int) - (a : Int) := by omega
  have HF := Lib.hid (show a + wd ≤ N by omega)
  clear h1 h2
  go_wp2_with fail
  any_goals (exfalso; omega)
  go_loopw [1, 2, 6] (fun p q r wr => ∃ j : Nat, j ≤ wd ∧ p = .int .i64 (a + j : Nat) ∧ q = .int .i64 (wd - j : Nat) ∧ r = .int .i64 (takeN (bitB bs) a j : Nat) ∧ wr = w1) (fun _ q _ _ => (intOf q).toNat)
  case atStart => exact ⟨0, by omega, rfl, by simp, rfl, rfl⟩
  case round =>
    obtain ⟨j, hj, rfl, rfl, rfl, rfl⟩ := hrel
    obtain ⟨t, ht⟩ : ∃ t, t = takeN (bitB bs) a j := ⟨_, rfl⟩
    rw [← ht]
    obtain ⟨i, hi⟩ : ∃ i, i = a + j := ⟨_, rfl⟩
    obtain ⟨d, hd⟩ : ∃ d, d = wd - j := ⟨_, rfl⟩
    rw [← hi, ← hd]
    by_cases hlt : j < wd
    · have d6 : (0 : Int) < (d : Int) := by omega
      have d60 : 0 < d := by omega
      obtain ⟨q, hq⟩ : ∃ q, q = i / 8 := ⟨_, rfl⟩
      obtain ⟨r, hr⟩ : ∃ r, r = i % 8 := ⟨_, rfl⟩
      obtain ⟨s, hs⟩ : ∃ s, s = 7 - r := ⟨_, rfl⟩
      have hql : q < bs.length := by have := HX.out.2.2.1; have := HF.out; omega
      obtain ⟨x, hx⟩ : ∃ x, bs[q]? = some x := ⟨_, List.getElem?_eq_getElem hql⟩
      obtain ⟨b, off, ea, hrow⟩ := HX.out.2.1.get (j := q) hql
      subst ea
      have hbit : bitN (bitB bs i) = x / 2 ^ s % 2 := by
        have h := bitB_get (bs := bs) (i := i) (x := x) (by rw [← hq]; exact hx)
        rw [hs, hr]
        exact h
      obtain ⟨y, hy⟩ : ∃ y, y = x / 2 ^ s % 2 := ⟨_, rfl⟩
      have hy2 : y < 2 := by rw [hy]; exact Nat.mod_lt _ (by decide)
      have htl : t < 2 ^ wd := by rw [ht]; exact Nat.lt_of_lt_of_le (takeN_lt _ _ j) (Nat.pow_le_pow_right (by decide) hj)
      have htl2 : t < 4294967296 := Nat.lt_of_lt_of_le htl (Nat.pow_le_pow_right (n := 2) (by decide) hwd)
      have hqi : (i : Int) / 8 = (q : Int) := by omega
      have hri : (i : Int) % 8 = (r : Int) := by omega
      have hsi : IntKind.i64.wrap (7 - (r : Int)) = (s : Int) := by rw [IntWalk.i64_in _ (by omega)]; omega
      have hqn : (q : Int) < (n : Int) := by rw [HX.out.1]; omega
      have hqn0 : q < n := by rw [HX.out.1]; exact hql
      have hs8 : s ≤ 8 := by omega
      have hyi : (x : Int) / 2 ^ s % 2 = (y : Int) := by rw [hy]; push_cast; rfl
      have hor := or1 (x := t) (b := y) (by omega) hy2
      have hdi : IntKind.i64.wrap ((d : Int) - 1) = ((wd - (j + 1) : Nat) : Int) := by rw [IntWalk.i64_in _ (by omega)]; omega
      have hii : IntKind.i64.wrap ((i : Int) + 1) = ((a + (j + 1) : Nat) : Int) := by rw [IntWalk.i64_in _ (by omega)]; omega
      have hcell : wr.cell? ⟨b, off + q, none⟩ = some (.int .u8 (x : Nat)) := by
        have h := (HB.out.cell (p := ⟨b, off + q, none⟩) hrow.1).trans (by simpa using hrow.2 q x hx 0 _ rfl)
        exact h
      have hlb : b < wr.heap.size := Nat.lt_of_lt_of_le hrow.1 HB.out.size
      have hnext : takeN (bitB bs) a (j + 1) = 2 * t + y := by
        rw [takeN, ← ht, ← hi, hbit, hy]
      have HN := Lib.hid (⟨hnext, hlt, hd⟩ : _ ∧ _ ∧ _)
      have hw2 : wrap64 ((t : Int) * 2) = 2 * (t : Int) := by clear hsi hdi hii; unfold wrap64; omega
      have HWX : Hid (wrap64 ((x : Int) / 2 ^ s) = (x : Int) / 2 ^ s) := Lib.hid (by
        have hx256 := HX.out.2.2.2.2.1 x (List.mem_of_getElem? hx)
        have h1 : (x : Int) / 2 ^ s = ((x / 2 ^ s : Nat) : Int) := by push_cast; rfl
        have h2 : x / 2 ^ s ≤ x := Nat.div_le_self _ _
        rw [h1]
        clear h1 hsi hdi hii hw2 hqi hri hor hyi hbit hy
        generalize x / 2 ^ s = z at h2 ⊢
        unfold wrap64
        omega)
      clear hq hr hs hx hrow hbit hy hy2 htl htl2 hql hnext ht hi hd hj hlt
      go_wp2_with fail
      refine ⟨⟨j + 1, HN.out.2.1, by push_cast; rfl, rfl, ?_, trivial⟩, ?_⟩
      · rw [HWX.out, hyi, hor, ← HN.out.1]
      · simp only [intOf]
        have := HN.out.2.1
        have := HN.out.2.2
        omega
    · have hd0 : d = 0 := by omega
      subst hd0
      obtain rfl : j = wd := by omega
      have HT := Lib.hid ht
      clear ht hi hd
      go_wp2_with fail
      rw [Exit.fwd_ret]
      exact bodyPost_ret (v := .tuple #[.int .i64 (t : Nat), .int .i64 0]) (by simp [results, Tryd.results92, go_sem]) rfl ⟨by rw [if_pos HF.out, HT.out], HB.out⟩
end Go.Proofs.YtpnnbihofoomeaaDoor

/-
  plan.Put.
-/
namespace Go.Proofs.YtpnnbihofoomeaaDoor
open Go.RowKit Go.Shelf
attribute [local go_sem] Oper.semAt_some

theorem fields_fn (L : Lay) (P : Where) (w : World) :
    Calls Tryd.prog 23 #[L.val P] w fun e w' => e = .returned (.func (.func 57) #[] #[.pointer (some ⟨w.heap.size, 0, none⟩)]) ∧ w' = w.alloc (.cells (L.cells P).toArray 29) := by
  unfold Lay.val Lay.cells
  go_enter Tryd.func23, Tryd.ntmps23
  go_wp2
  go_ret
  exact ⟨rfl, rfl⟩
/-- The iterator as the range's law asks for it. -/
theorem fields_seq (L : Lay) (P : Where) (A : Nat → Prop) (E : TypeId → Prop) (w0 w : World) (Bl : Nat) (hL : LayAt w0 P L) (K0 : Kinds w0) (hr : rightL L = true) (hf : Few L) (hold : Below w0.heap.size w0 w) (hA : ∀ b, A b → w0.heap.size ≤ b ∧ b < w.heap.size) (hE : ∀ e, E e → isU8 e) (hBl : ¬ A Bl)
    (hb : w.heap[Bl]? = some (.cells (L.cells P).toArray 29 (0, 0))) :
    SeqAll Tryd.prog 57 #[.pointer (some ⟨Bl, 0, none⟩)] fV (fieldsL L) A E w0.heap.size NoB w := by
  intro l J W hW hJ hY h0
  have ht : ∀ t ∈ L.times, 1 ≤ t ∧ t ≤ 1000 := by
    have := ((right_iff L).1 hr).2.1
    unfold timesT at this
    simpa using this
  have h := fields1_in L P (l := l) (J := J) (A := A) (E := E) (m := w0.heap.size) (n0 := w.heap.size) (w0 := w0) ⟨hJ, hY, hA, hE, rfl⟩ hL K0 hf ht W Bl hW.size (.of_below (bchain hold hW)) hBl ((hW.block _ (Array.getElem?_eq_some_iff.1 hb).1).trans hb) h0
  exact callsIn_wide.2 h
def bytesL (L : Lay) : List Nat := pack (bitsF (fieldsL L))
/-- What Put tells. -/
def PutOf (L : Lay) (w : World) (e : Ending) (w' : World) : Prop :=
  ((rightL L = false ∧ e = .returned (.tuple #[.slice none 0 0, .int .i64 60])) ∨ (rightL L = true ∧ ∃ v, e = .returned (.tuple #[v, .int .i64 0]) ∧ w'.ownsRow w.heap.size 5 1 v (bytesL L).length ((bytesL L).flatMap bEnc))) ∧ Below w.heap.size w w'
theorem ItW.cells {X Y : World} (h : ItW NoB X Y) : SameCells X Y := fun b o ho _ => h.w.same b o ho (fun k => k) (fun ⟨_, _, _, _, _, k⟩ => k)
/-- A number in its variable, laid anew each round. -/
def FAx (T : Array Value) (sx sv : Nat) (x : Fld) (a' : Act) (W : World) : Prop :=
  ∃ bx : Nat, a' = { tmps := (T.setIfInBounds sx (.agg #[.int .i64 x.1, .int .i64 x.2])).setIfInBounds sv (.pointer (some ⟨bx, 0, none⟩)), defers := [] } ∧ W.heap[bx]? = some (.cells #[.int .i64 x.1, .int .i64 x.2] 59 (0, 0))
theorem FAx.same {T : Array Value} {sx sv : Nat} {x : Fld} {a' : Act} {W W' : World} (h : FAx T sx sv x a' W) (k : SameCells W W') : FAx T sx sv x a' W' := by
  obtain ⟨bx, e, h1⟩ := h
  exact ⟨bx, e, k _ _ h1 rfl⟩
theorem next_fit {L : Lay} (hr : rightL L = true) {pre : List Fld} {x : Fld} (hx : pre ++ [x] <+: fieldsL L) : ∃ n wd : Nat, x = ((n : Int), (wd : Int)) ∧ n < 2 ^ wd ∧ wd ≤ 10 ∧ (bitsF pre).length + wd ≤ 1600 ∧ bitsF (pre ++ [x]) = bitsF pre ++ numBits n wd := by
  obtain ⟨h1, h2, _⟩ := right_fields hr
  have hm : x ∈ fieldsL L := hx.subset (by simp)
  obtain ⟨f1, f2, f3, f4⟩ := h1 x hm
  obtain ⟨a, b⟩ := x
  dsimp only at f1 f2 f3 f4
  have hlt : (a.toNat : Int) < ((2 ^ b.toNat : Nat) : Int) := by push_cast; omega
  refine ⟨a.toNat, b.toNat, by rw [Int.toNat_of_nonneg f1, Int.toNat_of_nonneg f3], by exact_mod_cast hlt, by omega, ?_, ?_⟩
  · obtain ⟨t, ht⟩ := hx
    rw [← ht, widF_append, widF_append] at h2
    rw [bitsF_length]
    have : widF [(a, b)] = b.toNat := by simp [widF]
    omega
  · rw [bitsF_append]
    simp [bitsF]
theorem right_few' {L : Lay} (h : rightL L = true) : Few L := by
  obtain ⟨⟨l0, l1, l2, l3⟩, _, _, _, _, _, _, ho⟩ := (right_iff L).1 h
  refine ⟨by omega, by omega, by omega, by omega, fun x hx => ?_⟩
  have := ho x hx
  unfold overT at this
  simp only [Bool.and_eq_true, decide_eq_true_eq] at this
  omega

set_option maxRecDepth 100000 in
set_option maxHeartbeats 16000000 in
theorem put_any (L : Lay) (P : Where) (w : World) (hL : LayAt w P L) (K : Kinds w) : Calls Tryd.prog 9 #[L.val P] w (PutOf L w) := by
  refine calls_marked w.heap.size Tryd.func9 rfl ?_
  have HR := Lib.hid (fun W (h : Below w.heap.size w W) => rightLay_any L P W (hL.below h) (K.below h))
  have HF := Lib.hid (fun W => fields_fn L P W)
  have HL := Lib.hid (⟨hL, K⟩ : _ ∧ _)
  clear hL K
  obtain ⟨a0, a1, a2, a3, p0, p1, p2, p3⟩ := P
  unfold Lay.val at *
  simp only [Tryd.ntmps9, List.size_toArray, List.length_cons, List.length_nil, Nat.reduceAdd, Nat.reduceSub, Array.replicate_succ, Array.replicate_zero, List.push_toArray, List.append_toArray, List.nil_append, List.cons_append]
  go_wp2_with fail
  obtain ⟨g, hg⟩ : ∃ g, g = w.heap.size + 1 := ⟨_, rfl⟩
  have hX := ((BoxL.make (W := w) (L := L) (p := ⟨a0, a1, a2, a3, p0, p1, p2, p3⟩) (n := w.heap.size) 29 rfl).below (bself (o := .cells #[.slice none 0 0, .int .i64 0] 54)))
  have HX := Lib.hid hX
  clear hX
  (with_reducible refine (HR.out _ (bchain bself bself)).mono ?_)
  rintro e w1 ⟨rfl, b1⟩
  have hgh : w1.heap[g]? = some (.cells #[.slice none 0 0, .int .i64 0] 54 (0, 0)) := by
    rw [hg, b1.block _ (by simp)]
    have := World.alloc_heap_new (w.alloc (.cells #[.slice a0 L.secs.length p0, .slice a1 L.sigs.length p1, .slice a2 L.exits.length p2, .slice a3 L.flanks.length p3, .int .i64 L.t0, .int .i64 L.t1, .int .i64 L.t2, .int .i64 L.t3, .int .i64 L.t4, .int .i64 L.t5, .int .i64 L.t6] 29)) (.cells #[.slice none 0 0, .int .i64 0] 54)
    simpa using this
  have H1 := Lib.hid (⟨hgh, HX.out.below b1, (bchain (bchain bself bself) b1 : Below w.heap.size w w1)⟩ : _ ∧ _ ∧ _)
  have hszg : g < w1.heap.size := (Array.getElem?_eq_some_iff.1 hgh).1
  have HG := Lib.hid hg
  clear hgh HX b1
  cases hrl : rightL L with
  | false =>
    go_wp2
    exact ⟨⟨[], Marked.nil _ _⟩, fun w' hb hk => ⟨.tuple #[.slice none 0 0, .int .i64 60], by simp [results, Tryd.results9, go_sem], ⟨.inl ⟨hrl, rfl⟩, H1.out.2.2.trans hb⟩⟩⟩
  | true =>
    obtain ⟨x0, x1, x2, x3, x4, x5, x6, x7, x8, x9, x10⟩ := H1.out.2.1.cells
    dsimp only at x0 x1 x2 x3
    have lx := H1.out.2.1.1
    rw [← hg]
    clear hg
    go_wp2_with fail
    (with_reducible refine (HF.out _).mono ?_)
    rintro e w3 ⟨rfl, hw3⟩
    have hb3 : Below w1.heap.size w1 w3 := by rw [hw3]; exact bself
    have h3 : w3.heap[w1.heap.size]? = some (.cells (L.cells ⟨a0, a1, a2, a3, p0, p1, p2, p3⟩).toArray 29 (0, 0)) := by rw [hw3]; exact World.alloc_heap_new _ _
    obtain ⟨Bl, hBl⟩ : ∃ Bl, Bl = w1.heap.size := ⟨_, rfl⟩
    rw [← hBl] at h3 ⊢
    have hgB : g < Bl := by omega
    have hwg : w.heap.size ≤ g := by have := HG.out; omega
    have H3 := Lib.hid (⟨h3, bchain H1.out.2.2 hb3, (hb3.block g hszg).trans H1.out.1, Nat.lt_of_lt_of_le hszg hb3.size⟩ : _ ∧ _ ∧ _ ∧ _)
    have HRL := Lib.hid hrl
    clear h3 hb3 hw3 hBl H1 hszg hrl x0 x1 x2 x3 x4 x5 x6 x7 x8 x9 x10 lx
    go_wp2_with fail
    refine wp_act fun T hT => ?_
    refine wp_range_m (α := Fld) (gf := 57) (lb := #[.pointer (some ⟨Bl, 0, none⟩)]) (encs := fV) (xs := fieldsL L) (by rw [hT]; rfl) (enters_of Tryd.func57 (by kernel_rfl) rfl)
      (fun k => k = g) NoT w.heap.size NoB (by rintro k rfl; exact H3.out.2.2.2) (fun _ h => h.elim)
      (fields_seq L _ _ _ w w3 Bl HL.out.1 HL.out.2 HRL.out (right_few' HRL.out) H3.out.2.1 (by rintro k rfl; exact ⟨hwg, H3.out.2.2.2⟩) (fun _ h => h.elim) (by omega) H3.out.1) (fun _ => rfl)
      (fun pre W => PutAt w.heap.size g W (bitsF pre)) (fun s X Y h k _ => h.same k) (fun s X Y h k => h.same k.cells)
      ⟨none, 0, by rw [H3.out.2.2.1]; rfl, World.ownsRow_nil _ _ _ _⟩
      (FAx T 11 5) (fun _ _ _ _ h k _ => h.same k) ?assign ?body ?done
    case assign =>
      intro l x W K hK
      subst hT
      simp only [fV]
      obtain ⟨xa, xb⟩ := x
      dsimp only
      gi_wp2
      refine hK _ _ bself ⟨W.heap.size, ?_, World.alloc_heap_new _ _⟩
      simp only [List.setIfInBounds_toArray, List.set_cons_zero, List.set_cons_succ]
    case body =>
      rintro l pre x a' W hw ⟨A1, c1, hgh, ho⟩ ⟨bx, rfl, hbx⟩ hx
      obtain ⟨n, wd, rfl, hn, hwd, hlen, hbits⟩ := next_fit HRL.out hx
      obtain ⟨bl, hbl⟩ : ∃ bl, bl = bitsF pre := ⟨_, rfl⟩
      rw [← hbl] at hgh ho hlen hbits
      obtain ⟨q, hq⟩ : ∃ q, q = (pack bl).length := ⟨_, rfl⟩
      have hA1 := (sl_get (at_of_row (k := 1) (enc := bEnc) (fun _ => rfl) (by decide) ho)).1
      have hput := bPut_any A1 q c1 bl n wd W hq hA1 hn (by omega) (by omega)
      rw [← hq] at hgh
      obtain ⟨N, hN⟩ : ∃ N, N = bl.length := ⟨_, rfl⟩
      rw [← hN] at hgh hput
      have HPU := Lib.hid hput
      have y0 : W.cell? ⟨g, 0, none⟩ = some (.slice A1 q c1) := by simp [World.cell?, hgh]
      have y1 : W.cell? ⟨g, 1, none⟩ = some (.int .i64 N) := by simp [World.cell?, hgh]
      have lg : g < W.heap.size := (Array.getElem?_eq_some_iff.1 hgh).1
      have z0 : W.cell? ⟨bx, 0, none⟩ = some (.int .i64 n) := by simp [World.cell?, hbx]
      have z1 : W.cell? ⟨bx, 1, none⟩ = some (.int .i64 wd) := by simp [World.cell?, hbx]
      have lb : bx < W.heap.size := (Array.getElem?_eq_some_iff.1 hbx).1
      have HW := Lib.hid (⟨hgh, hbits, hbl, Nat.le_trans H3.out.2.1.size hw.size⟩ : _ ∧ _ ∧ _ ∧ _)
      subst hT
      simp only [List.setIfInBounds_toArray, List.set_cons_zero, List.set_cons_succ]
      clear hgh ho hbx hx hn hlen hbits hbl hA1 hput hN hq hw
      gi_wp2_with fail
      refine ⟨trivial, (CallsIn.inRound l (callsIn_wide.2 HPU.out)).mono ?_⟩
      rintro e V ⟨v, rfl, ho2, b2⟩
      obtain ⟨A2, c2, rfl⟩ := ownsV ho2
      have hg2 := (b2.block g lg).trans HW.out.1
      have v0 : V.cell? ⟨g, 0, none⟩ = some (.slice A1 q c1) := by simp [World.cell?, hg2]
      have v1 : V.cell? ⟨g, 1, none⟩ = some (.int .i64 N) := by simp [World.cell?, hg2]
      have vl : g < V.heap.size := (Array.getElem?_eq_some_iff.1 hg2).1
      have vf : ∀ o, V.frozen? ⟨g, o, none⟩ = false := fun o => frozen_of_row _ _ _ _ _ hg2
      have HV := Lib.hid (⟨ho2, b2, hg2⟩ : _ ∧ _ ∧ _)
      clear ho2 b2 hg2 y0 y1 lg z0 z1 lb HPU
      obtain ⟨M, hM⟩ : ∃ M, M = (bl ++ numBits n wd).length := ⟨_, rfl⟩
      obtain ⟨u, hu⟩ : ∃ u, u = (pack (bl ++ numBits n wd)).length := ⟨_, rfl⟩
      rw [← hM, ← hu]
      have HMU := Lib.hid (⟨hM, hu⟩ : _ ∧ _)
      clear hM hu
      gi_wp2
      refine ⟨WritesE.setCell (A := fun b => b = g) (p := ⟨g, 1, none⟩) (WritesE.setCell (A := fun b => b = g) (p := ⟨g, 0, none⟩) (.of_below HV.out.2.1) rfl _) rfl _, A2, c2, ?_, ?_⟩
      · rw [HW.out.2.1, ← HMU.out.1, ← HMU.out.2, heap_setCell_same _ _ _ _ _ _ (heap_setCell_same _ _ _ _ _ _ HV.out.2.2)]
        rfl
      · rw [HW.out.2.1, ← HMU.out.2]
        have o1 := owns_base HV.out.1 HW.out.2.2.2
        rw [← HMU.out.2] at o1
        exact keep_box (heap_setCell_same _ _ _ _ _ _ HV.out.2.2) (keep_box HV.out.2.2 o1)
    case done =>
      rintro D W hD hw ⟨A1, c1, hgh, ho⟩ hK
      have hB := hw.below H3.out.2.1 (H3.out.2.1.size) (Nat.le_refl _) (by rintro k (rfl | h); exact hwg; exact h.elim)
      obtain ⟨bl, hbl⟩ : ∃ bl, bl = bitsF (fieldsL L) := ⟨_, rfl⟩
      have hlen : bl.length ≤ 1600 := by rw [hbl, bitsF_length]; exact (right_fields HRL.out).2.1
      have hby : bytesL L = pack bl := by rw [hbl]; rfl
      rw [← hbl] at hgh ho
      obtain ⟨q, hq⟩ : ∃ q, q = (pack bl).length := ⟨_, rfl⟩
      have hq2 : q ≤ 1000 := by rw [hq, pack_length]; omega
      have hA1 := (sl_get (at_of_row (k := 1) (enc := bEnc) (fun _ => rfl) (by decide) ho)).1
      have hpad := bPad_any A1 q c1 bl.length (pack bl) W hq hA1 (bitsOk_pack bl (by omega))
      rw [← hq] at hgh hpad
      obtain ⟨N, hN⟩ : ∃ N, N = bl.length := ⟨_, rfl⟩
      rw [← hN] at hgh hpad
      obtain ⟨M, hM⟩ : ∃ M, M = 8 * q := ⟨_, rfl⟩
      rw [← hM] at hpad
      clear hM
      have HPAD := Lib.hid hpad
      have y0 : W.cell? ⟨g, 0, none⟩ = some (.slice A1 q c1) := by simp [World.cell?, hgh]
      have y1 : W.cell? ⟨g, 1, none⟩ = some (.int .i64 N) := by simp [World.cell?, hgh]
      have lg : g < W.heap.size := (Array.getElem?_eq_some_iff.1 hgh).1
      have HD := Lib.hid (⟨hgh, hB, hK, hby, hq, hD⟩ : _ ∧ _ ∧ _ ∧ _ ∧ _ ∧ _)
      have hDl : D < W.heap.size := (Array.getElem?_eq_some_iff.1 hK).1
      clear hw hgh ho hB hK hbl hlen hby hA1 hpad hN hq hD
      subst hT
      dsimp only
      go_wp2_with fail
      (with_reducible refine HPAD.out.mono ?_)
      rintro e w5 ⟨v, rfl, ho5, b5⟩
      obtain ⟨A5, c5, rfl⟩ := ownsV ho5
      have hg5 := (b5.block g lg).trans HD.out.1
      have v0 : w5.cell? ⟨g, 0, none⟩ = some (.slice A1 q c1) := by simp [World.cell?, hg5]
      have v1 : w5.cell? ⟨g, 1, none⟩ = some (.int .i64 N) := by simp [World.cell?, hg5]
      have vl : g < w5.heap.size := (Array.getElem?_eq_some_iff.1 hg5).1
      have vf : ∀ o, w5.frozen? ⟨g, o, none⟩ = false := fun o => frozen_of_row _ _ _ _ _ hg5
      have H5 := Lib.hid (⟨ho5, b5, hg5⟩ : _ ∧ _ ∧ _)
      clear ho5 b5 hg5 y0 y1 HPAD
      go_upto_region 8 with fail
      obtain ⟨w6, hw6⟩ : ∃ w6, w6 = (w5.setCell ⟨g, 0, none⟩ (.slice A5 q c5)).setCell ⟨g, 1, none⟩ (.int .i64 (M : Nat)) := ⟨_, rfl⟩
      rw [← hw6]
      have hg6 := heap_setCell_same _ g 1 _ _ (.int .i64 (M : Nat)) (heap_setCell_same w5 g 0 _ _ (.slice A5 q c5) H5.out.2.2)
      have ho6 := keep_box (i := 1) (u := .int .i64 (M : Nat)) (heap_setCell_same w5 g 0 _ _ (.slice A5 q c5) H5.out.2.2) (keep_box (i := 0) (u := .slice A5 q c5) H5.out.2.2 H5.out.1)
      rw [← hw6] at hg6 ho6
      replace hg6 : w6.heap[g]? = some (.cells #[.slice A5 q c5, .int .i64 (M : Nat)] 54 (0, 0)) := hg6
      have hb6 : Below w.heap.size w w6 := by
        rw [hw6]
        exact ((HD.out.2.1.trans (H5.out.2.1.mono HD.out.2.1.size)).setCell (p := ⟨g, 0, none⟩) hwg _).setCell (p := ⟨g, 1, none⟩) hwg _
      have hD6 : w6.heap[D]? = some (.deferred (some [])) := by
        rw [hw6, Below.heap_setCell _ _ _ _ (by dsimp only; have := HD.out.2.2.2.2.2; have := H3.out.2.2.2; omega), Below.heap_setCell _ _ _ _ (by dsimp only; have := HD.out.2.2.2.2.2; have := H3.out.2.2.2; omega), H5.out.2.1.block _ hDl]
        exact HD.out.2.2.1
      have hA6 := (sl_get (at_of_row (k := 1) (enc := bEnc) (xs := pack bl) (fun _ => rfl) (by decide) (by rw [← HD.out.2.2.2.2.1]; exact ho6))).1
      have hcl := bclone_any A5 q c5 (pack bl) w6 HD.out.2.2.2.2.1 hA6 (by rw [← HD.out.2.2.2.2.1]; exact hq2)
      have y0 : w6.cell? ⟨g, 0, none⟩ = some (.slice A5 q c5) := by simp [World.cell?, hg6]
      have lg6 : g < w6.heap.size := (Array.getElem?_eq_some_iff.1 hg6).1
      have hD6l : D < w6.heap.size := (Array.getElem?_eq_some_iff.1 hD6).1
      have H6 := Lib.hid (⟨hcl, hb6, hD6⟩ : _ ∧ _ ∧ _)
      clear hw6 hg6 ho6 hb6 hD6 hA6 hcl v0 v1 vl vf H5 lg
      go_wp2_with fail
      (with_reducible refine H6.out.1.mono ?_)
      rintro e w7 ⟨v, rfl, ho7, b7⟩
      have H7 := Lib.hid (⟨ho7, b7⟩ : _ ∧ _)
      clear ho7 b7 y0 lg6
      go_wp2
      refine ⟨⟨[D], ⟨rfl, by simp, ?held⟩⟩, fun w' hb hk => ⟨.tuple #[v, .int .i64 0], by simp [results, Tryd.results9, go_sem], ⟨.inr ⟨HRL.out, v, rfl, ?own⟩, ?bel⟩⟩⟩
      case held =>
        rintro D' h
        simp only [List.mem_cons, List.not_mem_nil, or_false] at h
        subst h
        exact ⟨Nat.le_trans H3.out.2.1.size HD.out.2.2.2.2.2, (H7.out.2.block _ hD6l).trans H6.out.2.2⟩
      case own =>
        rw [HD.out.2.2.2.1]
        exact owns_same (owns_base H7.out.1 H6.out.2.1.size) fun _ _ _ hg => hk _ _ hg rfl
      case bel => exact (bchain H6.out.2.1 H7.out.2).trans hb
end Go.Proofs.YtpnnbihofoomeaaDoor

/-
  plan.Size, Most; bytes.Equal.
-/
namespace Go.Proofs.YtpnnbihofoomeaaDoor
open Go.RowKit Go.Shelf
attribute [local go_sem] Oper.semAt_some

theorem next_wid {L : Lay} (hr : rightL L = true) {pre : List Fld} {x : Fld} (hx : pre ++ [x] <+: fieldsL L) : ∃ wd : Nat, x.2 = (wd : Int) ∧ widF pre + wd ≤ 1600 ∧ widF (pre ++ [x]) = widF pre + wd := by
  obtain ⟨n, wd, rfl, _, _, hl, _⟩ := next_fit hr hx
  rw [bitsF_length] at hl
  refine ⟨wd, rfl, hl, ?_⟩
  rw [widF_append]
  simp [widF]
def sizeL (L : Lay) : Nat := if rightL L then (bytesL L).length else 0

set_option maxRecDepth 100000 in
set_option maxHeartbeats 16000000 in
theorem size_any (L : Lay) (P : Where) (w : World) (hL : LayAt w P L) (K : Kinds w) : Calls Tryd.prog 15 #[L.val P] w fun e w' => e = .returned (.int .i64 (sizeL L : Nat)) ∧ Below w.heap.size w w' := by
  refine calls_marked w.heap.size Tryd.func15 rfl ?_
  have HR := Lib.hid (fun W (h : Below w.heap.size w W) => rightLay_any L P W (hL.below h) (K.below h))
  have HF := Lib.hid (fun W => fields_fn L P W)
  have HL := Lib.hid (⟨hL, K⟩ : _ ∧ _)
  clear hL K
  obtain ⟨a0, a1, a2, a3, p0, p1, p2, p3⟩ := P
  unfold Lay.val at *
  simp only [Tryd.ntmps15, List.size_toArray, List.length_cons, List.length_nil, Nat.reduceAdd, Nat.reduceSub, Array.replicate_succ, Array.replicate_zero, List.push_toArray, List.append_toArray, List.nil_append, List.cons_append]
  go_wp2_with fail
  obtain ⟨g, hg⟩ : ∃ g, g = w.heap.size + 1 := ⟨_, rfl⟩
  have hX := ((BoxL.make (W := w) (L := L) (p := ⟨a0, a1, a2, a3, p0, p1, p2, p3⟩) (n := w.heap.size) 29 rfl).below (bself (o := .cells #[.int .i64 0] 3)))
  have HX := Lib.hid hX
  clear hX
  (with_reducible refine (HR.out _ (bchain bself bself)).mono ?_)
  rintro e w1 ⟨rfl, b1⟩
  have hgh : w1.heap[g]? = some (.cells #[.int .i64 0] 3 (0, 0)) := by
    rw [hg, b1.block _ (by simp)]
    have := World.alloc_heap_new (w.alloc (.cells #[.slice a0 L.secs.length p0, .slice a1 L.sigs.length p1, .slice a2 L.exits.length p2, .slice a3 L.flanks.length p3, .int .i64 L.t0, .int .i64 L.t1, .int .i64 L.t2, .int .i64 L.t3, .int .i64 L.t4, .int .i64 L.t5, .int .i64 L.t6] 29)) (.cells #[.int .i64 0] 3)
    simpa using this
  have H1 := Lib.hid (⟨hgh, HX.out.below b1, (bchain (bchain bself bself) b1 : Below w.heap.size w w1)⟩ : _ ∧ _ ∧ _)
  have hszg : g < w1.heap.size := (Array.getElem?_eq_some_iff.1 hgh).1
  have HG := Lib.hid hg
  clear hgh HX b1
  cases hrl : rightL L with
  | false =>
    have y0 : w1.cell? ⟨g, 0, none⟩ = some (.int .i64 0) := by simp [World.cell?, H1.out.1]
    rw [hg] at y0 hszg
    go_wp2
    exact ⟨⟨[], Marked.nil _ _⟩, fun w' hb hk => ⟨.int .i64 0, by simp [results, Tryd.results15, go_sem], ⟨by unfold sizeL; rw [hrl]; rfl, H1.out.2.2.trans hb⟩⟩⟩
  | true =>
    obtain ⟨x0, x1, x2, x3, x4, x5, x6, x7, x8, x9, x10⟩ := H1.out.2.1.cells
    dsimp only at x0 x1 x2 x3
    have lx := H1.out.2.1.1
    rw [← hg]
    clear hg
    go_wp2_with fail
    (with_reducible refine (HF.out _).mono ?_)
    rintro e w3 ⟨rfl, hw3⟩
    have hb3 : Below w1.heap.size w1 w3 := by rw [hw3]; exact bself
    have h3 : w3.heap[w1.heap.size]? = some (.cells (L.cells ⟨a0, a1, a2, a3, p0, p1, p2, p3⟩).toArray 29 (0, 0)) := by rw [hw3]; exact World.alloc_heap_new _ _
    obtain ⟨Bl, hBl⟩ : ∃ Bl, Bl = w1.heap.size := ⟨_, rfl⟩
    rw [← hBl] at h3 ⊢
    have hgB : g < Bl := by omega
    have hwg : w.heap.size ≤ g := by have := HG.out; omega
    have H3 := Lib.hid (⟨h3, bchain H1.out.2.2 hb3, (hb3.block g hszg).trans H1.out.1, Nat.lt_of_lt_of_le hszg hb3.size⟩ : _ ∧ _ ∧ _ ∧ _)
    have HRL := Lib.hid hrl
    clear h3 hb3 hw3 hBl H1 hszg hrl x0 x1 x2 x3 x4 x5 x6 x7 x8 x9 x10 lx
    go_wp2_with fail
    refine wp_act fun T hT => ?_
    refine wp_range_m (α := Fld) (gf := 57) (lb := #[.pointer (some ⟨Bl, 0, none⟩)]) (encs := fV) (xs := fieldsL L) (by rw [hT]; rfl) (enters_of Tryd.func57 (by kernel_rfl) rfl)
      (fun k => k = g) NoT w.heap.size NoB (by rintro k rfl; exact H3.out.2.2.2) (fun _ h => h.elim)
      (fields_seq L _ _ _ w w3 Bl HL.out.1 HL.out.2 HRL.out (right_few' HRL.out) H3.out.2.1 (by rintro k rfl; exact ⟨hwg, H3.out.2.2.2⟩) (fun _ h => h.elim) (by omega) H3.out.1) (fun _ => rfl)
      (fun pre W => W.heap[g]? = some (.cells #[.int .i64 (widF pre : Nat)] 3 (0, 0))) (fun s X Y h k _ => k _ _ h rfl) (fun s X Y h k => k.cells _ _ h rfl)
      H3.out.2.2.1
      (FAx T 11 4) (fun _ _ _ _ h k _ => h.same k) ?assign ?body ?done
    case assign =>
      intro l x W K hK
      subst hT
      simp only [fV]
      obtain ⟨xa, xb⟩ := x
      dsimp only
      gi_wp2
      refine hK _ _ bself ⟨W.heap.size, ?_, World.alloc_heap_new _ _⟩
      simp only [List.setIfInBounds_toArray, List.set_cons_zero, List.set_cons_succ]
    case body =>
      rintro l pre x a' W hw hgh ⟨bx, rfl, hbx⟩ hx
      obtain ⟨wd, hxw, hlen, hwid⟩ := next_wid HRL.out hx
      obtain ⟨s, hs⟩ : ∃ s, s = widF pre := ⟨_, rfl⟩
      rw [← hs] at hgh hlen hwid
      obtain ⟨xa, xb⟩ := x
      dsimp only at hxw
      subst hxw
      have y0 : W.cell? ⟨g, 0, none⟩ = some (.int .i64 s) := by simp [World.cell?, hgh]
      have lg : g < W.heap.size := (Array.getElem?_eq_some_iff.1 hgh).1
      have fg : W.frozen? ⟨g, 0, none⟩ = false := frozen_of_row _ _ _ _ _ hgh
      have z1 : W.cell? ⟨bx, 1, none⟩ = some (.int .i64 wd) := by simp [World.cell?, hbx]
      have lb : bx < W.heap.size := (Array.getElem?_eq_some_iff.1 hbx).1
      have e1 : IntKind.i64.wrap ((s : Int) + (wd : Int)) = ((s + wd : Nat) : Int) := by rw [IntWalk.i64_in _ (by omega)]; omega
      have HW := Lib.hid (⟨hgh, hwid⟩ : _ ∧ _)
      subst hT
      simp only [List.setIfInBounds_toArray, List.set_cons_zero, List.set_cons_succ]
      clear hgh hbx hx hlen hwid hs hw
      gi_wp2
      refine ⟨WritesE.setCell (A := fun b => b = g) (p := ⟨g, 0, none⟩) (WritesE.refl _ _ _ _) rfl _, ?_⟩
      show _ = some (Obj.cells #[.int .i64 (widF (pre ++ [(xa, (wd : Int))]) : Nat)] 3 (0, 0))
      rw [HW.out.2, heap_setCell_same _ _ _ _ _ _ HW.out.1]
      rfl
    case done =>
      rintro D W hD hw hgh hK
      have hB := hw.below H3.out.2.1 (H3.out.2.1.size) (Nat.le_refl _) (by rintro k (rfl | h); exact hwg; exact h.elim)
      have hlen := (right_fields HRL.out).2.1
      have hsz : sizeL L = (widF (fieldsL L) + 7) / 8 := by
        unfold sizeL bytesL
        rw [if_pos HRL.out, pack_length, bitsF_length]
      obtain ⟨s, hs⟩ : ∃ s, s = widF (fieldsL L) := ⟨_, rfl⟩
      rw [← hs] at hgh hlen hsz
      have y0 : W.cell? ⟨g, 0, none⟩ = some (.int .i64 s) := by simp [World.cell?, hgh]
      have lg : g < W.heap.size := (Array.getElem?_eq_some_iff.1 hgh).1
      have e1 : IntKind.i64.wrap ((s : Int) + 7) = ((s + 7 : Nat) : Int) := by rw [IntWalk.i64_in _ (by omega)]; omega
      have HD := Lib.hid (⟨hB, hK, hsz, hD⟩ : _ ∧ _ ∧ _ ∧ _)
      obtain ⟨r, hr⟩ : ∃ r, r = (s + 7) / 8 := ⟨_, rfl⟩
      have e2 : wrap64 (((s : Int) + 7).tdiv 8) = (r : Int) := by
        rw [Int.tdiv_eq_ediv_of_nonneg (by omega)]
        clear e1
        unfold wrap64
        omega
      have HRR := Lib.hid hr
      clear hw hgh hB hK hsz hlen hs hD hr
      subst hT
      dsimp only
      go_wp2
      refine ⟨⟨[D], ⟨rfl, by simp, ?held⟩⟩, fun w' hb hk => ⟨.int .i64 (r : Nat), by simp [results, Tryd.results15, go_sem, e2], ⟨by rw [HD.out.2.2.1, HRR.out], HD.out.1.trans hb⟩⟩⟩
      rintro D' h
      simp only [List.mem_cons, List.not_mem_nil, or_false] at h
      subst h
      exact ⟨Nat.le_trans H3.out.2.1.size HD.out.2.2.2, HD.out.2.1⟩
end Go.Proofs.YtpnnbihofoomeaaDoor
