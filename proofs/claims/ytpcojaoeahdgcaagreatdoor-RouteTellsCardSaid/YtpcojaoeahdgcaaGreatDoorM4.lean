/-
  topo.over: an exit's overlap.
-/
import Derived.Test.YtpcojaoeahdgcaaGreatDoorM3
import Derived.Deep.DeepCutAuto
import Derived.Deep.RegionHeld3
import Derived.Deep.RegionWith

namespace Go.Proofs.YtpcojaoeahdgcaaGreatDoor
open Go.RowKit Go.Shelf
attribute [local go_sem ↓ high] eqQ_portI

/-- Is the overlap one, from a port on, with sections gone through. -/
def overF (L : Lay) (s q : Int) (seen : List Int) : List Stp → Bool
  | [] => true
  | x :: r => decide (beyL L s q = ⟨x.s, x.i⟩) && !(seen.contains x.s) && overF L x.s x.o (x.s :: seen) r
def overOk (L : Lay) (x : Ext') : Bool := overF L x.s x.p [x.s] x.over
/-- How often a section was gone through. -/
def cnt (seen : List Int) (j : Nat) : Int := (seen.filter fun z => z == (j : Int)).length
theorem cnt_cons (z : Int) (seen : List Int) (j : Nat) : cnt (z :: seen) j = (if z = (j : Int) then cnt seen j + 1 else cnt seen j) := by
  unfold cnt
  rw [List.filter_cons]
  by_cases h : z = (j : Int)
  · simp [h]
  · simp [h]
theorem cnt_pos (seen : List Int) (j : Nat) : (0 < cnt seen j) ↔ seen.contains (j : Int) = true := by
  unfold cnt
  rw [List.contains_iff_mem]
  constructor
  · intro h
    have : 0 < (seen.filter fun z => z == (j : Int)).length := by omega
    obtain ⟨z, hz⟩ := List.exists_mem_of_length_pos this
    obtain ⟨h1, h2⟩ := List.mem_filter.1 hz
    rw [beq_iff_eq] at h2
    exact h2 ▸ h1
  · intro h
    have : 0 < (seen.filter fun z => z == (j : Int)).length := List.length_pos_of_mem (List.mem_filter.2 ⟨h, by simp⟩)
    omega
/-- The sections gone through, as they are counted. -/
structure SeenAt (W : World) (b : Nat) (seen : List Int) : Prop where
  lt : b < W.heap.size
  cell : ∀ j, j < 24 → W.cell? ⟨b, j, none⟩ = some (.int .i64 (cnt seen j))
  free : ∀ j, W.frozen? ⟨b, j, none⟩ = false
theorem SeenAt.below {W W' : World} {b : Nat} {seen : List Int} (h : SeenAt W b seen) (hb : Below W.heap.size W W') : SeenAt W' b seen :=
  ⟨Nat.lt_of_lt_of_le h.lt hb.size, fun j hj => (hb.cell (p := ⟨b, j, none⟩) h.lt).trans (h.cell j hj), fun j => (hb.frozen (p := ⟨b, j, none⟩) h.lt).trans (h.free j)⟩
theorem SeenAt.other {W : World} {b g o : Nat} {v : Value} {seen : List Int} (h : SeenAt W b seen) (hg : b ≠ g) : SeenAt (W.setCell ⟨g, o, none⟩ v) b seen :=
  ⟨by simpa [World.setCell] using h.lt, fun j hj => by rw [World.cell?_setCell_far _ _ _ _ (by simpa using hg.symm)]; exact h.cell j hj, fun j => by rw [World.frozen?_setCell]; exact h.free j⟩
theorem SeenAt.more {W : World} {b m : Nat} {seen : List Int} (h : SeenAt W b seen) (hm : m < 24) : SeenAt (W.setCell ⟨b, m, none⟩ (.int .i64 (cnt seen m + 1))) b ((m : Int) :: seen) := by
  refine ⟨by simpa [World.setCell] using h.lt, fun j hj => ?_, fun j => by rw [World.frozen?_setCell]; exact h.free j⟩
  rw [cnt_cons]
  by_cases e : j = m
  · subst e
    rw [if_pos rfl]
    simp [go_sem, h.cell j hj]
  · rw [if_neg (by omega)]
    have := h.cell j hj
    simp [go_sem, this]

theorem zeros_at (m : Nat) (hm : m < 24) : (#[.int .i64 0, .int .i64 0, .int .i64 0, .int .i64 0, .int .i64 0, .int .i64 0, .int .i64 0, .int .i64 0, .int .i64 0, .int .i64 0, .int .i64 0, .int .i64 0, .int .i64 0, .int .i64 0, .int .i64 0, .int .i64 0, .int .i64 0, .int .i64 0, .int .i64 0, .int .i64 0, .int .i64 0, .int .i64 0, .int .i64 0, .int .i64 0] : Array Value)[m]? = some (.int .i64 0) := by
  have : m = 0 ∨ m = 1 ∨ m = 2 ∨ m = 3 ∨ m = 4 ∨ m = 5 ∨ m = 6 ∨ m = 7 ∨ m = 8 ∨ m = 9 ∨ m = 10 ∨ m = 11 ∨ m = 12 ∨ m = 13 ∨ m = 14 ∨ m = 15 ∨ m = 16 ∨ m = 17 ∨ m = 18 ∨ m = 19 ∨ m = 20 ∨ m = 21 ∨ m = 22 ∨ m = 23 := by omega
  rcases this with rfl | rfl | rfl | rfl | rfl | rfl | rfl | rfl | rfl | rfl | rfl | rfl | rfl | rfl | rfl | rfl | rfl | rfl | rfl | rfl | rfl | rfl | rfl | rfl <;> rfl
theorem SeenAt.make (W : World) (t : TypeId) : SeenAt (W.alloc (.cells #[.int .i64 0, .int .i64 0, .int .i64 0, .int .i64 0, .int .i64 0, .int .i64 0, .int .i64 0, .int .i64 0, .int .i64 0, .int .i64 0, .int .i64 0, .int .i64 0, .int .i64 0, .int .i64 0, .int .i64 0, .int .i64 0, .int .i64 0, .int .i64 0, .int .i64 0, .int .i64 0, .int .i64 0, .int .i64 0, .int .i64 0, .int .i64 0] t)) W.heap.size [] :=
  ⟨by simp, fun j hj => by rw [World.cell?_alloc_at _ _ _ _ rfl]; exact zeros_at j hj, fun j => by simp [go_sem]⟩

set_option maxRecDepth 100000 in
set_option maxHeartbeats 8000000 in
theorem over_any (L : Lay) (P : Where) (x : Ext') (vA : Option Addr) (vc : Nat) (w : World) (hL : LayAt w P L) (K : Kinds w) (E : JEnd w) (hA : At w 3 Stp.enc vA x.over) (hl : x.over.length ≤ vc) (hm : vc ≤ 9223372036854775807)
    (hx : 0 ≤ x.s ∧ x.s < 24) (hs : ∀ s ∈ x.over, 0 ≤ s.s ∧ s.s < 24) :
    Calls Tryz.prog 88 #[L.val P, .agg #[.int .i64 x.s, .int .i64 x.p, .slice vA x.over.length vc]] w fun e w' => e = .returned (.bool (overOk L x)) ∧ Below w.heap.size w w' := by
  obtain ⟨r, hr⟩ : ∃ r, r = overOk L x := ⟨_, rfl⟩
  rw [← hr]
  unfold overOk at hr
  obtain ⟨xs, xp, ov⟩ := x
  dsimp only at *
  obtain ⟨a, rfl⟩ : ∃ a : Nat, xs = (a : Int) := ⟨xs.toNat, by omega⟩
  have ha : a < 24 := by omega
  have hbey := fun (W : World) (s q : Int) (hb : Below w.heap.size w W) => beyJ_any L P s q W (hL.below hb) (K.below hb) (E.below hb)
  obtain ⟨len, hlen⟩ : ∃ len, len = ov.length := ⟨_, rfl⟩
  have HLN := Lib.hid hlen
  have m0 : len ≤ 9223372036854775807 := by omega
  rw [← hlen]
  unfold Lay.val at hbey ⊢
  obtain ⟨a0, a1, a2, a3, p0, p1, p2, p3⟩ := P
  have HR := Lib.hid hr
  have HBY := Lib.hid hbey
  have HA := Lib.hid hA
  have HS := Lib.hid hs
  clear hr hbey hA hs hx hL K E hl hm hlen
  go_enter Tryz.func88, Tryz.ntmps88
  go_wp2_with fail
  refine wp_scope_fwd 0 rfl ?_
  go_upto_region 3 with fail
  obtain ⟨X, hX⟩ : ∃ X, X = (((w.alloc (.cells #[.slice a0 L.secs.length p0, .slice a1 L.sigs.length p1, .slice a2 L.exits.length p2, .slice a3 L.flanks.length p3, .int .i64 L.t0, .int .i64 L.t1, .int .i64 L.t2, .int .i64 L.t3, .int .i64 L.t4, .int .i64 L.t5, .int .i64 L.t6] 29)).alloc (.cells #[.int .i64 a, .int .i64 xp, .slice vA len vc] 51)).alloc (.cells #[.int .i64 0, .int .i64 0, .int .i64 0, .int .i64 0, .int .i64 0, .int .i64 0, .int .i64 0, .int .i64 0, .int .i64 0, .int .i64 0, .int .i64 0, .int .i64 0, .int .i64 0, .int .i64 0, .int .i64 0, .int .i64 0, .int .i64 0, .int .i64 0, .int .i64 0, .int .i64 0, .int .i64 0, .int .i64 0, .int .i64 0, .int .i64 0] 133)).alloc (.cells #[.int .i64 a, .int .i64 xp] 49) := ⟨_, rfl⟩
  have hB : Below w.heap.size w X := by rw [hX]; exact bchain (bchain (bchain bself bself) bself) bself
  have hL1 : BoxL X w.heap.size L ⟨a0, a1, a2, a3, p0, p1, p2, p3⟩ := by rw [hX]; exact (((BoxL.make _ rfl).below bself).below bself).below bself
  have hS1 : SeenAt X (w.heap.size + 1 + 1) [] := by
    rw [hX]
    have h := SeenAt.make ((w.alloc (.cells #[.slice a0 L.secs.length p0, .slice a1 L.sigs.length p1, .slice a2 L.exits.length p2, .slice a3 L.flanks.length p3, .int .i64 L.t0, .int .i64 L.t1, .int .i64 L.t2, .int .i64 L.t3, .int .i64 L.t4, .int .i64 L.t5, .int .i64 L.t6] 29)).alloc (.cells #[.int .i64 a, .int .i64 xp, .slice vA len vc] 51)) 133
    simp only [World.size_alloc] at h
    exact h.below bself
  have lX : X.heap.size = w.heap.size + 1 + 1 + 1 + 1 := by rw [hX]; simp
  have e2 : X.cell? ⟨w.heap.size + 1, 2, none⟩ = some (.slice vA len vc) := by rw [hX]; simp [go_sem]
  have q0 : X.cell? ⟨w.heap.size + 1 + 1 + 1, 0, none⟩ = some (.int .i64 a) := by rw [hX]; simp [go_sem]
  have q1 : X.cell? ⟨w.heap.size + 1 + 1 + 1, 1, none⟩ = some (.int .i64 xp) := by rw [hX]; simp [go_sem]
  have qf : ∀ o, X.frozen? ⟨w.heap.size + 1 + 1 + 1, o, none⟩ = false := fun o => by rw [hX]; simp [go_sem]
  have cS := hS1.cell a ha
  have fS := hS1.free a
  rw [show cnt [] a = 0 from rfl] at cS
  rw [← hX]
  have l1 : w.heap.size + 1 < X.heap.size := by omega
  have l2 : w.heap.size + 1 + 1 < X.heap.size := by omega
  have l3 : w.heap.size + 1 + 1 + 1 < X.heap.size := by omega
  have ha2 : (a : Int) < 24 := by omega
  have HX := Lib.hid (⟨hB, hL1, hS1, q1, qf⟩ : _ ∧ _ ∧ _ ∧ _ ∧ _)
  clear hX hB hL1 hS1 q1 qf lX
  go_wp2_with fail
  have hB1 : Below w.heap.size w (X.setCell ⟨w.heap.size + 1 + 1, a, none⟩ (.int .i64 1)) := HX.out.1.setCell (p := ⟨w.heap.size + 1 + 1, a, none⟩) (by dsimp only; omega) _
  have hL2 : BoxL (X.setCell ⟨w.heap.size + 1 + 1, a, none⟩ (.int .i64 1)) w.heap.size L ⟨a0, a1, a2, a3, p0, p1, p2, p3⟩ := HX.out.2.1.set (by omega)
  have hS2 : SeenAt (X.setCell ⟨w.heap.size + 1 + 1, a, none⟩ (.int .i64 1)) (w.heap.size + 1 + 1) [(a : Int)] := HX.out.2.2.1.more ha
  have q0' : (X.setCell ⟨w.heap.size + 1 + 1, a, none⟩ (.int .i64 1)).cell? ⟨w.heap.size + 1 + 1 + 1, 0, none⟩ = some (.int .i64 a) := by simpa [go_sem] using q0
  have q1' : (X.setCell ⟨w.heap.size + 1 + 1, a, none⟩ (.int .i64 1)).cell? ⟨w.heap.size + 1 + 1 + 1, 1, none⟩ = some (.int .i64 xp) := by simpa [go_sem] using HX.out.2.2.2.1
  have qf' : ∀ o, (X.setCell ⟨w.heap.size + 1 + 1, a, none⟩ (.int .i64 1)).frozen? ⟨w.heap.size + 1 + 1 + 1, o, none⟩ = false := fun o => by rw [World.frozen?_setCell]; exact HX.out.2.2.2.2 o
  have HI := Lib.hid (⟨hB1, hL2, hS2, q0', q1', qf'⟩ : _ ∧ _ ∧ _ ∧ _ ∧ _ ∧ _)
  have hc1 : ∀ j, cnt [(a : Int)] j ≤ 1 := fun j => by rw [cnt_cons]; split <;> simp [cnt]
  have HC1 := Lib.hid hc1
  clear hB1 hL2 hS2 q0' q1' qf' hc1 cS fS HX q0 e2
  generalize (X.setCell ⟨w.heap.size + 1 + 1, a, none⟩ (.int .i64 1)) = Y at HI ⊢
  go_loopw [20] (fun c wr => ∃ (n : Nat) (s q : Int) (ss : List Int), n ≤ len ∧ c = .int .i64 n ∧ Hid (Below w.heap.size w wr ∧ BoxL wr w.heap.size L ⟨a0, a1, a2, a3, p0, p1, p2, p3⟩ ∧ SeenAt wr (w.heap.size + 1 + 1) ss ∧ wr.cell? ⟨w.heap.size + 1 + 1 + 1, 0, none⟩ = some (.int .i64 s) ∧ wr.cell? ⟨w.heap.size + 1 + 1 + 1, 1, none⟩ = some (.int .i64 q) ∧ ∀ o, wr.frozen? ⟨w.heap.size + 1 + 1 + 1, o, none⟩ = false) ∧ Hid (∀ j, cnt ss j ≤ 1) ∧ Hid (r = overF L s q ss (ov.drop n))) (fun c _ => len - (intOf c).toNat)
  case atStart => exact ⟨0, a, xp, [(a : Int)], Nat.zero_le _, rfl, HI, HC1, HR⟩
  case round =>
    obtain ⟨n, s, q, ss, hn, rfl, HI, HC1, HR⟩ := hrel
    have lY := HI.out.2.1.1
    by_cases hlt : n < len
    · obtain ⟨b, off, hAe, hrow⟩ := HA.out.get (j := n) (by rw [← HLN.out]; exact hlt)
      subst hAe
      obtain ⟨y, hy⟩ : ∃ y, ov[n]? = some y := ⟨ov[n]'(by rw [← HLN.out]; exact hlt), List.getElem?_eq_getElem _⟩
      have hym := HS.out y (List.mem_of_getElem? hy)
      have hdrop : ov.drop n = y :: ov.drop (n + 1) := by
        obtain ⟨h1, h2⟩ := List.getElem?_eq_some_iff.1 hy
        rw [List.drop_eq_getElem_cons h1, h2]
      obtain ⟨ys, yi, yo⟩ := y
      dsimp only at hym
      obtain ⟨m, rfl⟩ : ∃ m : Nat, ys = (m : Int) := ⟨ys.toNat, by omega⟩
      have hm : m < 24 := by omega
      have hmI : (m : Int) < 24 := by omega
      have lb := hrow.1
      have k0 : wr.cell? ⟨b, off + n * 3, none⟩ = some (.int .i64 m) := (HI.out.1.cell (p := ⟨b, off + n * 3, none⟩) lb).trans (hrow.2 n _ hy 0 _ rfl)
      have k1 : wr.cell? ⟨b, off + n * 3 + 1, none⟩ = some (.int .i64 yi) := (HI.out.1.cell (p := ⟨b, off + n * 3 + 1, none⟩) lb).trans (hrow.2 n _ hy 1 _ rfl)
      have k2 : wr.cell? ⟨b, off + n * 3 + 2, none⟩ = some (.int .i64 yo) := (HI.out.1.cell (p := ⟨b, off + n * 3 + 2, none⟩) lb).trans (hrow.2 n _ hy 2 _ rfl)
      have lb2 : b < wr.heap.size := Nat.lt_of_lt_of_le lb HI.out.1.size
      obtain ⟨c0, c1, c2, c3, c4, c5, c6, c7, c8, c9, c10⟩ := HI.out.2.1.cells
      dsimp only at c0 c1 c2 c3
      have s0 := HI.out.2.2.2.1
      have s1 := HI.out.2.2.2.2.1
      have l2 : w.heap.size + 1 + 1 < wr.heap.size := HI.out.2.2.1.lt
      have l3 : w.heap.size + 1 + 1 + 1 < wr.heap.size := World.block_lt_of_cell? _ _ s0
      have hr := HR.out
      rw [hdrop] at hr
      simp only [overF] at hr
      have hb1 := HBY.out (wr.alloc (.cells #[.int .i64 m, .int .i64 yi, .int .i64 yo] 47)) s q (bchain HI.out.1 bself)
      have hbx : ∀ W, Below (wr.alloc (.cells #[.int .i64 m, .int .i64 yi, .int .i64 yo] 47)).heap.size (wr.alloc (.cells #[.int .i64 m, .int .i64 yi, .int .i64 yo] 47)) W → _ := fun W hW => HBY.out W s q (bchain (bchain HI.out.1 bself) hW)
      obtain ⟨z, hz⟩ : ∃ z, z = beyL L s q := ⟨_, rfl⟩
      rw [← hz] at hr
      simp only [← hz] at hbx
      obtain ⟨zs, zp⟩ := z
      dsimp only at hbx
      have HB5 := Lib.hid hbx
      have HRN := Lib.hid hr
      clear hbx hb1 hr hz hdrop hrow hy hym
      go_wp2_with fail
      refine wp_region_ext (by kernel_rfl) (by kernel_rfl) fun hx => ?_
      repeat (go_big_quiet_step ((go_at_call 34; exact Calls.ext (HB5.out _ (Ext.below _)))))
      refine wpQuiet_nil ?_
      intro w5 b5
      have HI5 := Lib.hid (⟨bchain (bchain HI.out.1 bself) b5, (HI.out.2.1.below bself).below b5, (HI.out.2.2.1.below bself).below b5⟩ : _ ∧ _ ∧ _)
      obtain ⟨hc, hf, hzz⟩ := bcell b5
      have y0 : w5.cell? ⟨wr.heap.size, 0, none⟩ = some (.int .i64 m) := (hc _ _ (by simp)).trans (by simp [go_sem])
      have y2 : w5.cell? ⟨wr.heap.size, 2, none⟩ = some (.int .i64 yo) := (hc _ _ (by simp)).trans (by simp [go_sem])
      have z0 : w5.cell? ⟨w.heap.size + 1 + 1 + 1, 0, none⟩ = some (.int .i64 s) := (hc _ _ (by simp; omega)).trans (by simp [go_sem, l3, s0])
      have z1 : w5.cell? ⟨w.heap.size + 1 + 1 + 1, 1, none⟩ = some (.int .i64 q) := (hc _ _ (by simp; omega)).trans (by simp [go_sem, l3, s1])
      have zf : ∀ o, w5.frozen? ⟨w.heap.size + 1 + 1 + 1, o, none⟩ = false := fun o => (hf _ _ (by simp; omega)).trans (((bself (w := wr) (o := _)).frozen (p := ⟨w.heap.size + 1 + 1 + 1, o, none⟩) l3).trans (HI.out.2.2.2.2.2 o))
      have ly : wr.heap.size < w5.heap.size := hzz _ (by simp)
      have cm := HI5.out.2.2.cell m hm
      have fm := HI5.out.2.2.free m
      have fm0 := zf 0
      have fm1 := zf 1
      have n2 : wr.heap.size ≠ w.heap.size + 1 + 1 := by omega
      have n3 : wr.heap.size ≠ w.heap.size + 1 + 1 + 1 := by omega
      have HZF := Lib.hid zf
      clear hc hf hzz b5 s0 s1 c0 c1 c2 c3 c4 c5 c6 c7 c8 c9 c10 k0 k1 k2 HI zf
      by_cases hz : zs = m ∧ zp = yi
      · obtain ⟨rfl, rfl⟩ := hz
        have hcc : cnt ss m = 0 ∨ cnt ss m = 1 := by
          have h1 := HC1.out m
          have h2 : 0 ≤ cnt ss m := by unfold cnt; omega
          omega
        rcases hcc with h0 | h0
        · rw [h0] at cm
          have hct : ss.contains (m : Int) = false := by
            cases h : ss.contains (m : Int) with
            | false => rfl
            | true => have := (cnt_pos ss m).2 h; omega
          have hr2 := HRN.out
          rw [hct] at hr2
          have HR2 := Lib.hid hr2
          have HCT := Lib.hid h0
          clear hr2 hct h0
          go_wp2
          go_roundw
          case rel =>
            refine ⟨n + 1, m, yo, (m : Int) :: ss, by omega, by go_num, Lib.hid ⟨?_, ?_, ?_, by simp [go_sem, z0], by simp [go_sem, z1], fun o => by simp only [World.frozen?_setCell]; exact HZF.out o⟩, Lib.hid (fun j => ?_), Lib.hid (HR2.out.trans (by simp))⟩
            · repeat refine Below.setCell ?_ (by dsimp only; omega) _
              exact HI5.out.1
            · exact ((HI5.out.2.1.set (by omega)).set (by omega)).set (by omega)
            · have hmr := HI5.out.2.2.more hm
              rw [HCT.out] at hmr
              exact (hmr.other (by omega)).other (by omega)
            · rw [cnt_cons]
              by_cases e : (m : Int) = (j : Int)
              · obtain rfl : m = j := by omega
                rw [if_pos rfl, HCT.out]
                omega
              · rw [if_neg e]
                exact HC1.out j
          case measure => simp [intOf]; omega
        · rw [h0] at cm
          have hct : ss.contains (m : Int) = true := (cnt_pos ss m).1 (by omega)
          have hrf : r = false := by
            have := HRN.out
            rw [hct] at this
            simpa using this
          clear h0 hct
          subst hrf
          go_wp2
          refine wp_goto ?_
          refine ⟨rfl, ?_⟩
          go_wp2
          rw [Exit.noGoto_ret]
          refine bodyPost_ret (v := .bool false) (by simp [results, Tryz.results88, go_sem]) rfl ⟨rfl, ?_⟩
          repeat refine Below.setCell ?_ (by dsimp only; omega) _
          exact HI5.out.1
      · have hrf : r = false := by
          have := HRN.out
          rw [decide_eq_false (by simpa using hz)] at this
          simpa using this
        subst hrf
        by_cases hz1 : zs = m
        · subst hz1
          have hz2 : ¬ zp = yi := fun h => hz ⟨rfl, h⟩
          have hd : decide (zp = yi) = false := decide_eq_false hz2
          clear hz
          go_wp2
          all_goals
            first
              | (exfalso; have hA : (!decide True) = false ∧ (!decide (zp = yi)) = false := by assumption
                 simp [hd] at hA)
              | (refine wp_goto ?_
                 refine ⟨rfl, ?_⟩
                 go_wp2
                 rw [Exit.noGoto_ret]
                 refine bodyPost_ret (v := .bool false) (by simp [results, Tryz.results88, go_sem]) rfl ⟨rfl, ?_⟩
                 exact HI5.out.1)
        · have hd : decide (zs = m) = false := decide_eq_false hz1
          clear hz
          go_wp2
          all_goals
            first
              | (exfalso; have hA : (!decide (zs = (m : Int))) = false ∧ (!decide (zp = yi)) = false := by assumption
                 simp [hd] at hA)
              | (refine wp_goto ?_
                 refine ⟨rfl, ?_⟩
                 go_wp2
                 rw [Exit.noGoto_ret]
                 refine bodyPost_ret (v := .bool false) (by simp [results, Tryz.results88, go_sem]) rfl ⟨rfl, ?_⟩
                 exact HI5.out.1)
    · obtain rfl : n = len := by omega
      have hrt : r = true := by
        have := HR.out
        rw [List.drop_eq_nil_of_le (by have := HLN.out; omega)] at this
        exact this
      subst hrt
      go_wp2
      rw [Exit.fwd_ret]
      refine bodyPost_ret (v := .bool true) (by simp [results, Tryz.results88, go_sem]) rfl ⟨rfl, ?_⟩
      exact HI.out.1
end Go.Proofs.YtpcojaoeahdgcaaGreatDoor

/-
  topo.rules: the closure of overlaps; topo.Over.
-/
namespace Go.Proofs.YtpcojaoeahdgcaaGreatDoor
open Go.RowKit Go.Shelf

theorem secAt_lt {L : Lay} {s : Int} {c : Sec} (h : secAt L s = some c) : 0 ≤ s ∧ s < L.secs.length := by
  apply Classical.byContradiction
  intro hn
  rw [secAt_none hn] at h
  cases h
theorem hasB_lt {L : Lay} {s q : Int} (h : hasB L s q = true) : 0 ≤ s ∧ s < L.secs.length := by
  unfold hasB atO at h
  cases hs : secAt L s with
  | none => rw [hs] at h; cases h
  | some c => exact secAt_lt hs
theorem stepB_lt {L : Lay} {s i o : Int} (h : stepB L s i o = true) : 0 ≤ s ∧ s < L.secs.length := by
  unfold stepB at h
  cases hs : secAt L s with
  | none => rw [hs] at h; cases h
  | some c => exact secAt_lt hs
theorem right_secs {L : Lay} (h : rightL L = true) : L.secs.length ≤ 24 := by
  unfold rightL sizesT at h
  simp only [Bool.and_eq_true, decide_eq_true_eq] at h
  omega
theorem right_exits {L : Lay} (h : rightL L = true) {x : Ext'} (hx : x ∈ L.exits) : (0 ≤ x.s ∧ x.s < 24) ∧ ∀ s ∈ x.over, 0 ≤ s.s ∧ s.s < 24 := by
  have h24 := right_secs h
  unfold rightL at h
  simp only [Bool.and_eq_true] at h
  obtain ⟨⟨_, hp⟩, he⟩ := h
  constructor
  · unfold portsT at hp
    rw [List.all_eq_true] at hp
    have := hasB_lt (hp (exP x) (by unfold portsL; simp only [List.mem_append, List.mem_map]; exact .inr (.inr ⟨x, hx, rfl⟩)))
    simp only [exP] at this
    omega
  · intro s hs
    rw [List.all_eq_true] at he
    have ho := he x hx
    unfold overT at ho
    simp only [Bool.and_eq_true, List.all_eq_true] at ho
    have := stepB_lt (ho.2 s hs)
    omega

set_option maxRecDepth 100000 in
set_option maxHeartbeats 8000000 in
theorem rule4_any (L : Lay) (p : Where) (g : Nat) (w : World) (hL : LayAt w p L) (K : Kinds w) (E : JEnd w) (hB : BoxL w g L p) (hR : rightL L = true) :
    Calls Tryz.prog 87 #[.pointer (some ⟨g, 0, none⟩)] w fun e w' => e = .returned (.int .i64 (idxOf' (fun x => !overOk L x) L.exits)) ∧ Below w.heap.size w w' := by
  have HX := Lib.hid (⟨fun n x => idx_hit (p := fun x => !overOk L x) (xs := L.exits) (n := n) (x := x), idx_miss (p := fun x => !overOk L x) (xs := L.exits)⟩ : _ ∧ _)
  generalize idxOf' (fun x => !overOk L x) L.exits = r at HX
  have m2 : L.exits.length ≤ 9223372036854775807 := Nat.le_trans hL.l2.1 hL.l2.2
  have HRE := Lib.hid (fun (x : Ext') (hx : x ∈ L.exits) => right_exits hR hx)
  obtain ⟨a0, a1, a2, a3, p0, p1, p2, p3⟩ := p
  obtain ⟨c0, c1, c2, c3, c4, c5, c6, c7, c8, c9, c10⟩ := hB.cells
  dsimp only at c0 c1 c2 c3
  have lg := hB.1
  have HL := Lib.hid hL
  have HK := Lib.hid (⟨K, E⟩ : _ ∧ _)
  have HB := Lib.hid hB
  clear hL K E hB hR
  go_enter Tryz.func87, Tryz.ntmps87
  go_wp2_with fail
  go_loopw [7] (fun c wr => ∃ n : Nat, n ≤ L.exits.length ∧ c = .int .i64 n ∧ Hid (Below w.heap.size w wr) ∧ Hid (∀ j, j < n → ∀ y, L.exits[j]? = some y → (!overOk L y) = false)) (fun c _ => L.exits.length - (intOf c).toNat)
  case atStart => exact ⟨0, Nat.zero_le _, rfl, Lib.hid (Below.refl _ w), Lib.hid (fun j hj => absurd hj (Nat.not_lt_zero _))⟩
  case round =>
    obtain ⟨n, hn, rfl, HW, HJ⟩ := hrel
    clear c0 c1 c2 c3 c4 c5 c6 c7 c8 c9 c10
    by_cases hlt : n < L.exits.length
    · obtain ⟨es, hes, hAt, hov⟩ := (HL.out.below HW.out).exits
      have hlen : es.length = L.exits.length := by rw [← hes, List.length_map]
      obtain ⟨b, off, hAe, hrow⟩ := hAt.get (j := n) (by omega)
      dsimp only at hAe
      subst hAe
      obtain ⟨y, hy⟩ : ∃ y, es[n]? = some y := ⟨es[n]'(by omega), List.getElem?_eq_getElem (by omega)⟩
      have hx : L.exits[n]? = some y.1 := by rw [← hes, List.getElem?_map, hy]; rfl
      have k0 : wr.cell? ⟨b, off + n * 3, none⟩ = some (.int .i64 y.1.s) := hrow.2 n y hy 0 _ rfl
      have k1 : wr.cell? ⟨b, off + n * 3 + 1, none⟩ = some (.int .i64 y.1.p) := hrow.2 n y hy 1 _ rfl
      have k2 : wr.cell? ⟨b, off + n * 3 + 2, none⟩ = some y.2 := hrow.2 n y hy 2 _ rfl
      obtain ⟨vA, vc, ve, hvl, hvm, hva⟩ := hov y (List.mem_of_getElem? hy)
      rw [ve] at k2
      have hre := HRE.out y.1 (List.mem_of_getElem? hx)
      have hcall := over_any L ⟨a0, a1, some ⟨b, off, none⟩, a3, p0, p1, p2, p3⟩ y.1 vA vc (wr.alloc (.cells #[.int .i64 y.1.s, .int .i64 y.1.p, .slice vA y.1.over.length vc] 51)) (HL.out.below (bchain HW.out bself)) (HK.out.1.below (bchain HW.out bself)) (HK.out.2.below (bchain HW.out bself)) (hva.below bself) hvl hvm hre.1 hre.2
      obtain ⟨q, hq⟩ : ∃ q, q = overOk L y.1 := ⟨_, rfl⟩
      rw [← hq] at hcall
      unfold Lay.val at hcall
      have HXX := Lib.hid (⟨hx, hq⟩ : _ ∧ _)
      have HC := Lib.hid hcall
      have lb := hrow.1
      obtain ⟨c0, c1, c2, c3, c4, c5, c6, c7, c8, c9, c10⟩ := (HB.out.below HW.out).cells
      dsimp only at c0 c1 c2 c3
      have lg2 := (HB.out.below HW.out).1
      generalize y.1.s = es1 at k0 HC
      generalize y.1.p = ep1 at k1 HC
      generalize y.1.over.length = ol at k2 HC
      clear hes hAt hov hlen hrow hy hx hq hcall ve hvl hvm hva hre
      go_wp2_with fail
      (with_reducible refine HC.out.mono ?_)
      rintro e w1 ⟨rfl, b1⟩
      have HB1 := Lib.hid (bchain (bchain HW.out bself) b1)
      clear b1 HC
      cases q with
      | false =>
        go_wp2
        go_ret
        obtain rfl := HX.out.1 n y.1 HXX.out.1 (by rw [← HXX.out.2]; rfl) HJ.out
        exact ⟨rfl, HB1.out⟩
      | true =>
        go_wp2
        go_roundw
        case rel =>
          refine ⟨n + 1, by omega, by go_num, HB1, Lib.hid (fun j hj z hz => ?_)⟩
          by_cases e : j = n
          · subst e
            rw [HXX.out.1] at hz
            cases hz
            rw [← HXX.out.2]
            rfl
          · exact HJ.out j (by omega) z hz
        case measure => simp [intOf]; omega
    · obtain rfl : n = L.exits.length := by omega
      go_wp2
      go_ret
      obtain rfl := HX.out.2 HJ.out
      exact ⟨rfl, HW.out⟩

/-- Is the overlap of an exit, told by its number, one? -/
def overX (L : Lay) (x : Int) : Bool := rightL L && (if 0 ≤ x then (match L.exits[x.toNat]? with
  | some e => overOk L e
  | none => false) else false)
end Go.Proofs.YtpcojaoeahdgcaaGreatDoor

/-
  topo.rules, Check, Right.
-/
namespace Go.Proofs.YtpcojaoeahdgcaaGreatDoor
open Go.RowKit Go.Shelf

/-- Of what a rule is not kept first; -1: it is kept. -/
def ruleN (L : Lay) : Nat → Int
  | 0 => if joinedL L then -1 else 0
  | 1 => firstDup (sigP L) L.sigs.length
  | 2 => firstDup (exQ L) L.exits.length
  | 3 => idxOf' (fun x => !overOk L x) L.exits
  | _ => firstDup (flQ L) L.flanks.length
/-- The rule that is not kept first, of what, and how it is told. -/
def checkL (L : Lay) : Int × Int × Int :=
  if rightL L then
    if 0 ≤ ruleN L 0 then (1, ruleN L 0, 90) else if 0 ≤ ruleN L 1 then (2, ruleN L 1, 90) else if 0 ≤ ruleN L 2 then (3, ruleN L 2, 90) else if 0 ≤ ruleN L 3 then (4, ruleN L 3, 90) else if 0 ≤ ruleN L 4 then (5, ruleN L 4, 90) else (0, 0, 0)
  else (0, 0, 60)
theorem check_no {L : Lay} (h : rightL L = false) : checkL L = (0, 0, 60) := by unfold checkL; rw [h]; rfl
theorem check_hit {L : Lay} (h : rightL L = true) {n : Nat} (hn : n < 5) (ha : ∀ j, j < n → ruleN L j < 0) (hh : 0 ≤ ruleN L n) : checkL L = ((n : Int) + 1, ruleN L n, 90) := by
  unfold checkL
  rw [if_pos h]
  have h0 := ha 0
  have h1 := ha 1
  have h2 := ha 2
  have h3 := ha 3
  obtain rfl | rfl | rfl | rfl | rfl : n = 0 ∨ n = 1 ∨ n = 2 ∨ n = 3 ∨ n = 4 := by omega
  · rw [if_pos hh]; rfl
  · rw [if_neg (by have := h0 (by omega); omega), if_pos hh]; rfl
  · rw [if_neg (by have := h0 (by omega); omega), if_neg (by have := h1 (by omega); omega), if_pos hh]; rfl
  · rw [if_neg (by have := h0 (by omega); omega), if_neg (by have := h1 (by omega); omega), if_neg (by have := h2 (by omega); omega), if_pos hh]; rfl
  · rw [if_neg (by have := h0 (by omega); omega), if_neg (by have := h1 (by omega); omega), if_neg (by have := h2 (by omega); omega), if_neg (by have := h3 (by omega); omega), if_pos hh]; rfl
theorem check_none {L : Lay} (h : rightL L = true) (ha : ∀ j, j < 5 → ruleN L j < 0) : checkL L = (0, 0, 0) := by
  unfold checkL
  rw [if_pos h, if_neg (by have := ha 0 (by omega); omega), if_neg (by have := ha 1 (by omega); omega), if_neg (by have := ha 2 (by omega); omega), if_neg (by have := ha 3 (by omega); omega), if_neg (by have := ha 4 (by omega); omega)]

set_option maxRecDepth 100000 in
set_option maxHeartbeats 4000000 in
theorem rule1_any (L : Lay) (P : Where) (g : Nat) (w : World) (hL : LayAt w P L) (K : Kinds w) (E : JEnd w) (hB : BoxL w g L P) :
    Calls Tryz.prog 79 #[.pointer (some ⟨g, 0, none⟩)] w fun e w' => e = .returned (.int .i64 (ruleN L 0)) ∧ Below w.heap.size w w' := by
  obtain ⟨q, hq⟩ : ∃ q, q = joinedL L := ⟨_, rfl⟩
  have hr : ruleN L 0 = if q then -1 else 0 := by rw [hq]; rfl
  have hcall := joinedJ_any L P w hL K E
  rw [← hq] at hcall
  rw [hr]
  obtain ⟨c0, c1, c2, c3, c4, c5, c6, c7, c8, c9, c10⟩ := hB.cells
  have lg := hB.1
  obtain ⟨a0, a1, a2, a3, p0, p1, p2, p3⟩ := P
  dsimp only at c0 c1 c2 c3
  unfold Lay.val at hcall
  have HC := Lib.hid hcall
  clear hcall hr hq hL K E hB
  cases q with
  | true =>
    go_enter Tryz.func79, Tryz.ntmps79
    go_wp2_with fail
    (with_reducible refine HC.out.mono ?_)
    rintro e w1 ⟨rfl, b1⟩
    go_wp2
    go_ret
    exact ⟨rfl, b1⟩
  | false =>
    go_enter Tryz.func79, Tryz.ntmps79
    go_wp2_with fail
    (with_reducible refine HC.out.mono ?_)
    rintro e w1 ⟨rfl, b1⟩
    go_wp2
    go_ret
    exact ⟨rfl, b1⟩

/-- The five rules, laid. -/
structure RulesAt (W : World) (b g : Nat) : Prop where
  lt : b < W.heap.size
  r0 : W.cell? ⟨b, 0, none⟩ = some (.func (.func 79) #[] #[.pointer (some ⟨g, 0, none⟩)])
  r1 : W.cell? ⟨b, 1, none⟩ = some (.func (.func 81) #[] #[.pointer (some ⟨g, 0, none⟩)])
  r2 : W.cell? ⟨b, 2, none⟩ = some (.func (.func 85) #[] #[.pointer (some ⟨g, 0, none⟩)])
  r3 : W.cell? ⟨b, 3, none⟩ = some (.func (.func 87) #[] #[.pointer (some ⟨g, 0, none⟩)])
  r4 : W.cell? ⟨b, 4, none⟩ = some (.func (.func 89) #[] #[.pointer (some ⟨g, 0, none⟩)])
theorem RulesAt.below {W W' : World} {b g : Nat} (h : RulesAt W b g) (hb : Below W.heap.size W W') : RulesAt W' b g :=
  ⟨Nat.lt_of_lt_of_le h.lt hb.size, (hb.cell (p := ⟨b, 0, none⟩) h.lt).trans h.r0, (hb.cell (p := ⟨b, 1, none⟩) h.lt).trans h.r1, (hb.cell (p := ⟨b, 2, none⟩) h.lt).trans h.r2, (hb.cell (p := ⟨b, 3, none⟩) h.lt).trans h.r3, (hb.cell (p := ⟨b, 4, none⟩) h.lt).trans h.r4⟩
set_option maxRecDepth 100000 in
set_option maxHeartbeats 4000000 in
theorem rules_any (L : Lay) (P : Where) (w : World) :
    Calls Tryz.prog 56 #[L.val P] w fun e w' => ∃ b g, e = .returned (.slice (some ⟨b, 0, none⟩) 5 5) ∧ Below w.heap.size w w' ∧ RulesAt w' b g ∧ BoxL w' g L P := by
  obtain ⟨a0, a1, a2, a3, p0, p1, p2, p3⟩ := P
  unfold Lay.val
  go_enter Tryz.func56, Tryz.ntmps56
  go_wp2
  refine bodyPost_ret (v := .slice (some ⟨w.heap.size + 1, 0, none⟩) 5 5) (by simp [results, Tryz.results56, go_sem]) rfl ⟨w.heap.size + 1, w.heap.size, rfl, bchain bself bself, ⟨by simp, by simp [go_sem], by simp [go_sem], by simp [go_sem], by simp [go_sem], by simp [go_sem]⟩, ?_⟩
  exact (BoxL.make (p := ⟨a0, a1, a2, a3, p0, p1, p2, p3⟩) _ rfl).below bself

set_option maxRecDepth 100000 in
set_option maxHeartbeats 16000000 in
theorem check_any (L : Lay) (P : Where) (w : World) (hL : LayAt w P L) (K : Kinds w) (E : JEnd w) :
    Calls Tryz.prog 40 #[L.val P] w fun e w' => e = .returned (.tuple #[.int .i64 (checkL L).1, .int .i64 (checkL L).2.1, .int .i64 (checkL L).2.2]) ∧ Below w.heap.size w w' := by
  obtain ⟨cr, hcr⟩ : ∃ cr, cr = checkL L := ⟨_, rfl⟩
  obtain ⟨q, hq⟩ : ∃ q, q = rightL L := ⟨_, rfl⟩
  have hrt := fun W (hb : Below w.heap.size w W) => rightLay_any L P W (hL.below hb) (K.below hb)
  have hru := fun W => rules_any L P W
  rw [← hcr]
  rw [← hq] at hrt
  have hfun : q = true → ∀ n, n < 5 → ∀ g W, Below w.heap.size w W → BoxL W g L P → Calls Tryz.prog (match n with | 0 => 79 | 1 => 81 | 2 => 85 | 3 => 87 | _ => 89) #[.pointer (some ⟨g, 0, none⟩)] W fun e w' => e = .returned (.int .i64 (ruleN L n)) ∧ Below W.heap.size W w' := fun hqt n hn g W hb hB => by
    obtain rfl | rfl | rfl | rfl | rfl : n = 0 ∨ n = 1 ∨ n = 2 ∨ n = 3 ∨ n = 4 := by omega
    · exact rule1_any L P g W (hL.below hb) (K.below hb) (E.below hb) hB
    · exact rule2_any L P g W (hL.below hb) hB
    · exact rule3_any L P g W (hL.below hb) hB
    · exact rule4_any L P g W (hL.below hb) (K.below hb) (E.below hb) hB (hq ▸ hqt)
    · exact rule5_any L P g W (hL.below hb) hB
  obtain ⟨a0, a1, a2, a3, p0, p1, p2, p3⟩ := P
  unfold Lay.val at hrt hru ⊢
  have HRT := Lib.hid hrt
  have HRU := Lib.hid hru
  have HF := Lib.hid hfun
  have HQ := Lib.hid (⟨hq, hcr⟩ : _ ∧ _)
  clear hrt hru hfun hq hcr hL K E
  go_enter Tryz.func40, Tryz.ntmps40
  go_wp2_with fail
  (with_reducible refine (HRT.out (w.alloc (.cells #[.slice a0 L.secs.length p0, .slice a1 L.sigs.length p1, .slice a2 L.exits.length p2, .slice a3 L.flanks.length p3, .int .i64 L.t0, .int .i64 L.t1, .int .i64 L.t2, .int .i64 L.t3, .int .i64 L.t4, .int .i64 L.t5, .int .i64 L.t6] 29)) bself).mono ?_)
  rintro e w1 ⟨rfl, b1⟩
  have HB1 := Lib.hid (bnew b1)
  cases q with
  | false =>
    clear b1
    obtain rfl : cr = (0, 0, 60) := HQ.out.2.trans (check_no HQ.out.1.symm)
    go_wp2
    go_ret3
    exact ⟨rfl, HB1.out⟩
  | true =>
    have hbx : BoxL w1 w.heap.size L ⟨a0, a1, a2, a3, p0, p1, p2, p3⟩ := (BoxL.make _ rfl).below b1
    obtain ⟨c0, c1, c2, c3, c4, c5, c6, c7, c8, c9, c10⟩ := hbx.cells
    have lg := hbx.1
    dsimp only at c0 c1 c2 c3
    clear b1 hbx
    go_wp2_with fail
    (with_reducible refine (HRU.out _).mono ?_)
    rintro e w2 ⟨b, g, rfl, b2, hRA, hBG⟩
    have HB2 := Lib.hid (⟨bchain HB1.out b2, hRA, hBG⟩ : _ ∧ _ ∧ _)
    clear c0 c1 c2 c3 c4 c5 c6 c7 c8 c9 c10 lg b2 hRA hBG
    go_wp2_with fail
    go_loopw [14] (fun c wr => ∃ n : Nat, n ≤ 5 ∧ c = .int .i64 n ∧ Hid (Below w2.heap.size w2 wr) ∧ Hid (∀ j, j < n → ruleN L j < 0)) (fun c _ => 5 - (intOf c).toNat)
    case atStart => exact ⟨0, by omega, rfl, Lib.hid (Below.refl _ _), Lib.hid (fun j hj => absurd hj (Nat.not_lt_zero _))⟩
    case round =>
      obtain ⟨n, hn, rfl, HBr, HJ⟩ := hrel
      have HRA := Lib.hid (HB2.out.2.1.below HBr.out)
      have hBG := HB2.out.2.2.below HBr.out
      have HBW := Lib.hid (bchain HB2.out.1 HBr.out)
      have lb := HRA.out.lt
      by_cases hn5 : n = 5
      · subst hn5
        obtain rfl : cr = (0, 0, 0) := HQ.out.2.trans (check_none HQ.out.1.symm HJ.out)
        clear hBG
        go_wp2
        go_ret3
        exact ⟨rfl, HBW.out⟩
      have hlt : n < 5 := by omega
      have hcall := HF.out trivial n hlt g wr HBW.out hBG
      have hch := fun hh : 0 ≤ ruleN L n => check_hit HQ.out.1.symm hlt HJ.out hh
      generalize hv : ruleN L n = v at hcall hch
      have HC := Lib.hid hcall
      have HCH := Lib.hid (⟨hch, hv⟩ : _ ∧ _)
      clear hcall hch hBG hv
      obtain ⟨b0, hb0⟩ : ∃ b0, b0 = decide (0 ≤ v) := ⟨_, rfl⟩
      have hn' : n = 0 ∨ n = 1 ∨ n = 2 ∨ n = 3 ∨ n = 4 := by omega
      by_cases h0 : 0 ≤ v
      · have d0 : decide (0 ≤ v) = true := decide_eq_true h0
        have e := HQ.out.2.trans (HCH.out.1 h0)
        have HE := Lib.hid e
        clear e h0 hb0
        rcases hn' with rfl | rfl | rfl | rfl | rfl
        · have ck := HRA.out.r0
          go_wp2_with fail
          (with_reducible refine HC.out.mono ?_)
          rintro e w3 ⟨rfl, b3⟩
          have HB3 := Lib.hid (bchain HBW.out b3)
          clear b3 ck
          go_wp2
          obtain rfl := HE.out
          go_ret3
          exact ⟨rfl, HB3.out⟩
        · have ck := HRA.out.r1
          go_wp2_with fail
          (with_reducible refine HC.out.mono ?_)
          rintro e w3 ⟨rfl, b3⟩
          have HB3 := Lib.hid (bchain HBW.out b3)
          clear b3 ck
          go_wp2
          obtain rfl := HE.out
          go_ret3
          exact ⟨rfl, HB3.out⟩
        · have ck := HRA.out.r2
          go_wp2_with fail
          (with_reducible refine HC.out.mono ?_)
          rintro e w3 ⟨rfl, b3⟩
          have HB3 := Lib.hid (bchain HBW.out b3)
          clear b3 ck
          go_wp2
          obtain rfl := HE.out
          go_ret3
          exact ⟨rfl, HB3.out⟩
        · have ck := HRA.out.r3
          go_wp2_with fail
          (with_reducible refine HC.out.mono ?_)
          rintro e w3 ⟨rfl, b3⟩
          have HB3 := Lib.hid (bchain HBW.out b3)
          clear b3 ck
          go_wp2
          obtain rfl := HE.out
          go_ret3
          exact ⟨rfl, HB3.out⟩
        · have ck := HRA.out.r4
          go_wp2_with fail
          (with_reducible refine HC.out.mono ?_)
          rintro e w3 ⟨rfl, b3⟩
          have HB3 := Lib.hid (bchain HBW.out b3)
          clear b3 ck
          go_wp2
          obtain rfl := HE.out
          go_ret3
          exact ⟨rfl, HB3.out⟩
      · have d0 : decide (0 ≤ v) = false := decide_eq_false h0
        have HV := Lib.hid h0
        clear h0 hb0
        rcases hn' with rfl | rfl | rfl | rfl | rfl
        · have ck := HRA.out.r0
          go_wp2_with fail
          (with_reducible refine HC.out.mono ?_)
          rintro e w3 ⟨rfl, b3⟩
          have HB3 := Lib.hid (bchain HBr.out b3)
          clear b3 ck
          go_wp2
          go_roundw
          case rel => exact ⟨0 + 1, by omega, rfl, HB3, Lib.hid (fun j hj => by
            by_cases e : j = 0
            · subst e; have := HV.out; rw [← HCH.out.2] at this; omega
            · exact HJ.out j (by omega))⟩
          case measure => simp [intOf]
        · have ck := HRA.out.r1
          go_wp2_with fail
          (with_reducible refine HC.out.mono ?_)
          rintro e w3 ⟨rfl, b3⟩
          have HB3 := Lib.hid (bchain HBr.out b3)
          clear b3 ck
          go_wp2
          go_roundw
          case rel => exact ⟨1 + 1, by omega, rfl, HB3, Lib.hid (fun j hj => by
            by_cases e : j = 1
            · subst e; have := HV.out; rw [← HCH.out.2] at this; omega
            · exact HJ.out j (by omega))⟩
          case measure => simp [intOf]
        · have ck := HRA.out.r2
          go_wp2_with fail
          (with_reducible refine HC.out.mono ?_)
          rintro e w3 ⟨rfl, b3⟩
          have HB3 := Lib.hid (bchain HBr.out b3)
          clear b3 ck
          go_wp2
          go_roundw
          case rel => exact ⟨2 + 1, by omega, rfl, HB3, Lib.hid (fun j hj => by
            by_cases e : j = 2
            · subst e; have := HV.out; rw [← HCH.out.2] at this; omega
            · exact HJ.out j (by omega))⟩
          case measure => simp [intOf]
        · have ck := HRA.out.r3
          go_wp2_with fail
          (with_reducible refine HC.out.mono ?_)
          rintro e w3 ⟨rfl, b3⟩
          have HB3 := Lib.hid (bchain HBr.out b3)
          clear b3 ck
          go_wp2
          go_roundw
          case rel => exact ⟨3 + 1, by omega, rfl, HB3, Lib.hid (fun j hj => by
            by_cases e : j = 3
            · subst e; have := HV.out; rw [← HCH.out.2] at this; omega
            · exact HJ.out j (by omega))⟩
          case measure => simp [intOf]
        · have ck := HRA.out.r4
          go_wp2_with fail
          (with_reducible refine HC.out.mono ?_)
          rintro e w3 ⟨rfl, b3⟩
          have HB3 := Lib.hid (bchain HBr.out b3)
          clear b3 ck
          go_wp2
          go_roundw
          case rel => exact ⟨4 + 1, by omega, rfl, HB3, Lib.hid (fun j hj => by
            by_cases e : j = 4
            · subst e; have := HV.out; rw [← HCH.out.2] at this; omega
            · exact HJ.out j (by omega))⟩
          case measure => simp [intOf]

/-- Does a layout hang together? -/
def topoR (L : Lay) : Bool := decide ((checkL L).2.2 = 0)
set_option maxRecDepth 100000 in
set_option maxHeartbeats 4000000 in
theorem topoRight_any (L : Lay) (P : Where) (w : World) (hL : LayAt w P L) (K : Kinds w) (E : JEnd w) :
    Calls Tryz.prog 19 #[L.val P] w fun e w' => e = .returned (.bool (topoR L)) ∧ Below w.heap.size w w' := by
  have hc := fun W (hb : Below w.heap.size w W) => check_any L P W (hL.below hb) (K.below hb) (E.below hb)
  unfold topoR
  generalize checkL L = cr at hc ⊢
  obtain ⟨x0, x1, x2⟩ := cr
  dsimp only at hc ⊢
  obtain ⟨q, hq⟩ : ∃ q, q = decide (x2 = 0) := ⟨_, rfl⟩
  obtain ⟨a0, a1, a2, a3, p0, p1, p2, p3⟩ := P
  unfold Lay.val at hc ⊢
  have HC := Lib.hid hc
  clear hc hL K E hq
  go_enter Tryz.func19, Tryz.ntmps19
  go_wp2_with fail
  (with_reducible refine (HC.out (w.alloc (.cells #[.slice a0 L.secs.length p0, .slice a1 L.sigs.length p1, .slice a2 L.exits.length p2, .slice a3 L.flanks.length p3, .int .i64 L.t0, .int .i64 L.t1, .int .i64 L.t2, .int .i64 L.t3, .int .i64 L.t4, .int .i64 L.t5, .int .i64 L.t6] 29)) bself).mono ?_)
  rintro e w1 ⟨rfl, b1⟩
  have HB1 := Lib.hid (bnew b1)
  clear b1
  go_wp2
  go_ret
  exact ⟨by first | rfl | (apply ret_bool; simp), HB1.out⟩
end Go.Proofs.YtpcojaoeahdgcaaGreatDoor

/-
  lockbarref05.May, Right.
-/
namespace Go.Proofs.YtpcojaoeahdgcaaGreatDoor
open Go.RowKit Go.Shelf

set_option maxHeartbeats 2000000 in
theorem rMay_any (s q : Int) (w : World) :
    Calls Tryz.prog 108 #[.agg #[.int .i64 s, .int .i64 q]] w fun e w' => e = .returned (.bool (mayT s q)) ∧ Below w.heap.size w w' := by
  have hr : (s = -1 ∧ q = 0 → mayT s q = true) ∧ (¬ (s = -1 ∧ q = 0) → mayT s q = (decide (0 ≤ s) && decide (s < 24) && decide (0 ≤ q) && decide (q ≤ 3))) := by
    unfold mayT
    refine ⟨?_, fun h => ?_⟩
    · rintro ⟨rfl, rfl⟩; rfl
    · rw [show (s == -1 && q == 0) = false by simp; omega, Bool.false_or]
  generalize mayT s q = r at hr ⊢
  by_cases h : s = -1 ∧ q = 0
  · obtain rfl := hr.1 h
    obtain ⟨rfl, rfl⟩ := h
    clear hr
    go_enter Tryz.func108, Tryz.ntmps108
    go_wp2
    go_ret
    exact ⟨rfl, bself⟩
  · obtain rfl := hr.2 h
    clear hr
    have h' : ¬ s = -1 ∨ (s = -1 ∧ ¬ q = 0) := by omega
    clear h
    rcases h' with h | ⟨rfl, h⟩
    · by_cases h0 : 0 ≤ s
      · have d0 : decide (0 ≤ s) = true := decide_eq_true h0
        by_cases h1 : s < 24
        · have d1 : decide (s < 24) = true := decide_eq_true h1
          by_cases h2 : 0 ≤ q
          · have d2 : decide (0 ≤ q) = true := decide_eq_true h2
            have e : decide (q ≤ 3) = decide (q < 4) := by rw [decide_eq_decide]; omega
            rw [d0, d1, d2, e]
            go_enter Tryz.func108, Tryz.ntmps108
            go_wp2
            all_goals
              go_ret
              exact ⟨by simp [*], bself⟩
          · have d2 : decide (0 ≤ q) = false := decide_eq_false h2
            rw [d0, d1, d2]
            go_enter Tryz.func108, Tryz.ntmps108
            go_wp2
            all_goals
              go_ret
              exact ⟨rfl, bself⟩
        · have d1 : decide (s < 24) = false := decide_eq_false h1
          rw [d0, d1]
          go_enter Tryz.func108, Tryz.ntmps108
          go_wp2
          all_goals
            go_ret
            exact ⟨rfl, bself⟩
      · have d0 : decide (0 ≤ s) = false := decide_eq_false h0
        rw [d0]
        go_enter Tryz.func108, Tryz.ntmps108
        go_wp2
        all_goals
          go_ret
          exact ⟨rfl, bself⟩
    · go_enter Tryz.func108, Tryz.ntmps108
      go_wp2
      all_goals
        go_ret
        exact ⟨rfl, bself⟩

theorem kPorts_nn (k : Int) : 0 ≤ kPorts k := by
  rcases kCases k with ⟨_, h, _⟩ | ⟨_, h, _⟩ | ⟨_, h, _⟩ | ⟨_, _, _, h, _⟩ <;> omega
theorem rightT_facts (c : Sec) : (∀ i, i < 4 → portT c i = false → rightT c = false) ∧ (∀ i, i < 2 → classT c i = false → rightT c = false) ∧
    ((∀ i, i < 4 → portT c i = true) → (∀ i, i < 2 → classT c i = true) → rightT c = decide (0 < kPorts c.k)) := by
  have e : (kPorts c.k != 0) = decide (0 < kPorts c.k) := by
    have := kPorts_nn c.k
    rw [Bool.eq_iff_iff]
    simp
    omega
  unfold rightT
  refine ⟨fun i hi h => ?_, fun i hi h => ?_, fun h g => ?_⟩
  · obtain rfl | rfl | rfl | rfl : i = 0 ∨ i = 1 ∨ i = 2 ∨ i = 3 := by omega
    all_goals simp [h]
  · obtain rfl | rfl : i = 0 ∨ i = 1 := by omega
    all_goals simp [h]
  · rw [h 0 (by omega), h 1 (by omega), h 2 (by omega), h 3 (by omega), g 0 (by omega), g 1 (by omega), e]
    simp

set_option maxRecDepth 100000 in
set_option maxHeartbeats 8000000 in
theorem rRight5_any (c : Sec) (w : World) :
    Calls Tryz.prog 97 #[.agg c.enc.toArray] w fun e w' => e = .returned (.bool (rightT c)) ∧ Below w.heap.size w w' := by
  have hr := rightT_facts c
  generalize rightT c = r at hr ⊢
  have hp := fun w1 => rPorts_any c.k w1
  have hw := fun w1 => rWays_any c.k w1
  have hpt : ∀ i, portT c i = if (i : Int) < kPorts c.k then mayT (c.S i) (c.P i) else (c.S i == -1 && c.P i == 0) := fun _ => rfl
  have hct : ∀ i, classT c i = (decide (0 ≤ c.C i) && decide (c.C i ≤ 3) && (decide (c.C i ≤ 0) || decide ((i : Int) < kMany c.k))) := fun _ => rfl
  obtain ⟨np, hnp⟩ : ∃ np, np = kPorts c.k := ⟨_, rfl⟩
  obtain ⟨nm, hnm⟩ : ∃ nm, nm = kMany c.k := ⟨_, rfl⟩
  rw [← hnp] at hp hr hpt
  rw [← hnm] at hw hct
  have HR := Lib.hid hr
  have HP := Lib.hid hp
  have HW := Lib.hid hw
  have HPT := Lib.hid hpt
  have HCT := Lib.hid hct
  clear hr hp hw hpt hct hnp hnm
  have hS := BoxS.make w c
  unfold Sec.enc at hS
  unfold Sec.enc
  go_enter Tryz.func97, Tryz.ntmps97
  go_wp2_with fail
  obtain ⟨Y, hY⟩ : ∃ Y, Y = w.alloc (.cells #[.int .u8 c.k, .int .i64 c.s0, .int .i64 c.p0, .int .i64 c.s1, .int .i64 c.p1, .int .i64 c.s2, .int .i64 c.p2, .int .i64 c.s3, .int .i64 c.p3, .int .i64 c.c0, .int .i64 c.c1] 73) := ⟨_, rfl⟩
  have HB : Hid (Below w.heap.size w Y) := Lib.hid (by rw [hY]; exact bself)
  have HS : Hid (BoxS Y w.heap.size c) := Lib.hid (by rw [hY]; exact hS)
  rw [← hY]
  clear hY hS
  go_loopw [3] (fun x3 wr => ∃ n : Nat, n ≤ 4 ∧ x3 = .int .i64 n ∧ Hid (∀ j, j < n → portT c j = true) ∧ Hid (Below Y.heap.size Y wr)) (fun x3 _ => 4 - (intOf x3).toNat)
  case atStart => exact ⟨0, by omega, rfl, Lib.hid (fun j hj => absurd hj (Nat.not_lt_zero _)), Lib.hid (Below.refl _ _)⟩
  case round =>
    obtain ⟨n, hn, rfl, HJ, HBr⟩ := hrel
    obtain ⟨V, rfl⟩ : ∃ V : World, V = wr := ⟨_, rfl⟩
    by_cases hn4 : n < 4
    · have xS := HS.out.below HBr.out
      have k0 := xS.cells.1
      obtain ⟨cS, cP⟩ := xS.ports n hn4
      have lg := xS.1
      have hpn := HPT.out n
      have hrf := HR.out.1 n hn4
      generalize c.S n = sn at cS cP hpn
      generalize c.P n = pn at cP hpn
      have hm := fun w1 => rMay_any sn pn w1
      obtain ⟨pt, hpte⟩ : ∃ pt, pt = portT c n := ⟨_, rfl⟩
      rw [← hpte] at hpn hrf
      have next : pt = true → Hid (∀ j, j < n + 1 → portT c j = true) := fun h => Lib.hid fun j hj => by
        by_cases e : j = n
        · subst e; rw [← hpte]; exact h
        · exact HJ.out j (by omega)
      have NX := Lib.hid next
      clear hpte xS next
      have hn3 : (n : Int) < 4 := by omega
      by_cases hlt : (n : Int) < np
      · rw [if_pos hlt] at hpn
        have d0 : decide ((n : Int) < np) = true := decide_eq_true hlt
        have d1 : decide (np ≤ (n : Int)) = false := decide_eq_false (by omega)
        rw [← hpn] at hm
        have HM := Lib.hid hm
        clear hm hpn
        go_wp2_with fail
        (with_reducible refine (HP.out _).mono ?_)
        rintro e w1 ⟨rfl, b1⟩
        obtain ⟨c1, f1, l1⟩ := bcell b1
        have lg1 := l1 _ lg
        go_wp2_with fail
        (with_reducible refine (HM.out _).mono ?_)
        rintro e w2 ⟨rfl, b2⟩
        obtain ⟨c2, f2, l2⟩ := bcell b2
        have lg2 := l2 _ lg1
        have HB2 := Lib.hid (bchain (bchain HBr.out b1) b2)
        clear b1 b2 f1 l1 f2 l2
        cases pt
        · obtain rfl := hrf rfl
          go_wp2
          go_ret
          exact ⟨rfl, bchain HB.out HB2.out⟩
        · go_wp2_with fail
          (with_reducible refine (HP.out _).mono ?_)
          rintro e w3 ⟨rfl, b3⟩
          have HB3 := Lib.hid (bchain HB2.out b3)
          clear b3
          go_wp2
          go_roundw
          case rel => exact ⟨n + 1, by omega, by go_num, NX.out (by simp), HB3⟩
          case measure => simp [intOf]; omega
      · rw [if_neg hlt] at hpn
        have d0 : decide ((n : Int) < np) = false := decide_eq_false hlt
        have d1 : decide (np ≤ (n : Int)) = true := decide_eq_true (by omega)
        clear hm
        go_wp2_with fail
        (with_reducible refine (HP.out _).mono ?_)
        rintro e w1 ⟨rfl, b1⟩
        obtain ⟨c1, f1, l1⟩ := bcell b1
        have lg1 := l1 _ lg
        go_wp2_with fail
        (with_reducible refine (HP.out _).mono ?_)
        rintro e w2 ⟨rfl, b2⟩
        obtain ⟨c2, f2, l2⟩ := bcell b2
        have lg2 := l2 _ lg1
        have HB2 := Lib.hid (bchain (bchain HBr.out b1) b2)
        clear b1 b2 f1 l1 f2 l2
        by_cases h1 : sn = -1
        · subst h1
          by_cases h2 : pn = 0
          · subst h2
            have ht : pt = true := hpn
            subst ht
            clear hpn hrf
            go_wp2
            go_roundw
            case rel => exact ⟨n + 1, by omega, by go_num, NX.out (by simp), HB2⟩
            case measure => simp [intOf]; omega
          · have ht : pt = false := by rw [hpn]; simp [h2]
            obtain rfl := hrf ht
            clear hpn hrf ht
            go_wp2
            go_ret
            exact ⟨rfl, bchain HB.out HB2.out⟩
        · have ht : pt = false := by rw [hpn]; simp [h1]
          obtain rfl := hrf ht
          clear hpn hrf ht
          go_wp2
          go_ret
          exact ⟨rfl, bchain HB.out HB2.out⟩
    have HJ4 : Hid (∀ j, j < 4 → portT c j = true) := Lib.hid fun j hj => HJ.out j (by omega)
    have d4 : decide ((n : Int) < 4) = false := decide_eq_false (by omega)
    clear hn HJ
    go_wp2_with fail
    clear hn4 d4
    go_loopw [4] (fun x4 wr => ∃ m : Nat, m ≤ 2 ∧ x4 = .int .i64 m ∧ Hid (∀ j, j < m → classT c j = true) ∧ Hid (Below Y.heap.size Y wr)) (fun x4 _ => 2 - (intOf x4).toNat)
    case atStart => exact ⟨0, by omega, rfl, Lib.hid (fun j hj => absurd hj (Nat.not_lt_zero _)), HBr⟩
    case round =>
      obtain ⟨m, hm, rfl, HC, HBm⟩ := hrel
      obtain ⟨U, rfl⟩ : ∃ U : World, U = wr := ⟨_, rfl⟩
      have xS := HS.out.below HBm.out
      have k0 := xS.cells.1
      have lg := xS.1
      by_cases hm2 : m < 2
      · have kc := xS.classes m hm2
        have hct := HCT.out m
        have hrf := HR.out.2.1 m hm2
        generalize c.C m = cm at kc hct
        obtain ⟨ct, hcte⟩ : ∃ ct, ct = classT c m := ⟨_, rfl⟩
        rw [← hcte] at hct hrf
        have next : ct = true → Hid (∀ j, j < m + 1 → classT c j = true) := fun h => Lib.hid fun j hj => by
          by_cases e : j = m
          · subst e; rw [← hcte]; exact h
          · exact HC.out j (by omega)
        have NX := Lib.hid next
        clear hcte xS next
        have hm3 : (m : Int) < 2 := by omega
        by_cases a0 : 0 ≤ cm
        · have d0 : decide (cm < 0) = false := decide_eq_false (by omega)
          by_cases a1 : cm ≤ 3
          · have d1 : decide (3 < cm) = false := decide_eq_false (by omega)
            by_cases a2 : (m : Int) < nm
            · have d2 : decide (nm ≤ (m : Int)) = false := decide_eq_false (by omega)
              have ht : ct = true := by rw [hct]; simp [a0, a1, a2]
              subst ht
              clear hct hrf
              go_wp2_with fail
              (with_reducible refine (HW.out _).mono ?_)
              rintro e w1 ⟨rfl, b1⟩
              have HB1 := Lib.hid (bchain HBm.out b1)
              clear b1
              go_wp2
              go_roundw
              case rel => exact ⟨m + 1, by omega, by go_num, NX.out (by simp), HB1⟩
              case measure => simp [intOf]; omega
            · have d2 : decide (nm ≤ (m : Int)) = true := decide_eq_true (by omega)
              go_wp2_with fail
              (with_reducible refine (HW.out _).mono ?_)
              rintro e w1 ⟨rfl, b1⟩
              obtain ⟨c1, f1, l1⟩ := bcell b1
              have lg1 := l1 _ lg
              have HB1 := Lib.hid (bchain HBm.out b1)
              clear b1 f1 l1
              by_cases a3 : cm = 0
              · subst a3
                have ht : ct = true := by rw [hct]; simp
                subst ht
                clear hct hrf
                go_wp2
                go_roundw
                case rel => exact ⟨m + 1, by omega, by go_num, NX.out (by simp), HB1⟩
                case measure => simp [intOf]; omega
              · have ht : ct = false := by rw [hct]; simp; omega
                obtain rfl := hrf ht
                have d3 : (cm == 0) = false := by simpa using a3
                clear hct hrf ht
                go_wp2
                go_ret
                exact ⟨rfl, bchain HB.out HB1.out⟩
          · have d1 : decide (3 < cm) = true := decide_eq_true (by omega)
            have ht : ct = false := by rw [hct]; simp [a1]
            obtain rfl := hrf ht
            clear hct hrf ht
            go_wp2
            go_ret
            exact ⟨rfl, bchain HB.out HBm.out⟩
        · have d0 : decide (cm < 0) = true := decide_eq_true (by omega)
          have ht : ct = false := by rw [hct]; simp [a0]
          obtain rfl := hrf ht
          clear hct hrf ht
          go_wp2
          go_ret
          exact ⟨rfl, bchain HB.out HBm.out⟩
      obtain rfl : m = 2 := by omega
      obtain rfl := HR.out.2.2 HJ4.out HC.out
      clear hm2 hm
      go_wp2_with fail
      (with_reducible refine (HP.out _).mono ?_)
      rintro e w1 ⟨rfl, b1⟩
      go_wp2
      go_ret
      exact ⟨rfl, bchain (bchain HB.out HBm.out) b1⟩
end Go.Proofs.YtpcojaoeahdgcaaGreatDoor

/-
  lockbarref06.section, times.
-/
namespace Go.Proofs.YtpcojaoeahdgcaaGreatDoor
open Go.RowKit Go.Shelf

def jokT (L : Lay) (c : Sec) (i : Nat) : Bool := decide (c.S i < 0) || hasB L (c.S i) (c.P i)
def secR (L : Lay) (c : Sec) : Bool := jokT L c 0 && jokT L c 1 && jokT L c 2 && jokT L c 3 && rightT c
theorem secR_facts (L : Lay) (c : Sec) : (∀ i, i < 4 → jokT L c i = false → secR L c = false) ∧ ((∀ i, i < 4 → jokT L c i = true) → secR L c = rightT c) := by
  unfold secR
  refine ⟨fun i hi h => ?_, fun h => ?_⟩
  · obtain rfl | rfl | rfl | rfl : i = 0 ∨ i = 1 ∨ i = 2 ∨ i = 3 := by omega
    all_goals simp [h]
  · rw [h 0 (by omega), h 1 (by omega), h 2 (by omega), h 3 (by omega)]
    simp

set_option maxRecDepth 100000 in
set_option maxHeartbeats 8000000 in
theorem rSection_any (L : Lay) (p : Where) (c : Sec) (w : World) (hL : LayAt w p L) :
    Calls Tryz.prog 92 #[L.val p, .agg c.enc.toArray] w fun e w' => e = .returned (.bool (secR L c)) ∧ Below w.heap.size w w' := by
  have hr := secR_facts L c
  generalize secR L c = r at hr ⊢
  have ht := fun (s q : Int) w1 (b : Below w.heap.size w w1) => rThere_any L p s q w1 (hL.below b)
  have h5 := fun w1 => rRight5_any c w1
  have hjt : ∀ i, jokT L c i = (decide (c.S i < 0) || hasB L (c.S i) (c.P i)) := fun _ => rfl
  have HR := Lib.hid hr
  have HT := Lib.hid ht
  have H5 := Lib.hid h5
  have HJT := Lib.hid hjt
  have hX := (BoxL.make (W := w) (L := L) (p := p) (n := w.heap.size) 29 rfl).below (bself (o := .cells c.enc.toArray 73))
  have hS := BoxS.make (w.alloc (.cells (L.cells p).toArray 29)) c
  rw [World.size_alloc] at hS
  clear hr ht h5 hjt hL
  unfold Sec.enc at *
  unfold Lay.val at *
  go_enter Tryz.func92, Tryz.ntmps92
  go_wp2_with fail
  obtain ⟨Y, hY⟩ : ∃ Y, Y = (w.alloc (.cells (L.cells p).toArray 29)).alloc (.cells #[.int .u8 c.k, .int .i64 c.s0, .int .i64 c.p0, .int .i64 c.s1, .int .i64 c.p1, .int .i64 c.s2, .int .i64 c.p2, .int .i64 c.s3, .int .i64 c.p3, .int .i64 c.c0, .int .i64 c.c1] 73) := ⟨_, rfl⟩
  have HB : Hid (Below w.heap.size w Y) := Lib.hid (by rw [hY]; exact bchain bself bself)
  have HX : Hid (BoxL Y w.heap.size L p) := Lib.hid (by rw [hY]; exact hX)
  have HS : Hid (BoxS Y (w.heap.size + 1) c) := Lib.hid (by rw [hY]; exact hS)
  have hY' : (w.alloc (.cells #[.slice p.a0 L.secs.length p.c0, .slice p.a1 L.sigs.length p.c1, .slice p.a2 L.exits.length p.c2, .slice p.a3 L.flanks.length p.c3, .int .i64 L.t0, .int .i64 L.t1, .int .i64 L.t2, .int .i64 L.t3, .int .i64 L.t4, .int .i64 L.t5, .int .i64 L.t6] 29)).alloc (.cells #[.int .u8 c.k, .int .i64 c.s0, .int .i64 c.p0, .int .i64 c.s1, .int .i64 c.p1, .int .i64 c.s2, .int .i64 c.p2, .int .i64 c.s3, .int .i64 c.p3, .int .i64 c.c0, .int .i64 c.c1] 73) = Y := hY.symm
  rw [hY']
  clear hY hY' hX hS
  go_loopw [5] (fun x5 wr => ∃ n : Nat, n ≤ 4 ∧ x5 = .int .i64 n ∧ Hid (∀ j, j < n → jokT L c j = true) ∧ Hid (Below Y.heap.size Y wr)) (fun x5 _ => 4 - (intOf x5).toNat)
  case atStart => exact ⟨0, by omega, rfl, Lib.hid (fun j hj => absurd hj (Nat.not_lt_zero _)), Lib.hid (Below.refl _ _)⟩
  case round =>
    obtain ⟨n, hn, rfl, HJ, HBr⟩ := hrel
    obtain ⟨V, rfl⟩ : ∃ V : World, V = wr := ⟨_, rfl⟩
    have xS := HS.out.below HBr.out
    have xL := HX.out.below HBr.out
    have lg := xS.1
    have lw := xL.1
    by_cases hn4 : n < 4
    · obtain ⟨cS, cP⟩ := xS.ports n hn4
      obtain ⟨r0, r1, r2, r3, r4, r5, r6, r7, r8, r9, r10⟩ := xL.cells
      have hjn := HJT.out n
      have hrf := HR.out.1 n hn4
      generalize c.S n = sn at cS cP hjn
      generalize c.P n = pn at cP hjn
      have hm := HT.out sn pn
      obtain ⟨jt, hjte⟩ : ∃ jt, jt = jokT L c n := ⟨_, rfl⟩
      rw [← hjte] at hjn hrf
      have next : jt = true → Hid (∀ j, j < n + 1 → jokT L c j = true) := fun h => Lib.hid fun j hj => by
        by_cases e : j = n
        · subst e; rw [← hjte]; exact h
        · exact HJ.out j (by omega)
      have NX := Lib.hid next
      clear hjte xS xL next
      have hn3 : (n : Int) < 4 := by omega
      have BV := Lib.hid (bchain HB.out HBr.out)
      by_cases h0 : 0 ≤ sn
      · have d0 : decide (0 ≤ sn) = true := decide_eq_true h0
        rw [show decide (sn < 0) = false from decide_eq_false (by omega), Bool.false_or] at hjn
        rw [← hjn] at hm
        have HM := Lib.hid hm
        clear hm hjn
        go_wp2_with fail
        refine wp_region_ext (by kernel_rfl) (by kernel_rfl) fun hx => ?_
        repeat (go_big_quiet_step ((go_at_call 93; exact Calls.ext (HM.out _ (bchain BV.out (Ext.below _))))))
        refine wpQuiet_nil ?_
        intro w5 b5
        have HB5 := Lib.hid (bchain HBr.out b5)
        clear b5
        cases jt
        · obtain rfl := hrf rfl
          go_wp2
          go_ret
          exact ⟨rfl, bchain HB.out HB5.out⟩
        · go_wp2
          go_roundw
          case rel => exact ⟨n + 1, by omega, by go_num, NX.out (by simp), HB5⟩
          case measure => simp [intOf]; omega
      · have d0 : decide (0 ≤ sn) = false := decide_eq_false h0
        have ht : jt = true := by rw [hjn, show decide (sn < 0) = true from decide_eq_true (by omega)]; rfl
        subst ht
        clear hm hjn hrf
        go_wp2_with fail
        refine wp_region_ext (by kernel_rfl) (by kernel_rfl) fun hx => ?_
        repeat (go_big_quiet_step (fail))
        refine wpQuiet_nil ?_
        intro w5 b5
        have HB5 := Lib.hid (bchain HBr.out b5)
        clear b5
        go_wp2
        go_roundw
        case rel => exact ⟨n + 1, by omega, by go_num, NX.out (by simp), HB5⟩
        case measure => simp [intOf]; omega
    obtain rfl : n = 4 := by omega
    obtain rfl := HR.out.2 HJ.out
    obtain ⟨t0, t1, t2, t3, t4, t5, t6, t7, t8, t9, t10⟩ := xS.cells
    clear xS xL
    go_wp2_with fail
    (with_reducible refine (H5.out _).mono ?_)
    rintro e w1 ⟨rfl, b1⟩
    go_wp2
    go_ret
    exact ⟨rfl, bchain (bchain HB.out HBr.out) b1⟩

set_option maxRecDepth 100000 in
set_option maxHeartbeats 8000000 in
theorem rTimes_any (L : Lay) (w : World) :
    Calls Tryz.prog 96 #[.agg #[.int .i64 L.t0, .int .i64 L.t1, .int .i64 L.t2, .int .i64 L.t3, .int .i64 L.t4, .int .i64 L.t5, .int .i64 L.t6]] w fun e w' => e = .returned (.bool (timesT L)) ∧ Below w.heap.size w w' := by
  have hr : (∀ (j : Nat) (z : Int), L.times[j]? = some z → ¬ (1 ≤ z ∧ z ≤ 1000) → timesT L = false) ∧ ((∀ (j : Nat) (z : Int), j < 7 → L.times[j]? = some z → 1 ≤ z ∧ z ≤ 1000) → timesT L = true) := by
    unfold timesT
    refine ⟨fun j z hj h => ?_, fun h => ?_⟩
    · rw [List.all_eq_false]
      exact ⟨z, List.mem_of_getElem? hj, by simpa using h⟩
    · rw [List.all_eq_true]
      intro z hz
      obtain ⟨j, hj⟩ := List.mem_iff_getElem?.1 hz
      have hlt : j < 7 := by have := (List.getElem?_eq_some_iff.1 hj).1; simpa [Lay.times] using this
      have := h j z hlt hj
      simp
      omega
  have hsome : ∀ j, j < 7 → ∃ z, L.times[j]? = some z := fun j hj => ⟨_, List.getElem?_eq_getElem (by simpa [Lay.times] using hj)⟩
  generalize timesT L = r at hr ⊢
  have HR := Lib.hid hr
  have HS := Lib.hid hsome
  have hc : ∀ (W : World) (j : Nat) (z : Int), L.times[j]? = some z → ((W.alloc (.cells #[.int .i64 L.t0, .int .i64 L.t1, .int .i64 L.t2, .int .i64 L.t3, .int .i64 L.t4, .int .i64 L.t5, .int .i64 L.t6] 27)).alloc (.cells #[.int .i64 L.t0, .int .i64 L.t1, .int .i64 L.t2, .int .i64 L.t3, .int .i64 L.t4, .int .i64 L.t5, .int .i64 L.t6] 134)).cell? ⟨W.heap.size + 1, j, none⟩ = some (.int .i64 z) := fun W j z hj => by
    rw [World.cell?_alloc_at _ _ _ _ (by simp)]
    have hlt : j < 7 := by have := (List.getElem?_eq_some_iff.1 hj).1; simpa [Lay.times] using this
    obtain rfl | rfl | rfl | rfl | rfl | rfl | rfl : j = 0 ∨ j = 1 ∨ j = 2 ∨ j = 3 ∨ j = 4 ∨ j = 5 ∨ j = 6 := by omega
    all_goals (simp [Lay.times] at hj; subst hj; rfl)
  have HC := Lib.hid (hc w)
  clear hr hc hsome
  go_enter Tryz.func96, Tryz.ntmps96
  go_wp2_with fail
  obtain ⟨Y, hY⟩ : ∃ Y, Y = (w.alloc (.cells #[.int .i64 L.t0, .int .i64 L.t1, .int .i64 L.t2, .int .i64 L.t3, .int .i64 L.t4, .int .i64 L.t5, .int .i64 L.t6] 27)).alloc (.cells #[.int .i64 L.t0, .int .i64 L.t1, .int .i64 L.t2, .int .i64 L.t3, .int .i64 L.t4, .int .i64 L.t5, .int .i64 L.t6] 134) := ⟨_, rfl⟩
  have HB : Hid (Below w.heap.size w Y) := Lib.hid (by rw [hY]; exact bchain bself bself)
  rw [← hY] at HC ⊢
  have lg : w.heap.size + 1 < Y.heap.size := by rw [hY]; simp
  clear hY
  go_loop [4] (fun x4 => ∃ n : Nat, n ≤ 7 ∧ x4 = .int .i64 n ∧ Hid (∀ (j : Nat) (z : Int), j < n → L.times[j]? = some z → 1 ≤ z ∧ z ≤ 1000)) (fun x4 => 7 - (intOf x4).toNat)
  case atStart => exact ⟨0, by omega, rfl, Lib.hid (fun j z hj => absurd hj (Nat.not_lt_zero _))⟩
  case round =>
    obtain ⟨n, hn, rfl, HJ⟩ := hrel
    by_cases hn7 : n < 7
    · obtain ⟨z, hz⟩ := HS.out n hn7
      have c0 := HC.out n z hz
      have hrf := HR.out.1 n z hz
      have hn8 : (n : Int) < 7 := by omega
      have next : 1 ≤ z ∧ z ≤ 1000 → Hid (∀ (j : Nat) (y : Int), j < n + 1 → L.times[j]? = some y → 1 ≤ y ∧ y ≤ 1000) := fun h => Lib.hid fun j y hj hy => by
        by_cases e : j = n
        · subst e
          rw [hz] at hy
          cases hy
          exact h
        · exact HJ.out j y (by omega) hy
      have NX := Lib.hid next
      have HRF := Lib.hid hrf
      clear next hz hrf
      by_cases h0 : 1 ≤ z
      · have d0 : decide (z < 1) = false := decide_eq_false (by omega)
        by_cases h1 : z ≤ 1000
        · have d1 : decide (1000 < z) = false := decide_eq_false (by omega)
          go_wp2
          go_round
          case rel => exact ⟨n + 1, by omega, by go_num, NX.out ⟨h0, h1⟩⟩
          case measure => simp [intOf]; omega
        · have d1 : decide (1000 < z) = true := decide_eq_true (by omega)
          obtain rfl := HRF.out (fun h => h1 h.2)
          go_wp2
          go_ret
          exact ⟨rfl, HB.out⟩
      · have d0 : decide (z < 1) = true := decide_eq_true (by omega)
        obtain rfl := HRF.out (fun h => h0 h.1)
        go_wp2
        go_ret
        exact ⟨rfl, HB.out⟩
    obtain rfl : n = 7 := by omega
    obtain rfl := HR.out.2 HJ.out
    go_wp2
    go_ret
    exact ⟨rfl, HB.out⟩
end Go.Proofs.YtpcojaoeahdgcaaGreatDoor

/-
  lockbarref06.exit, flank.
-/
namespace Go.Proofs.YtpcojaoeahdgcaaGreatDoor
open Go.RowKit Go.Shelf

def exitR (L : Lay) (x : Ext') : Bool := x.over.all (fun s => stepB L s.s s.i s.o) && (hasB L x.s x.p && decide (x.over.length ≤ 2))

set_option maxRecDepth 100000 in
set_option maxHeartbeats 8000000 in
theorem rExitOf_any (L : Lay) (p : Where) (x : Ext') (v : Value) (w : World) (hL : LayAt w p L) (hv : Sl w 3 Stp.enc v x.over) :
    Calls Tryz.prog 94 #[L.val p, .agg #[.int .i64 x.s, .int .i64 x.p, v]] w fun e w' => e = .returned (.bool (exitR L x)) ∧ Below w.heap.size w w' := by
  have hr : (∀ (k : Nat) (st : Stp), x.over[k]? = some st → stepB L st.s st.i st.o = false → exitR L x = false) ∧ ((∀ (k : Nat) (st : Stp), k < x.over.length → x.over[k]? = some st → stepB L st.s st.i st.o = true) → exitR L x = (hasB L x.s x.p && decide (x.over.length ≤ 2))) := by
    unfold exitR
    refine ⟨fun k st hk h => ?_, fun h => ?_⟩
    · rw [show x.over.all (fun s => stepB L s.s s.i s.o) = false from ?_]
      · rfl
      · rw [List.all_eq_false]
        exact ⟨st, List.mem_of_getElem? hk, by simp [h]⟩
    · rw [show x.over.all (fun s => stepB L s.s s.i s.o) = true from ?_]
      · rfl
      · rw [List.all_eq_true]
        intro st hst
        obtain ⟨k, hk⟩ := List.mem_iff_getElem?.1 hst
        exact h k st (List.getElem?_eq_some_iff.1 hk).1 hk
  generalize exitR L x = r at hr ⊢
  have ht := fun w1 (b : Below w.heap.size w w1) => rThere_any L p x.s x.p w1 (hL.below b)
  generalize hasB L x.s x.p = hb at hr ht
  have hs := fun (s i o : Int) w1 (b : Below w.heap.size w w1) => rStep_any L p s i o w1 (hL.below b)
  obtain ⟨A, cap, rfl, hlc, hcm, hA⟩ := hv
  have hm : x.over.length ≤ 9223372036854775807 := Nat.le_trans hlc hcm
  have HR := Lib.hid hr
  have HT := Lib.hid ht
  have HS := Lib.hid hs
  have HA := Lib.hid hA
  have hX := (BoxL.make (W := w) (L := L) (p := p) (n := w.heap.size) 29 rfl).below (bself (o := .cells #[.int .i64 x.s, .int .i64 x.p, .slice A x.over.length cap] 51))
  clear hr ht hs hL hlc hcm hA
  unfold Lay.val at *
  go_enter Tryz.func94, Tryz.ntmps94
  go_wp2_with fail
  obtain ⟨Y, hY⟩ : ∃ Y, Y = (w.alloc (.cells (L.cells p).toArray 29)).alloc (.cells #[.int .i64 x.s, .int .i64 x.p, .slice A x.over.length cap] 51) := ⟨_, rfl⟩
  have HB : Hid (Below w.heap.size w Y) := Lib.hid (by rw [hY]; exact bchain bself bself)
  have HX : Hid (BoxL Y w.heap.size L p) := Lib.hid (by rw [hY]; exact hX)
  have q0 : Y.cell? ⟨w.heap.size + 1, 0, none⟩ = some (.int .i64 x.s) := by rw [hY, World.cell?_alloc_at _ _ _ _ (by simp)]; rfl
  have q1 : Y.cell? ⟨w.heap.size + 1, 1, none⟩ = some (.int .i64 x.p) := by rw [hY, World.cell?_alloc_at _ _ _ _ (by simp)]; rfl
  have q2 : Y.cell? ⟨w.heap.size + 1, 2, none⟩ = some (.slice A x.over.length cap) := by rw [hY, World.cell?_alloc_at _ _ _ _ (by simp)]; rfl
  have lq : w.heap.size + 1 < Y.heap.size := by rw [hY]; simp
  have hY' : (w.alloc (.cells #[.slice p.a0 L.secs.length p.c0, .slice p.a1 L.sigs.length p.c1, .slice p.a2 L.exits.length p.c2, .slice p.a3 L.flanks.length p.c3, .int .i64 L.t0, .int .i64 L.t1, .int .i64 L.t2, .int .i64 L.t3, .int .i64 L.t4, .int .i64 L.t5, .int .i64 L.t6] 29)).alloc (.cells #[.int .i64 x.s, .int .i64 x.p, .slice A x.over.length cap] 51) = Y := hY.symm
  rw [hY']
  clear hY hY' hX
  go_loopw [5] (fun x5 wr => ∃ n : Nat, n ≤ x.over.length ∧ x5 = .int .i64 n ∧ Hid (∀ (k : Nat) (st : Stp), k < n → x.over[k]? = some st → stepB L st.s st.i st.o = true) ∧ Hid (Below Y.heap.size Y wr)) (fun x5 _ => x.over.length - (intOf x5).toNat)
  case atStart => exact ⟨0, by omega, rfl, Lib.hid (fun k st hk => absurd hk (Nat.not_lt_zero _)), Lib.hid (Below.refl _ _)⟩
  case round =>
    obtain ⟨n, hn, rfl, HJ, HBr⟩ := hrel
    obtain ⟨V, rfl⟩ : ∃ V : World, V = wr := ⟨_, rfl⟩
    have xL := HX.out.below HBr.out
    have lw := xL.1
    obtain ⟨r0, r1, r2, r3, r4, r5, r6, r7, r8, r9, r10⟩ := xL.cells
    have s0 := (HBr.out.cell (p := ⟨w.heap.size + 1, 0, none⟩) lq).trans q0
    have s1 := (HBr.out.cell (p := ⟨w.heap.size + 1, 1, none⟩) lq).trans q1
    have s2 := (HBr.out.cell (p := ⟨w.heap.size + 1, 2, none⟩) lq).trans q2
    have lq2 : w.heap.size + 1 < V.heap.size := Nat.lt_of_lt_of_le lq HBr.out.size
    have BV := Lib.hid (bchain HB.out HBr.out)
    clear xL
    by_cases hlt : n < x.over.length
    · obtain ⟨b, off, hAe, hrow⟩ := HA.out.get hlt
      subst hAe
      obtain ⟨st, hst⟩ : ∃ st, x.over[n]? = some st := ⟨x.over[n], List.getElem?_eq_getElem hlt⟩
      have hr2 := hrow.below BV.out
      have d0 : V.cell? ⟨b, off + n * 3, none⟩ = some (.int .i64 st.s) := hr2.2 n st hst 0 _ rfl
      have d1 : V.cell? ⟨b, off + n * 3 + 1, none⟩ = some (.int .i64 st.i) := hr2.2 n st hst 1 _ rfl
      have d2 : V.cell? ⟨b, off + n * 3 + 2, none⟩ = some (.int .i64 st.o) := hr2.2 n st hst 2 _ rfl
      have lb : b < V.heap.size := hr2.1
      have h3 := fun w1 hw => HS.out st.s st.i st.o w1 hw
      have hrf := HR.out.1 n st hst
      have next : stepB L st.s st.i st.o = true → Hid (∀ (k : Nat) (st : Stp), k < n + 1 → x.over[k]? = some st → stepB L st.s st.i st.o = true) := fun h => Lib.hid fun k st' hk hk' => by
        by_cases e : k = n
        · subst e
          rw [hst] at hk'
          cases hk'
          exact h
        · exact HJ.out k st' (by omega) hk'
      generalize stepN L st.s st.i st.o = sn at h3
      generalize stepB L st.s st.i st.o = sb at h3 hrf next
      have H3 := Lib.hid h3
      have NX := Lib.hid next
      clear h3 next hst hr2 hrow
      go_wp2_with fail
      refine wp_region_ext (by kernel_rfl) (by kernel_rfl) fun hx => ?_
      repeat (go_big_quiet_step ((go_at_call 35; exact Calls.ext (H3.out _ (bchain BV.out (Ext.below _))))))
      refine wpQuiet_nil ?_
      intro w5 b5
      have HB5 := Lib.hid (bchain HBr.out b5)
      clear b5
      cases sb
      · obtain rfl := hrf rfl
        go_wp2
        go_ret
        exact ⟨rfl, bchain HB.out HB5.out⟩
      · go_wp2
        go_roundw
        case rel => exact ⟨n + 1, by omega, by go_num, NX.out (by simp), HB5⟩
        case measure => simp [intOf]; omega
    obtain rfl : n = x.over.length := by omega
    obtain rfl := HR.out.2 HJ.out
    go_wp2_with fail
    (with_reducible refine (HT.out _ BV.out).mono ?_)
    rintro e w1 ⟨rfl, b1⟩
    obtain ⟨c1, f1, l1⟩ := bcell b1
    have lq3 := l1 _ lq2
    have HB1 := Lib.hid (bchain BV.out b1)
    clear b1 f1 l1
    cases hb
    · go_wp2
      go_ret
      exact ⟨by simp, HB1.out⟩
    · go_wp2
      all_goals
        go_ret
        exact ⟨ret_bool (by simp; try omega), HB1.out⟩
end Go.Proofs.YtpcojaoeahdgcaaGreatDoor

/-
  lockbarref06.flank.
-/
namespace Go.Proofs.YtpcojaoeahdgcaaGreatDoor
open Go.RowKit Go.Shelf

set_option maxRecDepth 100000 in
set_option maxHeartbeats 8000000 in
theorem rFlank_any (L : Lay) (p : Where) (f : Flk) (w : World) (hL : LayAt w p L) :
    Calls Tryz.prog 95 #[L.val p, .agg f.enc.toArray] w fun e w' => e = .returned (.bool (flankT L f)) ∧ Below w.heap.size w w' := by
  obtain ⟨s, way, pt, pos⟩ := f
  unfold Flk.enc
  have hr : flankT L ⟨s, way, pt, pos⟩ = true ↔ flankP L s way pt pos := decide_eq_true_iff
  generalize flankT L ⟨s, way, pt, pos⟩ = r at hr ⊢
  unfold flankP at hr
  have HR := Lib.hid hr
  have m0 : L.secs.length ≤ 9223372036854775807 := Nat.le_trans hL.l0.1 hL.l0.2
  have HL := Lib.hid hL
  clear hr hL
  obtain ⟨a0, a1, a2, a3, p0, p1, p2, p3⟩ := p
  unfold Lay.val
  dsimp only
  by_cases g1 : s < 0
  · have d1 : decide (s < 0) = true := decide_eq_true g1
    have e : r = false := by
      have h := HR.out
      cases r
      · rfl
      · have := of_decide_eq_true (h.1 rfl).1; omega
    subst e
    clear HR
    go_enter Tryz.func95, Tryz.ntmps95
    go_wp2
    go_ret
    exact ⟨rfl, bchain bself bself⟩
  have d1 : decide (s < 0) = false := decide_eq_false g1
  obtain ⟨n1, rfl⟩ : ∃ n : Nat, s = (n : Int) := ⟨s.toNat, by omega⟩
  by_cases g2 : L.secs.length ≤ n1
  · have d2 : decide (L.secs.length ≤ n1) = true := decide_eq_true g2
    have e : r = false := by
      have h := HR.out
      cases r
      · rfl
      · have := of_decide_eq_true (h.1 rfl).1; omega
    subst e
    clear HR
    go_enter Tryz.func95, Tryz.ntmps95
    go_wp2
    go_ret
    exact ⟨rfl, bchain bself bself⟩
  have d2 : decide (L.secs.length ≤ n1) = false := decide_eq_false g2
  by_cases g3 : pt < 0
  · have d3 : decide (pt < 0) = true := decide_eq_true g3
    have e : r = false := by
      have h := HR.out
      cases r
      · rfl
      · have := of_decide_eq_true (h.1 rfl).2.1; omega
    subst e
    clear HR
    go_enter Tryz.func95, Tryz.ntmps95
    go_wp2
    go_ret
    exact ⟨rfl, bchain bself bself⟩
  have d3 : decide (pt < 0) = false := decide_eq_false g3
  obtain ⟨n2, rfl⟩ : ∃ n : Nat, pt = (n : Int) := ⟨pt.toNat, by omega⟩
  by_cases g4 : L.secs.length ≤ n2
  · have d4 : decide (L.secs.length ≤ n2) = true := decide_eq_true g4
    have e : r = false := by
      have h := HR.out
      cases r
      · rfl
      · have := of_decide_eq_true (h.1 rfl).2.1; omega
    subst e
    clear HR
    go_enter Tryz.func95, Tryz.ntmps95
    go_wp2
    go_ret
    exact ⟨rfl, bchain bself bself⟩
  have d4 : decide (L.secs.length ≤ n2) = false := decide_eq_false g4
  by_cases g5 : n1 = n2
  · have d5 : (n1 == n2) = true := by simpa using g5
    have e : r = false := by
      have h := HR.out
      cases r
      · rfl
      · exact absurd (congrArg (Nat.cast : Nat → Int) g5) ((h.1 rfl).2.2.1)
    subst e
    clear HR
    clear d1 d2 g1 g2
    subst g5
    go_enter Tryz.func95, Tryz.ntmps95
    go_wp2
    go_ret
    exact ⟨rfl, bchain bself bself⟩
  have d5 : ((n1 : Int) == (n2 : Int)) = false := by simp; omega
  have d5' : ¬ (n1 : Int) = (n2 : Int) := by omega
  by_cases g6 : pos < 0
  · have d6 : decide (pos < 0) = true := decide_eq_true g6
    have e : r = false := by
      have h := HR.out
      cases r
      · rfl
      · have := (h.1 rfl).2.2.2.1; omega
    subst e
    clear HR
    go_enter Tryz.func95, Tryz.ntmps95
    go_wp2
    go_ret
    exact ⟨rfl, bchain bself bself⟩
  have d6 : decide (pos < 0) = false := decide_eq_false g6
  by_cases g7 : 1 < pos
  · have d7 : decide ((1 : Int) < pos) = true := decide_eq_true g7
    have e : r = false := by
      have h := HR.out
      cases r
      · rfl
      · have := (h.1 rfl).2.2.2.2.1; omega
    subst e
    clear HR
    go_enter Tryz.func95, Tryz.ntmps95
    go_wp2
    go_ret
    exact ⟨rfl, bchain bself bself⟩
  have d7 : decide ((1 : Int) < pos) = false := decide_eq_false g7
  obtain ⟨c1, hc1⟩ : ∃ c, L.secs[n1]? = some c := ⟨_, List.getElem?_eq_getElem (by omega)⟩
  obtain ⟨c2, hc2⟩ : ∃ c, L.secs[n2]? = some c := ⟨_, List.getElem?_eq_getElem (by omega)⟩
  obtain ⟨bS, off, hAe, hbS, q1⟩ := kind_cell HL.out (by omega) hc1
  obtain ⟨bS', off', hAe', _, q2⟩ := kind_cell HL.out (by omega) hc2
  dsimp only at hAe hAe'
  subst hAe
  simp only [Option.some.injEq, Addr.mk.injEq, and_true] at hAe'
  obtain ⟨rfl, rfl⟩ := hAe'
  have ek1 : secK L (n1 : Int) = c1.k := by
    unfold secK secAt
    rw [if_pos (by omega), Int.toNat_natCast, hc1]
  have ek2 : secK L (n2 : Int) = c2.k := by
    unfold secK secAt
    rw [if_pos (by omega), Int.toNat_natCast, hc2]
  have hw := fun w1 => rWays_any c1.k w1
  obtain ⟨m, hm⟩ : ∃ m, m = kMany c1.k := ⟨_, rfl⟩
  have hR := HR.out
  rw [ek1, ek2, ← hm] at hR
  rw [← hm] at hw
  generalize c1.k = k1 at q1 hw
  generalize c2.k = k2 at q2 hR
  have e : r = (decide (0 ≤ way) && (decide (way < m) && decide (k2 = 2))) := by
    rw [Bool.eq_iff_iff, hR]
    simp only [Bool.and_eq_true, decide_eq_true_eq]
    constructor
    · intro q; exact ⟨q.2.2.2.2.2.1, q.2.2.2.2.2.2.1, q.2.2.2.2.2.2.2⟩
    · intro q; exact ⟨decide_eq_true (by omega), decide_eq_true (by omega), fun e => g5 (by omega), by omega, by omega, q.1, q.2.1, q.2.2⟩
  have HW := Lib.hid hw
  have HE := Lib.hid e
  have lb1 : bS < w.heap.size + 1 := by omega
  have lb2 : bS < w.heap.size + 1 + 1 := by omega
  clear hw e hR HR ek1 ek2 hm hc1 hc2 HL
  have hcase : decide (0 ≤ way) = false ∨ (decide (0 ≤ way) = true ∧ decide (way < m) = false) ∨ (decide (0 ≤ way) = true ∧ decide (way < m) = true) := by
    cases decide (0 ≤ way) <;> cases decide (way < m) <;> simp
  rcases hcase with d8 | ⟨d8, d9⟩ | ⟨d8, d9⟩
  all_goals
    by_cases g10 : k2 = 2
    · subst g10
      go_enter Tryz.func95, Tryz.ntmps95
      go_wp2_with fail
      refine wp_region_ext (by kernel_rfl) (by kernel_rfl) fun hx => ?_
      repeat (go_big_quiet_step ((go_at_call 65; exact Calls.ext (HW.out _))))
      refine wpQuiet_nil ?_
      intro w5 b5
      go_wp2
      go_ret
      exact ⟨by rw [HE.out]; simp [*], bchain (bchain bself bself) b5⟩
    · have d10 : (k2 == 2) = false := by simpa using g10
      go_enter Tryz.func95, Tryz.ntmps95
      go_wp2_with fail
      refine wp_region_ext (by kernel_rfl) (by kernel_rfl) fun hx => ?_
      repeat (go_big_quiet_step ((go_at_call 65; exact Calls.ext (HW.out _))))
      refine wpQuiet_nil ?_
      intro w5 b5
      go_wp2
      go_ret
      exact ⟨by rw [HE.out]; simp [*], bchain (bchain bself bself) b5⟩
end Go.Proofs.YtpcojaoeahdgcaaGreatDoor

/-
  lockbarref06.Right: it answers as layout.Right.
-/
namespace Go.Proofs.YtpcojaoeahdgcaaGreatDoor
open Go.RowKit Go.Shelf

def rightR (L : Lay) : Bool := L.secs.all (secR L) && (L.sigs.all (fun x => hasB L x.s x.p) && (L.exits.all (exitR L) && (L.flanks.all (flankT L) && (sizesT L && timesT L))))
theorem jn_mem (c : Sec) (x : Prt) : ∀ i, x ∈ jn c i ↔ ∃ j, j < i ∧ 0 ≤ c.S j ∧ x = ⟨c.S j, c.P j⟩
  | 0 => by simp [jn]
  | i + 1 => by
    simp only [jn, List.mem_append, jn_mem c x i]
    constructor
    · rintro (⟨j, hj, h⟩ | h)
      · exact ⟨j, by omega, h⟩
      · split at h
        · rename_i h0
          simp only [List.mem_cons, List.not_mem_nil, or_false] at h
          exact ⟨i, by omega, h0, h⟩
        · cases h
    · rintro ⟨j, hj, h0, h⟩
      by_cases e : j = i
      · subst e
        exact .inr (by rw [if_pos h0]; simp [h])
      · exact .inl ⟨j, by omega, h0, h⟩
theorem sj_mem (xs : List Sec) (x : Prt) : ∀ n, x ∈ sj xs n ↔ ∃ k, k < n ∧ x ∈ jn (xs.getD k default) 4
  | 0 => by simp [sj]
  | n + 1 => by
    simp only [sj, List.mem_append, sj_mem xs x n]
    constructor
    · rintro (⟨k, hk, h⟩ | h)
      · exact ⟨k, by omega, h⟩
      · exact ⟨n, by omega, h⟩
    · rintro ⟨k, hk, h⟩
      by_cases e : k = n
      · subst e; exact .inr h
      · exact .inl ⟨k, by omega, h⟩
theorem portsL_mem (L : Lay) (x : Prt) : x ∈ portsL L ↔ (∃ c ∈ L.secs, ∃ j, j < 4 ∧ 0 ≤ c.S j ∧ x = ⟨c.S j, c.P j⟩) ∨ x ∈ L.sigs ∨ ∃ e ∈ L.exits, x = ⟨e.s, e.p⟩ := by
  unfold portsL
  simp only [List.mem_append, sj_mem, jn_mem, List.mem_map, exP]
  constructor
  · rintro (⟨k, hk, h⟩ | h | ⟨e, he, h⟩)
    · refine .inl ⟨_, ?_, h⟩
      rw [List.getD_eq_getElem?_getD, List.getElem?_eq_getElem hk]
      exact List.getElem_mem hk
    · exact .inr (.inl h)
    · exact .inr (.inr ⟨e, he, h.symm⟩)
  · rintro (⟨c, hc, h⟩ | h | ⟨e, he, h⟩)
    · obtain ⟨k, hk⟩ := List.mem_iff_getElem?.1 hc
      refine .inl ⟨k, (List.getElem?_eq_some_iff.1 hk).1, ?_⟩
      rw [List.getD_eq_getElem?_getD, hk]
      exact h
    · exact .inr (.inl h)
    · exact .inr (.inr ⟨e, he, h.symm⟩)
theorem jok_all (L : Lay) (c : Sec) : (jokT L c 0 = true ∧ jokT L c 1 = true ∧ jokT L c 2 = true ∧ jokT L c 3 = true) ↔ ∀ j, j < 4 → 0 ≤ c.S j → hasB L (c.S j) (c.P j) = true := by
  have key : ∀ i, jokT L c i = true ↔ (0 ≤ c.S i → hasB L (c.S i) (c.P i) = true) := fun i => by
    unfold jokT
    simp only [Bool.or_eq_true, decide_eq_true_eq]
    constructor
    · rintro (h | h)
      · intro g; omega
      · intro _; exact h
    · intro h
      by_cases g : 0 ≤ c.S i
      · exact .inr (h g)
      · exact .inl (by omega)
  simp only [key]
  constructor
  · rintro ⟨h0, h1, h2, h3⟩ j hj
    obtain rfl | rfl | rfl | rfl : j = 0 ∨ j = 1 ∨ j = 2 ∨ j = 3 := by omega
    all_goals assumption
  · intro h
    exact ⟨h 0 (by omega), h 1 (by omega), h 2 (by omega), h 3 (by omega)⟩
theorem rightR_eq (L : Lay) : rightR L = rightL L := by
  rw [Bool.eq_iff_iff]
  unfold rightR rightL portsT secR exitR overT
  simp only [Bool.and_eq_true, List.all_eq_true, decide_eq_true_eq]
  have hm : (∀ x ∈ portsL L, hasB L x.s x.p = true) ↔ (∀ c ∈ L.secs, ∀ j, j < 4 → 0 ≤ c.S j → hasB L (c.S j) (c.P j) = true) ∧ (∀ x ∈ L.sigs, hasB L x.s x.p = true) ∧ ∀ e ∈ L.exits, hasB L e.s e.p = true := by
    constructor
    · intro h
      exact ⟨fun c hc j hj h0 => h ⟨c.S j, c.P j⟩ ((portsL_mem L _).2 (.inl ⟨c, hc, j, hj, h0, rfl⟩)), fun x hx => h x ((portsL_mem L _).2 (.inr (.inl hx))), fun e he => h ⟨e.s, e.p⟩ ((portsL_mem L _).2 (.inr (.inr ⟨e, he, rfl⟩)))⟩
    · rintro ⟨h1, h2, h3⟩ x hx
      rcases (portsL_mem L x).1 hx with ⟨c, hc, j, hj, h0, rfl⟩ | h | ⟨e, he, rfl⟩
      · exact h1 c hc j hj h0
      · exact h2 x h
      · exact h3 e he
  constructor
  · rintro ⟨h1, h2, h3, h4, h5, h6⟩
    refine ⟨⟨⟨⟨⟨h5, h6⟩, fun c hc => (h1 c hc).2⟩, h4⟩, hm.2 ⟨fun c hc => (jok_all L c).1 ?_, h2, fun e he => (h3 e he).2.1⟩⟩, fun e he => ⟨(h3 e he).2.2, (h3 e he).1⟩⟩
    obtain ⟨⟨⟨⟨g0, g1⟩, g2⟩, g3⟩, _⟩ := h1 c hc
    exact ⟨g0, g1, g2, g3⟩
  · rintro ⟨⟨⟨⟨⟨h5, h6⟩, h1⟩, h4⟩, hp⟩, h3⟩
    obtain ⟨q1, q2, q3⟩ := hm.1 hp
    refine ⟨fun c hc => ?_, q2, fun e he => ⟨(h3 e he).2, q3 e he, (h3 e he).1⟩, h4, h5, h6⟩
    obtain ⟨g0, g1, g2, g3⟩ := (jok_all L c).2 (q1 c hc)
    exact ⟨⟨⟨⟨g0, g1⟩, g2⟩, g3⟩, h1 c hc⟩
theorem rightR_facts (L : Lay) : (∀ (n : Nat) (x : Sec), L.secs[n]? = some x → secR L x = false → rightR L = false) ∧ (∀ (n : Nat) (x : Prt), L.sigs[n]? = some x → hasB L x.s x.p = false → rightR L = false) ∧
    (∀ (n : Nat) (x : Ext'), L.exits[n]? = some x → exitR L x = false → rightR L = false) ∧ (∀ (n : Nat) (x : Flk), L.flanks[n]? = some x → flankT L x = false → rightR L = false) ∧
    ((∀ (j : Nat) (y : Sec), j < L.secs.length → L.secs[j]? = some y → secR L y = true) → (∀ (j : Nat) (y : Prt), j < L.sigs.length → L.sigs[j]? = some y → hasB L y.s y.p = true) → (∀ (j : Nat) (y : Ext'), j < L.exits.length → L.exits[j]? = some y → exitR L y = true) →
      (∀ (j : Nat) (y : Flk), j < L.flanks.length → L.flanks[j]? = some y → flankT L y = true) → rightR L = (sizesT L && timesT L)) := by
  have none {α : Type} {f : α → Bool} {xs : List α} {n : Nat} {x : α} (hx : xs[n]? = some x) (h : f x = false) : xs.all f = false := by
    rw [List.all_eq_false]; exact ⟨x, List.mem_of_getElem? hx, by simp [h]⟩
  have all {α : Type} {f : α → Bool} {xs : List α} (h : ∀ (j : Nat) (y : α), j < xs.length → xs[j]? = some y → f y = true) : xs.all f = true := by
    rw [List.all_eq_true]
    intro y hy
    obtain ⟨j, hj⟩ := List.mem_iff_getElem?.1 hy
    exact h j y (List.getElem?_eq_some_iff.1 hj).1 hj
  unfold rightR
  refine ⟨fun n x hx h => ?_, fun n x hx h => ?_, fun n x hx h => ?_, fun n x hx h => ?_, fun h1 h2 h3 h4 => ?_⟩
  · rw [none hx h]; rfl
  · rw [none (f := fun x : Prt => hasB L x.s x.p) hx h]; simp
  · rw [none hx h]; simp
  · rw [none hx h]; simp
  · rw [all h1, all (f := fun x : Prt => hasB L x.s x.p) h2, all h3, all h4]; rfl

set_option maxRecDepth 100000 in
set_option maxHeartbeats 16000000 in
theorem rRight_any (L : Lay) (p : Where) (w : World) (hL : LayAt w p L) :
    Calls Tryz.prog 57 #[L.val p] w fun e w' => e = .returned (.bool (rightL L)) ∧ Below w.heap.size w w' := by
  have hr := rightR_facts L
  rw [rightR_eq] at hr
  unfold sizesT at hr
  generalize rightL L = r at hr ⊢
  have h1 := fun (x : Sec) w1 (b : Below w.heap.size w w1) => rSection_any L p x w1 (hL.below b)
  have h2 := fun (s q : Int) w1 (b : Below w.heap.size w w1) => rThere_any L p s q w1 (hL.below b)
  have h3 := fun (x : Ext') (v : Value) w1 (b : Below w.heap.size w w1) (hv : Sl w 3 Stp.enc v x.over) => rExitOf_any L p x v w1 (hL.below b) (hv.below b)
  have h4 := fun (x : Flk) w1 (b : Below w.heap.size w w1) => rFlank_any L p x w1 (hL.below b)
  have h6 := fun w1 => rTimes_any L w1
  have m0 : L.secs.length ≤ 9223372036854775807 := Nat.le_trans hL.l0.1 hL.l0.2
  have m1 : L.sigs.length ≤ 9223372036854775807 := Nat.le_trans hL.l1.1 hL.l1.2
  have m2 : L.exits.length ≤ 9223372036854775807 := Nat.le_trans hL.l2.1 hL.l2.2
  have m3 : L.flanks.length ≤ 9223372036854775807 := Nat.le_trans hL.l3.1 hL.l3.2
  have hX := BoxL.make (W := w) (L := L) (p := p) (n := w.heap.size) 29 rfl
  generalize timesT L = tt at hr h6
  have HR := Lib.hid hr
  have H1 := Lib.hid h1
  have H2 := Lib.hid h2
  have H3 := Lib.hid h3
  have H4 := Lib.hid h4
  have H6 := Lib.hid h6
  have HL := Lib.hid hL
  clear hr h1 h2 h3 h4 h6 hL
  obtain ⟨a0, a1, a2, a3, p0, p1, p2, p3⟩ := p
  unfold Lay.val at *
  unfold Lay.cells at hX
  go_enter Tryz.func57, Tryz.ntmps57
  go_wp2_with fail
  obtain ⟨Y, hY⟩ : ∃ Y, Y = w.alloc (.cells #[.slice a0 L.secs.length p0, .slice a1 L.sigs.length p1, .slice a2 L.exits.length p2, .slice a3 L.flanks.length p3, .int .i64 L.t0, .int .i64 L.t1, .int .i64 L.t2, .int .i64 L.t3, .int .i64 L.t4, .int .i64 L.t5, .int .i64 L.t6] 29) := ⟨_, rfl⟩
  have HB : Hid (Below w.heap.size w Y) := Lib.hid (by rw [hY]; exact bself)
  have HX : Hid (BoxL Y w.heap.size L ⟨a0, a1, a2, a3, p0, p1, p2, p3⟩) := Lib.hid (by rw [hY]; exact hX)
  rw [← hY]
  clear hY hX
  go_loopw [3] (fun c wr => ∃ n : Nat, n ≤ L.secs.length ∧ c = .int .i64 n ∧ Hid (∀ (j : Nat) (y : Sec), j < n → L.secs[j]? = some y → secR L y = true) ∧ Hid (Below Y.heap.size Y wr)) (fun c _ => L.secs.length - (intOf c).toNat)
  case atStart => exact ⟨0, Nat.zero_le _, rfl, Lib.hid (fun j y hj => absurd hj (Nat.not_lt_zero _)), Lib.hid (Below.refl _ _)⟩
  case round =>
    obtain ⟨n0, hn, rfl, HJ, HBr⟩ := hrel
    obtain ⟨V, rfl⟩ : ∃ V : World, V = wr := ⟨_, rfl⟩
    have xL := HX.out.below HBr.out
    have lw := xL.1
    obtain ⟨r0, r1, r2, r3, r4, r5, r6, r7, r8, r9, r10⟩ := xL.cells
    have BV := Lib.hid (bchain HB.out HBr.out)
    clear xL
    by_cases hlt : n0 < L.secs.length
    · obtain ⟨b, off, hAe, hrow⟩ := HL.out.secs.get hlt
      dsimp only at hAe
      subst hAe
      obtain ⟨x, hx⟩ : ∃ x, L.secs[n0]? = some x := ⟨L.secs[n0], List.getElem?_eq_getElem hlt⟩
      obtain ⟨k0, k1, k2, k3, k4, k5, k6, k7, k8, k9, k10⟩ := sec_cells (hrow.below BV.out) hx
      have lb : b < V.heap.size := (hrow.below BV.out).1
      have h3 := fun w1 hw => H1.out x w1 hw
      unfold Sec.enc at h3
      have hrf := HR.out.1 n0 x hx
      have next : secR L x = true → Hid (∀ (j : Nat) (y : Sec), j < n0 + 1 → L.secs[j]? = some y → secR L y = true) := fun h => Lib.hid fun j y hj hy => by
        by_cases e : j = n0
        · subst e
          rw [hx] at hy
          cases hy
          exact h
        · exact HJ.out j y (by omega) hy
      generalize secR L x = sb at h3 hrf next
      have H5 := Lib.hid h3
      have NX := Lib.hid next
      clear h3 next hx hrow
      go_wp2_with fail
      refine wp_region_ext (by kernel_rfl) (by kernel_rfl) fun hx => ?_
      repeat (go_big_quiet_step ((go_at_call 92; exact Calls.ext (H5.out _ (bchain BV.out (Ext.below _))))))
      refine wpQuiet_nil ?_
      intro w5 b5
      have HB5 := Lib.hid (bchain HBr.out b5)
      clear b5
      cases sb
      · obtain rfl := hrf rfl
        go_wp2
        go_ret
        exact ⟨rfl, bchain HB.out HB5.out⟩
      · go_wp2
        go_roundw
        case rel => exact ⟨n0 + 1, by omega, by go_num, NX.out (by simp), HB5⟩
        case measure => simp [intOf]; omega
    obtain rfl : n0 = L.secs.length := by omega
    have HJ0 := HJ
    go_wp2_with fail
    clear r0 r1 r2 r3 r4 r5 r6 r7 r8 r9 r10 hlt hn lw BV HJ
    obtain ⟨V0, rfl⟩ : ∃ V0 : World, V0 = V := ⟨_, rfl⟩
    have HBs0 := HBr
    clear HBr
    go_loopw [4] (fun c wr => ∃ n : Nat, n ≤ L.sigs.length ∧ c = .int .i64 n ∧ Hid (∀ (j : Nat) (y : Prt), j < n → L.sigs[j]? = some y → hasB L y.s y.p = true) ∧ Hid (Below Y.heap.size Y wr)) (fun c _ => L.sigs.length - (intOf c).toNat)
    case atStart => exact ⟨0, Nat.zero_le _, rfl, Lib.hid (fun j y hj => absurd hj (Nat.not_lt_zero _)), HBs0⟩
    case round =>
      obtain ⟨n1, hn, rfl, HJ, HBr⟩ := hrel
      obtain ⟨V, rfl⟩ : ∃ V : World, V = wr := ⟨_, rfl⟩
      have xL := HX.out.below HBr.out
      have lw := xL.1
      obtain ⟨r0, r1, r2, r3, r4, r5, r6, r7, r8, r9, r10⟩ := xL.cells
      have BV := Lib.hid (bchain HB.out HBr.out)
      clear xL
      by_cases hlt : n1 < L.sigs.length
      · obtain ⟨b, off, hAe, hrow⟩ := HL.out.sigs.get hlt
        dsimp only at hAe
        subst hAe
        obtain ⟨x, hx⟩ : ∃ x, L.sigs[n1]? = some x := ⟨L.sigs[n1], List.getElem?_eq_getElem hlt⟩
        have k0 : V.cell? ⟨b, off + n1 * 2, none⟩ = some (.int .i64 x.s) := (hrow.below BV.out).2 n1 x hx 0 _ rfl
        have k1 : V.cell? ⟨b, off + n1 * 2 + 1, none⟩ = some (.int .i64 x.p) := (hrow.below BV.out).2 n1 x hx 1 _ rfl
        have lb : b < V.heap.size := (hrow.below BV.out).1
        have h3 := fun w1 hw => H2.out x.s x.p w1 hw
        have hrf := HR.out.2.1 n1 x hx
        have next : hasB L x.s x.p = true → Hid (∀ (j : Nat) (y : Prt), j < n1 + 1 → L.sigs[j]? = some y → hasB L y.s y.p = true) := fun h => Lib.hid fun j y hj hy => by
          by_cases e : j = n1
          · subst e
            rw [hx] at hy
            cases hy
            exact h
          · exact HJ.out j y (by omega) hy
        generalize hasB L x.s x.p = sb at h3 hrf next
        have H5 := Lib.hid h3
        have NX := Lib.hid next
        clear h3 next hx hrow
        go_wp2_with fail
        refine wp_region_ext (by kernel_rfl) (by kernel_rfl) fun hx => ?_
        repeat (go_big_quiet_step ((go_at_call 93; exact Calls.ext (H5.out _ (bchain BV.out (Ext.below _))))))
        refine wpQuiet_nil ?_
        intro w5 b5
        have HB5 := Lib.hid (bchain HBr.out b5)
        clear b5
        cases sb
        · obtain rfl := hrf rfl
          go_wp2
          go_ret
          exact ⟨rfl, bchain HB.out HB5.out⟩
        · go_wp2
          go_roundw
          case rel => exact ⟨n1 + 1, by omega, by go_num, NX.out (by simp), HB5⟩
          case measure => simp [intOf]; omega
      obtain rfl : n1 = L.sigs.length := by omega
      have HJ1 := HJ
      go_wp2_with fail
      clear r0 r1 r2 r3 r4 r5 r6 r7 r8 r9 r10 hlt hn lw BV HJ
      obtain ⟨V1, rfl⟩ : ∃ V1 : World, V1 = V := ⟨_, rfl⟩
      have HBs1 := HBr
      clear HBr
      go_loopw [5] (fun c wr => ∃ n : Nat, n ≤ L.exits.length ∧ c = .int .i64 n ∧ Hid (∀ (j : Nat) (y : Ext'), j < n → L.exits[j]? = some y → exitR L y = true) ∧ Hid (Below Y.heap.size Y wr)) (fun c _ => L.exits.length - (intOf c).toNat)
      case atStart => exact ⟨0, Nat.zero_le _, rfl, Lib.hid (fun j y hj => absurd hj (Nat.not_lt_zero _)), HBs1⟩
      case round =>
        obtain ⟨n2, hn, rfl, HJ, HBr⟩ := hrel
        obtain ⟨V, rfl⟩ : ∃ V : World, V = wr := ⟨_, rfl⟩
        have xL := HX.out.below HBr.out
        have lw := xL.1
        obtain ⟨r0, r1, r2, r3, r4, r5, r6, r7, r8, r9, r10⟩ := xL.cells
        have BV := Lib.hid (bchain HB.out HBr.out)
        clear xL
        by_cases hlt : n2 < L.exits.length
        · obtain ⟨es, hes, hAt, hSl⟩ := HL.out.exits
          have hlen : es.length = L.exits.length := by rw [← hes, List.length_map]
          obtain ⟨b, off, hAe, hrow⟩ := hAt.get (j := n2) (by omega)
          dsimp only at hAe
          subst hAe
          obtain ⟨y, hy⟩ : ∃ y, es[n2]? = some y := ⟨es[n2]'(by omega), List.getElem?_eq_getElem (by omega)⟩
          obtain ⟨x, v⟩ := y
          have hx : L.exits[n2]? = some x := by rw [← hes, List.getElem?_map, hy]; rfl
          have k0 : V.cell? ⟨b, off + n2 * 3, none⟩ = some (.int .i64 x.s) := (hrow.below BV.out).2 n2 _ hy 0 _ rfl
          have k1 : V.cell? ⟨b, off + n2 * 3 + 1, none⟩ = some (.int .i64 x.p) := (hrow.below BV.out).2 n2 _ hy 1 _ rfl
          have k2 : V.cell? ⟨b, off + n2 * 3 + 2, none⟩ = some v := (hrow.below BV.out).2 n2 _ hy 2 _ rfl
          have lb : b < V.heap.size := (hrow.below BV.out).1
          have hsl : Sl w 3 Stp.enc v x.over := hSl _ (List.mem_of_getElem? hy)
          have h3 := fun w1 hw => H3.out x v w1 hw hsl
          obtain ⟨A, cap, rfl, _, _, _⟩ := hsl
          clear hy hSl hAt hes hlen
          have hrf := HR.out.2.2.1 n2 x hx
          have next : exitR L x = true → Hid (∀ (j : Nat) (y : Ext'), j < n2 + 1 → L.exits[j]? = some y → exitR L y = true) := fun h => Lib.hid fun j y hj hy => by
            by_cases e : j = n2
            · subst e
              rw [hx] at hy
              cases hy
              exact h
            · exact HJ.out j y (by omega) hy
          generalize exitR L x = sb at h3 hrf next
          have H5 := Lib.hid h3
          have NX := Lib.hid next
          clear h3 next hx hrow
          go_wp2_with fail
          refine wp_region_ext (by kernel_rfl) (by kernel_rfl) fun hx => ?_
          repeat (go_big_quiet_step ((go_at_call 94; exact Calls.ext (H5.out _ (bchain BV.out (Ext.below _))))))
          refine wpQuiet_nil ?_
          intro w5 b5
          have HB5 := Lib.hid (bchain HBr.out b5)
          clear b5
          cases sb
          · obtain rfl := hrf rfl
            go_wp2
            go_ret
            exact ⟨rfl, bchain HB.out HB5.out⟩
          · go_wp2
            go_roundw
            case rel => exact ⟨n2 + 1, by omega, by go_num, NX.out (by simp), HB5⟩
            case measure => simp [intOf]; omega
        obtain rfl : n2 = L.exits.length := by omega
        have HJ2 := HJ
        go_wp2_with fail
        clear r0 r1 r2 r3 r4 r5 r6 r7 r8 r9 r10 hlt hn lw BV HJ
        obtain ⟨V2, rfl⟩ : ∃ V2 : World, V2 = V := ⟨_, rfl⟩
        have HBs2 := HBr
        clear HBr
        go_loopw [6] (fun c wr => ∃ n : Nat, n ≤ L.flanks.length ∧ c = .int .i64 n ∧ Hid (∀ (j : Nat) (y : Flk), j < n → L.flanks[j]? = some y → flankT L y = true) ∧ Hid (Below Y.heap.size Y wr)) (fun c _ => L.flanks.length - (intOf c).toNat)
        case atStart => exact ⟨0, Nat.zero_le _, rfl, Lib.hid (fun j y hj => absurd hj (Nat.not_lt_zero _)), HBs2⟩
        case round =>
          obtain ⟨n3, hn, rfl, HJ, HBr⟩ := hrel
          obtain ⟨V, rfl⟩ : ∃ V : World, V = wr := ⟨_, rfl⟩
          have xL := HX.out.below HBr.out
          have lw := xL.1
          obtain ⟨r0, r1, r2, r3, r4, r5, r6, r7, r8, r9, r10⟩ := xL.cells
          have BV := Lib.hid (bchain HB.out HBr.out)
          clear xL
          by_cases hlt : n3 < L.flanks.length
          · obtain ⟨b, off, hAe, hrow⟩ := HL.out.flanks.get hlt
            dsimp only at hAe
            subst hAe
            obtain ⟨x, hx⟩ : ∃ x, L.flanks[n3]? = some x := ⟨L.flanks[n3], List.getElem?_eq_getElem hlt⟩
            have k0 : V.cell? ⟨b, off + n3 * 4, none⟩ = some (.int .i64 x.s) := (hrow.below BV.out).2 n3 x hx 0 _ rfl
            have k1 : V.cell? ⟨b, off + n3 * 4 + 1, none⟩ = some (.int .i64 x.way) := (hrow.below BV.out).2 n3 x hx 1 _ rfl
            have k2 : V.cell? ⟨b, off + n3 * 4 + 2, none⟩ = some (.int .i64 x.pt) := (hrow.below BV.out).2 n3 x hx 2 _ rfl
            have k3 : V.cell? ⟨b, off + n3 * 4 + 3, none⟩ = some (.int .i64 x.pos) := (hrow.below BV.out).2 n3 x hx 3 _ rfl
            have lb : b < V.heap.size := (hrow.below BV.out).1
            have h3 := fun w1 hw => H4.out x w1 hw
            unfold Flk.enc at h3
            have hrf := HR.out.2.2.2.1 n3 x hx
            have next : flankT L x = true → Hid (∀ (j : Nat) (y : Flk), j < n3 + 1 → L.flanks[j]? = some y → flankT L y = true) := fun h => Lib.hid fun j y hj hy => by
              by_cases e : j = n3
              · subst e
                rw [hx] at hy
                cases hy
                exact h
              · exact HJ.out j y (by omega) hy
            generalize flankT L x = sb at h3 hrf next
            have H5 := Lib.hid h3
            have NX := Lib.hid next
            clear h3 next hx hrow
            go_wp2_with fail
            refine wp_region_ext (by kernel_rfl) (by kernel_rfl) fun hx => ?_
            repeat (go_big_quiet_step ((go_at_call 95; exact Calls.ext (H5.out _ (bchain BV.out (Ext.below _))))))
            refine wpQuiet_nil ?_
            intro w5 b5
            have HB5 := Lib.hid (bchain HBr.out b5)
            clear b5
            cases sb
            · obtain rfl := hrf rfl
              go_wp2
              go_ret
              exact ⟨rfl, bchain HB.out HB5.out⟩
            · go_wp2
              go_roundw
              case rel => exact ⟨n3 + 1, by omega, by go_num, NX.out (by simp), HB5⟩
              case measure => simp [intOf]; omega
          obtain rfl : n3 = L.flanks.length := by omega
          have HJ3 := HJ
          have HRV := Lib.hid (HR.out.2.2.2.2 HJ0.out HJ1.out HJ2.out HJ3.out)
          have fin : ∀ (b0 b1 b2 b3 : Bool), decide ((L.secs.length : Int) ≤ 24) = b0 → decide ((L.sigs.length : Int) ≤ 12) = b1 → decide ((L.exits.length : Int) ≤ 12) = b2 → decide ((L.flanks.length : Int) ≤ 16) = b3 →
              (decide (L.secs.length ≤ 24) && decide (L.sigs.length ≤ 12) && decide (L.exits.length ≤ 12) && decide (L.flanks.length ≤ 16) && tt) = (b0 && b1 && b2 && b3 && tt) := by
            intro b0 b1 b2 b3 e0 e1 e2 e3
            rw [← e0, ← e1, ← e2, ← e3]
            congr 1
            have c (n m : Nat) : decide ((n : Int) ≤ m) = decide (n ≤ m) := by rw [decide_eq_decide]; omega
            have c0 := c L.secs.length 24
            have c1 := c L.sigs.length 12
            have c2 := c L.exits.length 12
            have c3 := c L.flanks.length 16
            simp only [Int.cast_ofNat_Int] at c0 c1 c2 c3
            rw [c0, c1, c2, c3]
          have FIN := Lib.hid fin
          clear fin HR HJ0 HJ1 HJ2 HJ3 HJ
          cases d0 : decide ((L.secs.length : Int) ≤ 24)
          case false =>
            go_wp2
            go_ret
            exact ⟨ret_bool (by rw [HRV.out, FIN.out _ _ _ _ d0 rfl rfl rfl]; simp), BV.out⟩
          cases d1 : decide ((L.sigs.length : Int) ≤ 12)
          case false =>
            go_wp2
            go_ret
            exact ⟨ret_bool (by rw [HRV.out, FIN.out _ _ _ _ d0 d1 rfl rfl]; simp), BV.out⟩
          cases d2 : decide ((L.exits.length : Int) ≤ 12)
          case false =>
            go_wp2
            go_ret
            exact ⟨ret_bool (by rw [HRV.out, FIN.out _ _ _ _ d0 d1 d2 rfl]; simp), BV.out⟩
          cases d3 : decide ((L.flanks.length : Int) ≤ 16)
          case false =>
            go_wp2
            go_ret
            exact ⟨ret_bool (by rw [HRV.out, FIN.out _ _ _ _ d0 d1 d2 d3]; simp), BV.out⟩
          go_wp2_with fail
          (with_reducible refine (H6.out _).mono ?_)
          rintro e w1 ⟨rfl, b1⟩
          go_wp2
          go_ret
          exact ⟨ret_bool (by rw [HRV.out, FIN.out _ _ _ _ d0 d1 d2 d3]; simp), bchain BV.out b1⟩
end Go.Proofs.YtpcojaoeahdgcaaGreatDoor

/-
  What a layout that hangs together is like, plainly: its rules, one by one; and with some signals, exits, flanks left out.
-/
namespace Go.Proofs.YtpcojaoeahdgcaaGreatDoor
open Go.RowKit Go.Shelf

theorem idx_neg {α : Type} {p : α → Bool} {xs : List α} : idxOf' p xs < 0 ↔ ∀ x ∈ xs, p x = false := by
  have h := idx_any (p := p) (xs := xs)
  constructor
  · intro hn x hx
    rw [decide_eq_false (by omega)] at h
    exact by simpa using List.any_eq_false.1 h.symm x hx
  · intro ha
    rw [List.any_eq_false.2 (fun x hx => by rw [ha x hx]; simp)] at h
    have := of_decide_eq_false h
    omega
theorem dups_none {P : Nat → Nat → Bool} : ∀ {n : Nat}, dups P n = [] → ∀ j, j < n → dupAt P j = false
  | 0, _, j, hj => absurd hj (Nat.not_lt_zero _)
  | n + 1, h, j, hj => by
    unfold dups at h
    obtain ⟨h1, h2⟩ := List.append_eq_nil_iff.1 h
    by_cases e : j = n
    · subst e
      cases hd : dupAt P j with
      | false => rfl
      | true => rw [hd] at h2; cases h2
    · exact dups_none h1 j (by omega)
theorem dups_none' {P : Nat → Nat → Bool} : ∀ {n : Nat}, (∀ j, j < n → dupAt P j = false) → dups P n = []
  | 0, _ => rfl
  | k + 1, h => by
    unfold dups
    rw [dups_none' (n := k) (fun j hj => h j (by omega)), h k (by omega)]
    rfl
theorem dupAt_false {P : Nat → Nat → Bool} {k : Nat} : dupAt P k = false ↔ ∀ i, i < k → P i k = false := by
  unfold dupAt
  rw [List.any_eq_false]
  constructor
  · intro h i hi; simpa using h i (List.mem_range.2 hi)
  · intro h i hi; rw [h i (List.mem_range.1 hi)]; simp
theorem first_neg {P : Nat → Nat → Bool} {n : Nat} : firstDup P n < 0 ↔ ∀ k, k < n → ∀ i, i < k → P i k = false := by
  have key : firstDup P n < 0 ↔ dups P n = [] := by
    unfold firstDup
    constructor
    · intro h
      cases hd : dups P n with
      | nil => rfl
      | cons a r => rw [hd] at h; simp at h; omega
    · intro h; rw [h]; decide
  rw [key]
  constructor
  · intro h k hk; exact dupAt_false.1 (dups_none h k hk)
  · intro h; exact dups_none' (fun j hj => dupAt_false.2 (h j hj))

theorem topoR_iff (L : Lay) : topoR L = true ↔ rightL L = true ∧ ∀ j, j < 5 → ruleN L j < 0 := by
  unfold topoR
  rw [decide_eq_true_iff]
  constructor
  · intro h
    cases hr : rightL L with
    | false => rw [check_no hr] at h; cases h
    | true =>
      refine ⟨rfl, ?_⟩
      have step : ∀ n, n ≤ 5 → ∀ j, j < n → ruleN L j < 0 := by
        intro n
        induction n with
        | zero => intro _ j hj; exact absurd hj (Nat.not_lt_zero _)
        | succ n ih =>
          intro hn j hj
          by_cases e : j = n
          · subst e
            apply Classical.byContradiction
            intro hc
            rw [check_hit hr (n := j) (by omega) (ih (by omega)) (by omega)] at h
            cases h
          · exact ih (by omega) j (by omega)
      exact step 5 (by omega)
  · rintro ⟨hr, ha⟩
    rw [check_none hr ha]
theorem rule0_neg (L : Lay) : ruleN L 0 < 0 ↔ joinedL L = true := by
  unfold ruleN
  cases joinedL L <;> simp
theorem rule1_neg (L : Lay) : ruleN L 1 < 0 ↔ ∀ k, k < L.sigs.length → ∀ i, i < k → sigP L i k = false := first_neg
theorem rule2_neg (L : Lay) : ruleN L 2 < 0 ↔ ∀ k, k < L.exits.length → ∀ i, i < k → exQ L i k = false := first_neg
theorem rule3_neg (L : Lay) : ruleN L 3 < 0 ↔ ∀ x ∈ L.exits, overOk L x = true := by
  refine idx_neg.trans ?_
  simp
theorem rule4_neg (L : Lay) : ruleN L 4 < 0 ↔ ∀ k, k < L.flanks.length → ∀ i, i < k → flQ L i k = false := first_neg

/-- A layout of the same sections and times, with other signals, exits, flanks. -/
def swap (L : Lay) (s : List Prt) (x : List Ext') (f : List Flk) : Lay := ⟨L.secs, s, x, f, L.t0, L.t1, L.t2, L.t3, L.t4, L.t5, L.t6⟩
theorem bey_swap (L : Lay) (s x f) (a b : Int) : beyL (swap L s x f) a b = beyL L a b := rfl
theorem has_swap (L : Lay) (s x f) (a b : Int) : hasB (swap L s x f) a b = hasB L a b := rfl
theorem step_swap (L : Lay) (s x f) (a b c : Int) : stepB (swap L s x f) a b c = stepB L a b c := rfl
theorem flank_swap (L : Lay) (s x f) (g : Flk) : flankT (swap L s x f) g = flankT L g := rfl
theorem overF_swap (L : Lay) (s x f) : ∀ (l : List Stp) (a b : Int) (ss : List Int), overF (swap L s x f) a b ss l = overF L a b ss l
  | [], _, _, _ => rfl
  | y :: r, a, b, ss => by
    unfold overF
    rw [bey_swap, overF_swap L s x f r]
theorem overOk_swap (L : Lay) (s x f) (e : Ext') : overOk (swap L s x f) e = overOk L e := overF_swap L s x f _ _ _ _
theorem pj_swap (L : Lay) (s x f) (i : Int) : ∀ n, pj (swap L s x f) i n = pj L i n
  | 0 => rfl
  | n + 1 => by
    unfold pj
    rw [pj_swap L s x f i n, has_swap]
theorem joined_swap (L : Lay) (s x f) : joinedL (swap L s x f) = joinedL L := by
  have e : ∀ i, secFine (swap L s x f) i = secFine L i := fun i => by
    unfold secFine
    rw [pj_swap]
    rfl
  unfold joinedL
  rw [show secFine (swap L s x f) = secFine L from funext e]
  rfl
/-- What layout.Right asks, part by part. -/
theorem right_iff (L : Lay) : rightL L = true ↔ (L.secs.length ≤ 24 ∧ L.sigs.length ≤ 12 ∧ L.exits.length ≤ 12 ∧ L.flanks.length ≤ 16) ∧ timesT L = true ∧ L.secs.all rightT = true ∧ (∀ f ∈ L.flanks, flankT L f = true) ∧
    (∀ c ∈ L.secs, ∀ j, j < 4 → 0 ≤ c.S j → hasB L (c.S j) (c.P j) = true) ∧ (∀ s ∈ L.sigs, hasB L s.s s.p = true) ∧ (∀ x ∈ L.exits, hasB L x.s x.p = true) ∧ ∀ x ∈ L.exits, overT L x = true := by
  unfold rightL sizesT portsT
  simp only [Bool.and_eq_true, decide_eq_true_eq, List.all_eq_true]
  constructor
  · rintro ⟨⟨⟨⟨⟨⟨⟨⟨h1, h2⟩, h3⟩, h4⟩, ht⟩, hs⟩, hf⟩, hp⟩, he⟩
    exact ⟨⟨h1, h2, h3, h4⟩, ht, hs, hf, fun c hc j hj h0 => hp _ ((portsL_mem L ⟨c.S j, c.P j⟩).2 (.inl ⟨c, hc, j, hj, h0, rfl⟩)), fun s hs' => hp s ((portsL_mem L s).2 (.inr (.inl hs'))),
      fun x hx => hp ⟨x.s, x.p⟩ ((portsL_mem L ⟨x.s, x.p⟩).2 (.inr (.inr ⟨x, hx, rfl⟩))), he⟩
  · rintro ⟨⟨h1, h2, h3, h4⟩, ht, hs, hf, hj, hsg, hx, he⟩
    refine ⟨⟨⟨⟨⟨⟨⟨⟨h1, h2⟩, h3⟩, h4⟩, ht⟩, hs⟩, hf⟩, fun p hp => ?_⟩, he⟩
    rcases (portsL_mem L p).1 hp with ⟨c, hc, j, hj4, h0, rfl⟩ | h | ⟨e, h, rfl⟩
    · exact hj c hc j hj4 h0
    · exact hsg p h
    · exact hx e h
theorem right_swap {L : Lay} {s : List Prt} {x : List Ext'} {f : List Flk} (h : rightL L = true) (hs : ∀ y ∈ s, y ∈ L.sigs) (hx : ∀ y ∈ x, y ∈ L.exits) (hf : ∀ y ∈ f, flankT L y = true) (ls : s.length ≤ 12) (lx : x.length ≤ 12) (lf : f.length ≤ 16) : rightL (swap L s x f) = true := by
  obtain ⟨h1, ht, hc, _, hj, hsg, hxx, he⟩ := (right_iff L).1 h
  refine (right_iff _).2 ⟨⟨h1.1, ls, lx, lf⟩, ht, hc, hf, hj, fun y hy => hsg y (hs y hy), fun y hy => hxx y (hx y hy), fun y hy => ?_⟩
  exact he y (hx y hy)
theorem sigP_take {L : Lay} {a i k : Nat} {x f} (hk : k < (L.sigs.take a).length) (hi : i < k) : sigP (swap L (L.sigs.take a) x f) i k = sigP L i k := by
  have h1 : k < a := by simp at hk; omega
  unfold sigP swap
  simp only [List.getElem?_take, if_pos h1, if_pos (Nat.lt_trans hi h1)]
theorem exQ_take {L : Lay} {a i k : Nat} {s f} (hk : k < (L.exits.take a).length) (hi : i < k) : exQ (swap L s (L.exits.take a) f) i k = exQ L i k := by
  have h1 : k < a := by simp at hk; omega
  unfold exQ swap
  simp only [List.getElem?_take, if_pos h1, if_pos (Nat.lt_trans hi h1)]
theorem flQ_take {L : Lay} {a i k : Nat} {s x} (hk : k < (L.flanks.take a).length) (hi : i < k) : flQ (swap L s x (L.flanks.take a)) i k = flQ L i k := by
  have h1 : k < a := by simp at hk; omega
  unfold flQ swap
  simp only [List.getElem?_take, if_pos h1, if_pos (Nat.lt_trans hi h1)]
/-- The rules that are kept, with some left out. -/
theorem rules_take {L : Lay} {a b c : Nat} (h0 : ruleN L 0 < 0) (h1 : ruleN L 1 < 0 ∨ L.sigs.take a = []) (h2 : ruleN L 2 < 0 ∨ L.exits.take b = []) (h3 : ∀ x ∈ L.exits.take b, overOk L x = true) (h4 : ruleN L 4 < 0 ∨ L.flanks.take c = []) :
    ∀ j, j < 5 → ruleN (swap L (L.sigs.take a) (L.exits.take b) (L.flanks.take c)) j < 0 := by
  intro j hj
  obtain rfl | rfl | rfl | rfl | rfl : j = 0 ∨ j = 1 ∨ j = 2 ∨ j = 3 ∨ j = 4 := by omega
  · rw [rule0_neg, joined_swap]; exact (rule0_neg L).1 h0
  · rw [rule1_neg]
    intro k hk i hi
    rcases h1 with h1 | h1
    · rw [sigP_take hk hi]
      exact (rule1_neg L).1 h1 k (Nat.lt_of_lt_of_le hk (by show (L.sigs.take a).length ≤ _; simp; omega)) i hi
    · rw [show (swap L (L.sigs.take a) (L.exits.take b) (L.flanks.take c)).sigs = L.sigs.take a from rfl, h1] at hk; exact absurd hk (Nat.not_lt_zero _)
  · rw [rule2_neg]
    intro k hk i hi
    rcases h2 with h2 | h2
    · rw [exQ_take hk hi]
      exact (rule2_neg L).1 h2 k (Nat.lt_of_lt_of_le hk (by show (L.exits.take b).length ≤ _; simp; omega)) i hi
    · rw [show (swap L (L.sigs.take a) (L.exits.take b) (L.flanks.take c)).exits = L.exits.take b from rfl, h2] at hk; exact absurd hk (Nat.not_lt_zero _)
  · rw [rule3_neg]
    intro x hx
    rw [overOk_swap]
    exact h3 x hx
  · rw [rule4_neg]
    intro k hk i hi
    rcases h4 with h4 | h4
    · rw [flQ_take hk hi]
      exact (rule4_neg L).1 h4 k (Nat.lt_of_lt_of_le hk (by show (L.flanks.take c).length ≤ _; simp; omega)) i hi
    · rw [show (swap L (L.sigs.take a) (L.exits.take b) (L.flanks.take c)).flanks = L.flanks.take c from rfl, h4] at hk; exact absurd hk (Nat.not_lt_zero _)
/-- With some left out it is as it was, if it may be. -/
theorem right_take {L : Lay} {a b c : Nat} (h : rightL L = true) : rightL (swap L (L.sigs.take a) (L.exits.take b) (L.flanks.take c)) = true := by
  obtain ⟨⟨_, l1, l2, l3⟩, _, _, hf, _⟩ := (right_iff L).1 h
  exact right_swap h (fun y hy => List.mem_of_mem_take hy) (fun y hy => List.mem_of_mem_take hy) (fun y hy => hf y (List.mem_of_mem_take hy)) (by simp; omega) (by simp; omega) (by simp; omega)
theorem topo_take {L : Lay} {a b c : Nat} (h : topoR L = true) : topoR (swap L (L.sigs.take a) (L.exits.take b) (L.flanks.take c)) = true := by
  obtain ⟨hr, ha⟩ := (topoR_iff L).1 h
  refine (topoR_iff _).2 ⟨right_take hr, rules_take (ha 0 (by omega)) (.inl (ha 1 (by omega))) (.inl (ha 2 (by omega))) (fun x hx => (rule3_neg L).1 (ha 3 (by omega)) x (List.mem_of_mem_take hx)) (.inl (ha 4 (by omega)))⟩

/-! The two builtins, of two integers. -/
def maxI (x y : Int) : Int := if y > x then y else x
def minI (x y : Int) : Int := if y < x then y else x
theorem max_two (ats : Array TypeId) (ty : TypeId) (k k' : IntKind) (x y : Int) : Builtin.max_ ats ty #[.int k x, .int k' y] = pure (.int k (maxI x y)) := rfl
theorem min_two (ats : Array TypeId) (ty : TypeId) (k k' : IntKind) (x y : Int) : Builtin.min_ ats ty #[.int k x, .int k' y] = pure (.int k (minI x y)) := rfl
theorem clamp (a : Int) (n : Nat) : ∃ k : Nat, minI (maxI a 0) (n : Int) = (k : Int) ∧ k ≤ n := by
  refine ⟨(minI (maxI a 0) (n : Int)).toNat, ?_, ?_⟩ <;> unfold minI maxI <;> split <;> split <;> omega
/-! Where a part of it lies. -/
theorem At.take {α : Type} {W : World} {k : Nat} {enc : α → List Value} {A : Option Addr} {xs : List α} (h : At W k enc A xs) (n : Nat) : At W k enc A (xs.take n) := by
  rcases h with h | ⟨b, off, e, hb, hc⟩
  · exact .inl (by rw [h]; simp)
  · refine .inr ⟨b, off, e, hb, fun j x hj i v hv => hc j x ?_ i v hv⟩
    rw [List.getElem?_take] at hj
    split at hj
    · exact hj
    · cases hj
theorem ExAt.take {W : World} {A : Option Addr} {xs : List Ext'} (h : ExAt W A xs) (n : Nat) : ExAt W A (xs.take n) := by
  obtain ⟨es, e, h1, h2⟩ := h
  exact ⟨es.take n, by rw [← e, List.map_take], h1.take n, fun y hy => h2 y (List.mem_of_mem_take hy)⟩
theorem LayAt.take {W : World} {p : Where} {L : Lay} (h : LayAt W p L) (a b c : Nat) : LayAt W p (swap L (L.sigs.take a) (L.exits.take b) (L.flanks.take c)) :=
  ⟨h.secs, h.sigs.take a, h.exits.take b, h.flanks.take c, h.l0, ⟨Nat.le_trans (by show (L.sigs.take a).length ≤ _; simp; omega) h.l1.1, h.l1.2⟩, ⟨Nat.le_trans (by show (L.exits.take b).length ≤ _; simp; omega) h.l2.1, h.l2.2⟩, ⟨Nat.le_trans (by show (L.flanks.take c).length ≤ _; simp; omega) h.l3.1, h.l3.2⟩, h.kinds⟩
end Go.Proofs.YtpcojaoeahdgcaaGreatDoor

/-
  lockbarlaw06.line: the layout of the law's own examples.
-/
namespace Go.Proofs.YtpcojaoeahdgcaaGreatDoor
open Go.RowKit Go.Shelf

def lineL : Lay := ⟨[⟨1, -1, 0, 1, 0, -1, 0, -1, 0, 0, 0⟩, ⟨2, 0, 1, 2, 0, 3, 0, -1, 0, 0, 1⟩, ⟨1, 1, 1, -1, 0, -1, 0, -1, 0, 0, 0⟩, ⟨1, 1, 2, -1, 0, -1, 0, -1, 0, 0, 0⟩], [⟨0, 0⟩], [⟨1, 1, [⟨2, 0, 1⟩]⟩, ⟨3, 1, []⟩], [], 1, 1, 1, 1, 1, 1, 1⟩
/-- Where line's slices lie, from block n on. -/
def lineP (n : Nat) : Where := ⟨some ⟨n, 0, none⟩, some ⟨n + 1, 0, none⟩, some ⟨n + 1 + 1 + 1, 0, none⟩, none, 4, 1, 2, 0⟩
/-- The cells of line's blocks, from block n on. -/
structure LineAt (W : World) (n : Nat) : Prop where
  lt : n + 1 + 1 + 1 < W.heap.size
  secs : RowAt' W 11 Sec.enc n 0 lineL.secs
  sigs : RowAt' W 2 Prt.enc (n + 1) 0 lineL.sigs
  over : RowAt' W 3 Stp.enc (n + 1 + 1) 0 [⟨2, 0, 1⟩]
  exits : RowAt' W 3 Ext'.enc (n + 1 + 1 + 1) 0 [(⟨1, 1, [⟨2, 0, 1⟩]⟩, .slice (some ⟨n + 1 + 1, 0, none⟩) 1 1), (⟨3, 1, []⟩, .slice none 0 0)]
theorem LineAt.below {W W' : World} {n : Nat} (h : LineAt W n) (hb : Below W.heap.size W W') : LineAt W' n :=
  ⟨Nat.lt_of_lt_of_le h.lt hb.size, h.secs.below hb, h.sigs.below hb, h.over.below hb, h.exits.below hb⟩
theorem LineAt.lay {W : World} {n : Nat} (h : LineAt W n) : LayAt W (lineP n) lineL := by
  refine ⟨.inr ⟨_, _, rfl, h.secs⟩, .inr ⟨_, _, rfl, h.sigs⟩, ⟨_, rfl, .inr ⟨_, _, rfl, h.exits⟩, fun e he => ?_⟩, .inl rfl, by simp [lineL, lineP], by simp [lineL, lineP], by simp [lineL, lineP], by simp [lineL, lineP], by simp [lineL]⟩
  simp only [List.mem_cons, List.not_mem_nil, or_false] at he
  rcases he with rfl | rfl
  · exact ⟨_, _, rfl, by simp, by unfold maxLen; omega, .inr ⟨_, _, rfl, h.over⟩⟩
  · exact ⟨_, _, rfl, by simp, by unfold maxLen; omega, .inl rfl⟩

theorem rowAt_flat {α : Type} {W : World} {k : Nat} {enc : α → List Value} {b : Nat} {xs : List α} (hk : ∀ x, (enc x).length = k) (h0 : 0 < k) (hb : b < W.heap.size) (hc : ∀ (o : Nat) (v : Value), (xs.flatMap enc)[o]? = some v → W.cell? ⟨b, o, none⟩ = some v) : RowAt' W k enc b 0 xs :=
  ⟨hb, fun j x hj i v hv => by
    rw [Nat.zero_add]
    have hlt : i < k := by rw [← hk x]; exact (List.getElem?_eq_some_iff.1 hv).1
    refine hc _ _ ?_
    rw [flat_get hk h0, show (j * k + i) / k = j by rw [Nat.mul_comm, Nat.mul_add_div h0, Nat.div_eq_of_lt hlt]; omega, hj, show (j * k + i) % k = i by rw [Nat.mul_comm, Nat.mul_add_mod]; exact Nat.mod_eq_of_lt hlt]
    exact hv⟩

end Go.Proofs.YtpcojaoeahdgcaaGreatDoor

/-
  layout.Own.
-/
namespace Go.Proofs.YtpcojaoeahdgcaaGreatDoor
open Go.RowKit Go.Shelf

theorem ownsRow_slice {B e size n : Nat} {W : World} {sv : Value} {xs : List Value} (h : W.ownsRow B e size sv n xs) : ∃ A c, sv = .slice A n c := by
  rcases h.2 with ⟨rfl, rfl⟩ | ⟨g', cap, cur, rfl, _⟩
  · exact ⟨_, _, rfl⟩
  · exact ⟨_, _, rfl⟩
/-- A layout of few of each. -/
def Few (L : Lay) : Prop := L.secs.length ≤ 1000 ∧ L.sigs.length ≤ 1000 ∧ L.exits.length ≤ 1000 ∧ L.flanks.length ≤ 1000 ∧ ∀ x ∈ L.exits, x.over.length ≤ 1000
/-- A copy comes back. -/
def CopyV {α : Type} (e : TypeId) (k : Nat) (enc : α → List Value) (xs : List α) (w0 w : World) (en : Ending) (w' : World) : Prop :=
  ∃ A c, en = .returned (.slice A xs.length c) ∧ Hid (w'.ownsRow w.heap.size e k (.slice A xs.length c) xs.length (xs.flatMap enc)) ∧ Hid (Below w.heap.size w w') ∧ Hid (Below w0.heap.size w0 w')
theorem copyV {α : Type} {e : TypeId} {k : Nat} {enc : α → List Value} {xs : List α} {w0 w : World} {en : Ending} {w' : World} (h0 : Below w0.heap.size w0 w) (h : CloneOf e k enc xs w en w') : CopyV e k enc xs w0 w en w' := by
  obtain ⟨v, he, ho, hb⟩ := h
  obtain ⟨A, c, rfl⟩ := ownsRow_slice ho
  exact ⟨A, c, he, Lib.hid ho, Lib.hid hb, Lib.hid (bchain h0 hb)⟩

/-- As At, the block between z and B. -/
def AtB {α : Type} (z B : Nat) (W : World) (k : Nat) (enc : α → List Value) (A : Option Addr) (xs : List α) : Prop :=
  xs = [] ∨ ∃ b off, A = some ⟨b, off, none⟩ ∧ (z < b ∧ b < B) ∧ RowAt' W k enc b off xs
theorem AtB.at {α : Type} {z B : Nat} {W : World} {k : Nat} {enc : α → List Value} {A : Option Addr} {xs : List α} (h : AtB z B W k enc A xs) : At W k enc A xs := by
  rcases h with h | ⟨b, off, e, _, h⟩
  · exact .inl h
  · exact .inr ⟨b, off, e, h⟩
theorem AtB.below {α : Type} {z B : Nat} {W W' : World} {k : Nat} {enc : α → List Value} {A : Option Addr} {xs : List α} (h : AtB z B W k enc A xs) (hb : Below B W W') : AtB z B W' k enc A xs := by
  rcases h with h | ⟨b, off, e, h1, h2, h3⟩
  · exact .inl h
  · exact .inr ⟨b, off, e, h1, Nat.lt_of_lt_of_le h2 hb.size, fun j x hx i v hv => (hb.cell (p := ⟨b, off + j * k + i, none⟩) h1.2).trans (h3 j x hx i v hv)⟩
/-- A slice that holds xs, in other blocks than g and z. -/
def SlN {α : Type} (g z : Nat) (W : World) (k : Nat) (enc : α → List Value) (v : Value) (xs : List α) : Prop :=
  ∃ A cap, v = .slice A xs.length cap ∧ xs.length ≤ cap ∧ cap ≤ maxLen ∧ (xs = [] ∨ ∃ b off, A = some ⟨b, off, none⟩ ∧ b ≠ g ∧ b ≠ z ∧ RowAt' W k enc b off xs)
theorem SlN.sl {α : Type} {g z : Nat} {W : World} {k : Nat} {enc : α → List Value} {v : Value} {xs : List α} (h : SlN g z W k enc v xs) : Sl W k enc v xs := by
  obtain ⟨A, c, e, h1, h2, h3⟩ := h
  refine ⟨A, c, e, h1, h2, ?_⟩
  rcases h3 with h3 | ⟨b, off, e, _, _, h⟩
  · exact .inl h3
  · exact .inr ⟨b, off, e, h⟩
theorem SlN.below {α : Type} {g z : Nat} {W W' : World} {k : Nat} {enc : α → List Value} {v : Value} {xs : List α} (h : SlN g z W k enc v xs) (hb : Below W.heap.size W W') : SlN g z W' k enc v xs := by
  obtain ⟨A, c, e, h1, h2, h3⟩ := h
  refine ⟨A, c, e, h1, h2, ?_⟩
  rcases h3 with h3 | ⟨b, off, e, hn, hz, h⟩
  · exact .inl h3
  · exact .inr ⟨b, off, e, hn, hz, h.below hb⟩
theorem RowAt'.set {α : Type} {g o : Nat} {u : Value} {W : World} {k : Nat} {enc : α → List Value} {b off : Nat} {xs : List α} (h : RowAt' W k enc b off xs) (hn : b ≠ g) : RowAt' (W.setCell ⟨g, o, none⟩ u) k enc b off xs :=
  ⟨by simpa [World.setCell] using h.1, fun j x hx i v hv => (World.cell?_of_block (w := W) (a := ⟨b, off + j * k + i, none⟩) (Below.heap_setCell _ _ _ _ hn)).trans (h.2 j x hx i v hv)⟩
theorem SlN.set {α : Type} {g z o : Nat} {u : Value} {W : World} {k : Nat} {enc : α → List Value} {v : Value} {xs : List α} (h : SlN g z W k enc v xs) : SlN g z (W.setCell ⟨g, o, none⟩ u) k enc v xs := by
  obtain ⟨A, c, e, h1, h2, h3⟩ := h
  refine ⟨A, c, e, h1, h2, ?_⟩
  rcases h3 with h3 | ⟨b, off, e, hn, hz, h⟩
  · exact .inl h3
  · exact .inr ⟨b, off, e, hn, hz, h.set hn⟩
theorem SlN.setz {α : Type} {g z o : Nat} {u : Value} {W : World} {k : Nat} {enc : α → List Value} {v : Value} {xs : List α} (h : SlN g z W k enc v xs) : SlN g z (W.setCell ⟨z, o, none⟩ u) k enc v xs := by
  obtain ⟨A, c, e, h1, h2, h3⟩ := h
  refine ⟨A, c, e, h1, h2, ?_⟩
  rcases h3 with h3 | ⟨b, off, e, hn, hz, h⟩
  · exact .inl h3
  · exact .inr ⟨b, off, e, hn, hz, h.set hz⟩
theorem AtB.setz {α : Type} {z B o : Nat} {u : Value} {W : World} {k : Nat} {enc : α → List Value} {A : Option Addr} {xs : List α} (h : AtB z B W k enc A xs) : AtB z B (W.setCell ⟨z, o, none⟩ u) k enc A xs := by
  rcases h with h | ⟨b, off, e, h1, h2⟩
  · exact .inl h
  · exact .inr ⟨b, off, e, h1, h2.set (by omega)⟩
/-- The exits' row, Own's own. -/
def ExOwn (z B : Nat) (W : World) (A : Option Addr) (xs : List Ext') : Prop :=
  xs = [] ∨ ∃ g es, A = some ⟨g, 0, none⟩ ∧ B ≤ g ∧ es.map (·.1) = xs ∧ RowAt' W 3 Ext'.enc g 0 es ∧ (∀ e ∈ es, SlN g z W 3 Stp.enc e.2 e.1.over) ∧ (∀ o, W.frozen? ⟨g, o, none⟩ = false)
theorem ExOwn.below {z B : Nat} {W W' : World} {A : Option Addr} {xs : List Ext'} (h : ExOwn z B W A xs) (hb : Below W.heap.size W W') : ExOwn z B W' A xs := by
  rcases h with h | ⟨g, es, e, h1, h2, h3, h4, h5⟩
  · exact .inl h
  · exact .inr ⟨g, es, e, h1, h2, h3.below hb, fun y hy => (h4 y hy).below hb, fun o => (hb.frozen (p := ⟨g, o, none⟩) h3.1).trans (h5 o)⟩
theorem ExOwn.at {z B : Nat} {W : World} {A : Option Addr} {xs : List Ext'} (h : ExOwn z B W A xs) : ExAt W A xs := by
  rcases h with h | ⟨g, es, e, h1, h2, h3, h4, h5⟩
  · subst h
    exact ⟨[], rfl, .inl rfl, fun e he => by cases he⟩
  · exact ⟨es, h2, .inr ⟨_, _, e, h3⟩, fun y hy => (h4 y hy).sl⟩
def zeroLay : List Value := [.slice none 0 0, .slice none 0 0, .slice none 0 0, .slice none 0 0, .int .i64 0, .int .i64 0, .int .i64 0, .int .i64 0, .int .i64 0, .int .i64 0, .int .i64 0]
theorem ExOwn.setz {z B o : Nat} {u : Value} {W : World} {A : Option Addr} {xs : List Ext'} (hz : z < B) (h : ExOwn z B W A xs) : ExOwn z B (W.setCell ⟨z, o, none⟩ u) A xs := by
  rcases h with h | ⟨g, es, e, h1, h2, h3, h4, h5⟩
  · exact .inl h
  · exact .inr ⟨g, es, e, h1, h2, h3.set (by omega), fun y hy => (h4 y hy).setz, fun p => by rw [World.frozen?_setCell]; exact h5 p⟩
/-- What Own holds behind its first statement. -/
structure OwnAt (n0 B : Nat) (L : Lay) (q : Where) (W : World) : Prop where
  lt : n0 + 1 < B
  le : B ≤ W.heap.size
  secs : AtB (n0 + 1) B W 11 Sec.enc q.a0 L.secs
  sigs : AtB (n0 + 1) B W 2 Prt.enc q.a1 L.sigs
  flanks : AtB (n0 + 1) B W 4 Flk.enc q.a3 L.flanks
  l0 : L.secs.length ≤ q.c0 ∧ q.c0 ≤ 9223372036854775807
  l1 : L.sigs.length ≤ q.c1 ∧ q.c1 ≤ 9223372036854775807
  l2 : L.exits.length ≤ q.c2 ∧ q.c2 ≤ 9223372036854775807
  l3 : L.flanks.length ≤ q.c3 ∧ q.c3 ≤ 9223372036854775807
  bx : ∀ (i : Nat) (v : Value), (L.cells q)[i]? = some v → W.cell? ⟨n0, i, none⟩ = some v
  zr : ∀ o, W.frozen? ⟨n0 + 1, o, none⟩ = false
  zc : ∀ (i : Nat) (v : Value), zeroLay[i]? = some v → W.cell? ⟨n0 + 1, i, none⟩ = some v

theorem row_set {W : World} {g n : Nat} {u : Value} {y : Ext' × Value} {es : List (Ext' × Value)} (h : RowAt' W 3 Ext'.enc g 0 es) (hy : es[n]? = some y) : RowAt' (W.setCell ⟨g, n * 3 + 2, none⟩ u) 3 Ext'.enc g 0 (es.set n (y.1, u)) := by
  have hn := (List.getElem?_eq_some_iff.1 hy).1
  have hz := h.2 n y hy 2 _ rfl
  rw [Nat.zero_add] at hz
  refine ⟨by simpa [World.setCell] using h.1, fun j x hx i v hv => ?_⟩
  have hi : i < 3 := (List.getElem?_eq_some_iff.1 hv).1
  by_cases hj : j = n
  · subst hj
    rw [List.getElem?_set_self hn] at hx
    obtain rfl := Option.some.inj hx
    have h3 : i = 0 ∨ i = 1 ∨ i = 2 := by omega
    rw [Nat.zero_add]
    rcases h3 with rfl | rfl | rfl
    · rw [World.cell?_setCell_other _ _ _ _ (by simp)]
      have := h.2 j y hy 0 v hv
      rwa [Nat.zero_add] at this
    · rw [World.cell?_setCell_other _ _ _ _ (by simp)]
      have := h.2 j y hy 1 v hv
      rwa [Nat.zero_add] at this
    · rw [World.cell?_setCell_same _ _ _ hz]
      exact hv
  · rw [List.getElem?_set_ne (Ne.symm hj)] at hx
    rw [World.cell?_setCell_other _ _ _ _ (by simp <;> omega)]
    exact h.2 j x hx i v hv
theorem slN_of_row {z : Nat} {α : Type} {enc : α → List Value} {k : Nat} (hk : ∀ x, (enc x).length = k) (h0 : 0 < k) {W : World} {B e g : Nat} {v : Value} {xs : List α} (h : W.ownsRow B e k v xs.length (xs.flatMap enc)) (hg : g < B) (hz : z < B) : SlN g z W k enc v xs := by
  have hs := at_of_row hk h0 h
  obtain ⟨A, c, e1, h1, h2, h3⟩ := hs
  refine ⟨A, c, e1, h1, h2, ?_⟩
  rcases h3 with h3 | ⟨b, off, e2, hr⟩
  · exact .inl h3
  · suffices hbB : B ≤ b from .inr ⟨b, off, e2, by omega, by omega, hr⟩
    subst e2 e1
    rcases h.2 with ⟨h4, _⟩ | ⟨g', cap, cur, h4, h5, _⟩
    · cases h4
    · cases h4
      omega
theorem exOwn_set {W W1 : World} {z B g n d : Nat} {A : Option Addr} {y : Ext' × Value} {es : List (Ext' × Value)} {xs : List Ext'} {b e : Nat} (hgB : B ≤ g) (hes : es.map (·.1) = xs) (hrow : RowAt' W 3 Ext'.enc g 0 es) (hov : ∀ t ∈ es, SlN g z W 3 Stp.enc t.2 t.1.over) (hfz : ∀ o, W.frozen? ⟨g, o, none⟩ = false)
    (hy : es[n]? = some y) (q : Below W.heap.size W W1) (ho : W1.ownsRow b e 3 (.slice A y.1.over.length d) y.1.over.length (y.1.over.flatMap Stp.enc)) (hb : g < b) (hzb : z < b) : ExOwn z B (W1.setCell ⟨g, n * 3 + 2, none⟩ (.slice A y.1.over.length d)) (some ⟨g, 0, none⟩) xs := by
  have hn := (List.getElem?_eq_some_iff.1 hy).1
  refine .inr ⟨g, es.set n (y.1, .slice A y.1.over.length d), rfl, hgB, ?_, row_set (hrow.below q) hy, fun t hz => ?_, fun o => ?_⟩
  · rw [← hes, List.map_set]
    apply List.ext_getElem?
    intro j
    by_cases hj : j = n
    · subst hj
      rw [List.getElem?_set_self (by simpa using hn), List.getElem?_map, hy]
      rfl
    · rw [List.getElem?_set_ne (Ne.symm hj)]
  · rcases List.mem_or_eq_of_mem_set hz with hz | rfl
    · exact ((hov t hz).below q).set
    · exact (slN_of_row (enc := Stp.enc) (k := 3) (fun _ => rfl) (by decide) ho hb hzb).set
  · rw [World.frozen?_setCell]
    exact (q.frozen (p := ⟨g, o, none⟩) hrow.1).trans (hfz o)

theorem row_own {α : Type} {enc : α → List Value} {k : Nat} (hk : ∀ x, (enc x).length = k) (h0 : 0 < k) {W : World} {B e : Nat} {A : Option Addr} {c : Nat} {xs : List α} (h : W.ownsRow B e k (.slice A xs.length c) xs.length (xs.flatMap enc)) :
    (xs = [] ∨ ∃ g, A = some ⟨g, 0, none⟩ ∧ B ≤ g ∧ RowAt' W k enc g 0 xs ∧ ∀ o, W.frozen? ⟨g, o, none⟩ = false) ∧ xs.length ≤ c ∧ c ≤ 9223372036854775807 := by
  obtain ⟨A', c', e1, h1, h2, h3⟩ := at_of_row hk h0 h
  cases e1
  refine ⟨?_, h1, by unfold maxLen at h2; omega⟩
  rcases h3 with h3 | ⟨b, off, rfl, hr⟩
  · exact .inl h3
  · rcases h.2 with ⟨h4, _⟩ | ⟨g', cap, cur, h4, h5, _⟩
    · cases h4
    · cases h4
      exact .inr ⟨_, rfl, h5, hr, fun o => h.frozenAt o⟩
theorem atB_of {α : Type} {enc : α → List Value} {k z B B' : Nat} {W W' : World} {A : Option Addr} {xs : List α} (h : xs = [] ∨ ∃ g, A = some ⟨g, 0, none⟩ ∧ B ≤ g ∧ RowAt' W k enc g 0 xs ∧ ∀ o, W.frozen? ⟨g, o, none⟩ = false)
    (hz : z < B) (hb : Below W.heap.size W W') (hB : W.heap.size ≤ B') : AtB z B' W' k enc A xs := by
  rcases h with h | ⟨g, e, h1, h2, _⟩
  · exact .inl h
  · exact .inr ⟨g, 0, e, ⟨by omega, Nat.lt_of_lt_of_le h2.1 hB⟩, h2.below hb⟩
theorem AtB.setn {α : Type} {z B g o : Nat} {u : Value} {W : World} {k : Nat} {enc : α → List Value} {A : Option Addr} {xs : List α} (hg : g ≤ z) (h : AtB z B W k enc A xs) : AtB z B (W.setCell ⟨g, o, none⟩ u) k enc A xs := by
  rcases h with h | ⟨b, off, e, h1, h2⟩
  · exact .inl h
  · exact .inr ⟨b, off, e, h1, h2.set (by omega)⟩
/-- Own's four rows are copied, and its box is filled. -/
theorem own_join {L : Lay} {p : Where} {w X W1 W2 W3 W4 : World} {es : List (Ext' × Value)} {A1 A2 A3 A4 : Option Addr} {d1 d2 d3 d4 e1 e2 e3 e4 : Nat} (hX : Below w.heap.size w X) (hs : X.heap.size = w.heap.size + 2)
    (cX : ∀ (i : Nat) (v : Value), (L.cells p)[i]? = some v → X.cell? ⟨w.heap.size, i, none⟩ = some v) (zX : ∀ (i : Nat) (v : Value), zeroLay[i]? = some v → X.cell? ⟨w.heap.size + 1, i, none⟩ = some v) (fX : ∀ o, X.frozen? ⟨w.heap.size + 1, o, none⟩ = false)
    (hes : es.map (·.1) = L.exits) (hov : ∀ e ∈ es, Sl w 3 Stp.enc e.2 e.1.over) (hlen : es.length = L.exits.length)
    (o1 : W1.ownsRow X.heap.size e1 11 (.slice A1 L.secs.length d1) L.secs.length (L.secs.flatMap Sec.enc)) (o2 : W2.ownsRow W1.heap.size e2 2 (.slice A2 L.sigs.length d2) L.sigs.length (L.sigs.flatMap Prt.enc))
    (o3 : W3.ownsRow W2.heap.size e3 4 (.slice A3 L.flanks.length d3) L.flanks.length (L.flanks.flatMap Flk.enc)) (o4 : W4.ownsRow W3.heap.size e4 3 (.slice A4 es.length d4) es.length (es.flatMap Ext'.enc))
    (q1 : Below X.heap.size X W1) (r2 : Below W1.heap.size W1 W2) (r3 : Below W2.heap.size W2 W3) (r4 : Below W3.heap.size W3 W4) :
    ∃ q B, Hid (OwnAt w.heap.size B L q ((((W4.setCell ⟨w.heap.size, 0, none⟩ (.slice A1 L.secs.length d1)).setCell ⟨w.heap.size, 1, none⟩ (.slice A2 L.sigs.length d2)).setCell ⟨w.heap.size, 3, none⟩ (.slice A3 L.flanks.length d3)).setCell ⟨w.heap.size, 2, none⟩ (.slice A4 es.length d4))) ∧
      Hid (ExOwn (w.heap.size + 1) B ((((W4.setCell ⟨w.heap.size, 0, none⟩ (.slice A1 L.secs.length d1)).setCell ⟨w.heap.size, 1, none⟩ (.slice A2 L.sigs.length d2)).setCell ⟨w.heap.size, 3, none⟩ (.slice A3 L.flanks.length d3)).setCell ⟨w.heap.size, 2, none⟩ (.slice A4 es.length d4)) q.a2 L.exits) ∧
      Hid (Below w.heap.size w ((((W4.setCell ⟨w.heap.size, 0, none⟩ (.slice A1 L.secs.length d1)).setCell ⟨w.heap.size, 1, none⟩ (.slice A2 L.sigs.length d2)).setCell ⟨w.heap.size, 3, none⟩ (.slice A3 L.flanks.length d3)).setCell ⟨w.heap.size, 2, none⟩ (.slice A4 es.length d4))) := by
  have q4 : Below X.heap.size X W4 := bchain (bchain (bchain q1 r2) r3) r4
  have z1 := q1.size
  have z2 := r2.size
  have z3 := r3.size
  have z4 := r4.size
  obtain ⟨s1, m1⟩ := row_own (enc := Sec.enc) (k := 11) (fun _ => rfl) (by decide) o1
  obtain ⟨s2, m2⟩ := row_own (enc := Prt.enc) (k := 2) (fun _ => rfl) (by decide) o2
  obtain ⟨s3, m3⟩ := row_own (enc := Flk.enc) (k := 4) (fun _ => rfl) (by decide) o3
  obtain ⟨s4, m4⟩ := row_own (enc := Ext'.enc) (k := 3) (fun _ => rfl) (by decide) o4
  have t1 := atB_of (z := w.heap.size + 1) (B' := W3.heap.size) s1 (by omega) (bchain (bchain r2 r3) r4) (by omega)
  have t2 := atB_of (z := w.heap.size + 1) (B' := W3.heap.size) s2 (by omega) (bchain r3 r4) (by omega)
  have t3 := atB_of (z := w.heap.size + 1) (B' := W3.heap.size) s3 (by omega) r4 (by omega)
  have h4 : ∀ (i : Nat) (v : Value), (L.cells p)[i]? = some v → W4.cell? ⟨w.heap.size, i, none⟩ = some v := fun i v h => (q4.cell (p := ⟨w.heap.size, i, none⟩) (by dsimp only; omega)).trans (cX i v h)
  have k0 := h4 0 _ rfl
  have k1 : (W4.setCell ⟨w.heap.size, 0, none⟩ (.slice A1 L.secs.length d1)).cell? ⟨w.heap.size, 1, none⟩ = _ := (World.cell?_setCell_other _ _ _ _ (by simp)).trans (h4 1 _ rfl)
  have k3 : ((W4.setCell ⟨w.heap.size, 0, none⟩ (.slice A1 L.secs.length d1)).setCell ⟨w.heap.size, 1, none⟩ (.slice A2 L.sigs.length d2)).cell? ⟨w.heap.size, 3, none⟩ = _ := (World.cell?_setCell_other _ _ _ _ (by simp)).trans ((World.cell?_setCell_other _ _ _ _ (by simp)).trans (h4 3 _ rfl))
  have k2 : (((W4.setCell ⟨w.heap.size, 0, none⟩ (.slice A1 L.secs.length d1)).setCell ⟨w.heap.size, 1, none⟩ (.slice A2 L.sigs.length d2)).setCell ⟨w.heap.size, 3, none⟩ (.slice A3 L.flanks.length d3)).cell? ⟨w.heap.size, 2, none⟩ = _ := (World.cell?_setCell_other _ _ _ _ (by simp)).trans ((World.cell?_setCell_other _ _ _ _ (by simp)).trans ((World.cell?_setCell_other _ _ _ _ (by simp)).trans (h4 2 _ rfl)))
  have hV : Below w.heap.size w ((((W4.setCell ⟨w.heap.size, 0, none⟩ (.slice A1 L.secs.length d1)).setCell ⟨w.heap.size, 1, none⟩ (.slice A2 L.sigs.length d2)).setCell ⟨w.heap.size, 3, none⟩ (.slice A3 L.flanks.length d3)).setCell ⟨w.heap.size, 2, none⟩ (.slice A4 es.length d4)) :=
    ((((bchain hX q4).setCell (p := ⟨w.heap.size, 0, none⟩) (Nat.le_refl _) _).setCell (p := ⟨w.heap.size, 1, none⟩) (Nat.le_refl _) _).setCell (p := ⟨w.heap.size, 3, none⟩) (Nat.le_refl _) _).setCell (p := ⟨w.heap.size, 2, none⟩) (Nat.le_refl _) _
  refine ⟨⟨A1, A2, A4, A3, d1, d2, d4, d3⟩, W3.heap.size, Lib.hid ⟨by omega, by simp only [World.setCell, Array.size_modify]; exact z4, ?_, ?_, ?_, m1, m2, by rw [hlen] at m4; exact m4, m3, ?_, ?_, ?_⟩, Lib.hid ?_, Lib.hid hV⟩
  · exact (((t1.setn (by omega)).setn (by omega)).setn (by omega)).setn (by omega)
  · exact (((t2.setn (by omega)).setn (by omega)).setn (by omega)).setn (by omega)
  · exact (((t3.setn (by omega)).setn (by omega)).setn (by omega)).setn (by omega)
  · intro i v h
    obtain rfl | rfl | rfl | rfl | hi : i = 0 ∨ i = 1 ∨ i = 2 ∨ i = 3 ∨ 4 ≤ i := by omega
    · rw [World.cell?_setCell_other _ _ _ _ (by simp), World.cell?_setCell_other _ _ _ _ (by simp), World.cell?_setCell_other _ _ _ _ (by simp), World.cell?_setCell_same _ _ _ k0]
      exact h
    · rw [World.cell?_setCell_other _ _ _ _ (by simp), World.cell?_setCell_other _ _ _ _ (by simp), World.cell?_setCell_same _ _ _ k1]
      exact h
    · rw [World.cell?_setCell_same _ _ _ k2, hlen]
      exact h
    · rw [World.cell?_setCell_other _ _ _ _ (by simp), World.cell?_setCell_same _ _ _ k3]
      exact h
    · obtain ⟨j, rfl⟩ : ∃ j, i = j + 4 := ⟨i - 4, by omega⟩
      rw [World.cell?_setCell_other _ _ _ _ (by simp), World.cell?_setCell_other _ _ _ _ (by simp), World.cell?_setCell_other _ _ _ _ (by simp), World.cell?_setCell_other _ _ _ _ (by simp)]
      exact h4 _ v (by simpa [Lay.cells] using h)
  · intro o
    rw [World.frozen?_setCell, World.frozen?_setCell, World.frozen?_setCell, World.frozen?_setCell]
    exact (q4.frozen (p := ⟨w.heap.size + 1, o, none⟩) (by dsimp only; omega)).trans (fX o)
  · intro i v h
    rw [World.cell?_setCell_far _ _ _ _ (by simp), World.cell?_setCell_far _ _ _ _ (by simp), World.cell?_setCell_far _ _ _ _ (by simp), World.cell?_setCell_far _ _ _ _ (by simp)]
    exact (q4.cell (p := ⟨w.heap.size + 1, i, none⟩) (by dsimp only; omega)).trans (zX i v h)
  · rcases s4 with s4 | ⟨g, rfl, h1, h2, h3⟩
    · subst s4
      exact .inl hes.symm
    · refine .inr ⟨g, es, rfl, h1, hes, (((h2.set (by omega)).set (by omega)).set (by omega)).set (by omega), fun e he => ?_, fun o => ?_⟩
      · obtain ⟨A, c, e1, h5, h6, h7⟩ := hov e he
        refine ⟨A, c, e1, h5, h6, ?_⟩
        rcases h7 with h7 | ⟨b, off, e2, h8⟩
        · exact .inl h7
        · have := h8.1
          exact .inr ⟨b, off, e2, by omega, by omega, h8.below hV⟩
      · rw [World.frozen?_setCell, World.frozen?_setCell, World.frozen?_setCell, World.frozen?_setCell]
        exact h3 o

def OwnOf (L : Lay) (w : World) (e : Ending) (w' : World) : Prop := ∃ p', e = .returned (L.val p') ∧ LayAt w' p' L ∧ Below w.heap.size w w'

end Go.Proofs.YtpcojaoeahdgcaaGreatDoor

/-
  lockbarlaw06.wakes.
-/
namespace Go.Proofs.YtpcojaoeahdgcaaGreatDoor
open Go.RowKit Go.Shelf

def badL : Lay := ⟨[⟨1, -1, 0, 1, 0, 1, 0, -1, 0, 0, 0⟩, ⟨2, 0, 1, 2, 0, 3, 0, -1, 0, 0, 1⟩, ⟨1, 1, 1, -1, 0, -1, 0, -1, 0, 0, 0⟩, ⟨1, 1, 2, -1, 0, -1, 0, -1, 0, 0, 0⟩], [⟨0, 0⟩], [⟨1, 1, [⟨2, 0, 1⟩]⟩, ⟨3, 1, []⟩], [], 1, 1, 1, 1, 1, 1, 1⟩
def emptyL : Lay := ⟨[], [], [], [], 1, 1, 1, 1, 1, 1, 1⟩
def sigL : Lay := ⟨[], [⟨0, 0⟩], [], [], 1, 1, 1, 1, 1, 1, 1⟩
def zeroL : Lay := ⟨[], [], [], [], 0, 0, 0, 0, 0, 0, 0⟩
def noneP : Where := ⟨none, none, none, none, 0, 0, 0, 0⟩
theorem LineAt.set {W : World} {n g o : Nat} {u : Value} (h : LineAt W n) (hg : n + 1 + 1 + 1 < g) : LineAt (W.setCell ⟨g, o, none⟩ u) n :=
  ⟨by simpa [World.setCell] using h.lt, h.secs.set (by omega), h.sigs.set (by omega), h.over.set (by omega), h.exits.set (by omega)⟩
theorem lay_nil {W : World} {L : Lay} (h1 : L.secs = []) (h2 : L.sigs = []) (h3 : L.exits = []) (h4 : L.flanks = []) : LayAt W noneP L :=
  ⟨.inl h1, .inl h2, ⟨[], by rw [h3]; rfl, .inl rfl, fun e he => by cases he⟩, .inl h4, by simp [h1, noneP], by simp [h2, noneP], by simp [h3, noneP], by simp [h4, noneP], fun c hc => by rw [h1] at hc; cases hc⟩
/-- line's layout with one join turned. -/
theorem bad_lay {W W' : World} {n : Nat} (h : LineAt W n) (hb : Below ((W.setCell ⟨n, 5, none⟩ (.int .i64 1)).setCell ⟨n, 6, none⟩ (.int .i64 0)).heap.size ((W.setCell ⟨n, 5, none⟩ (.int .i64 1)).setCell ⟨n, 6, none⟩ (.int .i64 0)) W') : LayAt W' (lineP n) badL := by
  have hz : ((W.setCell ⟨n, 5, none⟩ (.int .i64 1)).setCell ⟨n, 6, none⟩ (.int .i64 0)).heap.size = W.heap.size := by simp [World.setCell]
  have hlt := h.lt
  have k5 : W.cell? ⟨n, 5, none⟩ = some (.int .i64 (-1)) := h.secs.2 0 _ rfl 5 _ rfl
  have k6 : (W.setCell ⟨n, 5, none⟩ (.int .i64 1)).cell? ⟨n, 6, none⟩ = some (.int .i64 0) := (World.cell?_setCell_other _ _ _ _ (by simp)).trans (h.secs.2 0 _ rfl 6 _ rfl)
  have hs : RowAt' ((W.setCell ⟨n, 5, none⟩ (.int .i64 1)).setCell ⟨n, 6, none⟩ (.int .i64 0)) 11 Sec.enc n 0 badL.secs := by
    refine rowAt_flat (fun _ => rfl) (by decide) (by rw [hz]; omega) (fun o v hv => ?_)
    have old : ∀ (o : Nat) (v : Value), (lineL.secs.flatMap Sec.enc)[o]? = some v → W.cell? ⟨n, o, none⟩ = some v := fun o v e => by
      have := flat_cells (enc := Sec.enc) (k := 11) (fun _ => rfl) (by decide) h.secs o v e
      rwa [add_at, Nat.zero_add] at this
    by_cases h5 : o = 5
    · subst h5
      rw [World.cell?_setCell_other _ _ _ _ (by simp), World.cell?_setCell_same _ _ _ k5]
      exact hv
    · by_cases h6 : o = 6
      · subst h6
        rw [World.cell?_setCell_same _ _ _ k6]
        exact hv
      · rw [World.cell?_setCell_other _ _ _ _ (by simp <;> omega), World.cell?_setCell_other _ _ _ _ (by simp <;> omega)]
        refine old o v ?_
        obtain rfl | rfl | rfl | rfl | rfl | h7 : o = 0 ∨ o = 1 ∨ o = 2 ∨ o = 3 ∨ o = 4 ∨ 7 ≤ o := by omega
        · exact hv
        · exact hv
        · exact hv
        · exact hv
        · exact hv
        · obtain ⟨j, rfl⟩ : ∃ j, o = j + 7 := ⟨o - 7, by omega⟩
          exact hv
  have hs' := hs.below hb
  have hg := ((h.sigs.set (g := n) (o := 5) (u := .int .i64 1) (by omega)).set (g := n) (o := 6) (u := .int .i64 0) (by omega)).below hb
  have ho := ((h.over.set (g := n) (o := 5) (u := .int .i64 1) (by omega)).set (g := n) (o := 6) (u := .int .i64 0) (by omega)).below hb
  have he := ((h.exits.set (g := n) (o := 5) (u := .int .i64 1) (by omega)).set (g := n) (o := 6) (u := .int .i64 0) (by omega)).below hb
  refine ⟨.inr ⟨_, _, rfl, hs'⟩, .inr ⟨_, _, rfl, hg⟩, ⟨_, rfl, .inr ⟨_, _, rfl, he⟩, fun e he => ?_⟩, .inl rfl, by simp [badL, lineP], by simp [badL, lineP], by simp [badL, lineP], by simp [badL, lineP], by simp [badL]⟩
  simp only [List.mem_cons, List.not_mem_nil, or_false] at he
  rcases he with rfl | rfl
  · exact ⟨_, _, rfl, by simp, by unfold maxLen; omega, .inr ⟨_, _, rfl, ho⟩⟩
  · exact ⟨_, _, rfl, by simp, by unfold maxLen; omega, .inl rfl⟩
theorem at12 : atV (atO lineL 1 2) = .tuple #[.agg #[.int .u8 2, .int .i64 0, .int .i64 1, .int .i64 2, .int .i64 0, .int .i64 3, .int .i64 0, .int .i64 (-1), .int .i64 0, .int .i64 0, .int .i64 1], .bool true] := rfl
theorem st1 : stepN lineL 1 2 0 = 1 ∧ stepB lineL 1 2 0 = true ∧ stepB lineL 1 2 1 = false := ⟨rfl, rfl, rfl⟩
theorem at02 : atV (atO lineL 0 2) = .tuple #[.agg #[.int .u8 0, .int .i64 0, .int .i64 0, .int .i64 0, .int .i64 0, .int .i64 0, .int .i64 0, .int .i64 0, .int .i64 0, .int .i64 0, .int .i64 0], .bool false] := rfl
theorem rights : rightL lineL = true ∧ rightL badL = false ∧ rightL emptyL = true ∧ rightL sigL = false ∧ rightL zeroL = false ∧ sameL lineL lineL = true ∧ sameL badL lineL = false := by decide

theorem few_line : Few lineL := by unfold Few; decide
theorem idxs : sigIx lineL 0 0 = 0 ∧ sigIx lineL 1 0 = -1 ∧ exIx lineL 3 1 = 1 := by decide

end Go.Proofs.YtpcojaoeahdgcaaGreatDoor

/-
  The walk of LayoutSteps.
-/
namespace Go.Proofs.YtpcojaoeahdgcaaGreatDoor
open Go.RowKit Go.Shelf

/-- A way's ends are ports of its section. -/
theorem way_ports {k i o : Int} (h : wayB k i o = true) : (0 ≤ i ∧ i < kPorts k) ∧ (0 ≤ o ∧ o < kPorts k) := by
  rw [(way_spec k i o).1] at h
  have h' := of_decide_eq_true h
  unfold hit at h'
  rcases kCases k with ⟨rfl, _⟩ | ⟨rfl, _⟩ | ⟨rfl, _⟩ | ⟨_, _, _, _, m, _⟩
  · simp [kMany, aOf, bOf, kPorts, kB0, kA1, kB1] at h' ⊢; omega
  · simp [kMany, aOf, bOf, kPorts, kB0, kA1, kB1] at h' ⊢; omega
  · simp [kMany, aOf, bOf, kPorts, kB0, kA1, kB1] at h' ⊢; omega
  · rw [m] at h'; omega
/-- What LayoutSteps asks of At and Step. -/
theorem steps_law (L : Lay) (s i o : Int) : (stepN L s o i = stepN L s i o ∧ stepB L s o i = stepB L s i o) ∧
    ((atO L s i = none ∨ atO L s o = none) → stepN L s i o = 0 ∧ stepB L s i o = false) ∧
    (∀ c, atO L s i = some c → stepN L s i o = wayN c.k i o ∧ stepB L s i o = wayB c.k i o) := by
  rcases step_cases L s i o with ⟨h, e, f⟩ | ⟨n, c, rfl, hn, hc, _, e, f⟩
  · rcases step_cases L s o i with ⟨_, e', f'⟩ | ⟨n, c, rfl, hn, hc, _⟩
    · refine ⟨⟨by rw [e, e'], by rw [f, f']⟩, fun _ => ⟨e, f⟩, fun c hc => ?_⟩
      rcases at_cases L s i with ⟨_, g⟩ | ⟨n, c, rfl, hn, _⟩
      · rw [g] at hc; cases hc
      · simp [isSec] at h; omega
    · simp [isSec] at h; omega
  · have hs : secAt L n = some c := by unfold secAt; rw [if_pos (by omega)]; simpa using hc
    refine ⟨⟨by simp only [stepN, hs]; exact (way_comm c.k o i).2, by simp only [stepB, hs]; exact (way_comm c.k o i).1⟩, fun h => ?_, fun c' hc' => ?_⟩
    · have hb : wayB c.k i o = false := by
        cases hx : wayB c.k i o with
        | false => rfl
        | true =>
          have g := way_ports hx
          exfalso
          rcases h with h | h
          · unfold atO at h; rw [hs, Option.bind_some, if_pos g.1] at h; cases h
          · unfold atO at h; rw [hs, Option.bind_some, if_pos g.2] at h; cases h
      rw [e, f]
      exact ⟨way_false hb, hb⟩
    · unfold atO at hc'
      rw [hs, Option.bind_some] at hc'
      split at hc'
      · obtain rfl := Option.some.inj hc'
        exact ⟨e, f⟩
      · cases hc'

end Go.Proofs.YtpcojaoeahdgcaaGreatDoor

/-
  Routes, in plain words: steps that go, vias gone through, sections gone through twice, Route paths.
-/
namespace Go.Proofs.YtpcojaoeahdgcaaGreatDoor

/-! Steps that go. -/
def stepOk (L : Lay) (x : Stp) : Bool := stepB L x.s x.i x.o
def linkB (L : Lay) (a b : Stp) : Bool := decide (beyL L a.s a.o = ⟨b.s, b.i⟩)
def goesL (L : Lay) : List Stp → Bool
  | [] => true
  | [x] => stepOk L x
  | x :: y :: r => stepOk L x && (linkB L x y && goesL L (y :: r))
theorem goes_iff (L : Lay) : ∀ xs : List Stp, goesL L xs = true ↔ (∀ (k : Nat) (x : Stp), xs[k]? = some x → stepOk L x = true) ∧ ∀ (k : Nat) (x y : Stp), xs[k]? = some x → xs[k + 1]? = some y → linkB L x y = true
  | [] => ⟨fun _ => ⟨fun k x h => by simp at h, fun k x y h => by simp at h⟩, fun _ => rfl⟩
  | [x] => by
    unfold goesL
    constructor
    · intro h
      refine ⟨fun k z hz => ?_, fun k z y _ hy => ?_⟩
      · cases k with
        | zero => simp at hz; rw [← hz]; exact h
        | succ k => simp at hz
      · simp at hy
    · intro h
      exact h.1 0 x rfl
  | x :: y :: r => by
    unfold goesL
    rw [Bool.and_eq_true, Bool.and_eq_true, goes_iff L (y :: r)]
    constructor
    · rintro ⟨h1, h2, h3, h4⟩
      refine ⟨fun k z hz => ?_, fun k z z' hz hz' => ?_⟩
      · cases k with
        | zero => simp at hz; rw [← hz]; exact h1
        | succ k => exact h3 k z hz
      · cases k with
        | zero => simp at hz hz'; rw [← hz, ← hz']; exact h2
        | succ k => exact h4 k z z' hz hz'
    · rintro ⟨h1, h2⟩
      exact ⟨h1 0 x rfl, h2 0 x y rfl rfl, fun k z hz => h1 (k + 1) z hz, fun k z z' hz hz' => h2 (k + 1) z z' hz hz'⟩
theorem goes_no {L : Lay} {xs : List Stp} {k : Nat} {x : Stp} (hx : xs[k]? = some x) (h : stepOk L x = false) : goesL L xs = false := by
  cases hg : goesL L xs with
  | false => rfl
  | true => rw [((goes_iff L xs).1 hg).1 k x hx] at h; cases h
theorem goes_un {L : Lay} {xs : List Stp} {k : Nat} {x y : Stp} (hx : xs[k]? = some x) (hy : xs[k + 1]? = some y) (h : linkB L x y = false) : goesL L xs = false := by
  cases hg : goesL L xs with
  | false => rfl
  | true => rw [((goes_iff L xs).1 hg).2 k x y hx hy] at h; cases h
theorem goes_drop {L : Lay} {xs : List Stp} (n : Nat) (h : goesL L xs = true) : goesL L (xs.drop n) = true := by
  rw [goes_iff] at h ⊢
  refine ⟨fun k x hx => ?_, fun k x y hx hy => ?_⟩
  · rw [List.getElem?_drop] at hx; exact h.1 _ x hx
  · rw [List.getElem?_drop] at hx hy; exact h.2 _ x y hx (by rw [← hy]; congr 1)
theorem goes_take {L : Lay} {xs : List Stp} (n : Nat) (h : goesL L xs = true) : goesL L (xs.take n) = true := by
  rw [goes_iff] at h ⊢
  have key : ∀ (k : Nat) (x : Stp), (xs.take n)[k]? = some x → xs[k]? = some x := fun k x hx => by
    rw [List.getElem?_take] at hx
    split at hx
    · exact hx
    · cases hx
  exact ⟨fun k x hx => h.1 k x (key k x hx), fun k x y hx hy => h.2 k x y (key _ _ hx) (key _ _ hy)⟩
/-- One step more. -/
theorem goes_more (L : Lay) (xs : List Stp) (s : Stp) : goesL L (xs ++ [s]) = (goesL L xs && (stepOk L s && match xs.getLast? with | some z => linkB L z s | none => true)) := by
  induction xs with
  | nil => simp [goesL]
  | cons x r ih =>
    cases r with
    | nil => simp [goesL, Bool.and_comm]
    | cons y r =>
      rw [show (x :: y :: r) ++ [s] = x :: y :: (r ++ [s]) from rfl]
      rw [show goesL L (x :: y :: (r ++ [s])) = (stepOk L x && (linkB L x y && goesL L (y :: r ++ [s]))) from rfl, ih]
      rw [show goesL L (x :: y :: r) = (stepOk L x && (linkB L x y && goesL L (y :: r))) from rfl]
      rw [List.getLast?_cons_cons]
      simp only [Bool.and_assoc]

/-! Vias. -/
def intEnc (z : Int) : List Value := [.int .i64 z]
/-- What is left of the vias behind a step. -/
def eat1 (r : List Int) (x : Stp) : List Int := if r.head? = some x.s then r.tail else r
def eat (vs : List Int) (xs : List Stp) : List Int := xs.foldl eat1 vs
def throughL (vs : List Int) (xs : List Stp) : Bool := decide ((eat vs xs).length = 0)
theorem eat_take {vs : List Int} {xs : List Stp} {k : Nat} {x : Stp} (h : xs[k]? = some x) : eat vs (xs.take (k + 1)) = eat1 (eat vs (xs.take k)) x := by
  unfold eat
  rw [List.take_add_one, h, List.foldl_append]
  rfl
theorem eat_nil (xs : List Stp) : eat [] xs = [] := by
  unfold eat
  induction xs with
  | nil => rfl
  | cons x r ih => exact ih
theorem eat_sub : ∀ (xs : List Stp) (vs : List Int), eat vs xs = [] ↔ vs.Sublist (xs.map (·.s))
  | [], vs => by simp [eat]
  | x :: r, vs => by
    have hr := fun vs => eat_sub r vs
    rw [show eat vs (x :: r) = eat (eat1 vs x) r from rfl, hr, List.map_cons]
    cases vs with
    | nil => simp [eat1]
    | cons v t =>
      unfold eat1
      by_cases h : v = x.s
      · subst h
        simp
      · rw [if_neg (by simpa using h)]
        constructor
        · intro hs; exact hs.cons _
        · intro hs
          cases hs with
          | cons _ h' => exact h'
          | cons_cons _ h' => exact absurd rfl h
theorem through_sub (vs : List Int) (xs : List Stp) : throughL vs xs = true ↔ vs.Sublist (xs.map (·.s)) := by
  unfold throughL
  rw [decide_eq_true_iff, List.length_eq_zero_iff, eat_sub]
theorem through_more {vs : List Int} {xs : List Stp} (s : Stp) (h : throughL vs xs = true) : throughL vs (xs ++ [s]) = true := by
  rw [through_sub] at h ⊢
  rw [List.map_append]
  exact h.trans (List.sublist_append_left _ _)
theorem through_both (vs : List Int) (xs : List Stp) (s : Stp) : throughL (vs ++ [s.s]) (xs ++ [s]) = throughL vs xs := by
  rw [Bool.eq_iff_iff, through_sub, through_sub, List.map_append, List.map_cons, List.map_nil]
  exact List.append_sublist_append_right _
theorem through_less {vs us : List Int} {xs : List Stp} (h : throughL vs xs = true) (hs : us.Sublist vs) : throughL us xs = true := by
  rw [through_sub] at h ⊢
  exact hs.trans h

/-! Sections gone through. -/
def secsOf (xs : List Stp) : List Int := xs.map (·.s)
def twiceL (xs : List Stp) : Bool := decide (¬ (secsOf xs).Nodup)
theorem nodup_iff (xs : List Stp) : (secsOf xs).Nodup ↔ ∀ (k : Nat) (x : Stp), xs[k]? = some x → ∀ (j : Nat) (y : Stp), j < k → xs[j]? = some y → y.s ≠ x.s := by
  unfold secsOf
  rw [List.nodup_iff_pairwise_ne, List.pairwise_iff_getElem]
  simp only [List.length_map, List.getElem_map]
  constructor
  · intro h k x hx j y hj hy
    obtain ⟨hk, rfl⟩ := List.getElem?_eq_some_iff.1 hx
    obtain ⟨hj', rfl⟩ := List.getElem?_eq_some_iff.1 hy
    exact h j k hj' hk hj
  · intro h i j hi hj hij
    exact h j _ (List.getElem?_eq_getElem hj) i _ hij (List.getElem?_eq_getElem hi)
theorem twice_yes {xs : List Stp} {k j : Nat} {x y : Stp} (hx : xs[k]? = some x) (hy : xs[j]? = some y) (hj : j < k) (h : y.s = x.s) : twiceL xs = true := by
  unfold twiceL
  rw [decide_eq_true_iff, nodup_iff]
  intro hn
  exact hn k x hx j y hj hy h
theorem twice_no {xs : List Stp} (h : ∀ (k : Nat) (x : Stp), xs[k]? = some x → ∀ (j : Nat) (y : Stp), j < k → xs[j]? = some y → y.s ≠ x.s) : twiceL xs = false := by
  unfold twiceL
  rw [decide_eq_false_iff_not, nodup_iff]
  exact fun hn => hn h
/-- None twice, none of the others. -/
def simpleP (xs ys : List Stp) : Prop := (secsOf xs).Nodup ∧ ∀ x ∈ xs, ∀ y ∈ ys, y.s ≠ x.s
instance simpleP.dec (xs ys : List Stp) : Decidable (simpleP xs ys) := by unfold simpleP; infer_instance
def simpleL (xs ys : List Stp) : Bool := decide (simpleP xs ys)
theorem twice_append {xs ys : List Stp} (h : (secsOf ys).Nodup) : twiceL (xs ++ ys) = !simpleL xs ys := by
  have e : (secsOf (xs ++ ys)).Nodup ↔ simpleP xs ys := by
    unfold simpleP secsOf at *
    rw [List.map_append, List.nodup_append]
    constructor
    · rintro ⟨h1, _, h3⟩
      exact ⟨h1, fun x hx y hy he => h3 _ (List.mem_map_of_mem hx) _ (List.mem_map_of_mem hy) he.symm⟩
    · rintro ⟨h1, h3⟩
      refine ⟨h1, h, fun a ha b hb he => ?_⟩
      obtain ⟨x, hx, rfl⟩ := List.mem_map.1 ha
      obtain ⟨y, hy, rfl⟩ := List.mem_map.1 hb
      exact h3 x hx y hy he.symm
  unfold twiceL simpleL
  by_cases hc : simpleP xs ys
  · rw [decide_eq_true hc]
    exact decide_eq_false fun hn => hn (e.2 hc)
  · rw [decide_eq_false hc]
    exact decide_eq_true fun hn => hc (e.1 hn)
theorem overF_nodup (L : Lay) : ∀ (ys : List Stp) (s q : Int) (seen : List Int), overF L s q seen ys = true → (secsOf ys).Nodup ∧ ∀ y ∈ ys, y.s ∉ seen
  | [], _, _, _, _ => ⟨List.nodup_nil, fun _ h => by cases h⟩
  | y :: r, s, q, seen, h => by
    unfold overF at h
    rw [Bool.and_eq_true, Bool.and_eq_true] at h
    obtain ⟨⟨_, h1⟩, h2⟩ := h
    obtain ⟨h3, h4⟩ := overF_nodup L r _ _ _ h2
    have h1' : y.s ∉ seen := by simpa using h1
    refine ⟨List.nodup_cons.2 ⟨fun hm => ?_, h3⟩, fun z hz => ?_⟩
    · obtain ⟨z, hz, e⟩ := List.mem_map.1 hm
      exact h4 z hz (by rw [e]; exact List.mem_cons_self ..)
    · rcases List.mem_cons.1 hz with rfl | hz
      · exact h1'
      · exact fun hm => h4 z hz (List.mem_cons_of_mem _ hm)

/-! Route paths. -/
/-- May the numbers of a path be asked of a layout? -/
def ArgsOk (L : Lay) (sg ex : Int) (vs : List Int) : Prop := (0 ≤ sg ∧ sg < L.sigs.length) ∧ (0 ≤ ex ∧ ex < L.exits.length) ∧ vs.length ≤ 2 ∧ topoR L = true ∧ ∀ v ∈ vs, 0 ≤ v ∧ v < L.secs.length
/-- Is it a Route path? -/
def RouteOk (L : Lay) (sp : Prt) (ep : Ext') (xs : List Stp) (vs : List Int) : Prop :=
  (1 ≤ xs.length ∧ xs.length ≤ 12) ∧ (∀ x : Stp, xs[0]? = some x → sp = ⟨x.s, x.i⟩) ∧ (∀ x : Stp, xs[xs.length - 1]? = some x → (⟨ep.s, ep.p⟩ : Prt) = ⟨x.s, x.o⟩) ∧
    goesL L xs = true ∧ throughL vs xs = true ∧ simpleL xs ep.over = true ∧ ∀ (k : Nat) (x : Stp), xs[k + 1]? = some x → sigIx L x.s x.i < 0
def zeroPrt : Prt := ⟨0, 0⟩
def zeroExt : Ext' := ⟨0, 0, []⟩
open Classical in
noncomputable def routeN (L : Lay) (sg ex : Int) (xs : List Stp) (vs : List Int) : Int :=
  if ArgsOk L sg ex vs then (if RouteOk L (L.sigs.getD sg.toNat zeroPrt) (L.exits.getD ex.toNat zeroExt) xs vs then 0 else 110) else 2
theorem route_arg {L : Lay} {sg ex : Int} {xs : List Stp} {vs : List Int} (h : ¬ ArgsOk L sg ex vs) : routeN L sg ex xs vs = 2 := by
  unfold routeN
  rw [if_neg h]
theorem route_no {L : Lay} {n m : Nat} {sp : Prt} {ep : Ext'} {xs : List Stp} {vs : List Int} (ha : ArgsOk L n m vs) (hs : L.sigs[n]? = some sp) (he : L.exits[m]? = some ep) (h : ¬ RouteOk L sp ep xs vs) : routeN L n m xs vs = 110 := by
  unfold routeN
  rw [if_pos ha, if_neg]
  simpa [hs, he] using h
theorem route_yes {L : Lay} {n m : Nat} {sp : Prt} {ep : Ext'} {xs : List Stp} {vs : List Int} (ha : ArgsOk L n m vs) (hs : L.sigs[n]? = some sp) (he : L.exits[m]? = some ep) (h : RouteOk L sp ep xs vs) : routeN L n m xs vs = 0 := by
  unfold routeN
  rw [if_pos ha, if_pos]
  simpa [hs, he] using h
theorem route_zero {L : Lay} {sg ex : Int} {xs : List Stp} {vs : List Int} (h : routeN L sg ex xs vs = 0) : ArgsOk L sg ex vs ∧ ∃ (n m : Nat) (sp : Prt) (ep : Ext'), sg = n ∧ ex = m ∧ L.sigs[n]? = some sp ∧ L.exits[m]? = some ep ∧ RouteOk L sp ep xs vs := by
  unfold routeN at h
  split at h
  · rename_i ha
    split at h
    · rename_i hr
      refine ⟨ha, sg.toNat, ex.toNat, L.sigs.getD sg.toNat zeroPrt, L.exits.getD ex.toNat zeroExt, by have := ha.1; omega, by have := ha.2.1; omega, ?_, ?_, hr⟩
      · have : sg.toNat < L.sigs.length := by have := ha.1; omega
        simp [List.getD_eq_getElem?_getD, List.getElem?_eq_getElem this]
      · have : ex.toNat < L.exits.length := by have := ha.2.1; omega
        simp [List.getD_eq_getElem?_getD, List.getElem?_eq_getElem this]
    · cases h
  · cases h
/-- In a layout that hangs together no overlap goes through a section twice. -/
theorem over_once {L : Lay} (h : topoR L = true) {ep : Ext'} (he : ep ∈ L.exits) : (secsOf ep.over).Nodup := by
  obtain ⟨_, hr⟩ := (topoR_iff L).1 h
  have := (rule3_neg L).1 (hr 3 (by omega)) ep he
  exact (overF_nodup L _ _ _ _ this).1
end Go.Proofs.YtpcojaoeahdgcaaGreatDoor

/-
  route.Through.
-/
namespace Go.Proofs.YtpcojaoeahdgcaaGreatDoor
open Go.RowKit Go.Shelf
attribute [local go_sem] Oper.semAt_some

theorem row_tail {W : World} {b off : Nat} {v : Int} {rs : List Int} (h : RowAt' W 1 intEnc b off (v :: rs)) : RowAt' W 1 intEnc b (off + 1) rs :=
  ⟨h.1, fun j x hx i u hu => by
    have := h.2 (j + 1) x hx i u hu
    rw [← this]
    congr 2
    omega⟩

set_option maxRecDepth 100000 in
set_option maxHeartbeats 8000000 in
theorem through_any (sg ex : Int) (A V : Option Addr) (cap vcap : Nat) (xs : List Stp) (vs : List Int) (w : World) (hA : At w 3 Stp.enc A xs) (hV : At w 1 intEnc V vs) (hm : xs.length ≤ 9223372036854775807)
    (hv : vs.length ≤ vcap) (hvm : vcap ≤ 9223372036854775807) :
    Calls Tryz.prog 12 #[.agg #[.int .i64 sg, .int .i64 ex, .slice A xs.length cap], .slice V vs.length vcap] w fun e w' => e = .returned (.bool (throughL vs xs)) ∧ Below w.heap.size w w' := by
  obtain ⟨r, hr⟩ : ∃ r, r = throughL vs xs := ⟨_, rfl⟩
  rw [← hr]
  obtain ⟨len, hlen⟩ : ∃ len, len = xs.length := ⟨_, rfl⟩
  rw [← hlen] at hm ⊢
  have HA := Lib.hid hA
  have HV := Lib.hid hV
  have HLN := Lib.hid hlen
  have HR := Lib.hid hr
  obtain ⟨vn, hvn⟩ : ∃ vn, vn = vs.length := ⟨_, rfl⟩
  rw [← hvn] at hv ⊢
  have HVN := Lib.hid hvn
  clear hA hV hlen hr hvn
  go_enter Tryz.func12, Tryz.ntmps12
  go_wp2_with fail
  go_loopw [1, 10] (fun c1 c10 wr => ∃ (k n cp : Nat) (V' : Option Addr) (rest : List Int), k ≤ len ∧ c10 = .int .i64 k ∧ c1 = .slice V' n cp ∧ n ≤ cp ∧ cp ≤ 9223372036854775807 ∧ Hid (n = rest.length ∧ At wr 1 intEnc V' rest ∧ rest = eat vs (xs.take k) ∧ Below w.heap.size w wr)) (fun _ c10 _ => len - (intOf c10).toNat)
  case atStart => exact ⟨0, vn, vcap, V, vs, Nat.zero_le _, rfl, rfl, hv, hvm, Lib.hid ⟨HVN.out, HV.out.below bself, by simp [eat], bself⟩⟩
  case round =>
    obtain ⟨k, n, cp, V', rest, hk, rfl, rfl, hn, hcp, HI⟩ := hrel
    by_cases hlt : k < len
    · obtain ⟨b, off, hAe, hrow⟩ := HA.out.get (j := k) (by rw [← HLN.out]; exact hlt)
      subst hAe
      obtain ⟨y, hy⟩ : ∃ y, xs[k]? = some y := ⟨_, List.getElem?_eq_getElem (by rw [← HLN.out]; exact hlt)⟩
      have HE := Lib.hid (eat_take (vs := vs) hy)
      obtain ⟨ys, yi, yo⟩ := y
      have lb := hrow.1
      have k0 : wr.cell? ⟨b, off + k * 3, none⟩ = some (.int .i64 ys) := (HI.out.2.2.2.cell (p := ⟨b, off + k * 3, none⟩) lb).trans (hrow.2 k _ hy 0 _ rfl)
      have k1 : wr.cell? ⟨b, off + k * 3 + 1, none⟩ = some (.int .i64 yi) := (HI.out.2.2.2.cell (p := ⟨b, off + k * 3 + 1, none⟩) lb).trans (hrow.2 k _ hy 1 _ rfl)
      have k2 : wr.cell? ⟨b, off + k * 3 + 2, none⟩ = some (.int .i64 yo) := (HI.out.2.2.2.cell (p := ⟨b, off + k * 3 + 2, none⟩) lb).trans (hrow.2 k _ hy 2 _ rfl)
      have lb2 : b < wr.heap.size := Nat.lt_of_lt_of_le lb HI.out.2.2.2.size
      clear hy hrow
      cases rest with
      | nil =>
        obtain rfl : n = 0 := HI.out.1
        have hd : decide ((0 : Int) < 0) = false := rfl
        have hI2 : 0 = ([] : List Int).length ∧ [] = eat vs (xs.take (k + 1)) := ⟨rfl, by rw [HE.out, ← HI.out.2.2.1]; rfl⟩
        have HI2 := Lib.hid hI2
        clear hI2
        go_wp2_with fail
        go_region
        go_wp2
        go_roundw
        case rel => exact ⟨k + 1, 0, cp, V', [], by omega, by go_num, rfl, by omega, hcp, Lib.hid ⟨HI2.out.1, .inl rfl, HI2.out.2, bchain HI.out.2.2.2 bself.drew⟩⟩
        case measure => simp [intOf]; omega
      | cons v rs =>
        obtain ⟨m, rfl⟩ : ∃ m, n = m + 1 := ⟨rs.length, HI.out.1⟩
        have hm1 : m = rs.length := by have := HI.out.1; rw [List.length_cons] at this; omega
        obtain ⟨b2, off2, hVe, hrow2⟩ := HI.out.2.1.get (j := 0) (by simp)
        subst hVe
        have v0 : wr.cell? ⟨b2, off2, none⟩ = some (.int .i64 v) := by simpa using hrow2.2 0 v rfl 0 _ rfl
        have lb3 := hrow2.1
        have HM := Lib.hid (⟨hm1, hrow2⟩ : _ ∧ _)
        have hd : decide ((0 : Int) < ((m + 1 : Nat) : Int)) = true := decide_eq_true (by omega)
        have hd2 : (0 : Nat) < m + 1 := by omega
        have n0 := World.new_ne wr _ v0
        clear hm1 hrow2
        by_cases hv : ys = v
        · subst hv
          have hI2 : rs = eat vs (xs.take (k + 1)) := by rw [HE.out, ← HI.out.2.2.1]; simp [eat1]
          have HI2 := Lib.hid hI2
          clear hI2
          go_wp2_with fail
          go_region
          go_wp2
          go_roundw
          case rel =>
            refine ⟨k + 1, m, cp - 1, _, rs, by omega, by go_num, rfl, by omega, by omega, Lib.hid ⟨HM.out.1, ?_, HI2.out, bchain HI.out.2.2.2 bself.drew⟩⟩
            by_cases hc1 : cp = 1
            · exact .inl (List.eq_nil_of_length_eq_zero (by have := HM.out.1; omega))
            · rw [if_neg hc1]
              exact (show At wr 1 intEnc _ rs from .inr ⟨b2, off2 + 1, rfl, row_tail HM.out.2⟩).below bself.drew
          case measure => simp [intOf]; omega
        · have hv' : (ys == v) = false := by simpa using hv
          have hI2 : v :: rs = eat vs (xs.take (k + 1)) := by rw [HE.out, ← HI.out.2.2.1]; simp [eat1, Ne.symm hv]
          have HI2 := Lib.hid hI2
          clear hI2
          go_wp2_with fail
          go_region
          go_wp2
          go_roundw
          case rel => exact ⟨k + 1, m + 1, cp, _, v :: rs, by omega, by go_num, rfl, by omega, by omega, Lib.hid ⟨HI.out.1, HI.out.2.1.below bself.drew, HI2.out, bchain HI.out.2.2.2 bself.drew⟩⟩
          case measure => simp [intOf]; omega
    · obtain rfl : k = len := by omega
      have hfin : r = decide (n = 0) := by rw [HR.out, HI.out.1, HI.out.2.2.1, HLN.out, List.take_length]; rfl
      have HF := Lib.hid hfin
      clear hfin
      go_wp2
      go_ret
      refine ⟨ret_bool ?_, HI.out.2.2.2⟩
      rw [HF.out, Bool.eq_iff_iff]
      simp
end Go.Proofs.YtpcojaoeahdgcaaGreatDoor
