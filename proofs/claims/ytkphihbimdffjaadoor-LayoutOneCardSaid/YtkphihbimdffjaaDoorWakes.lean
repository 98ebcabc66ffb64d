/-
  lockbarlaw06.wakes.
-/
import Derived.Test.YtkphihbimdffjaaDoorLine
import Derived.Test.YtkphihbimdffjaaDoorOwn
import Derived.Test.YtkphihbimdffjaaDoorRight
import Derived.Test.YtkphihbimdffjaaDoorSame2
import Derived.Deep.DeepCutAuto
import Derived.Deep.RegionWith
import Derived.Test.YtkphihbimdffjaaDoorRel
import Derived.Test.YtkphihbimdffjaaDoorBoxes
namespace Go.Proofs.YtkphihbimdffjaaDoor
open Go.RowKit Go.Shelf

def badL : Lay := ⟨[⟨1, -1, 0, 1, 0, 1, 0, -1, 0, 0, 0⟩, ⟨2, 0, 1, 2, 0, 3, 0, -1, 0, 0, 1⟩, ⟨1, 1, 1, -1, 0, -1, 0, -1, 0, 0, 0⟩, ⟨1, 1, 2, -1, 0, -1, 0, -1, 0, 0, 0⟩], [⟨0, 0⟩], [⟨1, 1, [⟨2, 0, 1⟩]⟩, ⟨3, 1, []⟩], [], 1, 1, 1, 1, 1, 1, 1⟩
def emptyL : Lay := ⟨[], [], [], [], 1, 1, 1, 1, 1, 1, 1⟩
def sigL : Lay := ⟨[], [⟨0, 0⟩], [], [], 1, 1, 1, 1, 1, 1, 1⟩
def zeroL : Lay := ⟨[], [], [], [], 0, 0, 0, 0, 0, 0, 0⟩
def noneP : Where := ⟨none, none, none, none, 0, 0, 0, 0⟩
theorem LineAt.set {W : World} {n g o : Nat} {u : Value} (h : LineAt W n) (hg : n + 1 + 1 + 1 < g) : LineAt (W.setCell ⟨g, o, none⟩ u) n :=
  ⟨by simpa [World.setCell] using h.lt, h.secs.set (by omega), h.sigs.set (by omega), h.over.set (by omega), h.exits.set (by omega)⟩
theorem lay_nil {W : World} {L : Lay} (h1 : L.secs = []) (h2 : L.sigs = []) (h3 : L.exits = []) (h4 : L.flanks = []) : LayAt W noneP L :=
  ⟨.inl h1, .inl h2, ⟨[], by rw [h3]; rfl, .inl rfl, fun e he => by cases he⟩, .inl h4, by simp [h1, noneP], by simp [h2, noneP], by simp [h3, noneP], by simp [h4, noneP], fun c hc => by rw [h1] at hc; cases hc⟩
/-- line's layout with one join turned. -/
theorem bad_lay {W W' : World} {n : Nat} (h : LineAt W n) (hb : Below ((W.setCell ⟨n, 5, none⟩ (.int .i64 1)).setCell ⟨n, 6, none⟩ (.int .i64 0)).heap.size ((W.setCell ⟨n, 5, none⟩ (.int .i64 1)).setCell ⟨n, 6, none⟩ (.int .i64 0)) W') : LayAt W' (lineP n) badL := by
  have hz : ((W.setCell ⟨n, 5, none⟩ (.int .i64 1)).setCell ⟨n, 6, none⟩ (.int .i64 0)).heap.size = W.heap.size := by simp [World.setCell]
  have hlt := h.lt
  have k5 : W.cell? ⟨n, 5, none⟩ = some (.int .i64 (-1)) := h.secs.2 0 _ rfl 5 _ rfl
  have k6 : (W.setCell ⟨n, 5, none⟩ (.int .i64 1)).cell? ⟨n, 6, none⟩ = some (.int .i64 0) := (World.cell?_setCell_other _ _ _ _ (by simp)).trans (h.secs.2 0 _ rfl 6 _ rfl)
  have hs : RowAt' ((W.setCell ⟨n, 5, none⟩ (.int .i64 1)).setCell ⟨n, 6, none⟩ (.int .i64 0)) 11 Sec.enc n 0 badL.secs := by
    refine rowAt_flat (fun _ => rfl) (by decide) (by rw [hz]; omega) (fun o v hv => ?_)
    have old : ∀ (o : Nat) (v : Value), (lineL.secs.flatMap Sec.enc)[o]? = some v → W.cell? ⟨n, o, none⟩ = some v := fun o v e => by
      have := flat_cells (enc := Sec.enc) (k := 11) (fun _ => rfl) (by decide) h.secs o v e
      rwa [add_at, Nat.zero_add] at this
    by_cases h5 : o = 5
    · subst h5
      rw [World.cell?_setCell_other _ _ _ _ (by simp), World.cell?_setCell_same _ _ _ k5]
      exact hv
    · by_cases h6 : o = 6
      · subst h6
        rw [World.cell?_setCell_same _ _ _ k6]
        exact hv
      · rw [World.cell?_setCell_other _ _ _ _ (by simp <;> omega), World.cell?_setCell_other _ _ _ _ (by simp <;> omega)]
        refine old o v ?_
        obtain rfl | rfl | rfl | rfl | rfl | h7 : o = 0 ∨ o = 1 ∨ o = 2 ∨ o = 3 ∨ o = 4 ∨ 7 ≤ o := by omega
        · exact hv
        · exact hv
        · exact hv
        · exact hv
        · exact hv
        · obtain ⟨j, rfl⟩ : ∃ j, o = j + 7 := ⟨o - 7, by omega⟩
          exact hv
  have hs' := hs.below hb
  have hg := ((h.sigs.set (g := n) (o := 5) (u := .int .i64 1) (by omega)).set (g := n) (o := 6) (u := .int .i64 0) (by omega)).below hb
  have ho := ((h.over.set (g := n) (o := 5) (u := .int .i64 1) (by omega)).set (g := n) (o := 6) (u := .int .i64 0) (by omega)).below hb
  have he := ((h.exits.set (g := n) (o := 5) (u := .int .i64 1) (by omega)).set (g := n) (o := 6) (u := .int .i64 0) (by omega)).below hb
  refine ⟨.inr ⟨_, _, rfl, hs'⟩, .inr ⟨_, _, rfl, hg⟩, ⟨_, rfl, .inr ⟨_, _, rfl, he⟩, fun e he => ?_⟩, .inl rfl, by simp [badL, lineP], by simp [badL, lineP], by simp [badL, lineP], by simp [badL, lineP], by simp [badL]⟩
  simp only [List.mem_cons, List.not_mem_nil, or_false] at he
  rcases he with rfl | rfl
  · exact ⟨_, _, rfl, by simp, by unfold maxLen; omega, .inr ⟨_, _, rfl, ho⟩⟩
  · exact ⟨_, _, rfl, by simp, by unfold maxLen; omega, .inl rfl⟩
theorem at12 : atV (atO lineL 1 2) = .tuple #[.agg #[.int .u8 2, .int .i64 0, .int .i64 1, .int .i64 2, .int .i64 0, .int .i64 3, .int .i64 0, .int .i64 (-1), .int .i64 0, .int .i64 0, .int .i64 1], .bool true] := rfl
theorem st1 : stepN lineL 1 2 0 = 1 ∧ stepB lineL 1 2 0 = true ∧ stepB lineL 1 2 1 = false := ⟨rfl, rfl, rfl⟩
theorem at02 : atV (atO lineL 0 2) = .tuple #[.agg #[.int .u8 0, .int .i64 0, .int .i64 0, .int .i64 0, .int .i64 0, .int .i64 0, .int .i64 0, .int .i64 0, .int .i64 0, .int .i64 0, .int .i64 0], .bool false] := rfl
theorem rights : rightL lineL = true ∧ rightL badL = false ∧ rightL emptyL = true ∧ rightL sigL = false ∧ rightL zeroL = false ∧ sameL lineL lineL = true ∧ sameL badL lineL = false := by decide

theorem few_line : Few lineL := by unfold Few; decide
theorem idxs : sigIx lineL 0 0 = 0 ∧ sigIx lineL 1 0 = -1 ∧ exIx lineL 3 1 = 1 := by decide

set_option maxRecDepth 100000 in
set_option maxHeartbeats 16000000 in
theorem wakes_any (w : World) (K : Kinds w) : Calls Tryd.prog 9 #[] w fun e w' => e = .returned (.bool true) ∧ Below w.heap.size w w' := by
  have mk := Lib.hid trivial
  have mk4 := Lib.hid trivial
  have mk5 := Lib.hid trivial
  have mk6 := Lib.hid trivial
  have mk7 := Lib.hid trivial
  go_enter Tryd.func9, Tryd.ntmps9
  go_upto_region 2 with (first
    | (clear mk; go_at_call 26; refine (line_any _).mono ?_; rintro e W1 ⟨rfl, l1, f1, b1⟩)
    | (go_at_call 26; refine (line_any _).mono ?_; rintro e W2 ⟨rfl, l2, f2, b2⟩))
  obtain ⟨m1, hm1⟩ : ∃ m, m = w.heap.size + 1 + 1 + 1 := ⟨_, rfl⟩
  obtain ⟨m2, hm2⟩ : ∃ m, m = W1.heap.size + 1 + 1 + 1 := ⟨_, rfl⟩
  rw [← hm1] at l1 f1 ⊢
  rw [← hm2] at l2 f2 ⊢
  obtain ⟨n, hn⟩ : ∃ n, n = W2.heap.size := ⟨_, rfl⟩
  obtain ⟨Y, hY⟩ : ∃ Y, Y = (W2.alloc (.cells (lineL.cells (lineP m1)).toArray 29)).alloc (.cells (lineL.cells (lineP m2)).toArray 29) := ⟨_, rfl⟩
  have e1 : BoxL Y n lineL (lineP m1) := by rw [hY]; exact (BoxL.make _ hn).below bself
  have e2 : BoxL Y (n + 1) lineL (lineP m2) := by rw [hY]; exact BoxL.make _ (by rw [hn]; simp)
  have y1 : LineAt Y m1 := by rw [hY]; exact ((l1.below b2).below bself).below bself
  have y2 : LineAt Y m2 := by rw [hY]; exact (l2.below bself).below bself
  have g2 : ∀ o, Y.frozen? ⟨m2, o, none⟩ = false := fun o => by
    rw [hY]
    exact ((bchain bself bself : Below W2.heap.size W2 _).frozen (p := ⟨m2, o, none⟩) (by have := l2.lt; dsimp only; omega)).trans (f2 o)
  have by0 : Below w.heap.size w Y := by rw [hY]; exact bchain (bchain b1 b2) (bchain bself bself)
  have y12 : m1 + 1 + 1 + 1 < m2 := by have := l1.lt; omega
  have ym : w.heap.size < m2 := by have := b1.size; omega
  have yn : m2 < n := by have := l2.lt; omega
  have yz : Y.heap.size = n + 1 + 1 := by rw [hY, hn]; simp
  have HY : (W2.alloc (.cells (lineL.cells (lineP m1)).toArray 29)).alloc (.cells (lineL.cells (lineP m2)).toArray 29) = Y := hY.symm
  unfold Lay.cells at HY
  rw [HY]
  rw [← hn]
  clear HY hY hn hm1 hm2 l1 l2 f1 f2
  have k0 : Y.cell? ⟨n + 1, 0, none⟩ = some (.slice (some ⟨m2, 0, none⟩) 4 4) := e2.2 0 _ rfl
  have k5 : Y.cell? ⟨m2, 5, none⟩ = some (.int .i64 (-1)) := y2.secs.2 0 _ rfl 5 _ rfl
  have k6 : Y.cell? ⟨m2, 6, none⟩ = some (.int .i64 0) := y2.secs.2 0 _ rfl 6 _ rfl
  have j4 : Y.cell? ⟨n, 4, none⟩ = some (.int .i64 1) := e1.2 4 _ rfl
  have j5 : Y.cell? ⟨n, 5, none⟩ = some (.int .i64 1) := e1.2 5 _ rfl
  have j6 : Y.cell? ⟨n, 6, none⟩ = some (.int .i64 1) := e1.2 6 _ rfl
  have j7 : Y.cell? ⟨n, 7, none⟩ = some (.int .i64 1) := e1.2 7 _ rfl
  have j8 : Y.cell? ⟨n, 8, none⟩ = some (.int .i64 1) := e1.2 8 _ rfl
  have j9 : Y.cell? ⟨n, 9, none⟩ = some (.int .i64 1) := e1.2 9 _ rfl
  have j10 : Y.cell? ⟨n, 10, none⟩ = some (.int .i64 1) := e1.2 10 _ rfl
  have yp : m2 < n + 1 := by omega
  have yq : n < Y.heap.size := by omega
  go_upto_region 4 with fail
  obtain ⟨Z0, hZ0⟩ : ∃ Z0, Z0 = (Y.setCell ⟨m2, 5, none⟩ (.int .i64 1)).setCell ⟨m2, 6, none⟩ (.int .i64 0) := ⟨_, rfl⟩
  have r1 : BoxL Z0 n lineL (lineP m1) := by rw [hZ0]; exact (e1.set (by omega)).set (by omega)
  have r2 : BoxL Z0 (n + 1) badL (lineP m2) := by rw [hZ0]; exact (e2.set (by omega)).set (by omega)
  have w1 : LineAt Z0 m1 := by rw [hZ0]; exact (y1.set y12).set y12
  have w2 : LayAt Z0 (lineP m2) badL := by rw [hZ0]; exact bad_lay y2 (Below.refl _ _)
  have zz0 : Z0.heap.size = n + 1 + 1 := by rw [hZ0]; simp [World.setCell, yz]
  obtain ⟨Z, hZ⟩ : ∃ Z, Z = ((Y.setCell ⟨m2, 5, none⟩ (.int .i64 1)).setCell ⟨m2, 6, none⟩ (.int .i64 0)).alloc (.cells (emptyL.cells noneP).toArray 29) := ⟨_, rfl⟩
  have s1 : BoxL Z n lineL (lineP m1) := by rw [hZ]; exact ((e1.set (by omega)).set (by omega)).below bself
  have s2 : BoxL Z (n + 1) badL (lineP m2) := by rw [hZ]; exact ((e2.set (by omega)).set (by omega)).below bself
  have s3 : BoxL Z (n + 1 + 1) emptyL noneP := by rw [hZ]; exact BoxL.make _ (by simp [World.setCell, yz])
  have z1 : LineAt Z m1 := by rw [hZ]; exact ((y1.set y12).set y12).below bself
  have z2 : LayAt Z (lineP m2) badL := by rw [hZ]; exact bad_lay y2 bself
  have bz : Below w.heap.size w Z := by rw [hZ]; exact bchain ((by0.setCell (p := ⟨m2, 5, none⟩) (by dsimp only; omega) _).setCell (p := ⟨m2, 6, none⟩) (by dsimp only; omega) _) bself
  have zz : Z.heap.size = n + 1 + 1 + 1 := by rw [hZ]; simp [World.setCell, yz]
  have g3 : ∀ o, Z.frozen? ⟨n + 1 + 1, o, none⟩ = false := by intro o; rw [hZ]; simp [go_sem, World.setCell, yz]
  have bz0 : Below Z0.heap.size Z0 Z := by rw [hZ, hZ0]; exact bself
  have HZ : ((Y.setCell ⟨m2, 5, none⟩ (.int .i64 1)).setCell ⟨m2, 6, none⟩ (.int .i64 0)).alloc (.cells #[.slice none 0 0, .slice none 0 0, .slice none 0 0, .slice none 0 0, .int .i64 1, .int .i64 1, .int .i64 1, .int .i64 1, .int .i64 1, .int .i64 1, .int .i64 1] 29) = Z := hZ.symm
  rw [HZ]
  clear HZ hZ hZ0 k0 k5 k6 j4 j5 j6 j7 j8 j9 j10 e1 e2 y1 y2 g2 yz by0 yq
  have KZ : Kinds Z := K.below bz
  have a0 : Z.cell? ⟨n, 0, none⟩ = some (.slice (some ⟨m1, 0, none⟩) 4 4) := s1.2 0 _ rfl
  have a1 : Z.cell? ⟨n, 1, none⟩ = some (.slice (some ⟨m1 + 1, 0, none⟩) 1 1) := s1.2 1 _ rfl
  have a2 : Z.cell? ⟨n, 2, none⟩ = some (.slice (some ⟨m1 + 1 + 1 + 1, 0, none⟩) 2 2) := s1.2 2 _ rfl
  have a3 : Z.cell? ⟨n, 3, none⟩ = some (.slice none 0 0) := s1.2 3 _ rfl
  have a4 : Z.cell? ⟨n, 4, none⟩ = some (.int .i64 1) := s1.2 4 _ rfl
  have a5 : Z.cell? ⟨n, 5, none⟩ = some (.int .i64 1) := s1.2 5 _ rfl
  have a6 : Z.cell? ⟨n, 6, none⟩ = some (.int .i64 1) := s1.2 6 _ rfl
  have a7 : Z.cell? ⟨n, 7, none⟩ = some (.int .i64 1) := s1.2 7 _ rfl
  have a8 : Z.cell? ⟨n, 8, none⟩ = some (.int .i64 1) := s1.2 8 _ rfl
  have a9 : Z.cell? ⟨n, 9, none⟩ = some (.int .i64 1) := s1.2 9 _ rfl
  have a10 : Z.cell? ⟨n, 10, none⟩ = some (.int .i64 1) := s1.2 10 _ rfl
  have lz : n < Z.heap.size := by omega
  have lz3 : n + 1 + 1 < Z.heap.size := by omega
  go_upto_region 8 with (first
    | (clear mk4; go_at_call 10; refine (at_any lineL (lineP m1) 1 2 _ z1.lay KZ).mono ?_; rw [at12]; rintro e V4 ⟨rfl, p4⟩; have q4 : Below Z.heap.size Z V4 := p4; have a40 := (q4.cell (p := ⟨n, 0, none⟩) lz).trans a0; have a41 := (q4.cell (p := ⟨n, 1, none⟩) lz).trans a1; have a42 := (q4.cell (p := ⟨n, 2, none⟩) lz).trans a2; have a43 := (q4.cell (p := ⟨n, 3, none⟩) lz).trans a3; have a44 := (q4.cell (p := ⟨n, 4, none⟩) lz).trans a4; have a45 := (q4.cell (p := ⟨n, 5, none⟩) lz).trans a5; have a46 := (q4.cell (p := ⟨n, 6, none⟩) lz).trans a6; have a47 := (q4.cell (p := ⟨n, 7, none⟩) lz).trans a7; have a48 := (q4.cell (p := ⟨n, 8, none⟩) lz).trans a8; have a49 := (q4.cell (p := ⟨n, 9, none⟩) lz).trans a9; have a410 := (q4.cell (p := ⟨n, 10, none⟩) lz).trans a10; have lv4 : n < V4.heap.size := Nat.lt_of_lt_of_le lz q4.size)
    | (clear mk5; go_at_call 10; refine (at_any lineL (lineP m1) 0 2 _ (z1.below (bchain q4 bself)).lay (KZ.below (bchain q4 bself))).mono ?_; rw [at02]; rintro e V5 ⟨rfl, p5⟩; have q5 : Below Z.heap.size Z V5 := bchain (bchain q4 bself) p5; have a50 := (q5.cell (p := ⟨n, 0, none⟩) lz).trans a0; have a51 := (q5.cell (p := ⟨n, 1, none⟩) lz).trans a1; have a52 := (q5.cell (p := ⟨n, 2, none⟩) lz).trans a2; have a53 := (q5.cell (p := ⟨n, 3, none⟩) lz).trans a3; have a54 := (q5.cell (p := ⟨n, 4, none⟩) lz).trans a4; have a55 := (q5.cell (p := ⟨n, 5, none⟩) lz).trans a5; have a56 := (q5.cell (p := ⟨n, 6, none⟩) lz).trans a6; have a57 := (q5.cell (p := ⟨n, 7, none⟩) lz).trans a7; have a58 := (q5.cell (p := ⟨n, 8, none⟩) lz).trans a8; have a59 := (q5.cell (p := ⟨n, 9, none⟩) lz).trans a9; have a510 := (q5.cell (p := ⟨n, 10, none⟩) lz).trans a10; have lv5 : n < V5.heap.size := Nat.lt_of_lt_of_le lz q5.size)
    | (clear mk6; go_at_call 12; refine (step_any lineL (lineP m1) 1 2 0 _ (z1.below (bchain q5 bself)).lay (KZ.below (bchain q5 bself))).mono ?_; rw [st1.1, st1.2.1]; rintro e V6 ⟨rfl, p6⟩; have q6 : Below Z.heap.size Z V6 := bchain (bchain q5 bself) p6; have a60 := (q6.cell (p := ⟨n, 0, none⟩) lz).trans a0; have a61 := (q6.cell (p := ⟨n, 1, none⟩) lz).trans a1; have a62 := (q6.cell (p := ⟨n, 2, none⟩) lz).trans a2; have a63 := (q6.cell (p := ⟨n, 3, none⟩) lz).trans a3; have a64 := (q6.cell (p := ⟨n, 4, none⟩) lz).trans a4; have a65 := (q6.cell (p := ⟨n, 5, none⟩) lz).trans a5; have a66 := (q6.cell (p := ⟨n, 6, none⟩) lz).trans a6; have a67 := (q6.cell (p := ⟨n, 7, none⟩) lz).trans a7; have a68 := (q6.cell (p := ⟨n, 8, none⟩) lz).trans a8; have a69 := (q6.cell (p := ⟨n, 9, none⟩) lz).trans a9; have a610 := (q6.cell (p := ⟨n, 10, none⟩) lz).trans a10; have lv6 : n < V6.heap.size := Nat.lt_of_lt_of_le lz q6.size)
    | (clear mk7; go_at_call 12; refine (step_any lineL (lineP m1) 1 2 1 _ (z1.below q6).lay (KZ.below q6)).mono ?_; rw [st1.2.2]; rintro e V7 ⟨rfl, p7⟩; have q7 : Below Z.heap.size Z V7 := bchain q6 p7; have a70 := (q7.cell (p := ⟨n, 0, none⟩) lz).trans a0; have a71 := (q7.cell (p := ⟨n, 1, none⟩) lz).trans a1; have a72 := (q7.cell (p := ⟨n, 2, none⟩) lz).trans a2; have a73 := (q7.cell (p := ⟨n, 3, none⟩) lz).trans a3; have a74 := (q7.cell (p := ⟨n, 4, none⟩) lz).trans a4; have a75 := (q7.cell (p := ⟨n, 5, none⟩) lz).trans a5; have a76 := (q7.cell (p := ⟨n, 6, none⟩) lz).trans a6; have a77 := (q7.cell (p := ⟨n, 7, none⟩) lz).trans a7; have a78 := (q7.cell (p := ⟨n, 8, none⟩) lz).trans a8; have a79 := (q7.cell (p := ⟨n, 9, none⟩) lz).trans a9; have a710 := (q7.cell (p := ⟨n, 10, none⟩) lz).trans a10; have lv7 : n < V7.heap.size := Nat.lt_of_lt_of_le lz q7.size))
  obtain ⟨n4, hn4⟩ : ∃ n4, n4 = V4.heap.size := ⟨_, rfl⟩
  have c4 : V7.cell? ⟨n4, 0, none⟩ = some (.int .u8 2) := by
    rw [hn4]
    exact ((bchain (bchain (bchain p5 bself) p6) p7).cell (p := ⟨V4.heap.size, 0, none⟩) (by simp)).trans (by simp [go_sem])
  have l4 : n4 < V7.heap.size := World.block_lt_of_cell? _ _ c4
  have z4 : Z.heap.size ≤ n4 := by rw [hn4]; exact q4.size
  rw [← hn4]
  clear hn4 a40 a41 a42 a43 a44 a45 a46 a47 a48 a49 a410 a50 a51 a52 a53 a54 a55 a56 a57 a58 a59 a510 a60 a61 a62 a63 a64 a65 a66 a67 a68 a69 a610 a70 a71 a72 a73 a74 a75 a76 a77 a78 a79 a710 a0 a1 a2 a3 a4 a5 a6 a7 a8 a9 a10 p4 p5 p6 p7 q4 q5 q6 lv4 lv5 lv6
  have b0 : V7.cell? ⟨n + 1 + 1, 0, none⟩ = some (.slice none 0 0) := (s3.below q7).2 0 _ rfl
  have b1 : V7.cell? ⟨n + 1 + 1, 1, none⟩ = some (.slice none 0 0) := (s3.below q7).2 1 _ rfl
  have b2 : V7.cell? ⟨n + 1 + 1, 2, none⟩ = some (.slice none 0 0) := (s3.below q7).2 2 _ rfl
  have b3 : V7.cell? ⟨n + 1 + 1, 3, none⟩ = some (.slice none 0 0) := (s3.below q7).2 3 _ rfl
  have b4 : V7.cell? ⟨n + 1 + 1, 4, none⟩ = some (.int .i64 1) := (s3.below q7).2 4 _ rfl
  have b5 : V7.cell? ⟨n + 1 + 1, 5, none⟩ = some (.int .i64 1) := (s3.below q7).2 5 _ rfl
  have b6 : V7.cell? ⟨n + 1 + 1, 6, none⟩ = some (.int .i64 1) := (s3.below q7).2 6 _ rfl
  have b7 : V7.cell? ⟨n + 1 + 1, 7, none⟩ = some (.int .i64 1) := (s3.below q7).2 7 _ rfl
  have b8 : V7.cell? ⟨n + 1 + 1, 8, none⟩ = some (.int .i64 1) := (s3.below q7).2 8 _ rfl
  have b9 : V7.cell? ⟨n + 1 + 1, 9, none⟩ = some (.int .i64 1) := (s3.below q7).2 9 _ rfl
  have b10 : V7.cell? ⟨n + 1 + 1, 10, none⟩ = some (.int .i64 1) := (s3.below q7).2 10 _ rfl
  have lv3 : n + 1 + 1 < V7.heap.size := Nat.lt_of_lt_of_le lz3 q7.size
  go_upto_region 10 with (first
    | (go_at_call 18; refine (rightLay_any emptyL noneP _ (lay_nil rfl rfl rfl rfl) (KZ.below q7)).mono ?_; rw [rights.2.2.1]; rintro e V8 ⟨rfl, p8⟩; have lv8 : n + 1 + 1 < V8.heap.size := Nat.lt_of_lt_of_le lv3 p8.size; have v8 := (p8.cell (p := ⟨n + 1 + 1, 1, none⟩) lv3).trans b1; have f8 := fun (o : Nat) => ((bchain q7 p8).frozen (p := ⟨n + 1 + 1, o, none⟩) lz3).trans (g3 o)))
  obtain ⟨v, hv⟩ : ∃ v, v = V8.heap.size := ⟨_, rfl⟩
  rw [← hv]
  obtain ⟨U, hU⟩ : ∃ U, U = (V8.setCell ⟨n + 1 + 1, 1, none⟩ (.slice (some ⟨v, 0, none⟩) 1 1)).alloc (.cells #[.int .i64 0, .int .i64 0] 50) := ⟨_, rfl⟩
  have hs8 : (V8.setCell ⟨n + 1 + 1, 1, none⟩ (.slice (some ⟨v, 0, none⟩) 1 1)).heap.size = v := by rw [hv]; simp [World.setCell]
  have bu : Below Z0.heap.size Z0 U := by
    rw [hU]
    exact ((bchain (bchain bz0 q7) p8).setCell (p := ⟨n + 1 + 1, 1, none⟩) (by dsimp only; omega) _).alloc (by rw [hs8]; omega) _
  have bw : Below w.heap.size w U := by
    rw [hU]
    exact ((bchain (bchain bz q7) p8).setCell (p := ⟨n + 1 + 1, 1, none⟩) (by dsimp only; omega) _).alloc (by rw [hs8]; omega) _
  have x4 : U.cell? ⟨n4, 0, none⟩ = some (.int .u8 2) := by
    have hlt : n4 < v := by rw [hv]; exact Nat.lt_of_lt_of_le l4 p8.size
    rw [hU, World.cell?_alloc_past _ _ _ (by rw [hs8]; exact hlt), World.cell?_setCell_far _ _ _ _ (by simp; omega)]
    exact (p8.cell (p := ⟨n4, 0, none⟩) l4).trans c4
  have u3 : ∀ (i : Nat) (x : Value), i ≠ 1 → (emptyL.cells noneP)[i]? = some x → U.cell? ⟨n + 1 + 1, i, none⟩ = some x := fun i x hi e => by
    rw [hU, World.cell?_alloc_past _ _ _ (by rw [hs8, hv]; exact lv8), World.cell?_setCell_other _ _ _ _ (by simp <;> omega)]
    exact ((s3.below q7).below p8).2 i x e
  have g1 : U.cell? ⟨n + 1 + 1, 1, none⟩ = some (.slice (some ⟨v, 0, none⟩) 1 1) := by
    rw [hU, World.cell?_alloc_past _ _ _ (by rw [hs8, hv]; exact lv8), World.cell?_setCell_same _ _ _ v8]
  have us : LayAt U ⟨none, some ⟨v, 0, none⟩, none, none, 0, 1, 0, 0⟩ sigL := by
    have hr : RowAt' U 2 Prt.enc v 0 sigL.sigs := rowAt_flat (fun _ => rfl) (by decide) (by rw [hU, World.size_alloc, hs8]; omega) (fun o x hx => by
      rw [hU, World.cell?_alloc_at _ _ _ _ hs8.symm]
      simpa [sigL, Prt.enc] using hx)
    exact ⟨.inl rfl, .inr ⟨_, _, rfl, hr⟩, ⟨[], rfl, .inl rfl, fun e he => by cases he⟩, .inl rfl, by simp [sigL], by simp [sigL], by simp [sigL], by simp [sigL], by simp [sigL]⟩
  have HU : (V8.setCell ⟨n + 1 + 1, 1, none⟩ (.slice (some ⟨v, 0, none⟩) 1 1)).alloc (.cells #[.int .i64 0, .int .i64 0] 50) = U := hU.symm
  rw [HU]
  clear HU hU
  have ln2 := World.block_lt_of_cell? _ _ g1
  have ln4 := World.block_lt_of_cell? _ _ x4
  have B1 : BoxL U n lineL (lineP m1) := r1.below bu
  have B2 : BoxL U (n + 1) badL (lineP m2) := r2.below bu
  have B3 : BoxL U (n + 1 + 1) sigL ⟨none, some ⟨v, 0, none⟩, none, none, 0, 1, 0, 0⟩ := by
    refine ⟨ln2, fun i x e => ?_⟩
    by_cases hi : i = 1
    · subst hi; rw [g1]; exact e
    · refine u3 i x hi ?_
      rw [← e]
      match i, hi with
      | 0, _ => rfl
      | 2, _ => rfl
      | 3, _ => rfl
      | i + 4, _ => rfl
  have q1 : LineAt U m1 := w1.below bu
  have q2 : LayAt U (lineP m2) badL := w2.below bu
  have KU : Kinds U := K.below bw
  have C14 : ∀ (s q r : Int) (W : World), sigIx lineL s q = r → ClB U W → Calls Tryd.prog 14 #[lineL.val (lineP m1), .agg #[.int .i64 s, .int .i64 q]] W fun e w' => e = .returned (.int .i64 r) ∧ Below W.heap.size W w' := fun s q r W e h => by
    rw [← e]; exact signal_any lineL (lineP m1) s q W (q1.below h).lay
  have C16 : ∀ (s q r : Int) (W : World), exIx lineL s q = r → ClB U W → Calls Tryd.prog 16 #[lineL.val (lineP m1), .agg #[.int .i64 s, .int .i64 q]] W fun e w' => e = .returned (.int .i64 r) ∧ Below W.heap.size W w' := fun s q r W e h => by
    rw [← e]; exact exit_any lineL (lineP m1) s q W (q1.below h).lay
  have C18 : ∀ (L : Lay) (p : Where) (b : Bool) (W : World), rightL L = b → LayAt U p L → ClB U W → Calls Tryd.prog 18 #[L.val p] W fun e w' => e = .returned (.bool b) ∧ Below W.heap.size W w' := fun L p b W e hL h => by
    rw [← e]; exact rightLay_any L p W (hL.below h) (KU.below h)
  have C20 : ∀ (L M : Lay) (p q : Where) (b : Bool) (W : World), sameL L M = b → LayAt W p L → LayAt W q M → Calls Tryd.prog 20 #[L.val p, M.val q] W fun e w' => e = .returned (.bool b) ∧ Below W.heap.size W w' := fun L M p q b W e hL hM => by
    rw [← e]; exact sameLay_any L M p q W hL hM
  have zl : LayAt U noneP zeroL := lay_nil rfl rfl rfl rfl
  have q1l := q1.lay
  have x4' : ∀ W, ClB U W → W.cell? ⟨n4, 0, none⟩ = some (.int .u8 2) := fun W h => (h.cell (p := ⟨n4, 0, none⟩) ln4).trans x4
  clear r1 r2 w1 w2 bu u3
  simp only [List.append]
  refine wp_region_rel_below [([(4, none)], none), ([(53, some 0)], none), ([(54, some 0)], none), ([(55, some 0)], none), ([(5, none), (56, some 0)], some (56, true)), ([(56, some 1), (57, some 0)], none), ([(58, some 0)], none), ([(7, none), (59, some 0)], some (59, true)), ([(60, some 0), (59, some 1)], some (59, true)), ([(59, some 2), (61, some 0)], none), ([(62, some 0)], none), ([(8, none), (63, some 0)], some (63, true)), ([(64, some 0), (63, some 1)], some (63, true)), ([(63, some 2), (65, some 0)], none), ([(66, some 0)], none), ([(9, none), (67, some 0)], some (67, true)), ([(67, some 1), (68, some 0)], none), ([(69, some 0)], none), ([(11, none), (70, some 0)], some (70, true)), ([(71, some 0), (70, some 1)], some (70, true)), ([(70, some 2), (72, some 0)], none), ([(73, some 0)], none), ([(1, none), (74, some 0)], some (74, true)), ([(74, some 1)], some (74, true)), ([(75, some 1), (76, some 0), (74, some 2)], some (74, true)), ([(77, some 0), (74, some 3)], some (74, true)), ([(74, some 4), (78, some 0)], none), ([(79, some 0)], none), ([(1, none), (80, some 0)], some (80, true)), ([(80, some 1)], some (80, true)), ([(81, some 1), (82, some 0), (80, some 2)], some (80, true)), ([(83, some 0), (80, some 3)], some (80, true)), ([(80, some 4), (84, some 0)], none), ([(85, some 0)], none), ([(1, none), (86, some 0)], some (86, true)), ([(86, some 1)], some (86, true)), ([(87, some 1), (88, some 0), (86, some 2)], some (86, true)), ([(89, some 0), (86, some 3)], some (86, true)), ([(86, some 4), (90, some 0)], none), ([(91, some 0)], none), ([(1, none), (92, some 0)], some (92, true)), ([(93, some 0), (92, some 1)], some (92, true)), ([(92, some 2), (94, some 0)], none), ([(95, some 0)], none), ([(2, none), (96, some 0)], some (96, true)), ([(97, some 0), (96, some 1)], some (96, true)), ([(98, some 0), (96, some 2)], some (96, true)), ([(96, some 3), (99, some 0)], none), ([(100, some 0)], none), ([(12, none), (101, some 0)], some (101, true)), ([(101, some 1), (102, some 0)], none), ([(103, some 0)], none), ([(3, none), (104, some 0)], some (104, true)), ([(105, some 0), (104, some 1)], some (104, true)), ([(106, some 0), (104, some 2)], some (104, true)), ([(104, some 3), (107, some 0)], none), ([(108, some 0)], none), ([(109, some 0)], some (109, true)), ([(110, some 0), (109, some 1)], some (109, true)), ([(111, some 0), (109, some 2)], some (109, true)), ([(109, some 3), (112, some 0)], none), ([(113, some 0)], none), ([(1, none), (114, some 0)], some (114, true)), ([(115, some 0), (114, some 1)], some (114, true)), ([(1, none), (114, some 2)], some (114, true)), ([(116, some 1), (117, some 0), (114, some 3)], some (114, true)), ([(114, some 4), (118, some 0)], none), ([(119, some 0)], none), ([(2, none), (120, some 0)], some (120, true)), ([(1, none), (120, some 1)], some (120, true)), ([(121, some 1), (122, some 0), (120, some 2)], some (120, true)), ([(123, some 0), (120, some 3)], some (120, true)), ([(120, some 4), (124, some 0)], none), ([(125, some 0)], none)] [(0, 0)] (by kernel_rfl) (by kernel_rfl) ?_
  refine ob_det (c := .pointer (some ⟨n4, 0, none⟩)) ?_ ?_
  · intro ρ W hk hC
    simp only [seen, obOp]
    rintro h4
    replace h4 : ρ (.tmp 4) = .pointer (some ⟨n4, 0, none⟩) := h4.trans rfl
    exact rel_value (by simp [go_sem, h4]) hC
  refine ob_det (c := .int .u8 2) ?_ ?_
  · intro ρ W hk hC
    simp only [seen, obOp, List.getD_cons_zero]
    rintro h53
    exact rel_value (by simp [go_sem, h53, x4' W hC]) hC
  refine ob_det (c := .bool true) ?_ ?_
  · intro ρ W hk hC
    simp only [seen, obOp, List.getD_cons_zero]
    rintro h54
    exact rel_value (by simp [go_sem, h54, hk.const]) hC
  refine ob_det (c := .bool true) ?_ ?_
  · intro ρ W hk hC
    simp only [seen, obOp, List.getD_cons_zero]
    rintro h55
    exact rel_value (by simp [go_sem, h55]) hC
  refine ob_det (c := .bool true) ?_ ?_
  · intro ρ W hk hC
    simp only [seen, obOp, List.getD_cons_zero]
    rintro h5 h56
    replace h5 : ρ (.tmp 5) = .bool true := h5.trans rfl
    refine ⟨fun _ => ?_, fun hn => absurd h56 hn⟩
    exact rel_value (by simp [go_sem, h5]) hC
  refine ob_det (c := .bool true) ?_ ?_
  · intro ρ W hk hC
    simp only [seen, obOp, List.getD_cons_zero, List.getD_cons_succ]
    rintro h56 h57
    exact rel_value (by simp [go_sem, h56, h57, hk.const]) hC
  refine ob_det (c := .bool true) ?_ ?_
  · intro ρ W hk hC
    simp only [seen, obOp, List.getD_cons_zero]
    rintro h58
    exact rel_value (by simp [go_sem, h58]) hC
  refine ob_det (c := .bool false) ?_ ?_
  · intro ρ W hk hC
    simp only [seen, obOp, List.getD_cons_zero]
    rintro h7 h59
    replace h7 : ρ (.tmp 7) = .bool false := h7.trans rfl
    refine ⟨fun _ => ?_, fun hn => absurd h59 hn⟩
    exact rel_value (by simp [go_sem, h7]) hC
  refine ob_det (c := .bool true) ?_ ?_
  · intro ρ W hk hC
    simp only [seen, obOp, List.getD_cons_zero, List.getD_cons_succ]
    rintro h60 h59
    refine ⟨fun _ => ?_, fun hn => absurd h59 hn⟩
    exact rel_value (by simp [go_sem, h60]) hC
  refine ob_det (c := .bool true) ?_ ?_
  · intro ρ W hk hC
    simp only [seen, obOp, List.getD_cons_zero, List.getD_cons_succ]
    rintro h59 h61
    exact rel_value (by simp [go_sem, h59, h61, hk.const]) hC
  refine ob_det (c := .bool true) ?_ ?_
  · intro ρ W hk hC
    simp only [seen, obOp, List.getD_cons_zero]
    rintro h62
    exact rel_value (by simp [go_sem, h62]) hC
  refine ob_det (c := .int .i64 1) ?_ ?_
  · intro ρ W hk hC
    simp only [seen, obOp, List.getD_cons_zero]
    rintro h8 h63
    replace h8 : ρ (.tmp 8) = .int .i64 1 := h8.trans rfl
    refine ⟨fun _ => ?_, fun hn => absurd h63 hn⟩
    exact rel_value (by simp [go_sem, h8]) hC
  refine ob_det (c := .bool true) ?_ ?_
  · intro ρ W hk hC
    simp only [seen, obOp, List.getD_cons_zero, List.getD_cons_succ]
    rintro h64 h63
    refine ⟨fun _ => ?_, fun hn => absurd h63 hn⟩
    exact rel_value (by simp [go_sem, h64, hk.const]) hC
  refine ob_det (c := .bool true) ?_ ?_
  · intro ρ W hk hC
    simp only [seen, obOp, List.getD_cons_zero, List.getD_cons_succ]
    rintro h63 h65
    exact rel_value (by simp [go_sem, h63, h65, hk.const]) hC
  refine ob_det (c := .bool true) ?_ ?_
  · intro ρ W hk hC
    simp only [seen, obOp, List.getD_cons_zero]
    rintro h66
    exact rel_value (by simp [go_sem, h66]) hC
  refine ob_det (c := .bool true) ?_ ?_
  · intro ρ W hk hC
    simp only [seen, obOp, List.getD_cons_zero]
    rintro h9 h67
    replace h9 : ρ (.tmp 9) = .bool true := h9.trans rfl
    refine ⟨fun _ => ?_, fun hn => absurd h67 hn⟩
    exact rel_value (by simp [go_sem, h9]) hC
  refine ob_det (c := .bool true) ?_ ?_
  · intro ρ W hk hC
    simp only [seen, obOp, List.getD_cons_zero, List.getD_cons_succ]
    rintro h67 h68
    exact rel_value (by simp [go_sem, h67, h68, hk.const]) hC
  refine ob_det (c := .bool true) ?_ ?_
  · intro ρ W hk hC
    simp only [seen, obOp, List.getD_cons_zero]
    rintro h69
    exact rel_value (by simp [go_sem, h69]) hC
  refine ob_det (c := .bool false) ?_ ?_
  · intro ρ W hk hC
    simp only [seen, obOp, List.getD_cons_zero]
    rintro h11 h70
    replace h11 : ρ (.tmp 11) = .bool false := h11.trans rfl
    refine ⟨fun _ => ?_, fun hn => absurd h70 hn⟩
    exact rel_value (by simp [go_sem, h11]) hC
  refine ob_det (c := .bool true) ?_ ?_
  · intro ρ W hk hC
    simp only [seen, obOp, List.getD_cons_zero, List.getD_cons_succ]
    rintro h71 h70
    refine ⟨fun _ => ?_, fun hn => absurd h70 hn⟩
    exact rel_value (by simp [go_sem, h71]) hC
  refine ob_det (c := .bool true) ?_ ?_
  · intro ρ W hk hC
    simp only [seen, obOp, List.getD_cons_zero, List.getD_cons_succ]
    rintro h70 h72
    exact rel_value (by simp [go_sem, h70, h72, hk.const]) hC
  refine ob_det (c := .bool true) ?_ ?_
  · intro ρ W hk hC
    simp only [seen, obOp, List.getD_cons_zero]
    rintro h73
    exact rel_value (by simp [go_sem, h73]) hC
  refine ob_det (c := lineL.val (lineP m1)) ?_ ?_
  · intro ρ W hk hC
    simp only [seen, obOp, List.getD_cons_zero]
    rintro h1 h74
    replace h1 : ρ (.tmp 1) = .pointer (some ⟨n, 0, none⟩) := h1.trans rfl
    refine ⟨fun _ => ?_, fun hn => absurd h74 hn⟩
    exact rel_value (runLoad (h1) (B1.below hC)) hC
  refine ob_det (c := .agg #[.int .i64 0, .int .i64 0]) ?_ ?_
  · intro ρ W hk hC
    simp only [seen, obOp, List.getD_cons_zero, List.getD_cons_succ]
    rintro h74
    refine ⟨fun _ => ?_, fun hn => absurd h74 hn⟩
    exact rel_value (by simp [go_sem, hk.const]) hC
  refine ob_det (c := .int .i64 0) ?_ ?_
  · intro ρ W hk hC
    simp only [seen, obOp, List.getD_cons_zero, List.getD_cons_succ]
    rintro h75 h76 h74
    refine ⟨fun _ => ?_, fun hn => absurd h74 hn⟩
    exact rel_call (f := 14) (args := #[lineL.val (lineP m1), .agg #[.int .i64 0, .int .i64 0]]) (by simp [go_sem, h75, h76, hk.func]) hC (C14 0 0 _ W idxs.1 hC)
  refine ob_det (c := .bool true) ?_ ?_
  · intro ρ W hk hC
    simp only [seen, obOp, List.getD_cons_zero, List.getD_cons_succ]
    rintro h77 h74
    refine ⟨fun _ => ?_, fun hn => absurd h74 hn⟩
    exact rel_value (by simp [go_sem, h77, hk.const]) hC
  refine ob_det (c := .bool true) ?_ ?_
  · intro ρ W hk hC
    simp only [seen, obOp, List.getD_cons_zero, List.getD_cons_succ]
    rintro h74 h78
    exact rel_value (by simp [go_sem, h74, h78, hk.const]) hC
  refine ob_det (c := .bool true) ?_ ?_
  · intro ρ W hk hC
    simp only [seen, obOp, List.getD_cons_zero]
    rintro h79
    exact rel_value (by simp [go_sem, h79]) hC
  refine ob_det (c := lineL.val (lineP m1)) ?_ ?_
  · intro ρ W hk hC
    simp only [seen, obOp, List.getD_cons_zero]
    rintro h1 h80
    replace h1 : ρ (.tmp 1) = .pointer (some ⟨n, 0, none⟩) := h1.trans rfl
    refine ⟨fun _ => ?_, fun hn => absurd h80 hn⟩
    exact rel_value (runLoad (h1) (B1.below hC)) hC
  refine ob_det (c := .agg #[.int .i64 1, .int .i64 0]) ?_ ?_
  · intro ρ W hk hC
    simp only [seen, obOp, List.getD_cons_zero, List.getD_cons_succ]
    rintro h80
    refine ⟨fun _ => ?_, fun hn => absurd h80 hn⟩
    exact rel_value (by simp [go_sem, hk.const]) hC
  refine ob_det (c := .int .i64 (-1)) ?_ ?_
  · intro ρ W hk hC
    simp only [seen, obOp, List.getD_cons_zero, List.getD_cons_succ]
    rintro h81 h82 h80
    refine ⟨fun _ => ?_, fun hn => absurd h80 hn⟩
    exact rel_call (f := 14) (args := #[lineL.val (lineP m1), .agg #[.int .i64 1, .int .i64 0]]) (by simp [go_sem, h81, h82, hk.func]) hC (C14 1 0 _ W idxs.2.1 hC)
  refine ob_det (c := .bool true) ?_ ?_
  · intro ρ W hk hC
    simp only [seen, obOp, List.getD_cons_zero, List.getD_cons_succ]
    rintro h83 h80
    refine ⟨fun _ => ?_, fun hn => absurd h80 hn⟩
    exact rel_value (by simp [go_sem, h83, hk.const]) hC
  refine ob_det (c := .bool true) ?_ ?_
  · intro ρ W hk hC
    simp only [seen, obOp, List.getD_cons_zero, List.getD_cons_succ]
    rintro h80 h84
    exact rel_value (by simp [go_sem, h80, h84, hk.const]) hC
  refine ob_det (c := .bool true) ?_ ?_
  · intro ρ W hk hC
    simp only [seen, obOp, List.getD_cons_zero]
    rintro h85
    exact rel_value (by simp [go_sem, h85]) hC
  refine ob_det (c := lineL.val (lineP m1)) ?_ ?_
  · intro ρ W hk hC
    simp only [seen, obOp, List.getD_cons_zero]
    rintro h1 h86
    replace h1 : ρ (.tmp 1) = .pointer (some ⟨n, 0, none⟩) := h1.trans rfl
    refine ⟨fun _ => ?_, fun hn => absurd h86 hn⟩
    exact rel_value (runLoad (h1) (B1.below hC)) hC
  refine ob_det (c := .agg #[.int .i64 3, .int .i64 1]) ?_ ?_
  · intro ρ W hk hC
    simp only [seen, obOp, List.getD_cons_zero, List.getD_cons_succ]
    rintro h86
    refine ⟨fun _ => ?_, fun hn => absurd h86 hn⟩
    exact rel_value (by simp [go_sem, hk.const]) hC
  refine ob_det (c := .int .i64 1) ?_ ?_
  · intro ρ W hk hC
    simp only [seen, obOp, List.getD_cons_zero, List.getD_cons_succ]
    rintro h87 h88 h86
    refine ⟨fun _ => ?_, fun hn => absurd h86 hn⟩
    exact rel_call (f := 16) (args := #[lineL.val (lineP m1), .agg #[.int .i64 3, .int .i64 1]]) (by simp [go_sem, h87, h88, hk.func]) hC (C16 3 1 _ W idxs.2.2 hC)
  refine ob_det (c := .bool true) ?_ ?_
  · intro ρ W hk hC
    simp only [seen, obOp, List.getD_cons_zero, List.getD_cons_succ]
    rintro h89 h86
    refine ⟨fun _ => ?_, fun hn => absurd h86 hn⟩
    exact rel_value (by simp [go_sem, h89, hk.const]) hC
  refine ob_det (c := .bool true) ?_ ?_
  · intro ρ W hk hC
    simp only [seen, obOp, List.getD_cons_zero, List.getD_cons_succ]
    rintro h86 h90
    exact rel_value (by simp [go_sem, h86, h90, hk.const]) hC
  refine ob_det (c := .bool true) ?_ ?_
  · intro ρ W hk hC
    simp only [seen, obOp, List.getD_cons_zero]
    rintro h91
    exact rel_value (by simp [go_sem, h91]) hC
  refine ob_det (c := lineL.val (lineP m1)) ?_ ?_
  · intro ρ W hk hC
    simp only [seen, obOp, List.getD_cons_zero]
    rintro h1 h92
    replace h1 : ρ (.tmp 1) = .pointer (some ⟨n, 0, none⟩) := h1.trans rfl
    refine ⟨fun _ => ?_, fun hn => absurd h92 hn⟩
    exact rel_value (runLoad (h1) (B1.below hC)) hC
  refine ob_det (c := .bool true) ?_ ?_
  · intro ρ W hk hC
    simp only [seen, obOp, List.getD_cons_zero, List.getD_cons_succ]
    rintro h93 h92
    refine ⟨fun _ => ?_, fun hn => absurd h92 hn⟩
    exact rel_call (f := 18) (args := #[lineL.val (lineP m1)]) (by simp [go_sem, h93, hk.func]) hC (C18 _ _ _ W rights.1 q1l hC)
  refine ob_det (c := .bool true) ?_ ?_
  · intro ρ W hk hC
    simp only [seen, obOp, List.getD_cons_zero, List.getD_cons_succ]
    rintro h92 h94
    exact rel_value (by simp [go_sem, h92, h94, hk.const]) hC
  refine ob_det (c := .bool true) ?_ ?_
  · intro ρ W hk hC
    simp only [seen, obOp, List.getD_cons_zero]
    rintro h95
    exact rel_value (by simp [go_sem, h95]) hC
  refine ob_det (c := badL.val (lineP m2)) ?_ ?_
  · intro ρ W hk hC
    simp only [seen, obOp, List.getD_cons_zero]
    rintro h2 h96
    replace h2 : ρ (.tmp 2) = .pointer (some ⟨n + 1, 0, none⟩) := h2.trans rfl
    refine ⟨fun _ => ?_, fun hn => absurd h96 hn⟩
    exact rel_value (runLoad (h2) (B2.below hC)) hC
  refine ob_det (c := .bool false) ?_ ?_
  · intro ρ W hk hC
    simp only [seen, obOp, List.getD_cons_zero, List.getD_cons_succ]
    rintro h97 h96
    refine ⟨fun _ => ?_, fun hn => absurd h96 hn⟩
    exact rel_call (f := 18) (args := #[badL.val (lineP m2)]) (by simp [go_sem, h97, hk.func]) hC (C18 _ _ _ W rights.2.1 q2 hC)
  refine ob_det (c := .bool true) ?_ ?_
  · intro ρ W hk hC
    simp only [seen, obOp, List.getD_cons_zero, List.getD_cons_succ]
    rintro h98 h96
    refine ⟨fun _ => ?_, fun hn => absurd h96 hn⟩
    exact rel_value (by simp [go_sem, h98]) hC
  refine ob_det (c := .bool true) ?_ ?_
  · intro ρ W hk hC
    simp only [seen, obOp, List.getD_cons_zero, List.getD_cons_succ]
    rintro h96 h99
    exact rel_value (by simp [go_sem, h96, h99, hk.const]) hC
  refine ob_det (c := .bool true) ?_ ?_
  · intro ρ W hk hC
    simp only [seen, obOp, List.getD_cons_zero]
    rintro h100
    exact rel_value (by simp [go_sem, h100]) hC
  refine ob_det (c := .bool true) ?_ ?_
  · intro ρ W hk hC
    simp only [seen, obOp, List.getD_cons_zero]
    rintro h12 h101
    replace h12 : ρ (.tmp 12) = .bool true := h12.trans rfl
    refine ⟨fun _ => ?_, fun hn => absurd h101 hn⟩
    exact rel_value (by simp [go_sem, h12]) hC
  refine ob_det (c := .bool true) ?_ ?_
  · intro ρ W hk hC
    simp only [seen, obOp, List.getD_cons_zero, List.getD_cons_succ]
    rintro h101 h102
    exact rel_value (by simp [go_sem, h101, h102, hk.const]) hC
  refine ob_det (c := .bool true) ?_ ?_
  · intro ρ W hk hC
    simp only [seen, obOp, List.getD_cons_zero]
    rintro h103
    exact rel_value (by simp [go_sem, h103]) hC
  refine ob_det (c := sigL.val ⟨none, some ⟨v, 0, none⟩, none, none, 0, 1, 0, 0⟩) ?_ ?_
  · intro ρ W hk hC
    simp only [seen, obOp, List.getD_cons_zero]
    rintro h3 h104
    replace h3 : ρ (.tmp 3) = .pointer (some ⟨n + 1 + 1, 0, none⟩) := h3.trans rfl
    refine ⟨fun _ => ?_, fun hn => absurd h104 hn⟩
    exact rel_value (runLoad (h3) (B3.below hC)) hC
  refine ob_det (c := .bool false) ?_ ?_
  · intro ρ W hk hC
    simp only [seen, obOp, List.getD_cons_zero, List.getD_cons_succ]
    rintro h105 h104
    refine ⟨fun _ => ?_, fun hn => absurd h104 hn⟩
    exact rel_call (f := 18) (args := #[sigL.val ⟨none, some ⟨v, 0, none⟩, none, none, 0, 1, 0, 0⟩]) (by simp [go_sem, h105, hk.func]) hC (C18 _ _ _ W rights.2.2.2.1 us hC)
  refine ob_det (c := .bool true) ?_ ?_
  · intro ρ W hk hC
    simp only [seen, obOp, List.getD_cons_zero, List.getD_cons_succ]
    rintro h106 h104
    refine ⟨fun _ => ?_, fun hn => absurd h104 hn⟩
    exact rel_value (by simp [go_sem, h106]) hC
  refine ob_det (c := .bool true) ?_ ?_
  · intro ρ W hk hC
    simp only [seen, obOp, List.getD_cons_zero, List.getD_cons_succ]
    rintro h104 h107
    exact rel_value (by simp [go_sem, h104, h107, hk.const]) hC
  refine ob_det (c := .bool true) ?_ ?_
  · intro ρ W hk hC
    simp only [seen, obOp, List.getD_cons_zero]
    rintro h108
    exact rel_value (by simp [go_sem, h108]) hC
  refine ob_det (c := zeroL.val noneP) ?_ ?_
  · intro ρ W hk hC
    simp only [seen, obOp, List.getD_cons_zero]
    rintro h109
    refine ⟨fun _ => ?_, fun hn => absurd h109 hn⟩
    exact rel_value (by simp [go_sem, Lay.val, zeroL, noneP]) hC
  refine ob_det (c := .bool false) ?_ ?_
  · intro ρ W hk hC
    simp only [seen, obOp, List.getD_cons_zero, List.getD_cons_succ]
    rintro h110 h109
    refine ⟨fun _ => ?_, fun hn => absurd h109 hn⟩
    exact rel_call (f := 18) (args := #[zeroL.val noneP]) (by simp [go_sem, h110, hk.func]) hC (C18 _ _ _ W rights.2.2.2.2.1 zl hC)
  refine ob_det (c := .bool true) ?_ ?_
  · intro ρ W hk hC
    simp only [seen, obOp, List.getD_cons_zero, List.getD_cons_succ]
    rintro h111 h109
    refine ⟨fun _ => ?_, fun hn => absurd h109 hn⟩
    exact rel_value (by simp [go_sem, h111]) hC
  refine ob_det (c := .bool true) ?_ ?_
  · intro ρ W hk hC
    simp only [seen, obOp, List.getD_cons_zero, List.getD_cons_succ]
    rintro h109 h112
    exact rel_value (by simp [go_sem, h109, h112, hk.const]) hC
  refine ob_det (c := .bool true) ?_ ?_
  · intro ρ W hk hC
    simp only [seen, obOp, List.getD_cons_zero]
    rintro h113
    exact rel_value (by simp [go_sem, h113]) hC
  refine ob_det (c := lineL.val (lineP m1)) ?_ ?_
  · intro ρ W hk hC
    simp only [seen, obOp, List.getD_cons_zero]
    rintro h1 h114
    replace h1 : ρ (.tmp 1) = .pointer (some ⟨n, 0, none⟩) := h1.trans rfl
    refine ⟨fun _ => ?_, fun hn => absurd h114 hn⟩
    exact rel_value (runLoad (h1) (B1.below hC)) hC
  refine ⟨fun v w' => ∃ p', v = lineL.val p' ∧ LayAt w' p' lineL, fun v w w' ⟨p', e, h⟩ hb => ⟨p', e, h.below hb⟩, ?_, ?_⟩
  · intro ρ W hk hC
    simp only [seen, obOp, List.getD_cons_zero, List.getD_cons_succ]
    rintro h115 h114
    refine ⟨fun _ => ?_, fun hn => absurd h114 hn⟩
    exact rel_enter (f := 22) (args := #[lineL.val (lineP m1)]) (by simp [go_sem, h115, hk.func])
      ((ownLay_any lineL (lineP m1) W (q1l.below hC) few_line).mono fun e w' ⟨p', r1, r2, r3⟩ => ⟨_, r1, ClB.step hC r3, r3, p', rfl, r2⟩)
  refine ob_det (c := lineL.val (lineP m1)) ?_ ?_
  · intro ρ W hk hC
    simp only [seen, obOp, List.getD_cons_zero, List.getD_cons_succ]
    rintro h1 h114
    replace h1 : ρ (.tmp 1) = .pointer (some ⟨n, 0, none⟩) := h1.trans rfl
    refine ⟨fun _ => ?_, fun hn => absurd h114 hn⟩
    exact rel_value (runLoad (h1) (B1.below hC)) hC
  refine ob_det (c := .bool true) ?_ ?_
  · intro ρ W hk hC
    simp only [seen, obOp, List.getD_cons_zero, List.getD_cons_succ]
    rintro ⟨p', h116, hp⟩ h117 h114
    refine ⟨fun _ => ?_, fun hn => absurd h114 hn⟩
    exact rel_call (f := 20) (args := #[lineL.val p', lineL.val (lineP m1)]) (by simp [go_sem, h116, h117, hk.func]) hC (C20 _ _ _ _ _ W rights.2.2.2.2.2.1 hp (q1l.below hC))
  refine ob_det (c := .bool true) ?_ ?_
  · intro ρ W hk hC
    simp only [seen, obOp, List.getD_cons_zero, List.getD_cons_succ]
    rintro h114 h118
    exact rel_value (by simp [go_sem, h114, h118, hk.const]) hC
  refine ob_det (c := .bool true) ?_ ?_
  · intro ρ W hk hC
    simp only [seen, obOp, List.getD_cons_zero]
    rintro h119
    exact rel_value (by simp [go_sem, h119]) hC
  refine ob_det (c := badL.val (lineP m2)) ?_ ?_
  · intro ρ W hk hC
    simp only [seen, obOp, List.getD_cons_zero]
    rintro h2 h120
    replace h2 : ρ (.tmp 2) = .pointer (some ⟨n + 1, 0, none⟩) := h2.trans rfl
    refine ⟨fun _ => ?_, fun hn => absurd h120 hn⟩
    exact rel_value (runLoad (h2) (B2.below hC)) hC
  refine ob_det (c := lineL.val (lineP m1)) ?_ ?_
  · intro ρ W hk hC
    simp only [seen, obOp, List.getD_cons_zero, List.getD_cons_succ]
    rintro h1 h120
    replace h1 : ρ (.tmp 1) = .pointer (some ⟨n, 0, none⟩) := h1.trans rfl
    refine ⟨fun _ => ?_, fun hn => absurd h120 hn⟩
    exact rel_value (runLoad (h1) (B1.below hC)) hC
  refine ob_det (c := .bool false) ?_ ?_
  · intro ρ W hk hC
    simp only [seen, obOp, List.getD_cons_zero, List.getD_cons_succ]
    rintro h121 h122 h120
    refine ⟨fun _ => ?_, fun hn => absurd h120 hn⟩
    exact rel_call (f := 20) (args := #[badL.val (lineP m2), lineL.val (lineP m1)]) (by simp [go_sem, h121, h122, hk.func]) hC (C20 _ _ _ _ _ W rights.2.2.2.2.2.2 (q2.below hC) (q1l.below hC))
  refine ob_det (c := .bool true) ?_ ?_
  · intro ρ W hk hC
    simp only [seen, obOp, List.getD_cons_zero, List.getD_cons_succ]
    rintro h123 h120
    refine ⟨fun _ => ?_, fun hn => absurd h120 hn⟩
    exact rel_value (by simp [go_sem, h123]) hC
  refine ob_det (c := .bool true) ?_ ?_
  · intro ρ W hk hC
    simp only [seen, obOp, List.getD_cons_zero, List.getD_cons_succ]
    rintro h120 h124
    exact rel_value (by simp [go_sem, h120, h124, hk.const]) hC
  refine ob_det (c := .bool true) ?_ ?_
  · intro ρ W hk hC
    simp only [seen, obOp, List.getD_cons_zero]
    rintro h125
    exact rel_value (by simp [go_sem, h125]) hC
  intro vs W9 hC9
  simp only [endSeen, List.getD_cons_zero]
  intro h0
  simp only [writeAll]
  go_wp2
  go_ret
  exact ⟨rfl, bchain bw hC9⟩
end Go.Proofs.YtkphihbimdffjaaDoor
