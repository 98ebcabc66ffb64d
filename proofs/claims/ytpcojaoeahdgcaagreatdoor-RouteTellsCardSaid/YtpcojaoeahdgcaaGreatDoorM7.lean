/-
  lockbarlaw11.one, wakes.
-/
import Derived.Test.YtpcojaoeahdgcaaGreatDoorTie
import Derived.Test.YtpcojaoeahdgcaaGreatDoorCards
import Derived.Test.YtpcojaoeahdgcaaGreatDoorM6
import Derived.Deep.RegionHeld3
import Derived.Lib.SmallJoins
import Derived.SevenTiedAt

namespace Go.Proofs.YtpcojaoeahdgcaaGreatDoor
open Go.RowKit Go.Shelf
attribute [local go_sem] Oper.semAt_some

def rouL : Lay := ⟨[⟨1, -1, 0, -1, 0, -1, 0, -1, 0, 0, 0⟩], [⟨0, 0⟩], [⟨0, 1, []⟩], [], 1, 1, 1, 1, 1, 1, 1⟩
def rouP (n : Nat) : Where := ⟨some ⟨n, 0, none⟩, some ⟨n + 1, 0, none⟩, some ⟨n + 1 + 1, 0, none⟩, none, 1, 1, 1, 0⟩
/-- The cells of one's blocks, from block n on. -/
structure RouAt (W : World) (n : Nat) : Prop where
  lt : n + 1 + 1 < W.heap.size
  secs : RowAt' W 11 Sec.enc n 0 rouL.secs
  sigs : RowAt' W 2 Prt.enc (n + 1) 0 rouL.sigs
  exits : RowAt' W 3 Ext'.enc (n + 1 + 1) 0 [(⟨0, 1, []⟩, .slice none 0 0)]
theorem RouAt.below {W W' : World} {n : Nat} (h : RouAt W n) (hb : Below W.heap.size W W') : RouAt W' n :=
  ⟨Nat.lt_of_lt_of_le h.lt hb.size, h.secs.below hb, h.sigs.below hb, h.exits.below hb⟩
theorem RouAt.lay {W : World} {n : Nat} (h : RouAt W n) : LayAt W (rouP n) rouL := by
  refine ⟨.inr ⟨_, _, rfl, h.secs⟩, .inr ⟨_, _, rfl, h.sigs⟩, ⟨_, rfl, .inr ⟨_, _, rfl, h.exits⟩, fun e he => ?_⟩, .inl rfl, by simp [rouL, rouP], by simp [rouL, rouP], by simp [rouL, rouP], by simp [rouL, rouP], by simp [rouL]⟩
  simp only [List.mem_cons, List.not_mem_nil, or_false] at he
  subst he
  exact ⟨_, _, rfl, by simp, by unfold maxLen; omega, .inl rfl⟩
set_option maxRecDepth 100000 in
set_option maxHeartbeats 4000000 in
theorem one11_any (w : World) : Calls Tryz.prog 18 #[] w fun e w' => e = .returned (.agg #[.slice (some ⟨w.heap.size + 1 + 1, 0, none⟩) 1 1, .slice (some ⟨w.heap.size + 1 + 1 + 1, 0, none⟩) 1 1, .slice (some ⟨w.heap.size + 1 + 1 + 1 + 1, 0, none⟩) 1 1, .slice none 0 0, .int .i64 1, .int .i64 1, .int .i64 1, .int .i64 1, .int .i64 1, .int .i64 1, .int .i64 1]) ∧ RouAt w' (w.heap.size + 1 + 1) ∧ Below w.heap.size w w' := by
  go_enter Tryz.func18, Tryz.ntmps18
  go_wp2
  refine bodyPost_ret (v := .agg #[.slice (some ⟨w.heap.size + 1 + 1, 0, none⟩) 1 1, .slice (some ⟨w.heap.size + 1 + 1 + 1, 0, none⟩) 1 1, .slice (some ⟨w.heap.size + 1 + 1 + 1 + 1, 0, none⟩) 1 1, .slice none 0 0, .int .i64 1, .int .i64 1, .int .i64 1, .int .i64 1, .int .i64 1, .int .i64 1, .int .i64 1]) (by simp [results, Tryz.results18, go_sem]) rfl ⟨rfl, ⟨by simp, ?_, ?_, ?_⟩, ?_⟩
  · exact rowAt_flat (fun _ => rfl) (by decide) (by simp) (fun o v hv => by simpa [go_sem, rouL, Sec.enc] using hv)
  · exact rowAt_flat (fun _ => rfl) (by decide) (by simp) (fun o v hv => by simpa [go_sem, rouL, Prt.enc] using hv)
  · exact rowAt_flat (fun _ => rfl) (by decide) (by simp) (fun o v hv => by simpa [go_sem, Ext'.enc] using hv)
  · exact bchain (bchain (bchain (bchain bself bself) bself) bself) bself

theorem rou_topo : topoR rouL = true := by decide +kernel
theorem rou_n : routeN rouL 0 0 [⟨0, 0, 1⟩] [] = 0 ∧ routeN rouL 0 0 [⟨0, 0, 1⟩] [0] = 0 ∧ routeN rouL 0 0 [⟨0, 0, 1⟩] [1] = 2 ∧ routeN rouL 0 0 [⟨0, 1, 0⟩] [] = 110 ∧ routeN rouL 0 0 [⟨0, 0, 1⟩] [0, 0] = 110 ∧ routeN rouL 1 0 [] [] = 2 := by
  have a : ∀ vs : List Int, vs.length ≤ 2 → (∀ v ∈ vs, v = 0) → ArgsOk rouL (0 : Nat) (0 : Nat) vs := fun vs h1 h2 => ⟨by decide, by decide, h1, rou_topo, fun v hv => by rw [h2 v hv]; decide⟩
  have hs : rouL.sigs[0]? = some ⟨0, 0⟩ := rfl
  have he : rouL.exits[0]? = some ⟨0, 1, []⟩ := rfl
  refine ⟨route_yes (n := 0) (m := 0) (a _ (by simp) (by simp)) hs he ?_, route_yes (n := 0) (m := 0) (a _ (by simp) (by simp)) hs he ?_, route_arg ?_, route_no (n := 0) (m := 0) (a _ (by simp) (by simp)) hs he ?_, route_no (n := 0) (m := 0) (a _ (by simp) (by simp)) hs he ?_, route_arg ?_⟩
  · refine ⟨by simp, by simp, by simp, by decide +kernel, by decide +kernel, by decide +kernel, fun k x h => by simp at h⟩
  · refine ⟨by simp, by simp, by simp, by decide +kernel, by decide +kernel, by decide +kernel, fun k x h => by simp at h⟩
  · intro h
    have := h.2.2.2.2 1 (by simp)
    simp [rouL] at this
  · intro h
    have := h.2.1 ⟨0, 1, 0⟩ rfl
    simp at this
  · intro h
    have := h.2.2.2.2.1
    exact absurd this (by decide +kernel)
  · intro h
    have := h.1.2
    simp [rouL] at this
theorem rou_g : goesL rouL [⟨0, 0, 1⟩] = true ∧ goesL rouL [⟨0, 0, 0⟩] = false ∧ throughL [0] [⟨0, 0, 1⟩] = true ∧ throughL [0, 0] [⟨0, 0, 1⟩] = false := by decide +kernel

/-- A new slice of k elements. -/
def NewSl (U : World) (k : Nat) (cs : Array Value) (v : Value) (w : World) : Prop := ∃ g, v = .slice (some ⟨g, 0, none⟩) k k ∧ U.heap.size ≤ g ∧ g < w.heap.size ∧ ∀ i, w.cell? ⟨g, i, none⟩ = cs[i]?
theorem NewSl.step {U W W' : World} {k : Nat} {cs : Array Value} {v : Value} (h : NewSl U k cs v W) (b : StB W W') : NewSl U k cs v W' := by
  obtain ⟨g, e, hb, hl, hc⟩ := h
  exact ⟨g, e, hb, Nat.lt_of_lt_of_le hl b.size, fun i => (b.cell (p := ⟨g, i, none⟩) hl).trans (hc i)⟩
theorem rel_newsl {P : Program} {U W : World} {r : Result Next} {k : Nat} {cs : Array Value} {T : TypeId} (h : r = .ok (.value (.slice (some ⟨W.heap.size, 0, none⟩) k k)) (W.alloc (.cells cs T))) (hC : ClB U W) : relUpon P (ClB U) StB W (NewSl U k cs) r := by
  rw [h]
  exact ⟨hC.step bself, bself, _, rfl, hC.size, by simp, fun i => by rw [World.cell?_alloc_at _ _ _ _ rfl]⟩
/-- The path's own copy. -/
def OwnedP (v : Value) (w : World) : Prop := ∃ B bc, v = .agg #[.int .i64 0, .int .i64 0, .slice B 1 bc] ∧ At w 3 Stp.enc B [⟨0, 0, 1⟩]
theorem OwnedP.step {W W' : World} {v : Value} (h : OwnedP v W) (b : StB W W') : OwnedP v W' := by
  obtain ⟨B, bc, e, h⟩ := h
  exact ⟨B, bc, e, h.below b⟩
theorem ints_at {W : World} {g : Nat} {zs : List Int} (hl : g < W.heap.size) (h : ∀ i, W.cell? ⟨g, i, none⟩ = ((zs.map fun z => Value.int .i64 z).toArray : Array Value)[i]?) : RowAt' W 1 intEnc g 0 zs := by
  refine ⟨hl, fun j x hx i v hv => ?_⟩
  cases i with
  | succ i => simp [intEnc] at hv
  | zero =>
    simp [intEnc] at hv
    subst hv
    rw [show 0 + j * 1 + 0 = j by omega, h j]
    simp [hx]

set_option maxRecDepth 100000 in
set_option maxHeartbeats 32000000 in
theorem wakes11_any (w : World) (K : Kinds w) (E : JEnd w) : Calls Tryz.prog 5 #[] w fun e w' => e = .returned (.bool true) ∧ Below w.heap.size w w' := by
  have HK := Lib.hid (⟨K, E⟩ : _ ∧ _)
  clear K E
  go_enter Tryz.func5, Tryz.ntmps5
  go_wp2_with fail
  (with_reducible refine (one11_any _).mono ?_)
  rintro e w1 ⟨rfl, l1, b1⟩
  obtain ⟨m, hm⟩ : ∃ m, m = w.heap.size + 1 + 1 := ⟨_, rfl⟩
  rw [← hm] at l1 ⊢
  have H1 := Lib.hid (⟨l1, b1⟩ : _ ∧ _)
  clear hm l1 b1
  go_upto_region 4 with fail
  obtain ⟨n, hn⟩ : ∃ n, n = w1.heap.size := ⟨_, rfl⟩
  obtain ⟨Z, hZ⟩ : ∃ Z, Z = ((((w1.alloc (.cells #[.slice (some ⟨m, 0, none⟩) 1 1, .slice (some ⟨m + 1, 0, none⟩) 1 1, .slice (some ⟨m + 1 + 1, 0, none⟩) 1 1, .slice none 0 0, .int .i64 1, .int .i64 1, .int .i64 1, .int .i64 1, .int .i64 1, .int .i64 1, .int .i64 1] 29)).alloc (.cells #[.int .i64 0, .int .i64 0, .int .i64 1] 47)).alloc (.cells #[.int .i64 0, .int .i64 0, .slice (some ⟨n + 1, 0, none⟩) 1 1] 32)).alloc (.cells #[.int .i64 0, .int .i64 1, .int .i64 0] 47)).alloc (.cells #[.int .i64 0, .int .i64 0, .slice (some ⟨n + 1 + 1 + 1, 0, none⟩) 1 1] 32) := ⟨_, rfl⟩
  have hZB : Below w1.heap.size w1 Z := by rw [hZ]; exact bchain (bchain (bchain (bchain bself bself) bself) bself) bself
  have hsz : Z.heap.size = n + 5 := by rw [hZ, hn]; simp
  have e1 : BoxL Z n rouL (rouP m) := by rw [hZ]; exact ((((BoxL.make (L := rouL) (p := rouP m) _ hn).below bself).below bself).below bself).below bself
  have hz : ∀ V, ClB Z V → (∀ o, V.cell? ⟨n + 1, o, none⟩ = (#[.int .i64 0, .int .i64 0, .int .i64 1] : Array Value)[o]?) ∧ (∀ o, V.cell? ⟨n + 1 + 1, o, none⟩ = (#[.int .i64 0, .int .i64 0, .slice (some ⟨n + 1, 0, none⟩) 1 1] : Array Value)[o]?) ∧ (∀ o, V.cell? ⟨n + 1 + 1 + 1, o, none⟩ = (#[.int .i64 0, .int .i64 1, .int .i64 0] : Array Value)[o]?) ∧ ∀ o, V.cell? ⟨n + 1 + 1 + 1 + 1, o, none⟩ = (#[.int .i64 0, .int .i64 0, .slice (some ⟨n + 1 + 1 + 1, 0, none⟩) 1 1] : Array Value)[o]? := fun V hC => by
    refine ⟨fun o => (hC.cell (p := ⟨n + 1, o, none⟩) (by rw [hsz]; dsimp only; omega)).trans ?_, fun o => (hC.cell (p := ⟨n + 1 + 1, o, none⟩) (by rw [hsz]; dsimp only; omega)).trans ?_, fun o => (hC.cell (p := ⟨n + 1 + 1 + 1, o, none⟩) (by rw [hsz]; dsimp only; omega)).trans ?_, fun o => (hC.cell (p := ⟨n + 1 + 1 + 1 + 1, o, none⟩) (by rw [hsz]; dsimp only; omega)).trans ?_⟩
    · rw [hZ, hn]; simp [go_sem]
    · rw [hZ, hn]; simp [go_sem]
    · rw [hZ, hn]; simp [go_sem]
    · rw [hZ, hn]; simp [go_sem]
  rw [← hn]
  rw [← hZ]
  have HB := Lib.hid (⟨e1, H1.out.1.below hZB, bchain H1.out.2 hZB⟩ : _ ∧ _ ∧ _)
  have hgp : ∀ V, ClB Z V → RowAt' V 3 Stp.enc (n + 1) 0 [⟨0, 0, 1⟩] := fun V hC => row_one (Nat.lt_of_lt_of_le (by rw [hsz]; omega) hC.size) ((hz V hC).1 0) ((hz V hC).1 1) ((hz V hC).1 2)
  have hgq : ∀ V, ClB Z V → RowAt' V 3 Stp.enc (n + 1 + 1 + 1) 0 [⟨0, 1, 0⟩] := fun V hC => row_one (Nat.lt_of_lt_of_le (by rw [hsz]; omega) hC.size) ((hz V hC).2.2.1 0) ((hz V hC).2.2.1 1) ((hz V hC).2.2.1 2)
  have hlay : ∀ V, ClB Z V → LayAt V (rouP m) rouL := fun V hC => (HB.out.2.1.below hC).lay
  have k1 : ∀ (V : World) , ClB Z V → Calls Tryz.prog 8 #[rouL.val (rouP m), .agg #[.int .i64 0, .int .i64 0, .slice (some ⟨n + 1, 0, none⟩) 1 1], .slice none 0 0] V fun e w' => e = .returned (.bool true) ∧ Below V.heap.size V w' := fun V hC => by
    have h := ris_any rouL (rouP m) 0 0 (some ⟨n + 1, 0, none⟩) none 1 0 [⟨0, 0, 1⟩] [] V (hlay V hC) (HK.out.1.below (bchain HB.out.2.2 hC)) (HK.out.2.below (bchain HB.out.2.2 hC)) (.inr ⟨n + 1, 0, rfl, hgp V hC⟩) (by simp) (by omega) (by simp) (.inl rfl) (by simp) (by omega)
    rw [rou_n.1] at h
    exact h
  have k2 : ∀ (V : World) (g : Nat), ClB Z V → g < V.heap.size → (∀ i, V.cell? ⟨g, i, none⟩ = (#[.int .i64 0] : Array Value)[i]?) → Calls Tryz.prog 8 #[rouL.val (rouP m), .agg #[.int .i64 0, .int .i64 0, .slice (some ⟨n + 1, 0, none⟩) 1 1], .slice (some ⟨g, 0, none⟩) 1 1] V fun e w' => e = .returned (.bool true) ∧ Below V.heap.size V w' := fun V g hC gl gc => by
    have h := ris_any rouL (rouP m) 0 0 (some ⟨n + 1, 0, none⟩) (some ⟨g, 0, none⟩) 1 1 [⟨0, 0, 1⟩] [0] V (hlay V hC) (HK.out.1.below (bchain HB.out.2.2 hC)) (HK.out.2.below (bchain HB.out.2.2 hC)) (.inr ⟨n + 1, 0, rfl, hgp V hC⟩) (by simp) (by omega) (by simp) (.inr ⟨g, 0, rfl, ints_at gl gc⟩) (by simp) (by omega)
    rw [rou_n.2.1] at h
    exact h
  have k3 : ∀ (V : World) (g : Nat), ClB Z V → g < V.heap.size → (∀ i, V.cell? ⟨g, i, none⟩ = (#[.int .i64 1] : Array Value)[i]?) → Calls Tryz.prog 6 #[rouL.val (rouP m), .agg #[.int .i64 0, .int .i64 0, .slice (some ⟨n + 1, 0, none⟩) 1 1], .slice (some ⟨g, 0, none⟩) 1 1] V fun e w' => e = .returned (.int .i64 2) ∧ Below V.heap.size V w' := fun V g hC gl gc => by
    have h := rcheck_any rouL (rouP m) 0 0 (some ⟨n + 1, 0, none⟩) (some ⟨g, 0, none⟩) 1 1 [⟨0, 0, 1⟩] [1] V (hlay V hC) (HK.out.1.below (bchain HB.out.2.2 hC)) (HK.out.2.below (bchain HB.out.2.2 hC)) (.inr ⟨n + 1, 0, rfl, hgp V hC⟩) (by simp) (by omega) (by simp) (.inr ⟨g, 0, rfl, ints_at gl gc⟩) (by simp) (by omega)
    rw [rou_n.2.2.1] at h
    exact h
  have k4 : ∀ (V : World) , ClB Z V → Calls Tryz.prog 6 #[rouL.val (rouP m), .agg #[.int .i64 0, .int .i64 0, .slice (some ⟨n + 1 + 1 + 1, 0, none⟩) 1 1], .slice none 0 0] V fun e w' => e = .returned (.int .i64 110) ∧ Below V.heap.size V w' := fun V hC => by
    have h := rcheck_any rouL (rouP m) 0 0 (some ⟨n + 1 + 1 + 1, 0, none⟩) none 1 0 [⟨0, 1, 0⟩] [] V (hlay V hC) (HK.out.1.below (bchain HB.out.2.2 hC)) (HK.out.2.below (bchain HB.out.2.2 hC)) (.inr ⟨n + 1 + 1 + 1, 0, rfl, hgq V hC⟩) (by simp) (by omega) (by simp) (.inl rfl) (by simp) (by omega)
    rw [rou_n.2.2.2.1] at h
    exact h
  have k5 : ∀ (V : World) (g : Nat), ClB Z V → g < V.heap.size → (∀ i, V.cell? ⟨g, i, none⟩ = (#[.int .i64 0, .int .i64 0] : Array Value)[i]?) → Calls Tryz.prog 6 #[rouL.val (rouP m), .agg #[.int .i64 0, .int .i64 0, .slice (some ⟨n + 1, 0, none⟩) 1 1], .slice (some ⟨g, 0, none⟩) 2 2] V fun e w' => e = .returned (.int .i64 110) ∧ Below V.heap.size V w' := fun V g hC gl gc => by
    have h := rcheck_any rouL (rouP m) 0 0 (some ⟨n + 1, 0, none⟩) (some ⟨g, 0, none⟩) 1 2 [⟨0, 0, 1⟩] [0, 0] V (hlay V hC) (HK.out.1.below (bchain HB.out.2.2 hC)) (HK.out.2.below (bchain HB.out.2.2 hC)) (.inr ⟨n + 1, 0, rfl, hgp V hC⟩) (by simp) (by omega) (by simp) (.inr ⟨g, 0, rfl, ints_at gl gc⟩) (by simp) (by omega)
    rw [rou_n.2.2.2.2.1] at h
    exact h
  have k6 : ∀ (V : World) , ClB Z V → Calls Tryz.prog 6 #[rouL.val (rouP m), .agg #[.int .i64 1, .int .i64 0, .slice none 0 0], .slice none 0 0] V fun e w' => e = .returned (.int .i64 2) ∧ Below V.heap.size V w' := fun V hC => by
    have h := rcheck_any rouL (rouP m) 1 0 none none 0 0 [] [] V (hlay V hC) (HK.out.1.below (bchain HB.out.2.2 hC)) (HK.out.2.below (bchain HB.out.2.2 hC)) (.inl rfl) (by simp) (by omega) (by simp) (.inl rfl) (by simp) (by omega)
    rw [rou_n.2.2.2.2.2] at h
    exact h
  have k7 : ∀ (V : World) , ClB Z V → Calls Tryz.prog 10 #[rouL.val (rouP m), .slice (some ⟨n + 1, 0, none⟩) 1 1] V fun e w' => e = .returned (.bool true) ∧ Below V.heap.size V w' := fun V hC => by
    have h := goes_any rouL (rouP m) (some ⟨n + 1, 0, none⟩) 1 [⟨0, 0, 1⟩] V (hlay V hC) (HK.out.1.below (bchain HB.out.2.2 hC)) (HK.out.2.below (bchain HB.out.2.2 hC)) (.inr ⟨n + 1, 0, rfl, hgp V hC⟩) (by simp) (by omega)
    rw [rou_g.1] at h
    exact h
  have k8 : ∀ (V : World) (g : Nat), ClB Z V → g < V.heap.size → (∀ i, V.cell? ⟨g, i, none⟩ = (#[.int .i64 0, .int .i64 0, .int .i64 0] : Array Value)[i]?) → Calls Tryz.prog 10 #[rouL.val (rouP m), .slice (some ⟨g, 0, none⟩) 1 1] V fun e w' => e = .returned (.bool false) ∧ Below V.heap.size V w' := fun V g hC gl gc => by
    have h := goes_any rouL (rouP m) (some ⟨g, 0, none⟩) 1 [⟨0, 0, 0⟩] V (hlay V hC) (HK.out.1.below (bchain HB.out.2.2 hC)) (HK.out.2.below (bchain HB.out.2.2 hC)) (.inr ⟨g, 0, rfl, row_one gl ((gc 0).trans rfl) ((gc 1).trans rfl) ((gc 2).trans rfl)⟩) (by simp) (by omega)
    rw [rou_g.2.1] at h
    exact h
  have k9 : ∀ (V : World) (g : Nat), ClB Z V → g < V.heap.size → (∀ i, V.cell? ⟨g, i, none⟩ = (#[.int .i64 0] : Array Value)[i]?) → Calls Tryz.prog 12 #[.agg #[.int .i64 0, .int .i64 0, .slice (some ⟨n + 1, 0, none⟩) 1 1], .slice (some ⟨g, 0, none⟩) 1 1] V fun e w' => e = .returned (.bool true) ∧ Below V.heap.size V w' := fun V g hC gl gc => by
    have h := through_any 0 0 (some ⟨n + 1, 0, none⟩) (some ⟨g, 0, none⟩) 1 1 [⟨0, 0, 1⟩] [0] V (.inr ⟨n + 1, 0, rfl, hgp V hC⟩) (.inr ⟨g, 0, rfl, ints_at gl gc⟩) (by simp) (by simp) (by omega)
    rw [rou_g.2.2.1] at h
    exact h
  have k10 : ∀ (V : World) (g : Nat), ClB Z V → g < V.heap.size → (∀ i, V.cell? ⟨g, i, none⟩ = (#[.int .i64 0, .int .i64 0] : Array Value)[i]?) → Calls Tryz.prog 12 #[.agg #[.int .i64 0, .int .i64 0, .slice (some ⟨n + 1, 0, none⟩) 1 1], .slice (some ⟨g, 0, none⟩) 2 2] V fun e w' => e = .returned (.bool false) ∧ Below V.heap.size V w' := fun V g hC gl gc => by
    have h := through_any 0 0 (some ⟨n + 1, 0, none⟩) (some ⟨g, 0, none⟩) 1 2 [⟨0, 0, 1⟩] [0, 0] V (.inr ⟨n + 1, 0, rfl, hgp V hC⟩) (.inr ⟨g, 0, rfl, ints_at gl gc⟩) (by simp) (by simp) (by omega)
    rw [rou_g.2.2.2] at h
    exact h
  have k11 := fun (V : World) (hC : ClB Z V) => ownR_any 0 0 (some ⟨n + 1, 0, none⟩) 1 [⟨0, 0, 1⟩] V (.inr ⟨n + 1, 0, rfl, hgp V hC⟩) (by simp)
  have k12 : ∀ (V : World) (B : Option Addr) (bc : Nat), ClB Z V → At V 3 Stp.enc B [⟨0, 0, 1⟩] → Calls Tryz.prog 16 #[.agg #[.int .i64 0, .int .i64 0, .slice B 1 bc], .agg #[.int .i64 0, .int .i64 0, .slice (some ⟨n + 1, 0, none⟩) 1 1]] V fun e w' => e = .returned (.bool true) ∧ Below V.heap.size V w' := fun V B bc hC hb => by
    have h := routeSame_any 0 0 0 0 B (some ⟨n + 1, 0, none⟩) bc 1 [⟨0, 0, 1⟩] [⟨0, 0, 1⟩] V hb (.inr ⟨n + 1, 0, rfl, hgp V hC⟩) (by simp)
    rw [decide_eq_true (by simp)] at h
    exact h
  have k13 : ∀ (V : World) , ClB Z V → Calls Tryz.prog 16 #[.agg #[.int .i64 0, .int .i64 0, .slice (some ⟨n + 1, 0, none⟩) 1 1], .agg #[.int .i64 0, .int .i64 0, .slice (some ⟨n + 1 + 1 + 1, 0, none⟩) 1 1]] V fun e w' => e = .returned (.bool false) ∧ Below V.heap.size V w' := fun V hC => by
    have h := routeSame_any 0 0 0 0 (some ⟨n + 1, 0, none⟩) (some ⟨n + 1 + 1 + 1, 0, none⟩) 1 1 [⟨0, 0, 1⟩] [⟨0, 1, 0⟩] V (.inr ⟨n + 1, 0, rfl, hgp V hC⟩) (.inr ⟨n + 1 + 1 + 1, 0, rfl, hgq V hC⟩) (by simp)
    rw [decide_eq_false (by decide)] at h
    exact h
  have pc0 : ∀ V, ClB Z V → V.cell? ⟨n + 1 + 1, 0, none⟩ = some (.int .i64 0) := fun V h => (hz V h).2.1 0
  have pc1 : ∀ V, ClB Z V → V.cell? ⟨n + 1 + 1, 1, none⟩ = some (.int .i64 0) := fun V h => (hz V h).2.1 1
  have pc2 : ∀ V, ClB Z V → V.cell? ⟨n + 1 + 1, 2, none⟩ = some (.slice (some ⟨n + 1, 0, none⟩) 1 1) := fun V h => (hz V h).2.1 2
  have qc0 : ∀ V, ClB Z V → V.cell? ⟨n + 1 + 1 + 1 + 1, 0, none⟩ = some (.int .i64 0) := fun V h => (hz V h).2.2.2 0
  have qc1 : ∀ V, ClB Z V → V.cell? ⟨n + 1 + 1 + 1 + 1, 1, none⟩ = some (.int .i64 0) := fun V h => (hz V h).2.2.2 1
  have qc2 : ∀ V, ClB Z V → V.cell? ⟨n + 1 + 1 + 1 + 1, 2, none⟩ = some (.slice (some ⟨n + 1 + 1 + 1, 0, none⟩) 1 1) := fun V h => (hz V h).2.2.2 2
  have HC := Lib.hid (⟨k1, k2, k3, k4, k5, k6, k7, k8, k9, k10, k11, k12, k13⟩ : _ ∧ _ ∧ _ ∧ _ ∧ _ ∧ _ ∧ _ ∧ _ ∧ _ ∧ _ ∧ _ ∧ _ ∧ _)
  clear k1 k2 k3 k4 k5 k6 k7 k8 k9 k10 k11 k12 k13 hn hZ hZB hsz e1 hz hgp hgq hlay
  simp only [List.append]
  refine wp_region_rel_below [([(1, none)], none), ([(2, none)], none), ([(11, some 1), (12, some 0)], none), ([(13, some 0)], none), ([(1, none), (14, some 0)], some (14, true)), ([(2, none), (14, some 1)], some (14, true)), ([(14, some 2)], some (14, true)), ([(15, some 2), (16, some 1), (17, some 0), (14, some 3)], some (14, true)), ([(14, some 4), (18, some 0)], none), ([(19, some 0)], none), ([(1, none), (20, some 0)], some (20, true)), ([(2, none), (20, some 1)], some (20, true)), ([(20, some 2)], some (20, true)), ([(21, some 2), (22, some 1), (23, some 0), (20, some 3)], some (20, true)), ([(24, some 0), (20, some 4)], some (20, true)), ([(20, some 5), (25, some 0)], none), ([(26, some 0)], none), ([(1, none), (27, some 0)], some (27, true)), ([(3, none), (27, some 1)], some (27, true)), ([(28, some 1), (29, some 0), (27, some 2)], some (27, true)), ([(30, some 0), (27, some 3)], some (27, true)), ([(27, some 4), (31, some 0)], none), ([(32, some 0)], none), ([(1, none), (33, some 0)], some (33, true)), ([(2, none), (33, some 1)], some (33, true)), ([(33, some 2)], some (33, true)), ([(34, some 2), (35, some 1), (36, some 0), (33, some 3)], some (33, true)), ([(37, some 0), (33, some 4)], some (33, true)), ([(33, some 5), (38, some 0)], none), ([(39, some 0)], none), ([(1, none), (40, some 0)], some (40, true)), ([(40, some 1)], some (40, true)), ([(41, some 1), (42, some 0), (40, some 2)], some (40, true)), ([(43, some 0), (40, some 3)], some (40, true)), ([(40, some 4), (44, some 0)], none), ([(45, some 0)], none), ([(1, none), (46, some 0)], some (46, true)), ([(2, none), (46, some 1)], some (46, true)), ([(48, some 0), (46, some 2)], some (46, true)), ([(47, some 2), (49, some 0), (46, some 3)], some (46, true)), ([(46, some 4), (50, some 0)], none), ([(51, some 0)], none), ([(1, none), (52, some 0)], some (52, true)), ([(52, some 1)], some (52, true)), ([(54, some 0), (52, some 2)], some (52, true)), ([(53, some 2), (55, some 0), (52, some 3)], some (52, true)), ([(56, some 0), (52, some 4)], some (52, true)), ([(52, some 5), (57, some 0)], none), ([(58, some 0)], none), ([(2, none), (59, some 0)], some (59, true)), ([(59, some 1)], some (59, true)), ([(60, some 1), (61, some 0), (59, some 2)], some (59, true)), ([(59, some 3), (62, some 0)], none), ([(63, some 0)], none), ([(2, none), (64, some 0)], some (64, true)), ([(64, some 1)], some (64, true)), ([(65, some 1), (66, some 0), (64, some 2)], some (64, true)), ([(67, some 0), (64, some 3)], some (64, true)), ([(64, some 4), (68, some 0)], none), ([(69, some 0)], none), ([(2, none), (70, some 0)], some (70, true)), ([(71, some 0), (70, some 1)], some (70, true)), ([(2, none), (70, some 2)], some (70, true)), ([(72, some 1), (73, some 0), (70, some 3)], some (70, true)), ([(70, some 4), (74, some 0)], none), ([(75, some 0)], none), ([(2, none), (76, some 0)], some (76, true)), ([(3, none), (76, some 1)], some (76, true)), ([(77, some 1), (78, some 0), (76, some 2)], some (76, true)), ([(79, some 0), (76, some 3)], some (76, true)), ([(76, some 4), (80, some 0)], none), ([(81, some 0)], none)] [(0, 0)] (by kernel_rfl) (by kernel_rfl) ?_
  refine ob_det (c := rouL.val (rouP m)) ?_ ?_
  · intro ρ W hk hC
    simp only [seen, obOp]
    rintro h1
    replace h1 : ρ (.tmp 1) = .pointer (some ⟨n, 0, none⟩) := h1.trans rfl
    exact rel_value (runLoad h1 (HB.out.1.below hC)) hC
  refine ob_det (c := .agg #[.int .i64 0, .int .i64 0, .slice (some ⟨n + 1, 0, none⟩) 1 1]) ?_ ?_
  · intro ρ W hk hC
    simp only [seen, obOp]
    rintro h2
    replace h2 : ρ (.tmp 2) = .pointer (some ⟨n + 1 + 1, 0, none⟩) := h2.trans rfl
    exact rel_value (by simp [go_sem, h2, pc0 W hC, pc1 W hC, pc2 W hC]) hC
  refine ob_det (c := .bool true) ?_ ?_
  · intro ρ W hk hC
    simp only [seen, obOp, List.getD_cons_zero, List.getD_cons_succ]
    rintro h11 h12
    exact rel_call (f := 8) (args := #[rouL.val (rouP m), .agg #[.int .i64 0, .int .i64 0, .slice (some ⟨n + 1, 0, none⟩) 1 1], .slice none 0 0]) (by simp [go_sem, h11, h12, hk.func, hk.const]) hC (HC.out.1 W hC)
  refine ob_det (c := .bool true) ?_ ?_
  · intro ρ W hk hC
    simp only [seen, obOp, List.getD_cons_zero]
    rintro h13
    exact rel_value (by simp [go_sem, h13]) hC
  refine ob_det (c := rouL.val (rouP m)) ?_ ?_
  · intro ρ W hk hC
    simp only [seen, obOp, List.getD_cons_zero]
    rintro h1 h14
    replace h1 : ρ (.tmp 1) = .pointer (some ⟨n, 0, none⟩) := h1.trans rfl
    refine ⟨fun _ => ?_, fun hn => absurd h14 hn⟩
    exact rel_value (runLoad h1 (HB.out.1.below hC)) hC
  refine ob_det (c := .agg #[.int .i64 0, .int .i64 0, .slice (some ⟨n + 1, 0, none⟩) 1 1]) ?_ ?_
  · intro ρ W hk hC
    simp only [seen, obOp, List.getD_cons_zero, List.getD_cons_succ]
    rintro h2 h14
    replace h2 : ρ (.tmp 2) = .pointer (some ⟨n + 1 + 1, 0, none⟩) := h2.trans rfl
    refine ⟨fun _ => ?_, fun hn => absurd h14 hn⟩
    exact rel_value (by simp [go_sem, h2, pc0 W hC, pc1 W hC, pc2 W hC]) hC
  refine ⟨NewSl Z 1 #[.int .i64 0], fun _ _ _ h k => h.step k, ?_, ?_⟩
  · intro ρ W hk hC
    simp only [seen, obOp, List.getD_cons_zero, List.getD_cons_succ]
    rintro h14
    refine ⟨fun _ => ?_, fun hn => absurd h14 hn⟩
    exact rel_newsl (T := 3) (by simp [go_sem, hk.const]) hC
  refine ob_det (c := .bool true) ?_ ?_
  · intro ρ W hk hC
    simp only [seen, obOp, List.getD_cons_zero, List.getD_cons_succ]
    rintro h15 h16 ⟨g, h17, gb, gl, gc⟩ h14
    refine ⟨fun _ => ?_, fun hn => absurd h14 hn⟩
    exact rel_call (f := 8) (args := #[rouL.val (rouP m), .agg #[.int .i64 0, .int .i64 0, .slice (some ⟨n + 1, 0, none⟩) 1 1], .slice (some ⟨g, 0, none⟩) 1 1]) (by simp [go_sem, h15, h16, h17, hk.func]) hC (HC.out.2.1 W g hC gl gc)
  refine ob_det (c := .bool true) ?_ ?_
  · intro ρ W hk hC
    simp only [seen, obOp, List.getD_cons_zero, List.getD_cons_succ]
    rintro h14 h18
    exact rel_value (by simp [go_sem, h14, h18, hk.const]) hC
  refine ob_det (c := .bool true) ?_ ?_
  · intro ρ W hk hC
    simp only [seen, obOp, List.getD_cons_zero]
    rintro h19
    exact rel_value (by simp [go_sem, h19]) hC
  refine ob_det (c := rouL.val (rouP m)) ?_ ?_
  · intro ρ W hk hC
    simp only [seen, obOp, List.getD_cons_zero]
    rintro h1 h20
    replace h1 : ρ (.tmp 1) = .pointer (some ⟨n, 0, none⟩) := h1.trans rfl
    refine ⟨fun _ => ?_, fun hn => absurd h20 hn⟩
    exact rel_value (runLoad h1 (HB.out.1.below hC)) hC
  refine ob_det (c := .agg #[.int .i64 0, .int .i64 0, .slice (some ⟨n + 1, 0, none⟩) 1 1]) ?_ ?_
  · intro ρ W hk hC
    simp only [seen, obOp, List.getD_cons_zero, List.getD_cons_succ]
    rintro h2 h20
    replace h2 : ρ (.tmp 2) = .pointer (some ⟨n + 1 + 1, 0, none⟩) := h2.trans rfl
    refine ⟨fun _ => ?_, fun hn => absurd h20 hn⟩
    exact rel_value (by simp [go_sem, h2, pc0 W hC, pc1 W hC, pc2 W hC]) hC
  refine ⟨NewSl Z 1 #[.int .i64 1], fun _ _ _ h k => h.step k, ?_, ?_⟩
  · intro ρ W hk hC
    simp only [seen, obOp, List.getD_cons_zero, List.getD_cons_succ]
    rintro h20
    refine ⟨fun _ => ?_, fun hn => absurd h20 hn⟩
    exact rel_newsl (T := 3) (by simp [go_sem, hk.const]) hC
  refine ob_det (c := .int .i64 2) ?_ ?_
  · intro ρ W hk hC
    simp only [seen, obOp, List.getD_cons_zero, List.getD_cons_succ]
    rintro h21 h22 ⟨g, h23, gb, gl, gc⟩ h20
    refine ⟨fun _ => ?_, fun hn => absurd h20 hn⟩
    exact rel_call (f := 6) (args := #[rouL.val (rouP m), .agg #[.int .i64 0, .int .i64 0, .slice (some ⟨n + 1, 0, none⟩) 1 1], .slice (some ⟨g, 0, none⟩) 1 1]) (by simp [go_sem, h21, h22, h23, hk.func]) hC (HC.out.2.2.1 W g hC gl gc)
  refine ob_det (c := .bool true) ?_ ?_
  · intro ρ W hk hC
    simp only [seen, obOp, List.getD_cons_zero, List.getD_cons_succ]
    rintro h24 h20
    refine ⟨fun _ => ?_, fun hn => absurd h20 hn⟩
    exact rel_value (by simp [go_sem, h24, hk.const]) hC
  refine ob_det (c := .bool true) ?_ ?_
  · intro ρ W hk hC
    simp only [seen, obOp, List.getD_cons_zero, List.getD_cons_succ]
    rintro h20 h25
    exact rel_value (by simp [go_sem, h20, h25, hk.const]) hC
  refine ob_det (c := .bool true) ?_ ?_
  · intro ρ W hk hC
    simp only [seen, obOp, List.getD_cons_zero]
    rintro h26
    exact rel_value (by simp [go_sem, h26]) hC
  refine ob_det (c := rouL.val (rouP m)) ?_ ?_
  · intro ρ W hk hC
    simp only [seen, obOp, List.getD_cons_zero]
    rintro h1 h27
    replace h1 : ρ (.tmp 1) = .pointer (some ⟨n, 0, none⟩) := h1.trans rfl
    refine ⟨fun _ => ?_, fun hn => absurd h27 hn⟩
    exact rel_value (runLoad h1 (HB.out.1.below hC)) hC
  refine ob_det (c := .agg #[.int .i64 0, .int .i64 0, .slice (some ⟨n + 1 + 1 + 1, 0, none⟩) 1 1]) ?_ ?_
  · intro ρ W hk hC
    simp only [seen, obOp, List.getD_cons_zero, List.getD_cons_succ]
    rintro h3 h27
    replace h3 : ρ (.tmp 3) = .pointer (some ⟨n + 1 + 1 + 1 + 1, 0, none⟩) := h3.trans rfl
    refine ⟨fun _ => ?_, fun hn => absurd h27 hn⟩
    exact rel_value (by simp [go_sem, h3, qc0 W hC, qc1 W hC, qc2 W hC]) hC
  refine ob_det (c := .int .i64 110) ?_ ?_
  · intro ρ W hk hC
    simp only [seen, obOp, List.getD_cons_zero, List.getD_cons_succ]
    rintro h28 h29 h27
    refine ⟨fun _ => ?_, fun hn => absurd h27 hn⟩
    exact rel_call (f := 6) (args := #[rouL.val (rouP m), .agg #[.int .i64 0, .int .i64 0, .slice (some ⟨n + 1 + 1 + 1, 0, none⟩) 1 1], .slice none 0 0]) (by simp [go_sem, h28, h29, hk.func, hk.const]) hC (HC.out.2.2.2.1 W hC)
  refine ob_det (c := .bool true) ?_ ?_
  · intro ρ W hk hC
    simp only [seen, obOp, List.getD_cons_zero, List.getD_cons_succ]
    rintro h30 h27
    refine ⟨fun _ => ?_, fun hn => absurd h27 hn⟩
    exact rel_value (by simp [go_sem, h30, hk.const]) hC
  refine ob_det (c := .bool true) ?_ ?_
  · intro ρ W hk hC
    simp only [seen, obOp, List.getD_cons_zero, List.getD_cons_succ]
    rintro h27 h31
    exact rel_value (by simp [go_sem, h27, h31, hk.const]) hC
  refine ob_det (c := .bool true) ?_ ?_
  · intro ρ W hk hC
    simp only [seen, obOp, List.getD_cons_zero]
    rintro h32
    exact rel_value (by simp [go_sem, h32]) hC
  refine ob_det (c := rouL.val (rouP m)) ?_ ?_
  · intro ρ W hk hC
    simp only [seen, obOp, List.getD_cons_zero]
    rintro h1 h33
    replace h1 : ρ (.tmp 1) = .pointer (some ⟨n, 0, none⟩) := h1.trans rfl
    refine ⟨fun _ => ?_, fun hn => absurd h33 hn⟩
    exact rel_value (runLoad h1 (HB.out.1.below hC)) hC
  refine ob_det (c := .agg #[.int .i64 0, .int .i64 0, .slice (some ⟨n + 1, 0, none⟩) 1 1]) ?_ ?_
  · intro ρ W hk hC
    simp only [seen, obOp, List.getD_cons_zero, List.getD_cons_succ]
    rintro h2 h33
    replace h2 : ρ (.tmp 2) = .pointer (some ⟨n + 1 + 1, 0, none⟩) := h2.trans rfl
    refine ⟨fun _ => ?_, fun hn => absurd h33 hn⟩
    exact rel_value (by simp [go_sem, h2, pc0 W hC, pc1 W hC, pc2 W hC]) hC
  refine ⟨NewSl Z 2 #[.int .i64 0, .int .i64 0], fun _ _ _ h k => h.step k, ?_, ?_⟩
  · intro ρ W hk hC
    simp only [seen, obOp, List.getD_cons_zero, List.getD_cons_succ]
    rintro h33
    refine ⟨fun _ => ?_, fun hn => absurd h33 hn⟩
    exact rel_newsl (T := 3) (by simp [go_sem, hk.const]) hC
  refine ob_det (c := .int .i64 110) ?_ ?_
  · intro ρ W hk hC
    simp only [seen, obOp, List.getD_cons_zero, List.getD_cons_succ]
    rintro h34 h35 ⟨g, h36, gb, gl, gc⟩ h33
    refine ⟨fun _ => ?_, fun hn => absurd h33 hn⟩
    exact rel_call (f := 6) (args := #[rouL.val (rouP m), .agg #[.int .i64 0, .int .i64 0, .slice (some ⟨n + 1, 0, none⟩) 1 1], .slice (some ⟨g, 0, none⟩) 2 2]) (by simp [go_sem, h34, h35, h36, hk.func]) hC (HC.out.2.2.2.2.1 W g hC gl gc)
  refine ob_det (c := .bool true) ?_ ?_
  · intro ρ W hk hC
    simp only [seen, obOp, List.getD_cons_zero, List.getD_cons_succ]
    rintro h37 h33
    refine ⟨fun _ => ?_, fun hn => absurd h33 hn⟩
    exact rel_value (by simp [go_sem, h37, hk.const]) hC
  refine ob_det (c := .bool true) ?_ ?_
  · intro ρ W hk hC
    simp only [seen, obOp, List.getD_cons_zero, List.getD_cons_succ]
    rintro h33 h38
    exact rel_value (by simp [go_sem, h33, h38, hk.const]) hC
  refine ob_det (c := .bool true) ?_ ?_
  · intro ρ W hk hC
    simp only [seen, obOp, List.getD_cons_zero]
    rintro h39
    exact rel_value (by simp [go_sem, h39]) hC
  refine ob_det (c := rouL.val (rouP m)) ?_ ?_
  · intro ρ W hk hC
    simp only [seen, obOp, List.getD_cons_zero]
    rintro h1 h40
    replace h1 : ρ (.tmp 1) = .pointer (some ⟨n, 0, none⟩) := h1.trans rfl
    refine ⟨fun _ => ?_, fun hn => absurd h40 hn⟩
    exact rel_value (runLoad h1 (HB.out.1.below hC)) hC
  refine ob_det (c := .agg #[.int .i64 1, .int .i64 0, .slice none 0 0]) ?_ ?_
  · intro ρ W hk hC
    simp only [seen, obOp, List.getD_cons_zero, List.getD_cons_succ]
    rintro h40
    refine ⟨fun _ => ?_, fun hn => absurd h40 hn⟩
    exact rel_value (by simp [go_sem, hk.const]) hC
  refine ob_det (c := .int .i64 2) ?_ ?_
  · intro ρ W hk hC
    simp only [seen, obOp, List.getD_cons_zero, List.getD_cons_succ]
    rintro h41 h42 h40
    refine ⟨fun _ => ?_, fun hn => absurd h40 hn⟩
    exact rel_call (f := 6) (args := #[rouL.val (rouP m), .agg #[.int .i64 1, .int .i64 0, .slice none 0 0], .slice none 0 0]) (by simp [go_sem, h41, h42, hk.func, hk.const]) hC (HC.out.2.2.2.2.2.1 W hC)
  refine ob_det (c := .bool true) ?_ ?_
  · intro ρ W hk hC
    simp only [seen, obOp, List.getD_cons_zero, List.getD_cons_succ]
    rintro h43 h40
    refine ⟨fun _ => ?_, fun hn => absurd h40 hn⟩
    exact rel_value (by simp [go_sem, h43, hk.const]) hC
  refine ob_det (c := .bool true) ?_ ?_
  · intro ρ W hk hC
    simp only [seen, obOp, List.getD_cons_zero, List.getD_cons_succ]
    rintro h40 h44
    exact rel_value (by simp [go_sem, h40, h44, hk.const]) hC
  refine ob_det (c := .bool true) ?_ ?_
  · intro ρ W hk hC
    simp only [seen, obOp, List.getD_cons_zero]
    rintro h45
    exact rel_value (by simp [go_sem, h45]) hC
  refine ob_det (c := rouL.val (rouP m)) ?_ ?_
  · intro ρ W hk hC
    simp only [seen, obOp, List.getD_cons_zero]
    rintro h1 h46
    replace h1 : ρ (.tmp 1) = .pointer (some ⟨n, 0, none⟩) := h1.trans rfl
    refine ⟨fun _ => ?_, fun hn => absurd h46 hn⟩
    exact rel_value (runLoad h1 (HB.out.1.below hC)) hC
  refine ob_det (c := .pointer (some ⟨n + 1 + 1, 2, none⟩)) ?_ ?_
  · intro ρ W hk hC
    simp only [seen, obOp, List.getD_cons_zero, List.getD_cons_succ]
    rintro h2 h46
    replace h2 : ρ (.tmp 2) = .pointer (some ⟨n + 1 + 1, 0, none⟩) := h2.trans rfl
    refine ⟨fun _ => ?_, fun hn => absurd h46 hn⟩
    exact rel_value (by simp [go_sem, h2]) hC
  refine ob_det (c := .slice (some ⟨n + 1, 0, none⟩) 1 1) ?_ ?_
  · intro ρ W hk hC
    simp only [seen, obOp, List.getD_cons_zero, List.getD_cons_succ]
    rintro h48 h46
    refine ⟨fun _ => ?_, fun hn => absurd h46 hn⟩
    exact rel_value (by simp [go_sem, h48, pc2 W hC]) hC
  refine ob_det (c := .bool true) ?_ ?_
  · intro ρ W hk hC
    simp only [seen, obOp, List.getD_cons_zero, List.getD_cons_succ]
    rintro h47 h49 h46
    refine ⟨fun _ => ?_, fun hn => absurd h46 hn⟩
    exact rel_call (f := 10) (args := #[rouL.val (rouP m), .slice (some ⟨n + 1, 0, none⟩) 1 1]) (by simp [go_sem, h47, h49, hk.func]) hC (HC.out.2.2.2.2.2.2.1 W hC)
  refine ob_det (c := .bool true) ?_ ?_
  · intro ρ W hk hC
    simp only [seen, obOp, List.getD_cons_zero, List.getD_cons_succ]
    rintro h46 h50
    exact rel_value (by simp [go_sem, h46, h50, hk.const]) hC
  refine ob_det (c := .bool true) ?_ ?_
  · intro ρ W hk hC
    simp only [seen, obOp, List.getD_cons_zero]
    rintro h51
    exact rel_value (by simp [go_sem, h51]) hC
  refine ob_det (c := rouL.val (rouP m)) ?_ ?_
  · intro ρ W hk hC
    simp only [seen, obOp, List.getD_cons_zero]
    rintro h1 h52
    replace h1 : ρ (.tmp 1) = .pointer (some ⟨n, 0, none⟩) := h1.trans rfl
    refine ⟨fun _ => ?_, fun hn => absurd h52 hn⟩
    exact rel_value (runLoad h1 (HB.out.1.below hC)) hC
  refine ob_det (c := .agg #[.int .i64 0, .int .i64 0, .int .i64 0]) ?_ ?_
  · intro ρ W hk hC
    simp only [seen, obOp, List.getD_cons_zero, List.getD_cons_succ]
    rintro h52
    refine ⟨fun _ => ?_, fun hn => absurd h52 hn⟩
    exact rel_value (by simp [go_sem]) hC
  refine ⟨NewSl Z 1 #[.int .i64 0, .int .i64 0, .int .i64 0], fun _ _ _ h k => h.step k, ?_, ?_⟩
  · intro ρ W hk hC
    simp only [seen, obOp, List.getD_cons_zero, List.getD_cons_succ]
    rintro h54 h52
    refine ⟨fun _ => ?_, fun hn => absurd h52 hn⟩
    exact rel_newsl (T := 47) (by simp [go_sem, h54]) hC
  refine ob_det (c := .bool false) ?_ ?_
  · intro ρ W hk hC
    simp only [seen, obOp, List.getD_cons_zero, List.getD_cons_succ]
    rintro h53 ⟨g, h55, gb, gl, gc⟩ h52
    refine ⟨fun _ => ?_, fun hn => absurd h52 hn⟩
    exact rel_call (f := 10) (args := #[rouL.val (rouP m), .slice (some ⟨g, 0, none⟩) 1 1]) (by simp [go_sem, h53, h55, hk.func]) hC (HC.out.2.2.2.2.2.2.2.1 W g hC gl gc)
  refine ob_det (c := .bool true) ?_ ?_
  · intro ρ W hk hC
    simp only [seen, obOp, List.getD_cons_zero, List.getD_cons_succ]
    rintro h56 h52
    refine ⟨fun _ => ?_, fun hn => absurd h52 hn⟩
    exact rel_value (by simp [go_sem, h56]) hC
  refine ob_det (c := .bool true) ?_ ?_
  · intro ρ W hk hC
    simp only [seen, obOp, List.getD_cons_zero, List.getD_cons_succ]
    rintro h52 h57
    exact rel_value (by simp [go_sem, h52, h57, hk.const]) hC
  refine ob_det (c := .bool true) ?_ ?_
  · intro ρ W hk hC
    simp only [seen, obOp, List.getD_cons_zero]
    rintro h58
    exact rel_value (by simp [go_sem, h58]) hC
  refine ob_det (c := .agg #[.int .i64 0, .int .i64 0, .slice (some ⟨n + 1, 0, none⟩) 1 1]) ?_ ?_
  · intro ρ W hk hC
    simp only [seen, obOp, List.getD_cons_zero]
    rintro h2 h59
    replace h2 : ρ (.tmp 2) = .pointer (some ⟨n + 1 + 1, 0, none⟩) := h2.trans rfl
    refine ⟨fun _ => ?_, fun hn => absurd h59 hn⟩
    exact rel_value (by simp [go_sem, h2, pc0 W hC, pc1 W hC, pc2 W hC]) hC
  refine ⟨NewSl Z 1 #[.int .i64 0], fun _ _ _ h k => h.step k, ?_, ?_⟩
  · intro ρ W hk hC
    simp only [seen, obOp, List.getD_cons_zero, List.getD_cons_succ]
    rintro h59
    refine ⟨fun _ => ?_, fun hn => absurd h59 hn⟩
    exact rel_newsl (T := 3) (by simp [go_sem, hk.const]) hC
  refine ob_det (c := .bool true) ?_ ?_
  · intro ρ W hk hC
    simp only [seen, obOp, List.getD_cons_zero, List.getD_cons_succ]
    rintro h60 ⟨g, h61, gb, gl, gc⟩ h59
    refine ⟨fun _ => ?_, fun hn => absurd h59 hn⟩
    exact rel_call (f := 12) (args := #[.agg #[.int .i64 0, .int .i64 0, .slice (some ⟨n + 1, 0, none⟩) 1 1], .slice (some ⟨g, 0, none⟩) 1 1]) (by simp [go_sem, h60, h61, hk.func]) hC (HC.out.2.2.2.2.2.2.2.2.1 W g hC gl gc)
  refine ob_det (c := .bool true) ?_ ?_
  · intro ρ W hk hC
    simp only [seen, obOp, List.getD_cons_zero, List.getD_cons_succ]
    rintro h59 h62
    exact rel_value (by simp [go_sem, h59, h62, hk.const]) hC
  refine ob_det (c := .bool true) ?_ ?_
  · intro ρ W hk hC
    simp only [seen, obOp, List.getD_cons_zero]
    rintro h63
    exact rel_value (by simp [go_sem, h63]) hC
  refine ob_det (c := .agg #[.int .i64 0, .int .i64 0, .slice (some ⟨n + 1, 0, none⟩) 1 1]) ?_ ?_
  · intro ρ W hk hC
    simp only [seen, obOp, List.getD_cons_zero]
    rintro h2 h64
    replace h2 : ρ (.tmp 2) = .pointer (some ⟨n + 1 + 1, 0, none⟩) := h2.trans rfl
    refine ⟨fun _ => ?_, fun hn => absurd h64 hn⟩
    exact rel_value (by simp [go_sem, h2, pc0 W hC, pc1 W hC, pc2 W hC]) hC
  refine ⟨NewSl Z 2 #[.int .i64 0, .int .i64 0], fun _ _ _ h k => h.step k, ?_, ?_⟩
  · intro ρ W hk hC
    simp only [seen, obOp, List.getD_cons_zero, List.getD_cons_succ]
    rintro h64
    refine ⟨fun _ => ?_, fun hn => absurd h64 hn⟩
    exact rel_newsl (T := 3) (by simp [go_sem, hk.const]) hC
  refine ob_det (c := .bool false) ?_ ?_
  · intro ρ W hk hC
    simp only [seen, obOp, List.getD_cons_zero, List.getD_cons_succ]
    rintro h65 ⟨g, h66, gb, gl, gc⟩ h64
    refine ⟨fun _ => ?_, fun hn => absurd h64 hn⟩
    exact rel_call (f := 12) (args := #[.agg #[.int .i64 0, .int .i64 0, .slice (some ⟨n + 1, 0, none⟩) 1 1], .slice (some ⟨g, 0, none⟩) 2 2]) (by simp [go_sem, h65, h66, hk.func]) hC (HC.out.2.2.2.2.2.2.2.2.2.1 W g hC gl gc)
  refine ob_det (c := .bool true) ?_ ?_
  · intro ρ W hk hC
    simp only [seen, obOp, List.getD_cons_zero, List.getD_cons_succ]
    rintro h67 h64
    refine ⟨fun _ => ?_, fun hn => absurd h64 hn⟩
    exact rel_value (by simp [go_sem, h67]) hC
  refine ob_det (c := .bool true) ?_ ?_
  · intro ρ W hk hC
    simp only [seen, obOp, List.getD_cons_zero, List.getD_cons_succ]
    rintro h64 h68
    exact rel_value (by simp [go_sem, h64, h68, hk.const]) hC
  refine ob_det (c := .bool true) ?_ ?_
  · intro ρ W hk hC
    simp only [seen, obOp, List.getD_cons_zero]
    rintro h69
    exact rel_value (by simp [go_sem, h69]) hC
  refine ob_det (c := .agg #[.int .i64 0, .int .i64 0, .slice (some ⟨n + 1, 0, none⟩) 1 1]) ?_ ?_
  · intro ρ W hk hC
    simp only [seen, obOp, List.getD_cons_zero]
    rintro h2 h70
    replace h2 : ρ (.tmp 2) = .pointer (some ⟨n + 1 + 1, 0, none⟩) := h2.trans rfl
    refine ⟨fun _ => ?_, fun hn => absurd h70 hn⟩
    exact rel_value (by simp [go_sem, h2, pc0 W hC, pc1 W hC, pc2 W hC]) hC
  refine ⟨OwnedP, fun _ _ _ h k => h.step k, ?_, ?_⟩
  · intro ρ W hk hC
    simp only [seen, obOp, List.getD_cons_zero, List.getD_cons_succ]
    rintro h71 h70
    refine ⟨fun _ => ?_, fun hn => absurd h70 hn⟩
    refine rel_enter (f := 15) (args := #[.agg #[.int .i64 0, .int .i64 0, .slice (some ⟨n + 1, 0, none⟩) 1 1]]) (by simp [go_sem, h71, hk.func]) ((HC.out.2.2.2.2.2.2.2.2.2.2.1 W hC).mono ?_)
    rintro e w9 ⟨v, rfl, ⟨B, bc, rfl, _, _, hbA⟩, b9⟩
    exact ⟨_, rfl, hC.step b9, b9, B, bc, rfl, hbA⟩
  refine ob_det (c := .agg #[.int .i64 0, .int .i64 0, .slice (some ⟨n + 1, 0, none⟩) 1 1]) ?_ ?_
  · intro ρ W hk hC
    simp only [seen, obOp, List.getD_cons_zero, List.getD_cons_succ]
    rintro h2 h70
    replace h2 : ρ (.tmp 2) = .pointer (some ⟨n + 1 + 1, 0, none⟩) := h2.trans rfl
    refine ⟨fun _ => ?_, fun hn => absurd h70 hn⟩
    exact rel_value (by simp [go_sem, h2, pc0 W hC, pc1 W hC, pc2 W hC]) hC
  refine ob_det (c := .bool true) ?_ ?_
  · intro ρ W hk hC
    simp only [seen, obOp, List.getD_cons_zero, List.getD_cons_succ]
    rintro ⟨B, bc, h72, hbA⟩ h73 h70
    refine ⟨fun _ => ?_, fun hn => absurd h70 hn⟩
    exact rel_call (f := 16) (args := #[.agg #[.int .i64 0, .int .i64 0, .slice B 1 bc], .agg #[.int .i64 0, .int .i64 0, .slice (some ⟨n + 1, 0, none⟩) 1 1]]) (by simp [go_sem, h72, h73, hk.func]) hC (HC.out.2.2.2.2.2.2.2.2.2.2.2.1 W B bc hC hbA)
  refine ob_det (c := .bool true) ?_ ?_
  · intro ρ W hk hC
    simp only [seen, obOp, List.getD_cons_zero, List.getD_cons_succ]
    rintro h70 h74
    exact rel_value (by simp [go_sem, h70, h74, hk.const]) hC
  refine ob_det (c := .bool true) ?_ ?_
  · intro ρ W hk hC
    simp only [seen, obOp, List.getD_cons_zero]
    rintro h75
    exact rel_value (by simp [go_sem, h75]) hC
  refine ob_det (c := .agg #[.int .i64 0, .int .i64 0, .slice (some ⟨n + 1, 0, none⟩) 1 1]) ?_ ?_
  · intro ρ W hk hC
    simp only [seen, obOp, List.getD_cons_zero]
    rintro h2 h76
    replace h2 : ρ (.tmp 2) = .pointer (some ⟨n + 1 + 1, 0, none⟩) := h2.trans rfl
    refine ⟨fun _ => ?_, fun hn => absurd h76 hn⟩
    exact rel_value (by simp [go_sem, h2, pc0 W hC, pc1 W hC, pc2 W hC]) hC
  refine ob_det (c := .agg #[.int .i64 0, .int .i64 0, .slice (some ⟨n + 1 + 1 + 1, 0, none⟩) 1 1]) ?_ ?_
  · intro ρ W hk hC
    simp only [seen, obOp, List.getD_cons_zero, List.getD_cons_succ]
    rintro h3 h76
    replace h3 : ρ (.tmp 3) = .pointer (some ⟨n + 1 + 1 + 1 + 1, 0, none⟩) := h3.trans rfl
    refine ⟨fun _ => ?_, fun hn => absurd h76 hn⟩
    exact rel_value (by simp [go_sem, h3, qc0 W hC, qc1 W hC, qc2 W hC]) hC
  refine ob_det (c := .bool false) ?_ ?_
  · intro ρ W hk hC
    simp only [seen, obOp, List.getD_cons_zero, List.getD_cons_succ]
    rintro h77 h78 h76
    refine ⟨fun _ => ?_, fun hn => absurd h76 hn⟩
    exact rel_call (f := 16) (args := #[.agg #[.int .i64 0, .int .i64 0, .slice (some ⟨n + 1, 0, none⟩) 1 1], .agg #[.int .i64 0, .int .i64 0, .slice (some ⟨n + 1 + 1 + 1, 0, none⟩) 1 1]]) (by simp [go_sem, h77, h78, hk.func]) hC (HC.out.2.2.2.2.2.2.2.2.2.2.2.2 W hC)
  refine ob_det (c := .bool true) ?_ ?_
  · intro ρ W hk hC
    simp only [seen, obOp, List.getD_cons_zero, List.getD_cons_succ]
    rintro h79 h76
    refine ⟨fun _ => ?_, fun hn => absurd h76 hn⟩
    exact rel_value (by simp [go_sem, h79]) hC
  refine ob_det (c := .bool true) ?_ ?_
  · intro ρ W hk hC
    simp only [seen, obOp, List.getD_cons_zero, List.getD_cons_succ]
    rintro h76 h80
    exact rel_value (by simp [go_sem, h76, h80, hk.const]) hC
  refine ob_det (c := .bool true) ?_ ?_
  · intro ρ W hk hC
    simp only [seen, obOp, List.getD_cons_zero]
    rintro h81
    exact rel_value (by simp [go_sem, h81]) hC
  intro vs w5 hC5
  simp only [endSeen, List.getD_cons_zero]
  intro h0
  simp only [writeAll, List.setIfInBounds_toArray, List.set_cons_zero, List.set_cons_succ, h0]
  go_wp2
  go_ret
  exact ⟨rfl, bchain HB.out.2.2 hC5⟩
end Go.Proofs.YtpcojaoeahdgcaaGreatDoor

/-
  lockbarref07.Great: where it says no, the layout is small.
-/
namespace Go.Proofs.YtpcojaoeahdgcaaGreatDoor
open Go.RowKit Go.Shelf

def FewG (L : Lay) : Prop := L.secs.length ≤ 30 ∧ L.sigs.length ≤ 20 ∧ L.exits.length ≤ 20 ∧ L.flanks.length ≤ 30 ∧ ∀ x ∈ L.exits, x.over.length ≤ 20
def GreatOf (L : Lay) (w : World) (e : Ending) (w' : World) : Prop := ∃ b : Bool, e = .returned (.bool b) ∧ (b = false → FewG L) ∧ Below w.heap.size w w'
theorem great_yes {L : Lay} {w w' : World} (h : Below w.heap.size w w') : GreatOf L w (.returned (.bool true)) w' := ⟨true, rfl, fun h => (by cases h), h⟩
theorem great_no {L : Lay} {w w' : World} (hf : FewG L) (h : Below w.heap.size w w') : GreatOf L w (.returned (.bool false)) w' := ⟨false, rfl, fun _ => hf, h⟩

set_option maxRecDepth 100000 in
set_option maxHeartbeats 4000000 in
theorem rGreat_of (L : Lay) (p : Where) (w : World) (hL : LayAt w p L) : Calls Tryz.prog 17 #[L.val p] w (GreatOf L w) := by
  have hm0 : L.secs.length ≤ 9223372036854775807 := Nat.le_trans hL.l0.1 hL.l0.2
  have hm1 : L.sigs.length ≤ 9223372036854775807 := Nat.le_trans hL.l1.1 hL.l1.2
  have hm : L.exits.length ≤ 9223372036854775807 := Nat.le_trans hL.l2.1 hL.l2.2
  have hm3 : L.flanks.length ≤ 9223372036854775807 := Nat.le_trans hL.l3.1 hL.l3.2
  obtain ⟨a0, a1, a2, a3, p0, p1, p2, p3⟩ := p
  have HL := Lib.hid hL
  clear hL
  unfold Lay.val
  go_enter Tryz.func17, Tryz.ntmps17
  go_wp2_with fail
  go_loop [3] (fun s3 => ∃ n : Nat, n ≤ L.exits.length ∧ n ≤ 21 ∧ s3 = .int .i64 n ∧ Hid (∀ (j : Nat) (x : Ext'), j < n → L.exits[j]? = some x → x.over.length ≤ 20)) (fun s3 => L.exits.length - (intOf s3).toNat)
  case atStart => exact ⟨0, Nat.zero_le _, by omega, rfl, Lib.hid (fun j x hj => absurd hj (Nat.not_lt_zero _))⟩
  case round =>
    obtain ⟨n, hn, hn31, rfl, HJ⟩ := hrel
    by_cases hlt : n < L.exits.length ∧ n ≤ 20
    · obtain ⟨hlt, h30⟩ := hlt
      obtain ⟨es, hes, hAt, hov⟩ := HL.out.exits
      have hlen : es.length = L.exits.length := by rw [← hes, List.length_map]
      obtain ⟨b, off, hAe, h0, hrow⟩ := hAt.get (j := n) (by omega)
      subst hAe
      obtain ⟨y, hy⟩ : ∃ y, es[n]? = some y := ⟨es[n]'(by omega), List.getElem?_eq_getElem (by omega)⟩
      have g2 := hrow n y hy 2 _ rfl
      have hye : L.exits[n]? = some y.1 := by rw [← hes, List.getElem?_map, hy]; rfl
      obtain ⟨A, cap, e2, hcap, hmax, _⟩ := hov y (List.mem_of_getElem? hy)
      rw [e2] at g2
      obtain ⟨m, hmv⟩ : ∃ m, m = y.1.over.length := ⟨_, rfl⟩
      have next : m ≤ 20 → Hid (∀ (j : Nat) (x : Ext'), j < n + 1 → L.exits[j]? = some x → x.over.length ≤ 20) := fun h => Lib.hid fun j x hj hx => by
        by_cases e : j = n
        · subst e
          rw [hye] at hx
          cases hx
          omega
        · exact HJ.out j x (by omega) hx
      have NX := Lib.hid next
      rw [← hmv] at g2 hcap
      have hmm : m ≤ 9223372036854775807 := Nat.le_trans hcap hmax
      clear next hrow hy hes hAt hov hlen e2 hcap hmax hmv HL hye
      have d30 : decide ((n : Int) ≤ 20) = true := decide_eq_true (by omega)
      by_cases h20 : 20 < m
      · have d20 : decide ((20 : Int) < (m : Int)) = true := decide_eq_true (by omega)
        go_wp2
        go_ret
        exact great_yes bself
      · have d20 : decide ((20 : Int) < (m : Int)) = false := decide_eq_false (by omega)
        go_wp2
        go_round
        case rel => exact ⟨n + 1, by omega, by omega, by go_num, NX.out (by omega)⟩
        case measure => simp [intOf]; omega
    · have hstop : (n < L.exits.length ∧ 20 < n) ∨ n = L.exits.length := by omega
      clear hlt HL
      have few : L.secs.length ≤ 30 → L.sigs.length ≤ 20 → L.exits.length ≤ 20 → L.flanks.length ≤ 30 → FewG L := fun h0 h1 h2 h3 => ⟨h0, h1, h2, h3, fun x hx => by
        obtain ⟨j, hj⟩ := List.mem_iff_getElem?.1 hx
        have hjl := (List.getElem?_eq_some_iff.1 hj).1
        exact HJ.out j x (by omega) hj⟩
      have FW := Lib.hid few
      clear few
      have hts : decide (n < L.exits.length) = false ∨ (decide (n < L.exits.length) = true ∧ decide ((n : Int) ≤ 20) = false) := by
        rcases hstop with ⟨h1, h2⟩ | h1
        · exact .inr ⟨decide_eq_true (by omega), decide_eq_false (by omega)⟩
        · exact .inl (decide_eq_false (by omega))
      have h0 : (30 : Int) < L.secs.length ∨ (L.secs.length ≤ 30 ∧ (20 : Int) < L.sigs.length) ∨ (L.secs.length ≤ 30 ∧ L.sigs.length ≤ 20 ∧ (20 : Int) < L.exits.length) ∨ (L.secs.length ≤ 30 ∧ L.sigs.length ≤ 20 ∧ L.exits.length ≤ 20 ∧ (30 : Int) < L.flanks.length) ∨ (L.secs.length ≤ 30 ∧ L.sigs.length ≤ 20 ∧ L.exits.length ≤ 20 ∧ L.flanks.length ≤ 30) := by omega
      clear hstop hn hn31 HJ
      rcases h0 with h0 | ⟨h0, h1⟩ | ⟨h0, h1, h2⟩ | ⟨h0, h1, h2, h3⟩ | ⟨h0, h1, h2, h3⟩
      · have e0 : decide ((30 : Int) < (L.secs.length : Int)) = true := decide_eq_true (by omega)
        clear h0 FW
        rcases hts with t0 | ⟨t0, t1⟩
        all_goals
          go_wp2
          go_ret
          exact great_yes bself
      · have e0 : decide ((30 : Int) < (L.secs.length : Int)) = false := decide_eq_false (by omega)
        have e1 : decide ((20 : Int) < (L.sigs.length : Int)) = true := decide_eq_true (by omega)
        clear h0 h1 FW
        rcases hts with t0 | ⟨t0, t1⟩
        all_goals
          go_wp2
          go_ret
          exact great_yes bself
      · have e0 : decide ((30 : Int) < (L.secs.length : Int)) = false := decide_eq_false (by omega)
        have e1 : decide ((20 : Int) < (L.sigs.length : Int)) = false := decide_eq_false (by omega)
        have e2 : decide ((20 : Int) < (L.exits.length : Int)) = true := decide_eq_true (by omega)
        clear h0 h1 h2 FW
        rcases hts with t0 | ⟨t0, t1⟩
        all_goals
          go_wp2
          go_ret
          exact great_yes bself
      · have e0 : decide ((30 : Int) < (L.secs.length : Int)) = false := decide_eq_false (by omega)
        have e1 : decide ((20 : Int) < (L.sigs.length : Int)) = false := decide_eq_false (by omega)
        have e2 : decide ((20 : Int) < (L.exits.length : Int)) = false := decide_eq_false (by omega)
        have e3 : decide ((30 : Int) < (L.flanks.length : Int)) = true := decide_eq_true (by omega)
        clear h0 h1 h2 h3 FW
        rcases hts with t0 | ⟨t0, t1⟩
        all_goals
          go_wp2
          go_ret
          exact great_yes bself
      · have e0 : decide ((30 : Int) < (L.secs.length : Int)) = false := decide_eq_false (by omega)
        have e1 : decide ((20 : Int) < (L.sigs.length : Int)) = false := decide_eq_false (by omega)
        have e2 : decide ((20 : Int) < (L.exits.length : Int)) = false := decide_eq_false (by omega)
        have e3 : decide ((30 : Int) < (L.flanks.length : Int)) = false := decide_eq_false (by omega)
        have FW2 := Lib.hid (FW.out h0 h1 h2 h3)
        clear h0 h1 h2 h3 FW
        rcases hts with t0 | ⟨t0, t1⟩
        all_goals
          go_wp2
          go_ret
          exact great_no FW2.out bself
end Go.Proofs.YtpcojaoeahdgcaaGreatDoor

/-
  The walk of TopoOver.
-/
namespace Go.Proofs.YtpcojaoeahdgcaaGreatDoor
open Go.RowKit Go.Shelf

/-- What lies beyond a port that is joined has it beyond. -/
theorem bey_back {L : Lay} (hj : joinedL L = true) {s q a b : Int} (hh : hasB L s q = true) (hb : beyL L s q = ⟨a, b⟩) (h0 : 0 ≤ a) : beyL L a b = ⟨s, q⟩ := by
  rcases bey_cases L s q with ⟨h, _⟩ | ⟨n, m, c, rfl, rfl, hn, hc, hm, hm4, _, _, _⟩
  · rw [hh] at h; cases h
  · have hs : secFine L n = true := by
      cases hx : secFine L n with
      | true => rfl
      | false => rw [(joinedL_facts L).2.1 n hn hx] at hj; cases hj
    rw [secFine_eq hc, Bool.and_eq_true, List.all_eq_true] at hs
    have := hs.2 m (mem_pj.2 ⟨hm4, hh⟩)
    rw [joinB_eq, hb] at this
    dsimp only at this
    have hne : decide ((⟨a, b⟩ : Prt) = endP) = false := decide_eq_false (fun h => by cases h; omega)
    rw [hne, Bool.false_or, Bool.and_eq_true, decide_eq_true_iff] at this
    exact this.2
theorem step_facts {L : Lay} {s i o : Int} (h : stepB L s i o = true) : ∃ (m : Nat) (c : Sec), s = (m : Int) ∧ m < L.secs.length ∧ L.secs[m]? = some c ∧ c ∈ L.secs ∧ wayB c.k i o = true ∧ hasB L s i = true ∧ hasB L s o = true := by
  rcases step_cases L s i o with ⟨_, _, f⟩ | ⟨m, c, rfl, hm, hc, hcm, _, f⟩
  · rw [f] at h; cases h
  · rw [f] at h
    have hs : secAt L m = some c := by unfold secAt; rw [if_pos (by omega)]; simpa using hc
    obtain ⟨g1, g2⟩ := way_ports h
    refine ⟨m, c, rfl, hm, hc, hcm, h, ?_, ?_⟩
    · unfold hasB atO; rw [hs, Option.bind_some, if_pos g1]; rfl
    · unfold hasB atO; rw [hs, Option.bind_some, if_pos g2]; rfl

end Go.Proofs.YtpcojaoeahdgcaaGreatDoor

/-
  lockbarlaw11.great; two Route paths that part.
-/
namespace Go.Proofs.YtpcojaoeahdgcaaGreatDoor
open Go.RowKit Go.Shelf

set_option maxRecDepth 100000 in
set_option maxHeartbeats 4000000 in
/-- Not too great: few things, at most 30 steps. -/
theorem great11_any (L : Lay) (P : Where) (sg ex : Int) (A : Option Addr) (n cap : Nat) (w : World) (hL : LayAt w P L) (hn : n ≤ 9223372036854775807) :
    Calls Tryz.prog 4 #[L.val P, .agg #[.int .i64 sg, .int .i64 ex, .slice A n cap]] w fun e w' => ∃ b, e = .returned (.bool b) ∧ (b = false → FewG L ∧ n ≤ 30) ∧ Below w.heap.size w w' := by
  have hg := rGreat_of L P ((w.alloc (.cells (L.cells P).toArray 29)).alloc (.cells #[.int .i64 sg, .int .i64 ex, .slice A n cap] 32)) (hL.below (bchain bself bself))
  obtain ⟨a0, a1, a2, a3, p0, p1, p2, p3⟩ := P
  unfold Lay.val at hg ⊢
  unfold Lay.cells at hg
  have HG := Lib.hid hg
  clear hg hL
  go_enter Tryz.func4, Tryz.ntmps4
  go_wp2_with fail
  (with_reducible refine HG.out.mono ?_)
  rintro e w1 ⟨g, rfl, hf, b1⟩
  have HF := Lib.hid (⟨hf, bnew (bnew b1)⟩ : _ ∧ _)
  obtain ⟨c, f, l⟩ := bcell b1
  have z2 := (c (w.heap.size + 1) 2 (by simp)).trans (show _ = some (.slice A n cap) by simp [go_sem])
  have lz := l (w.heap.size + 1) (by simp)
  clear hf b1 c f l
  cases g with
  | true =>
    go_wp2
    go_ret
    exact ⟨true, rfl, (fun h => by cases h), HF.out.2⟩
  | false =>
    by_cases h : 30 < n
    · have d : decide ((30 : Int) < (n : Int)) = true := decide_eq_true (by omega)
      go_wp2
      go_ret
      exact ⟨true, by first | rfl | (apply ret_bool; simpa using h), (fun h => by cases h), HF.out.2⟩
    · have d : decide ((30 : Int) < (n : Int)) = false := decide_eq_false (by omega)
      go_wp2
      go_ret
      exact ⟨false, by first | rfl | (apply ret_bool; simpa using h), fun _ => ⟨HF.out.1 (by first | exact rfl | trivial), by omega⟩, HF.out.2⟩

theorem way_parts {k i o o' : Int} (h : wayB k i o = true) (h' : wayB k i o' = true) (hne : o ≠ o') : k = 2 ∧ i = 0 := by
  rw [(way_spec k i o).1] at h
  rw [(way_spec k i o').1] at h'
  have h := of_decide_eq_true h
  have h' := of_decide_eq_true h'
  rcases kCases k with ⟨rfl, _⟩ | ⟨rfl, _⟩ | ⟨rfl, _⟩ | ⟨_, _, _, _, m, _⟩
  · simp [hit, kMany, aOf, bOf, kA1, kB0, kB1] at h h'
    omega
  · simp [hit, kMany, aOf, bOf, kA1, kB0, kB1] at h h'
    omega
  · simp [hit, kMany, aOf, bOf, kA1, kB0, kB1] at h h'
    omega
  · simp [hit, m] at h
/-- Where two Route paths of a signal part. -/
theorem route_parts {L : Lay} {sg ex ex' : Int} {xs ys : List Stp} {k : Nat} {a b : Stp} (hx : routeN L sg ex xs [] = 0) (hy : routeN L sg ex' ys [] = 0) (ha : xs[k]? = some a) (hb : ys[k]? = some b) (hs : ∀ j, j < k → xs[j]? = ys[j]?) (hne : a ≠ b) :
    ∃ (m : Nat) (c : Sec), a.s = m ∧ b.s = m ∧ m < L.secs.length ∧ L.secs[m]? = some c ∧ c.k = 2 ∧ a.i = 0 ∧ b.i = 0 ∧ a.o ≠ b.o := by
  obtain ⟨_, n, m, sp, ep, e1, e2, h1, h2, hxr⟩ := route_zero hx
  obtain ⟨_, n', m', sp', ep', e1', e2', h1', h2', hyr⟩ := route_zero hy
  obtain rfl : n = n' := by omega
  obtain rfl : sp = sp' := by rw [h1] at h1'; exact Option.some.inj h1'
  have hgx := (goes_iff L xs).1 hxr.2.2.2.1
  have hgy := (goes_iff L ys).1 hyr.2.2.2.1
  have hin : a.s = b.s ∧ a.i = b.i := by
    cases k with
    | zero =>
      have e := (hxr.2.1 a ha).symm.trans (hyr.2.1 b hb)
      cases a; cases b
      simpa using e
    | succ j =>
      have hj := hs j (by omega)
      have hlj : j < xs.length := by have := (List.getElem?_eq_some_iff.1 ha).1; omega
      have hz : xs[j]? = some xs[j] := List.getElem?_eq_getElem hlj
      have l1 := of_decide_eq_true (hgx.2 j _ a hz ha)
      have l2 := of_decide_eq_true (hgy.2 j _ b (hj ▸ hz) hb)
      have e := l1.symm.trans l2
      cases a; cases b
      simpa using e
  have sa := hgx.1 k a ha
  have sb := hgy.1 k b hb
  unfold stepOk at sa sb
  obtain ⟨q, c, hq, hql, hqc, _, hw, _, _⟩ := step_facts sa
  obtain ⟨q', c', hq', _, hqc', _, hw', _, _⟩ := step_facts sb
  obtain rfl : q = q' := by have := hin.1; omega
  obtain rfl : c = c' := by rw [hqc] at hqc'; exact Option.some.inj hqc'
  have ho : a.o ≠ b.o := fun e => hne (by cases a; cases b; simp_all)
  rw [← hin.2] at hw'
  obtain ⟨hk, hi⟩ := way_parts hw hw' ho
  exact ⟨q, c, hq, hq', hql, hqc, hk, hi, by rw [← hin.2]; exact hi, ho⟩
end Go.Proofs.YtpcojaoeahdgcaaGreatDoor

/-
  Steps turned about go the other way; some of the vias.
-/
namespace Go.Proofs.YtpcojaoeahdgcaaGreatDoor
open Go.RowKit Go.Shelf

def turnS (x : Stp) : Stp := ⟨x.s, x.o, x.i⟩
def backL (xs : List Stp) : List Stp := (xs.map turnS).reverse
theorem back_snoc (xs : List Stp) (x : Stp) : backL (xs ++ [x]) = turnS x :: backL xs := by
  unfold backL
  rw [List.map_append, List.reverse_append]
  rfl
theorem stepOk_turn {L : Lay} {x : Stp} (h : stepOk L x = true) : stepOk L (turnS x) = true := by
  unfold stepOk stepB turnS at *
  dsimp only at *
  cases hs : secAt L x.s with
  | none => rw [hs] at h; cases h
  | some c =>
    rw [hs] at h
    dsimp only at h ⊢
    rw [(way_comm c.k x.o x.i).1]
    exact h
theorem link_turn {L : Lay} (hj : joinedL L = true) {x y : Stp} (hx : stepOk L x = true) (hy : stepOk L y = true) (h : linkB L x y = true) : linkB L (turnS y) (turnS x) = true := by
  unfold linkB turnS at *
  dsimp only
  have h := of_decide_eq_true h
  obtain ⟨m, c, _, _, _, _, _, _, ho⟩ := step_facts hx
  obtain ⟨m', c', hm', _, _, _, _, _, _⟩ := step_facts hy
  exact decide_eq_true (bey_back hj ho h (by omega))
theorem goes_turn {L : Lay} (ht : topoR L = true) : ∀ {xs : List Stp}, goesL L xs = true → goesL L (backL xs) = true := by
  have hj : joinedL L = true := (rule0_neg L).1 (((topoR_iff L).1 ht).2 0 (by omega))
  intro xs h
  rw [goes_iff] at h ⊢
  unfold backL
  refine ⟨fun k x hx => ?_, fun k x y hx hy => ?_⟩
  · have hm := List.mem_of_getElem? hx
    rw [List.mem_reverse, List.mem_map] at hm
    obtain ⟨z, hz, rfl⟩ := hm
    obtain ⟨j, hj, rfl⟩ := List.mem_iff_getElem.1 hz
    exact stepOk_turn (h.1 j _ (List.getElem?_eq_getElem hj))
  · have hly : k + 1 < xs.length := by have := (List.getElem?_eq_some_iff.1 hy).1; simpa using this
    rw [List.getElem?_reverse (by simp; omega), List.getElem?_map] at hx hy
    simp only [List.length_map] at hx hy
    have e1 : xs[xs.length - 1 - k]? = some (xs[xs.length - 1 - k]'(by omega)) := List.getElem?_eq_getElem (by omega)
    have e2 : xs[xs.length - 1 - (k + 1)]? = some (xs[xs.length - 1 - (k + 1)]'(by omega)) := List.getElem?_eq_getElem (by omega)
    rw [e1] at hx
    rw [e2] at hy
    simp only [Option.map_some, Option.some.injEq] at hx hy
    rw [← hx, ← hy]
    have e3 : xs.length - 1 - (k + 1) + 1 = xs.length - 1 - k := by omega
    exact link_turn hj (h.1 _ _ e2) (h.1 _ _ e1) (h.2 _ _ _ e2 (by rw [e3]; exact e1))
/-- A Route path stays one with vias left out. -/
theorem route_less {L : Lay} {sg ex : Int} {xs : List Stp} {vs us : List Int} (h : routeN L sg ex xs vs = 0) (hs : us.Sublist vs) : routeN L sg ex xs us = 0 := by
  obtain ⟨ha, n, m, sp, ep, rfl, rfl, h1, h2, hr⟩ := route_zero h
  refine route_yes ⟨ha.1, ha.2.1, Nat.le_trans hs.length_le ha.2.2.1, ha.2.2.2.1, fun v hv => ha.2.2.2.2 v (hs.subset hv)⟩ h1 h2 ?_
  exact ⟨hr.1, hr.2.1, hr.2.2.1, hr.2.2.2.1, through_less hr.2.2.2.2.1 hs, hr.2.2.2.2.2.1, hr.2.2.2.2.2.2⟩
theorem route_goes {L : Lay} {sg ex : Int} {xs : List Stp} {vs : List Int} (h : routeN L sg ex xs vs = 0) : topoR L = true ∧ goesL L xs = true ∧ xs.length ≤ 12 := by
  obtain ⟨ha, n, m, sp, ep, rfl, rfl, h1, h2, hr⟩ := route_zero h
  exact ⟨ha.2.2.2.1, hr.2.2.2.1, hr.1.2⟩
end Go.Proofs.YtpcojaoeahdgcaaGreatDoor

/-
  A path, a slice of integers that came in, opened.
-/
namespace Go.Proofs.YtpcojaoeahdgcaaGreatDoor
open Go.RowKit Go.WideShapes Go.ChangeShapes Go.ChangeAt Go.Deep

section
variable {H : Type} {enc : TypeId × Value → H} {w : World} {base : Nat} {spare : Nat → Bool} {held : Bool}
set_option maxRecDepth 100000 in
theorem read_int (fuel : Nat) (cs : List Value) (y : DataW H × List MemPlace) (hl : cs.length = 1) (h : DataW.trod enc Tryz.prog w base spare held fuel 3 cs = some y) : ∃ x : Int, intEnc x = cs ∧ True := by
  have hc := fun o k => kinds_cells (n := 6) (ks := [.i64]) h (by kernel_rfl) o k
  match cs, hl with
  | [c0], _ =>
    obtain ⟨z0, e0, _⟩ := hc 0 _ rfl
    obtain rfl := Option.some.inj e0
    exact ⟨z0, rfl, trivial⟩
set_option maxRecDepth 100000 in
theorem open_path {r : Reach} {b0 : Nat} {v : Value} {d : DataW H} {p : List MemPlace} (hv : Value.okWide Tryz.prog w r b0 32 v) (h : DataW.Trod enc Tryz.prog w base spare held 32 v d p) :
    ∃ (sg ex : Int) (A : Option Addr) (cap : Nat) (xs : List Stp), v = .agg #[.int .i64 sg, .int .i64 ex, .slice A xs.length cap] ∧ At w 3 Stp.enc A xs ∧ xs.length ≤ cap ∧ cap ≤ 9223372036854775807 := by
  obtain ⟨cs, rfl, hsz⟩ := okWide_struct Tryz.underlying32 hv
  obtain ⟨l⟩ := cs
  obtain ⟨fuel, hf⟩ := h
  obtain ⟨xs, n, _, _, _, hxl, hf⟩ := DataW.trod_struct Tryz.underlying32 hf
  match l, hsz.trans (show Tryz.prog.cellsOf 32 = 3 by kernel_rfl) with
  | [c0, c1, c2], _ =>
    have h0 : DataW.trod enc Tryz.prog w base spare held n 3 (List.take (Tryz.prog.cellsOf 3) (List.drop 0 [c0, c1, c2])) = xs[0]? := hf 0 _ rfl
    have h1 : DataW.trod enc Tryz.prog w base spare held n 3 (List.take (Tryz.prog.cellsOf 3) (List.drop 1 [c0, c1, c2])) = xs[1]? := hf 1 _ rfl
    have h2 : DataW.trod enc Tryz.prog w base spare held n 30 (List.take (Tryz.prog.cellsOf 30) (List.drop 2 [c0, c1, c2])) = xs[2]? := hf 2 _ rfl
    have hs : 0 < xs.length ∧ 1 < xs.length ∧ 2 < xs.length := by rw [hxl]; decide
    rw [List.getElem?_eq_getElem hs.1, show Tryz.prog.cellsOf 3 = 1 by kernel_rfl] at h0
    rw [List.getElem?_eq_getElem hs.2.1, show Tryz.prog.cellsOf 3 = 1 by kernel_rfl] at h1
    rw [List.getElem?_eq_getElem hs.2.2, show Tryz.prog.cellsOf 30 = 1 by kernel_rfl] at h2
    obtain ⟨z0, e0, _⟩ := read_int _ _ _ (by simp) h0
    obtain ⟨z1, e1, _⟩ := read_int _ _ _ (by simp) h1
    obtain ⟨A, len, cap, ys, e2, hl2, hlc, hcm, hA, _⟩ := open_rows (k := 3) (encA := Stp.enc) (Good := fun _ => True) Tryz.underlying30 (by kernel_rfl) (by omega) read_step h2
    obtain rfl : c0 = .int .i64 z0 := by simpa [intEnc] using e0.symm
    obtain rfl : c1 = .int .i64 z1 := by simpa [intEnc] using e1.symm
    obtain rfl : c2 = .slice A len cap := by simpa using e2
    subst hl2
    exact ⟨z0, z1, A, cap, ys, rfl, hA, hlc, hcm⟩
set_option maxRecDepth 100000 in
theorem open_intsV {r : Reach} {b0 : Nat} {v : Value} {d : DataW H} {p : List MemPlace} (hv : Value.okWide Tryz.prog w r b0 33 v) (h : DataW.Trod enc Tryz.prog w base spare held 33 v d p) :
    ∃ (A : Option Addr) (cap : Nat) (vs : List Int), v = .slice A vs.length cap ∧ At w 1 intEnc A vs ∧ vs.length ≤ cap ∧ cap ≤ 9223372036854775807 := by
  obtain ⟨a, len0, cap0, rfl⟩ := okWide_slice Tryz.underlying33 hv
  obtain ⟨fuel, hf⟩ := h
  obtain ⟨A, len, cap, ys, e2, hl2, hlc, hcm, hA, _⟩ := open_rows (k := 1) (encA := intEnc) (Good := fun _ => True) Tryz.underlying33 (by kernel_rfl) (by omega) read_int hf
  subst hl2
  exact ⟨A, cap, ys, by simpa [Value.cells] using e2, hA, hlc, hcm⟩
end
end Go.Proofs.YtpcojaoeahdgcaaGreatDoor

/-
  What the three listed variables (port.kinds, port.none, join.end) hold, out of the rows' condition; parameters of one kind each, opened.
-/
namespace Go.Proofs.YtpcojaoeahdgcaaGreatDoor
open Go.RowKit Go.WideShapes Go.ChangeShapes Go.ChangeAt Go.WideMaps Go.WideElems Go.Joins Go.Deep

theorem ownP : ownKnob Tryz.prog.godebug = none := by kernel_rfl
theorem laidP : laidOutB Tryz.prog = true := by kernel_rfl
abbrev laidL : List (String × DataW Unit) := [("lockbar/port.kinds", Rows.laid_lockbar_port_kinds), ("lockbar/port.none", Rows.laid_lockbar_port_none), ("lockbar/join.end", Rows.laid_lockbar_join_end)]
theorem gKinds : Tryz.prog.globalNamed "lockbar/port.kinds" = some 2 := by kernel_rfl
theorem gNone : Tryz.prog.globalNamed "lockbar/port.none" = some 1 := by kernel_rfl
theorem gEnd : Tryz.prog.globalNamed "lockbar/join.end" = some 0 := by kernel_rfl
theorem tEnd : (Tryz.prog.globals[0]?).map (·.type) = some 49 := by kernel_rfl
theorem tKinds : (Tryz.prog.globals[2]?).map (·.type) = some 135 := by kernel_rfl
theorem tNone : (Tryz.prog.globals[1]?).map (·.type) = some 49 := by kernel_rfl

theorem leafs_none_all : (List.range 2).map (leaf (H := Unit) Tryz.prog 4 49 Rows.laid_lockbar_port_none) = (List.range 2).map (fun o => noneL[o]?) := by kernel_rfl
theorem leafs_kinds_all : (List.range 28).map (leaf (H := Unit) Tryz.prog 6 135 Rows.laid_lockbar_port_kinds) = (List.range 28).map (fun o => kindL[o]?) := by kernel_rfl
theorem leafs_end_all : (List.range 2).map (leaf (H := Unit) Tryz.prog 4 49 Rows.laid_lockbar_join_end) = (List.range 2).map (fun o => noneL[o]?) := by kernel_rfl
theorem leafs_end (o : Nat) (ho : o < 2) : leaf (H := Unit) Tryz.prog 4 49 Rows.laid_lockbar_join_end o = noneL[o]? := by
  have h := congrArg (fun l => l[o]?) leafs_end_all
  simp only [List.getElem?_map, List.getElem?_range ho, Option.map_some, Option.some.injEq] at h
  exact h
theorem leafs_none (o : Nat) (ho : o < 2) : leaf (H := Unit) Tryz.prog 4 49 Rows.laid_lockbar_port_none o = noneL[o]? := by
  have h := congrArg (fun l => l[o]?) leafs_none_all
  simp only [List.getElem?_map, List.getElem?_range ho, Option.map_some, Option.some.injEq] at h
  exact h
theorem leafs_kinds (o : Nat) (ho : o < 28) : leaf (H := Unit) Tryz.prog 6 135 Rows.laid_lockbar_port_kinds o = kindL[o]? := by
  have h := congrArg (fun l => l[o]?) leafs_kinds_all
  simp only [List.getElem?_map, List.getElem?_range ho, Option.map_some, Option.some.injEq] at h
  exact h

theorem kinds_of_laid {W : World} (h : laidMetH Tryz.prog laidL W) : Kinds W ∧ JEnd W := by
  rw [MakeChecks.laidMetH_plain _ _ _ (by kernel_rfl)] at h
  obtain ⟨ps, ⟨g0, t0, cs0, f0, p0, q0, hg0, ht0, hv0, hd0, ⟨g1, t1, cs1, f1, p1, q1, hg1, ht1, hv1, hd1, ⟨g2, t2, cs2, f2, p2, q2, hg2, ht2, hv2, hd2, _, _⟩, _⟩, _⟩, _, _⟩ := h
  obtain rfl := Option.some.inj (gKinds.symm.trans hg0)
  obtain rfl := Option.some.inj (gNone.symm.trans hg1)
  obtain rfl := Option.some.inj (gEnd.symm.trans hg2)
  obtain rfl := Option.some.inj (tKinds.symm.trans ht0)
  obtain rfl := Option.some.inj (tNone.symm.trans ht1)
  obtain rfl := Option.some.inj (tEnd.symm.trans ht2)
  have he : ∀ (o : Nat) (v : Value), noneL[o]? = some v → W.cell? ⟨0, o, none⟩ = some v := fun o v hv => by
    have h2 := leaf_cell 4 hd2 ((leafs_end o (List.getElem?_eq_some_iff.1 hv).1).trans hv)
    have := World.var?_cell hg2 hv2 o
    rw [this]
    simpa using h2
  refine ⟨⟨fun o v hv => ?_, fun o v hv => ?_⟩, he 0 _ rfl, he 1 _ rfl⟩
  · have h2 := leaf_cell 4 hd1 ((leafs_none o (List.getElem?_eq_some_iff.1 hv).1).trans hv)
    have := World.var?_cell hg1 hv1 o
    rw [this]
    simpa using h2
  · have h2 := leaf_cell 6 hd0 ((leafs_kinds o (List.getElem?_eq_some_iff.1 hv).1).trans hv)
    have := World.var?_cell hg0 hv0 o
    rw [this]
    simpa using h2

/-- The door's own heap meets the condition: three closed facts. -/
theorem door_met (os : Os) (args : Array Value) : laidMetH Tryz.prog laidL ((World.doorLaid Tryz.prog 400 os).forCall (fun _ _ => 0) ⟨#[], args, []⟩).memory :=
  laidMetH_of_parts3 (fuel := 8) (laidMet_of_run' 8 (by kernel_rfl) (by kernel_rfl)) (by kernel_rfl) (by kernel_rfl)

set_option maxRecDepth 100000 in
theorem open_port {H : Type} {enc : TypeId × Value → H} {w : World} {base : Nat} {spare : Nat → Bool} {held : Bool} {r : Reach} {b0 : Nat} {v : Value} {d : DataW H} {p : List MemPlace}
    (hv : Value.okWide Tryz.prog w r b0 49 v) (h : DataW.Trod enc Tryz.prog w base spare held 49 v d p) : ∃ x0 x1, v = .agg #[.int .i64 x0, .int .i64 x1] := by
  obtain ⟨cs, rfl, hsz⟩ := okWide_struct Tryz.underlying49 hv
  obtain ⟨l⟩ := cs
  obtain ⟨fuel, hf⟩ := h
  have hc := fun o k => kinds_cells (n := 6) (ks := [.i64, .i64]) hf (by kernel_rfl) o k
  match l, hsz.trans (show Tryz.prog.cellsOf 49 = 2 by kernel_rfl) with
  | [c0, c1], _ =>
    obtain ⟨z0, e0, _⟩ := hc 0 _ rfl
    obtain ⟨z1, e1, _⟩ := hc 1 _ rfl
    obtain rfl := Option.some.inj e0
    obtain rfl := Option.some.inj e1
    exact ⟨z0, z1, rfl⟩
set_option maxRecDepth 100000 in
theorem open_step {H : Type} {enc : TypeId × Value → H} {w : World} {base : Nat} {spare : Nat → Bool} {held : Bool} {r : Reach} {b0 : Nat} {v : Value} {d : DataW H} {p : List MemPlace}
    (hv : Value.okWide Tryz.prog w r b0 47 v) (h : DataW.Trod enc Tryz.prog w base spare held 47 v d p) : ∃ x0 x1 x2, v = .agg #[.int .i64 x0, .int .i64 x1, .int .i64 x2] := by
  obtain ⟨cs, rfl, hsz⟩ := okWide_struct Tryz.underlying47 hv
  obtain ⟨l⟩ := cs
  obtain ⟨fuel, hf⟩ := h
  have hc := fun o k => kinds_cells (n := 6) (ks := [.i64, .i64, .i64]) hf (by kernel_rfl) o k
  match l, hsz.trans (show Tryz.prog.cellsOf 47 = 3 by kernel_rfl) with
  | [c0, c1, c2], _ =>
    obtain ⟨z0, e0, _⟩ := hc 0 _ rfl
    obtain ⟨z1, e1, _⟩ := hc 1 _ rfl
    obtain ⟨z2, e2, _⟩ := hc 2 _ rfl
    obtain rfl := Option.some.inj e0
    obtain rfl := Option.some.inj e1
    obtain rfl := Option.some.inj e2
    exact ⟨z0, z1, z2, rfl⟩
end Go.Proofs.YtpcojaoeahdgcaaGreatDoor

/-
  The walk of RoutePath.
-/
namespace Go.Proofs.YtpcojaoeahdgcaaGreatDoor
open Go.RowKit Go.Shelf
attribute [local go_sem ↓ high] eqQ_portI

theorem eat_step {vs : List Int} {xs : List Stp} {i j : Nat} {x : Stp} (h : eat vs (xs.take i) = vs.drop j) (hx : xs[i]? = some x) : (∀ v, vs[j]? = some v → x.s = v → eat vs (xs.take (i + 1)) = vs.drop (j + 1)) ∧ ((∀ v, vs[j]? = some v → x.s ≠ v) → eat vs (xs.take (i + 1)) = vs.drop j) := by
  rw [eat_take hx, h]
  unfold eat1
  rw [List.head?_drop]
  refine ⟨fun v hv hs => ?_, fun hn => ?_⟩
  · rw [if_pos (by rw [hv, hs]), List.tail_drop]
  · rw [if_neg (fun he => hn x.s he rfl)]
end Go.Proofs.YtpcojaoeahdgcaaGreatDoor

/-
  lockbarref11.Steps, Same, simple, Through.
-/
namespace Go.Proofs.YtpcojaoeahdgcaaGreatDoor
open Go.RowKit Go.Shelf
section
attribute [local go_sem ↓ high] eqQ_step
theorem ne_at {α : Type} {xs ys : List α} {n : Nat} {x y : α} (hx : xs[n]? = some x) (hy : ys[n]? = some y) (h : x ≠ y) : xs ≠ ys := fun e => h (by rw [e, hy] at hx; exact (Option.some.inj hx).symm)
theorem eq_all {α : Type} {xs ys : List α} (hl : xs.length = ys.length) (h : ∀ (j : Nat) (x y : α), j < xs.length → xs[j]? = some x → ys[j]? = some y → x = y) : xs = ys := by
  refine eq_of_all hl fun j hj => ?_
  rw [List.getElem?_eq_getElem hj, List.getElem?_eq_getElem (by omega)]
  congr 1
  exact h j _ _ hj (List.getElem?_eq_getElem hj) (List.getElem?_eq_getElem (by omega))

set_option maxRecDepth 100000 in
set_option maxHeartbeats 8000000 in
theorem rSteps11_any (A A' : Option Addr) (cap cap' : Nat) (xs ys : List Stp) (w : World) (hA : At w 3 Stp.enc A xs) (hA' : At w 3 Stp.enc A' ys) (hm : xs.length ≤ 9223372036854775807) :
    Calls Tryz.prog 37 #[.slice A xs.length cap, .slice A' ys.length cap'] w fun e w' => e = .returned (.bool (decide (xs = ys))) ∧ Below w.heap.size w w' := by
  obtain ⟨r, hr⟩ : ∃ r, r = decide (xs = ys) := ⟨_, rfl⟩
  rw [← hr]
  have hf : xs ≠ ys → r = false := fun h => hr.trans (decide_eq_false h)
  have ht : xs = ys → r = true := fun h => hr.trans (decide_eq_true h)
  have HF := Lib.hid hf
  have HT := Lib.hid ht
  have HA := Lib.hid hA
  have HA' := Lib.hid hA'
  clear hr hf ht hA hA'
  by_cases hl : xs.length = ys.length
  · have HLE := Lib.hid hl
    have d0 : ((xs.length : Int) == (ys.length : Int)) = true := by simp; omega
    have d1 : ((xs.length : Int) != (ys.length : Int)) = false := by simp; omega
    have hl' : ys.length ≤ xs.length ∧ xs.length ≤ ys.length := by omega
    obtain ⟨hl1, hl2⟩ := hl'
    clear hl
    go_enter Tryz.func37, Tryz.ntmps37
    go_wp2_with fail
    go_loopw [5] (fun c wr => ∃ n : Nat, n ≤ xs.length ∧ c = .int .i64 n ∧ Hid (∀ (j : Nat) (x y : Stp), j < n → xs[j]? = some x → ys[j]? = some y → x = y) ∧ Hid (Below w.heap.size w wr)) (fun c _ => xs.length - (intOf c).toNat)
    case atStart => exact ⟨0, by omega, rfl, Lib.hid (fun j x y hj => absurd hj (Nat.not_lt_zero _)), Lib.hid (Below.refl _ _)⟩
    case round =>
      obtain ⟨n, hn, rfl, HJ, HB⟩ := hrel
      obtain ⟨V, rfl⟩ : ∃ V : World, V = wr := ⟨_, rfl⟩
      by_cases hlt : n < xs.length
      · obtain ⟨b, off, hAe, hrow⟩ := HA.out.get hlt
        obtain ⟨b2, off2, hAe2, hrow2⟩ := HA'.out.get (j := n) (by omega)
        subst hAe hAe2
        obtain ⟨x, hx⟩ : ∃ x, xs[n]? = some x := ⟨xs[n], List.getElem?_eq_getElem hlt⟩
        obtain ⟨y, hy⟩ : ∃ y, ys[n]? = some y := ⟨ys[n]'(by omega), List.getElem?_eq_getElem (by omega)⟩
        have c0 : V.cell? ⟨b, off + n * 3, none⟩ = some (.int .i64 x.s) := (hrow.below HB.out).2 n x hx 0 _ rfl
        have c1 : V.cell? ⟨b, off + n * 3 + 1, none⟩ = some (.int .i64 x.i) := (hrow.below HB.out).2 n x hx 1 _ rfl
        have c2 : V.cell? ⟨b, off + n * 3 + 2, none⟩ = some (.int .i64 x.o) := (hrow.below HB.out).2 n x hx 2 _ rfl
        have e0 : V.cell? ⟨b2, off2 + n * 3, none⟩ = some (.int .i64 y.s) := (hrow2.below HB.out).2 n y hy 0 _ rfl
        have e1 : V.cell? ⟨b2, off2 + n * 3 + 1, none⟩ = some (.int .i64 y.i) := (hrow2.below HB.out).2 n y hy 1 _ rfl
        have e2 : V.cell? ⟨b2, off2 + n * 3 + 2, none⟩ = some (.int .i64 y.o) := (hrow2.below HB.out).2 n y hy 2 _ rfl
        have lb : b < V.heap.size := (hrow.below HB.out).1
        have lb2 : b2 < V.heap.size := (hrow2.below HB.out).1
        have hlt2 : n < ys.length := by omega
        have next : x = y → Hid (∀ (j : Nat) (x y : Stp), j < n + 1 → xs[j]? = some x → ys[j]? = some y → x = y) := fun h => Lib.hid fun j x' y' hj hx' hy' => by
          by_cases e : j = n
          · subst e
            rw [hx] at hx'
            rw [hy] at hy'
            cases hx'
            cases hy'
            exact h
          · exact HJ.out j x' y' (by omega) hx' hy'
        have hne : x ≠ y → r = false := fun h => HF.out (ne_at hx hy h)
        have hq : ∃ q, decide (x = y) = q ∧ (q = true → x = y) ∧ (q = false → x ≠ y) := ⟨_, rfl, of_decide_eq_true, of_decide_eq_false⟩
        obtain ⟨q, hq1, hq2, hq3⟩ := hq
        have HQ := Lib.hid (⟨hq2, hq3⟩ : _ ∧ _)
        have NX := Lib.hid next
        have HNE := Lib.hid hne
        clear next hne hx hy hrow hrow2 hq2 hq3
        cases q
        · obtain rfl := HNE.out (HQ.out.2 rfl)
          go_wp2_with fail
          refine wp_region_ext (by kernel_rfl) (by kernel_rfl) fun hx => ?_
          repeat (go_big_quiet_step (fail))
          refine wpQuiet_nil ?_
          intro w5 b5
          go_wp2
          go_ret
          exact ⟨rfl, bchain HB.out b5⟩
        · go_wp2_with fail
          refine wp_region_ext (by kernel_rfl) (by kernel_rfl) fun hx => ?_
          repeat (go_big_quiet_step (fail))
          refine wpQuiet_nil ?_
          intro w5 b5
          have HB5 := Lib.hid (bchain HB.out b5)
          clear b5
          go_wp2
          go_roundw
          case rel => exact ⟨n + 1, by omega, by go_num, NX.out (HQ.out.1 (by simp)), HB5⟩
          case measure => simp [intOf]; omega
      obtain rfl : n = xs.length := by omega
      obtain rfl := HT.out (eq_all HLE.out HJ.out)
      go_wp2
      go_ret
      exact ⟨rfl, HB.out⟩
  · obtain rfl := HF.out (fun e => hl (by rw [e]))
    have hd : ¬ (xs.length : Int) = (ys.length : Int) := by omega
    have hd2 : ((xs.length : Int) == (ys.length : Int)) = false := by simp; omega
    have hd3 : ((xs.length : Int) != (ys.length : Int)) = true := by simp; omega
    go_enter Tryz.func37, Tryz.ntmps37
    go_wp2
    go_ret
    exact ⟨rfl, Below.refl _ _⟩
end
set_option maxRecDepth 100000 in
set_option maxHeartbeats 4000000 in
theorem rSame11_any (sg ex sg' ex' : Int) (A A' : Option Addr) (cap cap' : Nat) (xs ys : List Stp) (w : World) (hA : At w 3 Stp.enc A xs) (hA' : At w 3 Stp.enc A' ys) (hm : xs.length ≤ 9223372036854775807) :
    Calls Tryz.prog 14 #[.agg #[.int .i64 sg, .int .i64 ex, .slice A xs.length cap], .agg #[.int .i64 sg', .int .i64 ex', .slice A' ys.length cap']] w fun e w' => e = .returned (.bool (decide (sg = sg' ∧ ex = ex' ∧ xs = ys))) ∧ Below w.heap.size w w' := by
  have hB : Below w.heap.size w ((w.alloc (.cells #[.int .i64 sg, .int .i64 ex, .slice A xs.length cap] 32)).alloc (.cells #[.int .i64 sg', .int .i64 ex', .slice A' ys.length cap'] 32)) := bchain bself bself
  have hq := rSteps11_any A A' cap cap' xs ys _ (hA.below hB) (hA'.below hB) hm
  have HB := Lib.hid hB
  clear hA hA' hB hm
  by_cases h0 : sg = sg'
  · subst h0
    by_cases h1 : ex = ex'
    · subst h1
      have e : decide (sg = sg ∧ ex = ex ∧ xs = ys) = decide (xs = ys) := by simp
      rw [e]
      generalize decide (xs = ys) = r at hq ⊢
      have HQ := Lib.hid hq
      clear hq e
      go_enter Tryz.func14, Tryz.ntmps14
      go_wp2_with fail
      (with_reducible refine HQ.out.mono ?_)
      rintro e w1 ⟨rfl, b1⟩
      have B1 := Lib.hid (bchain HB.out b1)
      clear b1
      go_wp2
      go_ret
      exact ⟨rfl, B1.out⟩
    · have d1 : (ex == ex') = false := by simpa using h1
      have e : decide (sg = sg ∧ ex = ex' ∧ xs = ys) = false := decide_eq_false fun h => h1 h.2.1
      rw [e]
      clear hq e h1
      go_enter Tryz.func14, Tryz.ntmps14
      go_wp2
      go_ret
      exact ⟨rfl, HB.out⟩
  · have d0 : (sg == sg') = false := by simpa using h0
    have e : decide (sg = sg' ∧ ex = ex' ∧ xs = ys) = false := decide_eq_false fun h => h0 h.1
    rw [e]
    clear hq e h0
    go_enter Tryz.func14, Tryz.ntmps14
    go_wp2
    go_ret
    exact ⟨rfl, HB.out⟩

set_option maxRecDepth 100000 in
set_option maxHeartbeats 8000000 in
theorem rSimple_any (A B : Option Addr) (ca cb : Nat) (xs ys : List Stp) (w : World) (hA : At w 3 Stp.enc A xs) (hB : At w 3 Stp.enc B ys) (hx : xs.length ≤ 9223372036854775807) (hy : ys.length ≤ 9223372036854775807) :
    Calls Tryz.prog 29 #[.slice A xs.length ca, .slice B ys.length cb] w fun e w' => e = .returned (.bool (simpleL xs ys)) ∧ Below w.heap.size w w' := by
  obtain ⟨r, hr⟩ : ∃ r, r = simpleL xs ys := ⟨_, rfl⟩
  rw [← hr]
  have hr1 : ∀ (k : Nat) (x : Stp) (i : Nat) (y : Stp), xs[k]? = some x → xs[i]? = some y → i < k → y.s = x.s → r = false := fun k x i y h1 h2 h3 h4 => hr.trans (decide_eq_false fun h => (nodup_iff xs).1 h.1 k x h1 i y h3 h2 h4)
  have hr2 : ∀ (x y : Stp), x ∈ xs → y ∈ ys → y.s = x.s → r = false := fun x y h1 h2 h3 => hr.trans (decide_eq_false fun h => h.2 x h1 y h2 h3)
  have hr3 : (∀ (k : Nat) (x : Stp), k < xs.length → xs[k]? = some x → (∀ (i : Nat) (y : Stp), i < k → xs[i]? = some y → y.s ≠ x.s) ∧ ∀ y ∈ ys, y.s ≠ x.s) → r = true := fun h => hr.trans (decide_eq_true ⟨(nodup_iff xs).2 fun k x h1 j y h2 h3 => (h k x (List.getElem?_eq_some_iff.1 h1).1 h1).1 j y h2 h3, fun x h1 y h2 => by
    obtain ⟨k, hk, rfl⟩ := List.mem_iff_getElem.1 h1
    exact (h k _ hk (List.getElem?_eq_getElem hk)).2 y h2⟩)
  obtain ⟨n, hn⟩ : ∃ n, n = xs.length := ⟨_, rfl⟩
  obtain ⟨m, hm⟩ : ∃ m, m = ys.length := ⟨_, rfl⟩
  rw [← hn] at hx hr3
  rw [← hm] at hy
  rw [← hn, ← hm]
  have HR := Lib.hid (⟨hr1, hr2, hr3⟩ : _ ∧ _ ∧ _)
  have HA := Lib.hid (⟨hA, hB, hn, hm⟩ : _ ∧ _ ∧ _ ∧ _)
  clear hr hr1 hr2 hr3 hA hB hn hm
  go_enter Tryz.func29, Tryz.ntmps29
  go_wp2_with fail
  go_loopw [5] (fun c wv => ∃ k : Nat, k ≤ n ∧ c = .int .i64 k ∧ Hid (Below w.heap.size w wv) ∧ Hid (∀ (j : Nat) (x : Stp), j < k → xs[j]? = some x → (∀ (i : Nat) (y : Stp), i < j → xs[i]? = some y → y.s ≠ x.s) ∧ ∀ y ∈ ys, y.s ≠ x.s)) (fun c _ => n - (intOf c).toNat)
  case atStart => exact ⟨0, Nat.zero_le _, rfl, Lib.hid (Below.refl _ _), Lib.hid (fun j x hj => absurd hj (Nat.not_lt_zero _))⟩
  case round =>
    obtain ⟨k, hk, rfl, HB, HJ⟩ := hrel
    obtain ⟨ww, hww⟩ : ∃ ww, ww = wr := ⟨_, rfl⟩
    subst hww
    by_cases hlt : k < n
    case neg =>
      obtain rfl : k = n := by omega
      obtain rfl : r = true := HR.out.2.2 fun j x hj h => HJ.out j x hj h
      go_wp2
      go_ret
      exact ⟨rfl, HB.out⟩
    obtain ⟨b, off, hAe, hrow⟩ := HA.out.1.get (j := k) (by rw [← HA.out.2.2.1]; exact hlt)
    subst hAe
    obtain ⟨x, hx0⟩ : ∃ x, xs[k]? = some x := ⟨_, List.getElem?_eq_getElem (by rw [← HA.out.2.2.1]; exact hlt)⟩
    have HX := Lib.hid (⟨hx0, hrow⟩ : _ ∧ _)
    obtain ⟨xa, xb, xc⟩ := x
    have x0 : ∀ V, ClB w V → V.cell? ⟨b, off + k * 3, none⟩ = some (.int .i64 xa) := fun V h => (h.cell (p := ⟨b, off + k * 3, none⟩) hrow.1).trans (hrow.2 k _ hx0 0 _ rfl)
    have HX0 := Lib.hid x0
    clear hrow hx0 x0
    have mk : k ≤ 9223372036854775807 := by omega
    go_wp2_with fail
    go_loopw [6] (fun c wv => ∃ i : Nat, i ≤ k ∧ c = .int .i64 i ∧ Hid (Below w.heap.size w wv) ∧ Hid (∀ (j : Nat) (y : Stp), j < i → xs[j]? = some y → y.s ≠ xa)) (fun c _ => k - (intOf c).toNat)
    case atStart => exact ⟨0, Nat.zero_le _, rfl, HB, Lib.hid (fun j y hj => absurd hj (Nat.not_lt_zero _))⟩
    case round =>
    obtain ⟨i, hi, rfl, HBi, HI⟩ := hrel
    obtain ⟨wi, hwi⟩ : ∃ wi, wi = wr := ⟨_, rfl⟩
    subst hwi
    have x0 := HX0.out wi HBi.out
    have lb := Nat.lt_of_lt_of_le HX.out.2.1 HBi.out.size
    by_cases hik : i < k
    case pos =>
      obtain ⟨y, hy0⟩ : ∃ y, xs[i]? = some y := ⟨_, List.getElem?_eq_getElem (by rw [← HA.out.2.2.1]; omega)⟩
      have y0' := (HBi.out.cell (p := ⟨b, off + i * 3, none⟩) HX.out.2.1).trans (HX.out.2.2 i _ hy0 0 _ rfl)
      obtain ⟨ya, yb, yc⟩ := y
      dsimp only at y0'
      have hin : i < n := by omega
      by_cases he : ya = xa
      · subst he
        obtain rfl : r = false := HR.out.1 k _ i _ HX.out.1 hy0 hik rfl
        clear hy0
        go_wp2_with fail
        go_region
        go_wp2
        go_ret
        exact ⟨rfl, HBi.out.drew⟩
      · have f1 : (ya == xa) = false := by simpa using he
        have f2 : decide (ya = xa) = false := decide_eq_false he
        have HE := Lib.hid (⟨hy0, he⟩ : _ ∧ _)
        clear hy0 he
        go_wp2_with fail
        go_region
        go_wp2
        go_roundw
        case rel => exact ⟨i + 1, by omega, by go_num, Lib.hid HBi.out.drew, Lib.hid (fun j y hj h => by
          by_cases e : j = i
          · subst e
            rw [HE.out.1] at h
            cases h
            exact HE.out.2
          · exact HI.out j y (by omega) h)⟩
        case measure => simp [intOf]; omega
    obtain rfl : i = k := by omega
    clear x0 lb
    go_wp2_with fail
    go_loopw [7] (fun c wv => ∃ j : Nat, j ≤ m ∧ c = .int .i64 j ∧ Hid (Below w.heap.size w wv) ∧ Hid (∀ (l : Nat) (y : Stp), l < j → ys[l]? = some y → y.s ≠ xa)) (fun c _ => m - (intOf c).toNat)
    case atStart => exact ⟨0, Nat.zero_le _, rfl, HBi, Lib.hid (fun j y hj => absurd hj (Nat.not_lt_zero _))⟩
    case round =>
    obtain ⟨j, hj, rfl, HBj, HL⟩ := hrel
    obtain ⟨wj, hwj⟩ : ∃ wj, wj = wr := ⟨_, rfl⟩
    subst hwj
    have x0 := HX0.out wj HBj.out
    have lb := Nat.lt_of_lt_of_le HX.out.2.1 HBj.out.size
    by_cases hjm : j < m
    case pos =>
      obtain ⟨b2, off2, hBe, hrow2⟩ := HA.out.2.1.get (j := j) (by rw [← HA.out.2.2.2]; exact hjm)
      subst hBe
      obtain ⟨y, hy0⟩ : ∃ y, ys[j]? = some y := ⟨_, List.getElem?_eq_getElem (by rw [← HA.out.2.2.2]; exact hjm)⟩
      have y0' := (HBj.out.cell (p := ⟨b2, off2 + j * 3, none⟩) hrow2.1).trans (hrow2.2 j _ hy0 0 _ rfl)
      have lb2 := Nat.lt_of_lt_of_le hrow2.1 HBj.out.size
      obtain ⟨ya, yb, yc⟩ := y
      dsimp only at y0'
      clear hrow2
      by_cases he : ya = xa
      · subst he
        obtain rfl : r = false := HR.out.2.1 _ _ (List.mem_of_getElem? HX.out.1) (List.mem_of_getElem? hy0) rfl
        clear hy0
        go_wp2_with fail
        go_region
        go_wp2
        go_ret
        exact ⟨rfl, HBj.out.drew⟩
      · have f1 : (ya == xa) = false := by simpa using he
        have f2 : decide (ya = xa) = false := decide_eq_false he
        have HE := Lib.hid (⟨hy0, he⟩ : _ ∧ _)
        clear hy0 he
        go_wp2_with fail
        go_region
        go_wp2
        go_roundw
        case rel => exact ⟨j + 1, by omega, by go_num, Lib.hid HBj.out.drew, Lib.hid (fun l y hl h => by
          by_cases e : l = j
          · subst e
            rw [HE.out.1] at h
            cases h
            exact HE.out.2
          · exact HL.out l y (by omega) h)⟩
        case measure => simp [intOf]; omega
    obtain rfl : j = m := by omega
    clear x0 lb
    go_wp2
    go_roundw
    case rel => exact ⟨i + 1, by omega, by go_num, HBj, Lib.hid (fun l x hl h => by
      by_cases e : l = i
      · subst e
        rw [HX.out.1] at h
        cases h
        refine ⟨fun q y hq hy => HI.out q y hq hy, fun y hy => ?_⟩
        obtain ⟨q, hq, rfl⟩ := List.mem_iff_getElem.1 hy
        exact HL.out q _ (by rw [HA.out.2.2.2]; exact hq) (List.getElem?_eq_getElem hq)
      · exact HJ.out l x (by omega) h)⟩
    case measure => simp [intOf]; omega

theorem eat_done {vs : List Int} {xs : List Stp} {k : Nat} (h : eat vs (xs.take k) = []) : throughL vs xs = true := by
  rw [through_sub]
  rw [eat_sub] at h
  exact h.trans ((List.take_sublist k xs).map _)
set_option maxRecDepth 100000 in
set_option maxHeartbeats 8000000 in
theorem rThrough11_any (sg ex : Int) (A V : Option Addr) (cap vcap : Nat) (xs : List Stp) (vs : List Int) (w : World) (hA : At w 3 Stp.enc A xs) (hV : At w 1 intEnc V vs) (hx : xs.length ≤ 9223372036854775807) (hv : vs.length ≤ 9223372036854775807) :
    Calls Tryz.prog 13 #[.agg #[.int .i64 sg, .int .i64 ex, .slice A xs.length cap], .slice V vs.length vcap] w fun e w' => e = .returned (.bool (throughL vs xs)) ∧ Below w.heap.size w w' := by
  obtain ⟨r, hr⟩ : ∃ r, r = throughL vs xs := ⟨_, rfl⟩
  rw [← hr]
  obtain ⟨n, hn⟩ : ∃ n, n = xs.length := ⟨_, rfl⟩
  obtain ⟨m, hm⟩ : ∃ m, m = vs.length := ⟨_, rfl⟩
  rw [← hn] at hx
  rw [← hm] at hv
  rw [← hn, ← hm]
  have HR := Lib.hid hr
  have HA := Lib.hid (⟨hA, hV, hn, hm⟩ : _ ∧ _ ∧ _ ∧ _)
  clear hr hA hV hn hm
  go_enter Tryz.func13, Tryz.ntmps13
  go_wp2_with fail
  obtain ⟨X, hX⟩ : ∃ X, X = w.alloc (.cells #[.int .i64 sg, .int .i64 ex, .slice A n cap] 32) := ⟨_, rfl⟩
  have hB : Below w.heap.size w X := by rw [hX]; exact bself
  have hz : X.cell? ⟨w.heap.size, 2, none⟩ = some (.slice A n cap) := by rw [hX]; simp [go_sem]
  have hsz : w.heap.size < X.heap.size := by rw [hX]; simp
  rw [← hX]
  have HX := Lib.hid (⟨hB, hz, hsz⟩ : _ ∧ _ ∧ _)
  clear hX hB hz hsz
  go_loopw [5, 6] (fun s c wv => ∃ (k i : Nat), k ≤ n ∧ i ≤ m ∧ s = .int .i64 k ∧ c = .int .i64 i ∧ Hid (ClB X wv) ∧ Hid (eat vs (xs.take k) = vs.drop i)) (fun _ c _ => m - (intOf c).toNat)
  case atStart => exact ⟨0, 0, Nat.zero_le _, Nat.zero_le _, rfl, rfl, Lib.hid (Below.refl _ _), Lib.hid (by simp [eat])⟩
  case round =>
    obtain ⟨k0, i, hk0, hi, rfl, rfl, HB0, HE0⟩ := hrel
    obtain ⟨ww, hww⟩ : ∃ ww, ww = wr := ⟨_, rfl⟩
    subst hww
    by_cases him : i < m
    case neg =>
      obtain rfl : i = m := by omega
      obtain rfl : r = true := HR.out.trans (eat_done (k := k0) (by rw [HE0.out, HA.out.2.2.2, List.drop_length]))
      go_wp2
      go_ret
      exact ⟨rfl, bchain HX.out.1 HB0.out⟩
    obtain ⟨vb, voff, hVe, hvrow⟩ := HA.out.2.1.get (j := i) (by rw [← HA.out.2.2.2]; exact him)
    subst hVe
    obtain ⟨v, hvv⟩ : ∃ v, vs[i]? = some v := ⟨_, List.getElem?_eq_getElem (by rw [← HA.out.2.2.2]; exact him)⟩
    have HV := Lib.hid (⟨hvv, hvrow⟩ : _ ∧ _)
    have hv0 : ∀ W, ClB X W → W.cell? ⟨vb, voff + i, none⟩ = some (.int .i64 v) := fun W h => ((bchain HX.out.1 h).cell (p := ⟨vb, voff + i, none⟩) hvrow.1).trans (by simpa using hvrow.2 i v hvv 0 _ rfl)
    have HV0 := Lib.hid hv0
    clear hvrow hvv hv0
    go_wp2_with fail
    go_loopw [5] (fun s wv => ∃ (k : Nat), k ≤ n ∧ s = .int .i64 k ∧ Hid (ClB X wv) ∧ Hid (eat vs (xs.take k) = vs.drop i)) (fun s _ => n - (intOf s).toNat)
    case atStart => exact ⟨k0, hk0, rfl, HB0, HE0⟩
    case round =>
    obtain ⟨k, hk, rfl, HB, HE⟩ := hrel
    obtain ⟨wk, hwk⟩ : ∃ wk, wk = wr := ⟨_, rfl⟩
    subst hwk
    have q2 := (HB.out.cell (p := ⟨w.heap.size, 2, none⟩) HX.out.2.2).trans HX.out.2.1
    have lq := Nat.lt_of_lt_of_le HX.out.2.2 HB.out.size
    by_cases hkn : k < n
    case neg =>
      have f1 : decide ((k : Int) < (n : Int)) = false := decide_eq_false (by omega)
      have f2 : decide ((n : Int) ≤ (k : Int)) = true := decide_eq_true (by omega)
      have f3 : decide (n ≤ k) = true := decide_eq_true (by omega)
      obtain rfl : r = false := by
        have h1 := HE.out
        rw [List.take_of_length_le (by rw [← HA.out.2.2.1]; omega)] at h1
        rw [HR.out]
        unfold throughL
        rw [h1, List.length_drop, ← HA.out.2.2.2]
        exact decide_eq_false (by omega)
      go_wp2_with fail
      go_region
      clear q2 lq
      have q2 := ((bchain HB.out (Below.refl _ _).drew).cell (p := ⟨w.heap.size, 2, none⟩) HX.out.2.2).trans HX.out.2.1
      have lq := Nat.lt_of_lt_of_le HX.out.2.2 HB.out.size
      go_wp2
      go_ret
      exact ⟨rfl, (bchain HX.out.1 HB.out).drew⟩
    have f1 : decide ((k : Int) < (n : Int)) = true := decide_eq_true (by omega)
    have v0 := HV0.out wk HB.out
    have lvb := Nat.lt_of_lt_of_le HV.out.2.1 (bchain HX.out.1 HB.out).size
    obtain ⟨b, off, hAe, hrow⟩ := HA.out.1.get (j := k) (by rw [← HA.out.2.2.1]; exact hkn)
    subst hAe
    obtain ⟨x, hx0⟩ : ∃ x, xs[k]? = some x := ⟨_, List.getElem?_eq_getElem (by rw [← HA.out.2.2.1]; exact hkn)⟩
    have hes := eat_step HE.out hx0
    obtain ⟨xa, xb, xc⟩ := x
    have x0 : wk.cell? ⟨b, off + k * 3, none⟩ = some (.int .i64 xa) := ((bchain HX.out.1 HB.out).cell (p := ⟨b, off + k * 3, none⟩) hrow.1).trans (hrow.2 k _ hx0 0 _ rfl)
    have lb := Nat.lt_of_lt_of_le hrow.1 (bchain HX.out.1 HB.out).size
    have HES := Lib.hid hes
    clear hes hx0 hrow
    by_cases he : xa = v
    · subst he
      have hnx := HES.out.1 xa HV.out.1 rfl
      have HNX := Lib.hid hnx
      have f2 : decide ((n : Int) ≤ (k : Int)) = false := decide_eq_false (by omega)
      have f3 : decide (n ≤ k) = false := decide_eq_false (by omega)
      clear hnx
      go_wp2_with fail
      go_region
      clear q2 lq v0 lvb x0 lb
      have q2 := ((bchain HB.out (Below.refl _ _).drew).cell (p := ⟨w.heap.size, 2, none⟩) HX.out.2.2).trans HX.out.2.1
      have lq := Nat.lt_of_lt_of_le HX.out.2.2 HB.out.size
      go_wp2
      go_roundw
      case rel => exact ⟨k + 1, i + 1, by omega, by omega, by go_num, by go_num, Lib.hid (HB.out.step (Below.refl _ _).drew), HNX⟩
      case measure => simp [intOf]; omega
    · have hnx := HES.out.2 (fun v' hv' => by
        rw [HV.out.1] at hv'
        cases hv'
        exact he)
      have HNX := Lib.hid hnx
      have f2 : (xa == v) = false := by simpa using he
      have f3 : decide (xa = v) = false := decide_eq_false he
      clear hnx
      go_wp2_with fail
      go_region
      go_wp2
      go_roundw
      case rel => exact ⟨k + 1, by omega, by go_num, Lib.hid (HB.out.step (Below.refl _ _).drew), HNX⟩
      case measure => simp [intOf]; omega
end Go.Proofs.YtpcojaoeahdgcaaGreatDoor

/-
  lockbarref11.Goes.
-/
namespace Go.Proofs.YtpcojaoeahdgcaaGreatDoor
open Go.RowKit Go.Shelf

set_option maxRecDepth 100000 in
set_option maxHeartbeats 16000000 in
theorem rGoes11_any (L : Lay) (P : Where) (A : Option Addr) (cap : Nat) (xs : List Stp) (w : World) (hL : LayAt w P L) (hA : At w 3 Stp.enc A xs) (hm : xs.length ≤ 9223372036854775807) :
    Calls Tryz.prog 11 #[L.val P, .slice A xs.length cap] w fun e w' => e = .returned (.bool (goesL L xs)) ∧ Below w.heap.size w w' := by
  obtain ⟨r, hr⟩ : ∃ r, r = goesL L xs := ⟨_, rfl⟩
  have hr1 : ∀ (k : Nat) (x : Stp), xs[k]? = some x → stepOk L x = false → r = false := fun k x h1 h2 => hr.trans (goes_no h1 h2)
  have hr2 : ∀ (k : Nat) (x y : Stp), xs[k]? = some x → xs[k + 1]? = some y → linkB L x y = false → r = false := fun k x y h1 h2 h3 => hr.trans (goes_un h1 h2 h3)
  have hr3 : (∀ (k : Nat) (x : Stp), k < xs.length → xs[k]? = some x → stepOk L x = true) → (∀ (k : Nat) (x y : Stp), k + 1 < xs.length → xs[k]? = some x → xs[k + 1]? = some y → linkB L x y = true) → r = true := fun h1 h2 => hr.trans ((goes_iff L xs).2 ⟨fun k x hx => h1 k x (List.getElem?_eq_some_iff.1 hx).1 hx, fun k x y hx hy => h2 k x y (List.getElem?_eq_some_iff.1 hy).1 hx hy⟩)
  rw [← hr]
  obtain ⟨n, hn⟩ : ∃ n, n = xs.length := ⟨_, rfl⟩
  rw [← hn] at hm hr3
  rw [← hn]
  have hst := fun s i o X (hX : Below w.heap.size w X) => rStep_any L P s i o X (hL.below hX)
  have hby := fun s q X (hX : Below w.heap.size w X) => rBey_any L P s q X (hL.below hX)
  obtain ⟨a0, a1, a2, a3, p0, p1, p2, p3⟩ := P
  unfold Lay.val at hst hby ⊢
  have HR := Lib.hid (⟨hr1, hr2, hr3⟩ : _ ∧ _ ∧ _)
  have HSTA := Lib.hid hst
  have HBYA := Lib.hid hby
  have HA := Lib.hid (⟨hA, hn⟩ : _ ∧ _)
  clear hr hr1 hr2 hr3 hst hby hA hn hL
  go_enter Tryz.func11, Tryz.ntmps11
  go_wp2_with fail
  obtain ⟨X, hX⟩ : ∃ X, X = w.alloc (.cells #[.slice a0 L.secs.length p0, .slice a1 L.sigs.length p1, .slice a2 L.exits.length p2, .slice a3 L.flanks.length p3, .int .i64 L.t0, .int .i64 L.t1, .int .i64 L.t2, .int .i64 L.t3, .int .i64 L.t4, .int .i64 L.t5, .int .i64 L.t6] 29) := ⟨_, rfl⟩
  have hB : Below w.heap.size w X := by rw [hX]; exact bself
  have hBL : BoxL X w.heap.size L ⟨a0, a1, a2, a3, p0, p1, p2, p3⟩ := by rw [hX]; exact BoxL.make (L := L) (p := ⟨a0, a1, a2, a3, p0, p1, p2, p3⟩) _ rfl
  rw [← hX]
  have HX := Lib.hid (⟨hB, hBL⟩ : _ ∧ _)
  clear hX hB hBL
  go_loopw [5] (fun c wv => ∃ k : Nat, k ≤ n ∧ c = .int .i64 k ∧ Hid (ClB X wv) ∧ Hid ((∀ (j : Nat) (x : Stp), j < k → xs[j]? = some x → stepOk L x = true) ∧ True) ∧ Hid (∀ (j : Nat) (x y : Stp), j + 1 < k → xs[j]? = some x → xs[j + 1]? = some y → linkB L x y = true)) (fun c _ => n - (intOf c).toNat)
  case atStart => exact ⟨0, Nat.zero_le _, rfl, Lib.hid (Below.refl _ _), Lib.hid ⟨fun j x hj => absurd hj (Nat.not_lt_zero _), trivial⟩, Lib.hid (fun j x y hj => absurd hj (Nat.not_lt_zero _))⟩
  case round =>
  obtain ⟨k, hk, rfl, HB, HJ, HL⟩ := hrel
  obtain ⟨ww, hww⟩ : ∃ ww, ww = wr := ⟨_, rfl⟩
  subst hww
  by_cases hlt : k < n
  case neg =>
    obtain rfl : k = n := by omega
    obtain rfl : r = true := HR.out.2.2 HJ.out.1 HL.out
    go_wp2
    go_ret
    exact ⟨rfl, bchain HX.out.1 HB.out⟩
  have hkn := hlt
  have hBw := bchain HX.out.1 HB.out
  obtain ⟨b, off, hAe, hrow⟩ := HA.out.1.get (j := k) (by rw [← HA.out.2]; exact hlt)
  subst hAe
  obtain ⟨x, hx0⟩ : ∃ x, xs[k]? = some x := ⟨_, List.getElem?_eq_getElem (by rw [← HA.out.2]; exact hlt)⟩
  have HXX := Lib.hid (⟨hx0, hrow⟩ : _ ∧ _)
  obtain ⟨xa, xb, xc⟩ := x
  have x0 : ∀ V', ClB ww V' → V'.cell? ⟨b, off + k * 3, none⟩ = some (.int .i64 xa) := fun V' h => ((bchain hBw h).cell (p := ⟨b, off + k * 3, none⟩) hrow.1).trans (hrow.2 k _ hx0 0 _ rfl)
  have x1 : ∀ V', ClB ww V' → V'.cell? ⟨b, off + k * 3 + 1, none⟩ = some (.int .i64 xb) := fun V' h => ((bchain hBw h).cell (p := ⟨b, off + k * 3 + 1, none⟩) hrow.1).trans (hrow.2 k _ hx0 1 _ rfl)
  have x2 : ∀ V', ClB ww V' → V'.cell? ⟨b, off + k * 3 + 2, none⟩ = some (.int .i64 xc) := fun V' h => ((bchain hBw h).cell (p := ⟨b, off + k * 3 + 2, none⟩) hrow.1).trans (hrow.2 k _ hx0 2 _ rfl)
  have HBX := Lib.hid (HX.out.2.below HB.out)
  have hst := fun V' (h : ClB ww V') => HSTA.out xa xb xc V' (bchain hBw h)
  have hok : stepOk L ⟨xa, xb, xc⟩ = stepB L xa xb xc := rfl
  obtain ⟨q, hq⟩ : ∃ q, q = stepB L xa xb xc := ⟨_, rfl⟩
  rw [← hq] at hst hok
  generalize stepN L xa xb xc = sn at hst
  have HST := Lib.hid hst
  have HOK0 := Lib.hid hok
  have HBW := Lib.hid hBw
  clear hst hok hrow hx0 hq hBw
  go_upto_region 4 with fail
  cases q with
  | false =>
    obtain rfl : r = false := HR.out.1 k _ HXX.out.1 HOK0.out
    focus
      refine wp_region_rel_below [([(2, none)], none), ([(1, none)], none), ([(5, none)], none), ([(16, some 1), (17, some 0)], none), ([(18, some 0)], none), ([(15, some 4), (19, some 0)], none), ([(20, some 0)], none), ([(14, some 0)], none), ([(14, some 1)], none), ([(21, some 1)], none), ([(22, some 1)], none)] [(0, 7), (1, 6)] (by kernel_rfl) (by kernel_rfl) ?_
      refine ob_det (c := .agg #[.slice a0 L.secs.length p0, .slice a1 L.sigs.length p1, .slice a2 L.exits.length p2, .slice a3 L.flanks.length p3, .int .i64 L.t0, .int .i64 L.t1, .int .i64 L.t2, .int .i64 L.t3, .int .i64 L.t4, .int .i64 L.t5, .int .i64 L.t6]) ?_ ?_
      · intro ρ W hk hC
        simp only [seen, obOp]
        rintro h2
        replace h2 : ρ (.tmp 2) = .pointer (some ⟨w.heap.size, 0, none⟩) := h2.trans rfl
        exact rel_value (runLoad h2 (HBX.out.below hC)) hC
      refine ob_det (c := .slice (some ⟨b, off, none⟩) n cap) ?_ ?_
      · intro ρ W hk hC
        simp only [seen, obOp]
        rintro h1
        replace h1 : ρ (.tmp 1) = .slice (some ⟨b, off, none⟩) n cap := h1.trans rfl
        exact rel_value (by simp [go_sem, h1]) hC
      refine ob_det (c := .int .i64 (k : Nat)) ?_ ?_
      · intro ρ W hk hC
        simp only [seen, obOp]
        rintro h5
        replace h5 : ρ (.tmp 5) = .int .i64 (k : Nat) := h5.trans rfl
        exact rel_value (by simp [go_sem, h5]) hC
      refine ob_det (c := .pointer (some ⟨b, off + k * 3, none⟩)) ?_ ?_
      · intro ρ W hk hC
        simp only [seen, obOp, List.getD_cons_zero, List.getD_cons_succ]
        rintro h16 h17
        exact rel_value (by simp [go_sem, h16, h17, hkn]) hC
      refine ob_det (c := .agg #[.int .i64 xa, .int .i64 xb, .int .i64 xc]) ?_ ?_
      · intro ρ W hk hC
        simp only [seen, obOp, List.getD_cons_zero]
        rintro h18
        exact rel_value (by simp [go_sem, h18, x0 W hC, x1 W hC, x2 W hC]) hC
      refine ob_det (c := .tuple #[.int .i64 sn, .bool false]) ?_ ?_
      · intro ρ W hk hC
        simp only [seen, obOp, List.getD_cons_zero, List.getD_cons_succ]
        rintro h15 h19
        exact rel_call (f := 35) (args := #[.agg #[.slice a0 L.secs.length p0, .slice a1 L.sigs.length p1, .slice a2 L.exits.length p2, .slice a3 L.flanks.length p3, .int .i64 L.t0, .int .i64 L.t1, .int .i64 L.t2, .int .i64 L.t3, .int .i64 L.t4, .int .i64 L.t5, .int .i64 L.t6], .agg #[.int .i64 xa, .int .i64 xb, .int .i64 xc]]) (by simp [go_sem, h15, h19, hk.func]) hC (HST.out W hC)
      refine ob_det (c := .tuple #[.int .i64 sn, .bool false]) ?_ ?_
      · intro ρ W hk hC
        simp only [seen, obOp, List.getD_cons_zero]
        rintro h20
        exact rel_value (by simp [go_sem, h20]) hC
      refine ob_det (c := .int .i64 sn) ?_ ?_
      · intro ρ W hk hC
        simp only [seen, obOp, List.getD_cons_zero]
        rintro h14
        exact rel_value (by simp [go_sem, h14]) hC
      refine ob_det (c := .bool false) ?_ ?_
      · intro ρ W hk hC
        simp only [seen, obOp, List.getD_cons_zero, List.getD_cons_succ]
        rintro h14
        exact rel_value (by simp [go_sem, h14]) hC
      refine ob_det (c := .int .i64 sn) ?_ ?_
      · intro ρ W hk hC
        simp only [seen, obOp, List.getD_cons_zero, List.getD_cons_succ]
        rintro h21
        exact rel_value (by simp [go_sem, h21]) hC
      refine ob_det (c := .bool false) ?_ ?_
      · intro ρ W hk hC
        simp only [seen, obOp, List.getD_cons_zero, List.getD_cons_succ]
        rintro h22
        exact rel_value (by simp [go_sem, h22]) hC
      intro vs4 w4 hC4
      simp only [endSeen, List.getD_cons_zero, List.getD_cons_succ]
      intro h7 h6
      simp only [writeAll, List.setIfInBounds_toArray, List.set_cons_zero, List.set_cons_succ, h6, h7]
      have HB4 := Lib.hid (show ClB X w4 from HB.out.step hC4)
      clear hC4 x0 x1 x2
      go_upto_region 5 with fail
      refine wp_region_rel_below [([(7, none)], none), ([(23, some 0)], none), ([(24, some 0)], none), ([(5, none), (25, some 0)], some (25, false)), ([(26, some 0), (25, some 1)], some (25, false)), ([(27, some 0), (25, some 2)], some (25, false)), ([(2, none), (28, some 0)], some (28, true)), ([(1, none), (28, some 1)], some (28, true)), ([(5, none), (28, some 2)], some (28, true)), ([(31, some 0), (28, some 3)], some (28, true)), ([(30, some 2), (32, some 0), (28, some 4)], some (28, true)), ([(33, some 0), (28, some 5)], some (28, true)), ([(34, some 0), (28, some 6)], some (28, true)), ([(1, none), (28, some 7)], some (28, true)), ([(5, none), (28, some 8)], some (28, true)), ([(37, some 0), (28, some 9)], some (28, true)), ([(36, some 2), (38, some 0), (28, some 10)], some (28, true)), ([(39, some 0), (28, some 11)], some (28, true)), ([(40, some 0), (28, some 12)], some (28, true)), ([(35, some 6), (41, some 0), (28, some 13)], some (28, true)), ([(29, some 13), (42, some 0), (28, some 14)], some (28, true)), ([(1, none), (28, some 15)], some (28, true)), ([(5, none), (28, some 16)], some (28, true)), ([(44, some 1), (45, some 0), (28, some 17)], some (28, true)), ([(46, some 0), (28, some 18)], some (28, true)), ([(47, some 0), (28, some 19)], some (28, true)), ([(1, none), (28, some 20)], some (28, true)), ([(5, none), (28, some 21)], some (28, true)), ([(49, some 1), (50, some 0), (28, some 22)], some (28, true)), ([(51, some 0), (28, some 23)], some (28, true)), ([(52, some 0), (28, some 24)], some (28, true)), ([(48, some 5), (53, some 0), (28, some 25)], some (28, true)), ([(43, some 11), (54, some 0), (28, some 26)], some (28, true)), ([(28, some 27), (55, some 0), (25, some 30)], some (25, false)), ([(25, some 31), (56, some 0)], none)] [(0, 57)] (by kernel_rfl) (by kernel_rfl) ?_
      refine ob_det (c := .bool false) ?_ ?_
      · intro ρ W hk hC
        simp only [seen, obOp]
        rintro h7
        replace h7 : ρ (.tmp 7) = .bool false := h7.trans rfl
        exact rel_value (by simp [go_sem, h7]) hC
      refine ob_det (c := .bool true) ?_ ?_
      · intro ρ W hk hC
        simp only [seen, obOp, List.getD_cons_zero]
        rintro h23
        exact rel_value (by simp [go_sem, h23]) hC
      refine ob_det (c := .bool true) ?_ ?_
      · intro ρ W hk hC
        simp only [seen, obOp, List.getD_cons_zero]
        rintro h24
        exact rel_value (by simp [go_sem, h24]) hC
      refine ob_det (c := undef) ?_ ?_
      · intro ρ W hk hC
        simp only [seen, obOp, List.getD_cons_zero]
        rintro h5 h25
        replace h5 : ρ (.tmp 5) = .int .i64 (k : Nat) := h5.trans rfl
        exact ⟨fun h => absurd (h.symm.trans h25) (by first | simp | simp [undef]), fun _ => by trivial⟩
      refine ob_det (c := undef) ?_ ?_
      · intro ρ W hk hC
        simp only [seen, obOp, List.getD_cons_zero, List.getD_cons_succ]
        rintro h26 h25
        exact ⟨fun h => absurd (h.symm.trans h25) (by first | simp | simp [undef]), fun _ => by trivial⟩
      refine ob_det (c := undef) ?_ ?_
      · intro ρ W hk hC
        simp only [seen, obOp, List.getD_cons_zero, List.getD_cons_succ]
        rintro h27 h25
        exact ⟨fun h => absurd (h.symm.trans h25) (by first | simp | simp [undef]), fun _ => by trivial⟩
      refine ob_det (c := undef) ?_ ?_
      · intro ρ W hk hC
        simp only [seen, obOp, List.getD_cons_zero]
        rintro h2 h28
        replace h2 : ρ (.tmp 2) = .pointer (some ⟨w.heap.size, 0, none⟩) := h2.trans rfl
        exact ⟨fun h => absurd (h.symm.trans h28) (by first | simp | simp [undef]), fun _ => by trivial⟩
      refine ob_det (c := undef) ?_ ?_
      · intro ρ W hk hC
        simp only [seen, obOp, List.getD_cons_zero, List.getD_cons_succ]
        rintro h1 h28
        replace h1 : ρ (.tmp 1) = .slice (some ⟨b, off, none⟩) n cap := h1.trans rfl
        exact ⟨fun h => absurd (h.symm.trans h28) (by first | simp | simp [undef]), fun _ => by trivial⟩
      refine ob_det (c := undef) ?_ ?_
      · intro ρ W hk hC
        simp only [seen, obOp, List.getD_cons_zero, List.getD_cons_succ]
        rintro h5 h28
        replace h5 : ρ (.tmp 5) = .int .i64 (k : Nat) := h5.trans rfl
        exact ⟨fun h => absurd (h.symm.trans h28) (by first | simp | simp [undef]), fun _ => by trivial⟩
      refine ob_det (c := undef) ?_ ?_
      · intro ρ W hk hC
        simp only [seen, obOp, List.getD_cons_zero, List.getD_cons_succ]
        rintro h31 h28
        exact ⟨fun h => absurd (h.symm.trans h28) (by first | simp | simp [undef]), fun _ => by trivial⟩
      refine ob_det (c := undef) ?_ ?_
      · intro ρ W hk hC
        simp only [seen, obOp, List.getD_cons_zero, List.getD_cons_succ]
        rintro h30 h32 h28
        exact ⟨fun h => absurd (h.symm.trans h28) (by first | simp | simp [undef]), fun _ => by trivial⟩
      refine ob_det (c := undef) ?_ ?_
      · intro ρ W hk hC
        simp only [seen, obOp, List.getD_cons_zero, List.getD_cons_succ]
        rintro h33 h28
        exact ⟨fun h => absurd (h.symm.trans h28) (by first | simp | simp [undef]), fun _ => by trivial⟩
      refine ob_det (c := undef) ?_ ?_
      · intro ρ W hk hC
        simp only [seen, obOp, List.getD_cons_zero, List.getD_cons_succ]
        rintro h34 h28
        exact ⟨fun h => absurd (h.symm.trans h28) (by first | simp | simp [undef]), fun _ => by trivial⟩
      refine ob_det (c := undef) ?_ ?_
      · intro ρ W hk hC
        simp only [seen, obOp, List.getD_cons_zero, List.getD_cons_succ]
        rintro h1 h28
        replace h1 : ρ (.tmp 1) = .slice (some ⟨b, off, none⟩) n cap := h1.trans rfl
        exact ⟨fun h => absurd (h.symm.trans h28) (by first | simp | simp [undef]), fun _ => by trivial⟩
      refine ob_det (c := undef) ?_ ?_
      · intro ρ W hk hC
        simp only [seen, obOp, List.getD_cons_zero, List.getD_cons_succ]
        rintro h5 h28
        replace h5 : ρ (.tmp 5) = .int .i64 (k : Nat) := h5.trans rfl
        exact ⟨fun h => absurd (h.symm.trans h28) (by first | simp | simp [undef]), fun _ => by trivial⟩
      refine ob_det (c := undef) ?_ ?_
      · intro ρ W hk hC
        simp only [seen, obOp, List.getD_cons_zero, List.getD_cons_succ]
        rintro h37 h28
        exact ⟨fun h => absurd (h.symm.trans h28) (by first | simp | simp [undef]), fun _ => by trivial⟩
      refine ob_det (c := undef) ?_ ?_
      · intro ρ W hk hC
        simp only [seen, obOp, List.getD_cons_zero, List.getD_cons_succ]
        rintro h36 h38 h28
        exact ⟨fun h => absurd (h.symm.trans h28) (by first | simp | simp [undef]), fun _ => by trivial⟩
      refine ob_det (c := undef) ?_ ?_
      · intro ρ W hk hC
        simp only [seen, obOp, List.getD_cons_zero, List.getD_cons_succ]
        rintro h39 h28
        exact ⟨fun h => absurd (h.symm.trans h28) (by first | simp | simp [undef]), fun _ => by trivial⟩
      refine ob_det (c := undef) ?_ ?_
      · intro ρ W hk hC
        simp only [seen, obOp, List.getD_cons_zero, List.getD_cons_succ]
        rintro h40 h28
        exact ⟨fun h => absurd (h.symm.trans h28) (by first | simp | simp [undef]), fun _ => by trivial⟩
      refine ob_det (c := undef) ?_ ?_
      · intro ρ W hk hC
        simp only [seen, obOp, List.getD_cons_zero, List.getD_cons_succ]
        rintro h35 h41 h28
        exact ⟨fun h => absurd (h.symm.trans h28) (by first | simp | simp [undef]), fun _ => by trivial⟩
      refine ob_det (c := undef) ?_ ?_
      · intro ρ W hk hC
        simp only [seen, obOp, List.getD_cons_zero, List.getD_cons_succ]
        rintro h29 h42 h28
        exact ⟨fun h => absurd (h.symm.trans h28) (by first | simp | simp [undef]), fun _ => by trivial⟩
      refine ob_det (c := undef) ?_ ?_
      · intro ρ W hk hC
        simp only [seen, obOp, List.getD_cons_zero, List.getD_cons_succ]
        rintro h1 h28
        replace h1 : ρ (.tmp 1) = .slice (some ⟨b, off, none⟩) n cap := h1.trans rfl
        exact ⟨fun h => absurd (h.symm.trans h28) (by first | simp | simp [undef]), fun _ => by trivial⟩
      refine ob_det (c := undef) ?_ ?_
      · intro ρ W hk hC
        simp only [seen, obOp, List.getD_cons_zero, List.getD_cons_succ]
        rintro h5 h28
        replace h5 : ρ (.tmp 5) = .int .i64 (k : Nat) := h5.trans rfl
        exact ⟨fun h => absurd (h.symm.trans h28) (by first | simp | simp [undef]), fun _ => by trivial⟩
      refine ob_det (c := undef) ?_ ?_
      · intro ρ W hk hC
        simp only [seen, obOp, List.getD_cons_zero, List.getD_cons_succ]
        rintro h44 h45 h28
        exact ⟨fun h => absurd (h.symm.trans h28) (by first | simp | simp [undef]), fun _ => by trivial⟩
      refine ob_det (c := undef) ?_ ?_
      · intro ρ W hk hC
        simp only [seen, obOp, List.getD_cons_zero, List.getD_cons_succ]
        rintro h46 h28
        exact ⟨fun h => absurd (h.symm.trans h28) (by first | simp | simp [undef]), fun _ => by trivial⟩
      refine ob_det (c := undef) ?_ ?_
      · intro ρ W hk hC
        simp only [seen, obOp, List.getD_cons_zero, List.getD_cons_succ]
        rintro h47 h28
        exact ⟨fun h => absurd (h.symm.trans h28) (by first | simp | simp [undef]), fun _ => by trivial⟩
      refine ob_det (c := undef) ?_ ?_
      · intro ρ W hk hC
        simp only [seen, obOp, List.getD_cons_zero, List.getD_cons_succ]
        rintro h1 h28
        replace h1 : ρ (.tmp 1) = .slice (some ⟨b, off, none⟩) n cap := h1.trans rfl
        exact ⟨fun h => absurd (h.symm.trans h28) (by first | simp | simp [undef]), fun _ => by trivial⟩
      refine ob_det (c := undef) ?_ ?_
      · intro ρ W hk hC
        simp only [seen, obOp, List.getD_cons_zero, List.getD_cons_succ]
        rintro h5 h28
        replace h5 : ρ (.tmp 5) = .int .i64 (k : Nat) := h5.trans rfl
        exact ⟨fun h => absurd (h.symm.trans h28) (by first | simp | simp [undef]), fun _ => by trivial⟩
      refine ob_det (c := undef) ?_ ?_
      · intro ρ W hk hC
        simp only [seen, obOp, List.getD_cons_zero, List.getD_cons_succ]
        rintro h49 h50 h28
        exact ⟨fun h => absurd (h.symm.trans h28) (by first | simp | simp [undef]), fun _ => by trivial⟩
      refine ob_det (c := undef) ?_ ?_
      · intro ρ W hk hC
        simp only [seen, obOp, List.getD_cons_zero, List.getD_cons_succ]
        rintro h51 h28
        exact ⟨fun h => absurd (h.symm.trans h28) (by first | simp | simp [undef]), fun _ => by trivial⟩
      refine ob_det (c := undef) ?_ ?_
      · intro ρ W hk hC
        simp only [seen, obOp, List.getD_cons_zero, List.getD_cons_succ]
        rintro h52 h28
        exact ⟨fun h => absurd (h.symm.trans h28) (by first | simp | simp [undef]), fun _ => by trivial⟩
      refine ob_det (c := undef) ?_ ?_
      · intro ρ W hk hC
        simp only [seen, obOp, List.getD_cons_zero, List.getD_cons_succ]
        rintro h48 h53 h28
        exact ⟨fun h => absurd (h.symm.trans h28) (by first | simp | simp [undef]), fun _ => by trivial⟩
      refine ob_det (c := undef) ?_ ?_
      · intro ρ W hk hC
        simp only [seen, obOp, List.getD_cons_zero, List.getD_cons_succ]
        rintro h43 h54 h28
        exact ⟨fun h => absurd (h.symm.trans h28) (by first | simp | simp [undef]), fun _ => by trivial⟩
      refine ob_det (c := undef) ?_ ?_
      · intro ρ W hk hC
        simp only [seen, obOp, List.getD_cons_zero, List.getD_cons_succ]
        rintro h28 h55 h25
        exact ⟨fun h => absurd (h.symm.trans h25) (by first | simp | simp [undef]), fun _ => by trivial⟩
      refine ob_det (c := .bool true) ?_ ?_
      · intro ρ W hk hC
        simp only [seen, obOp, List.getD_cons_zero, List.getD_cons_succ]
        rintro h25 h56
        exact rel_value (by simp [go_sem, h25, h56, hk.const]) hC
      intro vs5 w5 hC5
      simp only [endSeen, List.getD_cons_zero]
      intro h57
      simp only [writeAll, List.setIfInBounds_toArray, List.set_cons_zero, List.set_cons_succ, h57]
      go_wp2
      go_ret
      exact ⟨rfl, bchain HX.out.1 (bchain HB4.out hC5)⟩
  | true =>
  have HOK := HOK0
  focus
    refine wp_region_rel_below [([(2, none)], none), ([(1, none)], none), ([(5, none)], none), ([(16, some 1), (17, some 0)], none), ([(18, some 0)], none), ([(15, some 4), (19, some 0)], none), ([(20, some 0)], none), ([(14, some 0)], none), ([(14, some 1)], none), ([(21, some 1)], none), ([(22, some 1)], none)] [(0, 7), (1, 6)] (by kernel_rfl) (by kernel_rfl) ?_
    refine ob_det (c := .agg #[.slice a0 L.secs.length p0, .slice a1 L.sigs.length p1, .slice a2 L.exits.length p2, .slice a3 L.flanks.length p3, .int .i64 L.t0, .int .i64 L.t1, .int .i64 L.t2, .int .i64 L.t3, .int .i64 L.t4, .int .i64 L.t5, .int .i64 L.t6]) ?_ ?_
    · intro ρ W hk hC
      simp only [seen, obOp]
      rintro h2
      replace h2 : ρ (.tmp 2) = .pointer (some ⟨w.heap.size, 0, none⟩) := h2.trans rfl
      exact rel_value (runLoad h2 (HBX.out.below hC)) hC
    refine ob_det (c := .slice (some ⟨b, off, none⟩) n cap) ?_ ?_
    · intro ρ W hk hC
      simp only [seen, obOp]
      rintro h1
      replace h1 : ρ (.tmp 1) = .slice (some ⟨b, off, none⟩) n cap := h1.trans rfl
      exact rel_value (by simp [go_sem, h1]) hC
    refine ob_det (c := .int .i64 (k : Nat)) ?_ ?_
    · intro ρ W hk hC
      simp only [seen, obOp]
      rintro h5
      replace h5 : ρ (.tmp 5) = .int .i64 (k : Nat) := h5.trans rfl
      exact rel_value (by simp [go_sem, h5]) hC
    refine ob_det (c := .pointer (some ⟨b, off + k * 3, none⟩)) ?_ ?_
    · intro ρ W hk hC
      simp only [seen, obOp, List.getD_cons_zero, List.getD_cons_succ]
      rintro h16 h17
      exact rel_value (by simp [go_sem, h16, h17, hkn]) hC
    refine ob_det (c := .agg #[.int .i64 xa, .int .i64 xb, .int .i64 xc]) ?_ ?_
    · intro ρ W hk hC
      simp only [seen, obOp, List.getD_cons_zero]
      rintro h18
      exact rel_value (by simp [go_sem, h18, x0 W hC, x1 W hC, x2 W hC]) hC
    refine ob_det (c := .tuple #[.int .i64 sn, .bool true]) ?_ ?_
    · intro ρ W hk hC
      simp only [seen, obOp, List.getD_cons_zero, List.getD_cons_succ]
      rintro h15 h19
      exact rel_call (f := 35) (args := #[.agg #[.slice a0 L.secs.length p0, .slice a1 L.sigs.length p1, .slice a2 L.exits.length p2, .slice a3 L.flanks.length p3, .int .i64 L.t0, .int .i64 L.t1, .int .i64 L.t2, .int .i64 L.t3, .int .i64 L.t4, .int .i64 L.t5, .int .i64 L.t6], .agg #[.int .i64 xa, .int .i64 xb, .int .i64 xc]]) (by simp [go_sem, h15, h19, hk.func]) hC (HST.out W hC)
    refine ob_det (c := .tuple #[.int .i64 sn, .bool true]) ?_ ?_
    · intro ρ W hk hC
      simp only [seen, obOp, List.getD_cons_zero]
      rintro h20
      exact rel_value (by simp [go_sem, h20]) hC
    refine ob_det (c := .int .i64 sn) ?_ ?_
    · intro ρ W hk hC
      simp only [seen, obOp, List.getD_cons_zero]
      rintro h14
      exact rel_value (by simp [go_sem, h14]) hC
    refine ob_det (c := .bool true) ?_ ?_
    · intro ρ W hk hC
      simp only [seen, obOp, List.getD_cons_zero, List.getD_cons_succ]
      rintro h14
      exact rel_value (by simp [go_sem, h14]) hC
    refine ob_det (c := .int .i64 sn) ?_ ?_
    · intro ρ W hk hC
      simp only [seen, obOp, List.getD_cons_zero, List.getD_cons_succ]
      rintro h21
      exact rel_value (by simp [go_sem, h21]) hC
    refine ob_det (c := .bool true) ?_ ?_
    · intro ρ W hk hC
      simp only [seen, obOp, List.getD_cons_zero, List.getD_cons_succ]
      rintro h22
      exact rel_value (by simp [go_sem, h22]) hC
    intro vs4 w4 hC4
    simp only [endSeen, List.getD_cons_zero, List.getD_cons_succ]
    intro h7 h6
    simp only [writeAll, List.setIfInBounds_toArray, List.set_cons_zero, List.set_cons_succ, h6, h7]
    have HB4 := Lib.hid (show ClB X w4 from HB.out.step hC4)
    have HC4 := Lib.hid (show ClB ww w4 from hC4)
    have HBX2 := Lib.hid (HX.out.2.below HB4.out)
    clear hC4 x0 x1 x2
    have hB4w := bchain HX.out.1 HB4.out
    have x0 : ∀ V', ClB w4 V' → V'.cell? ⟨b, off + k * 3, none⟩ = some (.int .i64 xa) := fun V' h => ((bchain hB4w h).cell (p := ⟨b, off + k * 3, none⟩) HXX.out.2.1).trans (HXX.out.2.2 k _ HXX.out.1 0 _ rfl)
    have x1 : ∀ V', ClB w4 V' → V'.cell? ⟨b, off + k * 3 + 1, none⟩ = some (.int .i64 xb) := fun V' h => ((bchain hB4w h).cell (p := ⟨b, off + k * 3 + 1, none⟩) HXX.out.2.1).trans (HXX.out.2.2 k _ HXX.out.1 1 _ rfl)
    go_upto_region 5 with fail
    by_cases hk0' : k = 0
    · have hk0 : ¬ 0 < k := by omega
      clear hB4w x0 x1
      refine wp_region_rel_below [([(7, none)], none), ([(23, some 0)], none), ([(24, some 0)], none), ([(5, none), (25, some 0)], some (25, false)), ([(26, some 0), (25, some 1)], some (25, false)), ([(27, some 0), (25, some 2)], some (25, false)), ([(2, none), (28, some 0)], some (28, true)), ([(1, none), (28, some 1)], some (28, true)), ([(5, none), (28, some 2)], some (28, true)), ([(31, some 0), (28, some 3)], some (28, true)), ([(30, some 2), (32, some 0), (28, some 4)], some (28, true)), ([(33, some 0), (28, some 5)], some (28, true)), ([(34, some 0), (28, some 6)], some (28, true)), ([(1, none), (28, some 7)], some (28, true)), ([(5, none), (28, some 8)], some (28, true)), ([(37, some 0), (28, some 9)], some (28, true)), ([(36, some 2), (38, some 0), (28, some 10)], some (28, true)), ([(39, some 0), (28, some 11)], some (28, true)), ([(40, some 0), (28, some 12)], some (28, true)), ([(35, some 6), (41, some 0), (28, some 13)], some (28, true)), ([(29, some 13), (42, some 0), (28, some 14)], some (28, true)), ([(1, none), (28, some 15)], some (28, true)), ([(5, none), (28, some 16)], some (28, true)), ([(44, some 1), (45, some 0), (28, some 17)], some (28, true)), ([(46, some 0), (28, some 18)], some (28, true)), ([(47, some 0), (28, some 19)], some (28, true)), ([(1, none), (28, some 20)], some (28, true)), ([(5, none), (28, some 21)], some (28, true)), ([(49, some 1), (50, some 0), (28, some 22)], some (28, true)), ([(51, some 0), (28, some 23)], some (28, true)), ([(52, some 0), (28, some 24)], some (28, true)), ([(48, some 5), (53, some 0), (28, some 25)], some (28, true)), ([(43, some 11), (54, some 0), (28, some 26)], some (28, true)), ([(28, some 27), (55, some 0), (25, some 30)], some (25, false)), ([(25, some 31), (56, some 0)], none)] [(0, 57)] (by kernel_rfl) (by kernel_rfl) ?_
      refine ob_det (c := .bool true) ?_ ?_
      · intro ρ W hk hC
        simp only [seen, obOp]
        rintro h7
        replace h7 : ρ (.tmp 7) = .bool true := h7.trans rfl
        exact rel_value (by simp [go_sem, h7]) hC
      refine ob_det (c := .bool false) ?_ ?_
      · intro ρ W hk hC
        simp only [seen, obOp, List.getD_cons_zero]
        rintro h23
        exact rel_value (by simp [go_sem, h23]) hC
      refine ob_det (c := .bool false) ?_ ?_
      · intro ρ W hk hC
        simp only [seen, obOp, List.getD_cons_zero]
        rintro h24
        exact rel_value (by simp [go_sem, h24]) hC
      refine ob_det (c := .int .i64 (k : Nat)) ?_ ?_
      · intro ρ W hk hC
        simp only [seen, obOp, List.getD_cons_zero]
        rintro h5 h25
        replace h5 : ρ (.tmp 5) = .int .i64 (k : Nat) := h5.trans rfl
        refine ⟨fun _ => ?_, fun hn => absurd h25 hn⟩
        exact rel_value (by simp [go_sem, h5]) hC
      refine ob_det (c := .bool false) ?_ ?_
      · intro ρ W hk hC
        simp only [seen, obOp, List.getD_cons_zero, List.getD_cons_succ]
        rintro h26 h25
        refine ⟨fun _ => ?_, fun hn => absurd h25 hn⟩
        exact rel_value (by simp [go_sem, h26, hk.const, hk0]) hC
      refine ob_det (c := .bool false) ?_ ?_
      · intro ρ W hk hC
        simp only [seen, obOp, List.getD_cons_zero, List.getD_cons_succ]
        rintro h27 h25
        refine ⟨fun _ => ?_, fun hn => absurd h25 hn⟩
        exact rel_value (by simp [go_sem, h27]) hC
      refine ob_det (c := undef) ?_ ?_
      · intro ρ W hk hC
        simp only [seen, obOp, List.getD_cons_zero]
        rintro h2 h28
        replace h2 : ρ (.tmp 2) = .pointer (some ⟨w.heap.size, 0, none⟩) := h2.trans rfl
        exact ⟨fun h => absurd (h.symm.trans h28) (by first | simp | simp [undef]), fun _ => by trivial⟩
      refine ob_det (c := undef) ?_ ?_
      · intro ρ W hk hC
        simp only [seen, obOp, List.getD_cons_zero, List.getD_cons_succ]
        rintro h1 h28
        replace h1 : ρ (.tmp 1) = .slice (some ⟨b, off, none⟩) n cap := h1.trans rfl
        exact ⟨fun h => absurd (h.symm.trans h28) (by first | simp | simp [undef]), fun _ => by trivial⟩
      refine ob_det (c := undef) ?_ ?_
      · intro ρ W hk hC
        simp only [seen, obOp, List.getD_cons_zero, List.getD_cons_succ]
        rintro h5 h28
        replace h5 : ρ (.tmp 5) = .int .i64 (k : Nat) := h5.trans rfl
        exact ⟨fun h => absurd (h.symm.trans h28) (by first | simp | simp [undef]), fun _ => by trivial⟩
      refine ob_det (c := undef) ?_ ?_
      · intro ρ W hk hC
        simp only [seen, obOp, List.getD_cons_zero, List.getD_cons_succ]
        rintro h31 h28
        exact ⟨fun h => absurd (h.symm.trans h28) (by first | simp | simp [undef]), fun _ => by trivial⟩
      refine ob_det (c := undef) ?_ ?_
      · intro ρ W hk hC
        simp only [seen, obOp, List.getD_cons_zero, List.getD_cons_succ]
        rintro h30 h32 h28
        exact ⟨fun h => absurd (h.symm.trans h28) (by first | simp | simp [undef]), fun _ => by trivial⟩
      refine ob_det (c := undef) ?_ ?_
      · intro ρ W hk hC
        simp only [seen, obOp, List.getD_cons_zero, List.getD_cons_succ]
        rintro h33 h28
        exact ⟨fun h => absurd (h.symm.trans h28) (by first | simp | simp [undef]), fun _ => by trivial⟩
      refine ob_det (c := undef) ?_ ?_
      · intro ρ W hk hC
        simp only [seen, obOp, List.getD_cons_zero, List.getD_cons_succ]
        rintro h34 h28
        exact ⟨fun h => absurd (h.symm.trans h28) (by first | simp | simp [undef]), fun _ => by trivial⟩
      refine ob_det (c := undef) ?_ ?_
      · intro ρ W hk hC
        simp only [seen, obOp, List.getD_cons_zero, List.getD_cons_succ]
        rintro h1 h28
        replace h1 : ρ (.tmp 1) = .slice (some ⟨b, off, none⟩) n cap := h1.trans rfl
        exact ⟨fun h => absurd (h.symm.trans h28) (by first | simp | simp [undef]), fun _ => by trivial⟩
      refine ob_det (c := undef) ?_ ?_
      · intro ρ W hk hC
        simp only [seen, obOp, List.getD_cons_zero, List.getD_cons_succ]
        rintro h5 h28
        replace h5 : ρ (.tmp 5) = .int .i64 (k : Nat) := h5.trans rfl
        exact ⟨fun h => absurd (h.symm.trans h28) (by first | simp | simp [undef]), fun _ => by trivial⟩
      refine ob_det (c := undef) ?_ ?_
      · intro ρ W hk hC
        simp only [seen, obOp, List.getD_cons_zero, List.getD_cons_succ]
        rintro h37 h28
        exact ⟨fun h => absurd (h.symm.trans h28) (by first | simp | simp [undef]), fun _ => by trivial⟩
      refine ob_det (c := undef) ?_ ?_
      · intro ρ W hk hC
        simp only [seen, obOp, List.getD_cons_zero, List.getD_cons_succ]
        rintro h36 h38 h28
        exact ⟨fun h => absurd (h.symm.trans h28) (by first | simp | simp [undef]), fun _ => by trivial⟩
      refine ob_det (c := undef) ?_ ?_
      · intro ρ W hk hC
        simp only [seen, obOp, List.getD_cons_zero, List.getD_cons_succ]
        rintro h39 h28
        exact ⟨fun h => absurd (h.symm.trans h28) (by first | simp | simp [undef]), fun _ => by trivial⟩
      refine ob_det (c := undef) ?_ ?_
      · intro ρ W hk hC
        simp only [seen, obOp, List.getD_cons_zero, List.getD_cons_succ]
        rintro h40 h28
        exact ⟨fun h => absurd (h.symm.trans h28) (by first | simp | simp [undef]), fun _ => by trivial⟩
      refine ob_det (c := undef) ?_ ?_
      · intro ρ W hk hC
        simp only [seen, obOp, List.getD_cons_zero, List.getD_cons_succ]
        rintro h35 h41 h28
        exact ⟨fun h => absurd (h.symm.trans h28) (by first | simp | simp [undef]), fun _ => by trivial⟩
      refine ob_det (c := undef) ?_ ?_
      · intro ρ W hk hC
        simp only [seen, obOp, List.getD_cons_zero, List.getD_cons_succ]
        rintro h29 h42 h28
        exact ⟨fun h => absurd (h.symm.trans h28) (by first | simp | simp [undef]), fun _ => by trivial⟩
      refine ob_det (c := undef) ?_ ?_
      · intro ρ W hk hC
        simp only [seen, obOp, List.getD_cons_zero, List.getD_cons_succ]
        rintro h1 h28
        replace h1 : ρ (.tmp 1) = .slice (some ⟨b, off, none⟩) n cap := h1.trans rfl
        exact ⟨fun h => absurd (h.symm.trans h28) (by first | simp | simp [undef]), fun _ => by trivial⟩
      refine ob_det (c := undef) ?_ ?_
      · intro ρ W hk hC
        simp only [seen, obOp, List.getD_cons_zero, List.getD_cons_succ]
        rintro h5 h28
        replace h5 : ρ (.tmp 5) = .int .i64 (k : Nat) := h5.trans rfl
        exact ⟨fun h => absurd (h.symm.trans h28) (by first | simp | simp [undef]), fun _ => by trivial⟩
      refine ob_det (c := undef) ?_ ?_
      · intro ρ W hk hC
        simp only [seen, obOp, List.getD_cons_zero, List.getD_cons_succ]
        rintro h44 h45 h28
        exact ⟨fun h => absurd (h.symm.trans h28) (by first | simp | simp [undef]), fun _ => by trivial⟩
      refine ob_det (c := undef) ?_ ?_
      · intro ρ W hk hC
        simp only [seen, obOp, List.getD_cons_zero, List.getD_cons_succ]
        rintro h46 h28
        exact ⟨fun h => absurd (h.symm.trans h28) (by first | simp | simp [undef]), fun _ => by trivial⟩
      refine ob_det (c := undef) ?_ ?_
      · intro ρ W hk hC
        simp only [seen, obOp, List.getD_cons_zero, List.getD_cons_succ]
        rintro h47 h28
        exact ⟨fun h => absurd (h.symm.trans h28) (by first | simp | simp [undef]), fun _ => by trivial⟩
      refine ob_det (c := undef) ?_ ?_
      · intro ρ W hk hC
        simp only [seen, obOp, List.getD_cons_zero, List.getD_cons_succ]
        rintro h1 h28
        replace h1 : ρ (.tmp 1) = .slice (some ⟨b, off, none⟩) n cap := h1.trans rfl
        exact ⟨fun h => absurd (h.symm.trans h28) (by first | simp | simp [undef]), fun _ => by trivial⟩
      refine ob_det (c := undef) ?_ ?_
      · intro ρ W hk hC
        simp only [seen, obOp, List.getD_cons_zero, List.getD_cons_succ]
        rintro h5 h28
        replace h5 : ρ (.tmp 5) = .int .i64 (k : Nat) := h5.trans rfl
        exact ⟨fun h => absurd (h.symm.trans h28) (by first | simp | simp [undef]), fun _ => by trivial⟩
      refine ob_det (c := undef) ?_ ?_
      · intro ρ W hk hC
        simp only [seen, obOp, List.getD_cons_zero, List.getD_cons_succ]
        rintro h49 h50 h28
        exact ⟨fun h => absurd (h.symm.trans h28) (by first | simp | simp [undef]), fun _ => by trivial⟩
      refine ob_det (c := undef) ?_ ?_
      · intro ρ W hk hC
        simp only [seen, obOp, List.getD_cons_zero, List.getD_cons_succ]
        rintro h51 h28
        exact ⟨fun h => absurd (h.symm.trans h28) (by first | simp | simp [undef]), fun _ => by trivial⟩
      refine ob_det (c := undef) ?_ ?_
      · intro ρ W hk hC
        simp only [seen, obOp, List.getD_cons_zero, List.getD_cons_succ]
        rintro h52 h28
        exact ⟨fun h => absurd (h.symm.trans h28) (by first | simp | simp [undef]), fun _ => by trivial⟩
      refine ob_det (c := undef) ?_ ?_
      · intro ρ W hk hC
        simp only [seen, obOp, List.getD_cons_zero, List.getD_cons_succ]
        rintro h48 h53 h28
        exact ⟨fun h => absurd (h.symm.trans h28) (by first | simp | simp [undef]), fun _ => by trivial⟩
      refine ob_det (c := undef) ?_ ?_
      · intro ρ W hk hC
        simp only [seen, obOp, List.getD_cons_zero, List.getD_cons_succ]
        rintro h43 h54 h28
        exact ⟨fun h => absurd (h.symm.trans h28) (by first | simp | simp [undef]), fun _ => by trivial⟩
      refine ob_det (c := .bool false) ?_ ?_
      · intro ρ W hk hC
        simp only [seen, obOp, List.getD_cons_zero, List.getD_cons_succ]
        rintro h28 h55 h25
        refine ⟨fun _ => ?_, fun hn => absurd h25 hn⟩
        exact rel_value (by simp [go_sem, h28, h55, hk.const]) hC
      refine ob_det (c := .bool false) ?_ ?_
      · intro ρ W hk hC
        simp only [seen, obOp, List.getD_cons_zero, List.getD_cons_succ]
        rintro h25 h56
        exact rel_value (by simp [go_sem, h25, h56, hk.const]) hC
      intro vs5 w5 hC5
      simp only [endSeen, List.getD_cons_zero]
      intro h57
      simp only [writeAll, List.setIfInBounds_toArray, List.set_cons_zero, List.set_cons_succ, h57]
      go_wp2
      go_roundw
      case rel => exact ⟨k + 1, by omega, by go_num, Lib.hid (show ClB X w5 from bchain HB4.out hC5), Lib.hid ⟨fun j y hj hy => by
        by_cases e : j = k
        · subst e
          rw [HXX.out.1] at hy
          cases hy
          exact HOK.out
        · exact HJ.out.1 j y (by omega) hy, trivial⟩, Lib.hid (fun j y z hj hy hz => by
        by_cases e : j + 1 = k
        · subst e
          omega
        · exact HL.out j y z (by omega) hy hz)⟩
      case measure => simp [intOf]; omega
    obtain ⟨m, hkm⟩ : ∃ m, k = m + 1 := ⟨k - 1, by omega⟩
    have hk0 : 0 < k := by omega
    have hmn : m < n := by omega
    have hsub : (k : Int) - 1 = (m : Int) := by omega
    have hwm : IntKind.wrap .i64 (m : Int) = (m : Int) := by rw [IntKind.wrap_i64]; omega
    obtain ⟨y, hy0⟩ : ∃ y, xs[m]? = some y := ⟨_, List.getElem?_eq_getElem (by rw [← HA.out.2]; omega)⟩
    have HYY := Lib.hid hy0
    obtain ⟨ya, yb, yc⟩ := y
    have y0 : ∀ V', ClB w4 V' → V'.cell? ⟨b, off + m * 3, none⟩ = some (.int .i64 ya) := fun V' h => ((bchain hB4w h).cell (p := ⟨b, off + m * 3, none⟩) HXX.out.2.1).trans (HXX.out.2.2 m _ hy0 0 _ rfl)
    have y2 : ∀ V', ClB w4 V' → V'.cell? ⟨b, off + m * 3 + 2, none⟩ = some (.int .i64 yc) := fun V' h => ((bchain hB4w h).cell (p := ⟨b, off + m * 3 + 2, none⟩) HXX.out.2.1).trans (HXX.out.2.2 m _ hy0 2 _ rfl)
    have hby := fun V' (h : ClB w4 V') => HBYA.out ya yc V' (bchain hB4w h)
    have hlk : linkB L ⟨ya, yb, yc⟩ ⟨xa, xb, xc⟩ = decide (beyL L ya yc = ⟨xa, xb⟩) := rfl
    generalize beyL L ya yc = z at hby hlk
    obtain ⟨zs, zp⟩ := z
    dsimp only at hby
    have HBY := Lib.hid hby
    have hqE := fun V' => eqQ_portI zs zp xa xb V'
    have HKM := Lib.hid hkm
    clear hby hy0 hB4w hkm
    by_cases hE : zs = xa ∧ zp = xb
    · have HLK := Lib.hid (show linkB L ⟨ya, yb, yc⟩ ⟨xa, xb, xc⟩ = true by rw [hlk, decide_eq_true_iff, hE.1, hE.2])
      rw [decide_eq_true hE] at hqE
      clear hlk hE
      refine wp_region_rel_below [([(7, none)], none), ([(23, some 0)], none), ([(24, some 0)], none), ([(5, none), (25, some 0)], some (25, false)), ([(26, some 0), (25, some 1)], some (25, false)), ([(27, some 0), (25, some 2)], some (25, false)), ([(2, none), (28, some 0)], some (28, true)), ([(1, none), (28, some 1)], some (28, true)), ([(5, none), (28, some 2)], some (28, true)), ([(31, some 0), (28, some 3)], some (28, true)), ([(30, some 2), (32, some 0), (28, some 4)], some (28, true)), ([(33, some 0), (28, some 5)], some (28, true)), ([(34, some 0), (28, some 6)], some (28, true)), ([(1, none), (28, some 7)], some (28, true)), ([(5, none), (28, some 8)], some (28, true)), ([(37, some 0), (28, some 9)], some (28, true)), ([(36, some 2), (38, some 0), (28, some 10)], some (28, true)), ([(39, some 0), (28, some 11)], some (28, true)), ([(40, some 0), (28, some 12)], some (28, true)), ([(35, some 6), (41, some 0), (28, some 13)], some (28, true)), ([(29, some 13), (42, some 0), (28, some 14)], some (28, true)), ([(1, none), (28, some 15)], some (28, true)), ([(5, none), (28, some 16)], some (28, true)), ([(44, some 1), (45, some 0), (28, some 17)], some (28, true)), ([(46, some 0), (28, some 18)], some (28, true)), ([(47, some 0), (28, some 19)], some (28, true)), ([(1, none), (28, some 20)], some (28, true)), ([(5, none), (28, some 21)], some (28, true)), ([(49, some 1), (50, some 0), (28, some 22)], some (28, true)), ([(51, some 0), (28, some 23)], some (28, true)), ([(52, some 0), (28, some 24)], some (28, true)), ([(48, some 5), (53, some 0), (28, some 25)], some (28, true)), ([(43, some 11), (54, some 0), (28, some 26)], some (28, true)), ([(28, some 27), (55, some 0), (25, some 30)], some (25, false)), ([(25, some 31), (56, some 0)], none)] [(0, 57)] (by kernel_rfl) (by kernel_rfl) ?_
      refine ob_det (c := .bool true) ?_ ?_
      · intro ρ W hk hC
        simp only [seen, obOp]
        rintro h7
        replace h7 : ρ (.tmp 7) = .bool true := h7.trans rfl
        exact rel_value (by simp [go_sem, h7]) hC
      refine ob_det (c := .bool false) ?_ ?_
      · intro ρ W hk hC
        simp only [seen, obOp, List.getD_cons_zero]
        rintro h23
        exact rel_value (by simp [go_sem, h23]) hC
      refine ob_det (c := .bool false) ?_ ?_
      · intro ρ W hk hC
        simp only [seen, obOp, List.getD_cons_zero]
        rintro h24
        exact rel_value (by simp [go_sem, h24]) hC
      refine ob_det (c := .int .i64 (k : Nat)) ?_ ?_
      · intro ρ W hk hC
        simp only [seen, obOp, List.getD_cons_zero]
        rintro h5 h25
        replace h5 : ρ (.tmp 5) = .int .i64 (k : Nat) := h5.trans rfl
        refine ⟨fun _ => ?_, fun hn => absurd h25 hn⟩
        exact rel_value (by simp [go_sem, h5]) hC
      refine ob_det (c := .bool true) ?_ ?_
      · intro ρ W hk hC
        simp only [seen, obOp, List.getD_cons_zero, List.getD_cons_succ]
        rintro h26 h25
        refine ⟨fun _ => ?_, fun hn => absurd h25 hn⟩
        exact rel_value (by simp [go_sem, h26, hk.const, hk0]) hC
      refine ob_det (c := .bool true) ?_ ?_
      · intro ρ W hk hC
        simp only [seen, obOp, List.getD_cons_zero, List.getD_cons_succ]
        rintro h27 h25
        refine ⟨fun _ => ?_, fun hn => absurd h25 hn⟩
        exact rel_value (by simp [go_sem, h27]) hC
      refine ob_det (c := .agg #[.slice a0 L.secs.length p0, .slice a1 L.sigs.length p1, .slice a2 L.exits.length p2, .slice a3 L.flanks.length p3, .int .i64 L.t0, .int .i64 L.t1, .int .i64 L.t2, .int .i64 L.t3, .int .i64 L.t4, .int .i64 L.t5, .int .i64 L.t6]) ?_ ?_
      · intro ρ W hk hC
        simp only [seen, obOp, List.getD_cons_zero]
        rintro h2 h28
        replace h2 : ρ (.tmp 2) = .pointer (some ⟨w.heap.size, 0, none⟩) := h2.trans rfl
        refine ⟨fun _ => ?_, fun hn => absurd h28 hn⟩
        exact rel_value (runLoad h2 (HBX2.out.below hC)) hC
      refine ob_det (c := .slice (some ⟨b, off, none⟩) n cap) ?_ ?_
      · intro ρ W hk hC
        simp only [seen, obOp, List.getD_cons_zero, List.getD_cons_succ]
        rintro h1 h28
        replace h1 : ρ (.tmp 1) = .slice (some ⟨b, off, none⟩) n cap := h1.trans rfl
        refine ⟨fun _ => ?_, fun hn => absurd h28 hn⟩
        exact rel_value (by simp [go_sem, h1]) hC
      refine ob_det (c := .int .i64 (k : Nat)) ?_ ?_
      · intro ρ W hk hC
        simp only [seen, obOp, List.getD_cons_zero, List.getD_cons_succ]
        rintro h5 h28
        replace h5 : ρ (.tmp 5) = .int .i64 (k : Nat) := h5.trans rfl
        refine ⟨fun _ => ?_, fun hn => absurd h28 hn⟩
        exact rel_value (by simp [go_sem, h5]) hC
      refine ob_det (c := .int .i64 (m : Nat)) ?_ ?_
      · intro ρ W hk hC
        simp only [seen, obOp, List.getD_cons_zero, List.getD_cons_succ]
        rintro h31 h28
        refine ⟨fun _ => ?_, fun hn => absurd h28 hn⟩
        exact rel_value (by simp [go_sem, h31, hk.const, hsub, hwm]) hC
      refine ob_det (c := .pointer (some ⟨b, off + m * 3, none⟩)) ?_ ?_
      · intro ρ W hk hC
        simp only [seen, obOp, List.getD_cons_zero, List.getD_cons_succ]
        rintro h30 h32 h28
        refine ⟨fun _ => ?_, fun hn => absurd h28 hn⟩
        exact rel_value (by simp [go_sem, h30, h32, hmn]) hC
      refine ob_det (c := .pointer (some ⟨b, off + m * 3, none⟩)) ?_ ?_
      · intro ρ W hk hC
        simp only [seen, obOp, List.getD_cons_zero, List.getD_cons_succ]
        rintro h33 h28
        refine ⟨fun _ => ?_, fun hn => absurd h28 hn⟩
        exact rel_value (by simp [go_sem, h33]) hC
      refine ob_det (c := .int .i64 ya) ?_ ?_
      · intro ρ W hk hC
        simp only [seen, obOp, List.getD_cons_zero, List.getD_cons_succ]
        rintro h34 h28
        refine ⟨fun _ => ?_, fun hn => absurd h28 hn⟩
        exact rel_value (by simp [go_sem, h34, y0 W hC]) hC
      refine ob_det (c := .slice (some ⟨b, off, none⟩) n cap) ?_ ?_
      · intro ρ W hk hC
        simp only [seen, obOp, List.getD_cons_zero, List.getD_cons_succ]
        rintro h1 h28
        replace h1 : ρ (.tmp 1) = .slice (some ⟨b, off, none⟩) n cap := h1.trans rfl
        refine ⟨fun _ => ?_, fun hn => absurd h28 hn⟩
        exact rel_value (by simp [go_sem, h1]) hC
      refine ob_det (c := .int .i64 (k : Nat)) ?_ ?_
      · intro ρ W hk hC
        simp only [seen, obOp, List.getD_cons_zero, List.getD_cons_succ]
        rintro h5 h28
        replace h5 : ρ (.tmp 5) = .int .i64 (k : Nat) := h5.trans rfl
        refine ⟨fun _ => ?_, fun hn => absurd h28 hn⟩
        exact rel_value (by simp [go_sem, h5]) hC
      refine ob_det (c := .int .i64 (m : Nat)) ?_ ?_
      · intro ρ W hk hC
        simp only [seen, obOp, List.getD_cons_zero, List.getD_cons_succ]
        rintro h37 h28
        refine ⟨fun _ => ?_, fun hn => absurd h28 hn⟩
        exact rel_value (by simp [go_sem, h37, hk.const, hsub, hwm]) hC
      refine ob_det (c := .pointer (some ⟨b, off + m * 3, none⟩)) ?_ ?_
      · intro ρ W hk hC
        simp only [seen, obOp, List.getD_cons_zero, List.getD_cons_succ]
        rintro h36 h38 h28
        refine ⟨fun _ => ?_, fun hn => absurd h28 hn⟩
        exact rel_value (by simp [go_sem, h36, h38, hmn]) hC
      refine ob_det (c := .pointer (some ⟨b, off + m * 3 + 2, none⟩)) ?_ ?_
      · intro ρ W hk hC
        simp only [seen, obOp, List.getD_cons_zero, List.getD_cons_succ]
        rintro h39 h28
        refine ⟨fun _ => ?_, fun hn => absurd h28 hn⟩
        exact rel_value (by simp [go_sem, h39]) hC
      refine ob_det (c := .int .i64 yc) ?_ ?_
      · intro ρ W hk hC
        simp only [seen, obOp, List.getD_cons_zero, List.getD_cons_succ]
        rintro h40 h28
        refine ⟨fun _ => ?_, fun hn => absurd h28 hn⟩
        exact rel_value (by simp [go_sem, h40, y2 W hC]) hC
      refine ob_det (c := .agg #[.int .i64 ya, .int .i64 yc]) ?_ ?_
      · intro ρ W hk hC
        simp only [seen, obOp, List.getD_cons_zero, List.getD_cons_succ]
        rintro h35 h41 h28
        refine ⟨fun _ => ?_, fun hn => absurd h28 hn⟩
        exact rel_value (by simp [go_sem, h35, h41]) hC
      refine ob_det (c := .agg #[.int .i64 zs, .int .i64 zp]) ?_ ?_
      · intro ρ W hk hC
        simp only [seen, obOp, List.getD_cons_zero, List.getD_cons_succ]
        rintro h29 h42 h28
        refine ⟨fun _ => ?_, fun hn => absurd h28 hn⟩
        exact rel_call (f := 36) (args := #[.agg #[.slice a0 L.secs.length p0, .slice a1 L.sigs.length p1, .slice a2 L.exits.length p2, .slice a3 L.flanks.length p3, .int .i64 L.t0, .int .i64 L.t1, .int .i64 L.t2, .int .i64 L.t3, .int .i64 L.t4, .int .i64 L.t5, .int .i64 L.t6], .agg #[.int .i64 ya, .int .i64 yc]]) (by simp [go_sem, h29, h42, hk.func]) hC (HBY.out W hC)
      refine ob_det (c := .slice (some ⟨b, off, none⟩) n cap) ?_ ?_
      · intro ρ W hk hC
        simp only [seen, obOp, List.getD_cons_zero, List.getD_cons_succ]
        rintro h1 h28
        replace h1 : ρ (.tmp 1) = .slice (some ⟨b, off, none⟩) n cap := h1.trans rfl
        refine ⟨fun _ => ?_, fun hn => absurd h28 hn⟩
        exact rel_value (by simp [go_sem, h1]) hC
      refine ob_det (c := .int .i64 (k : Nat)) ?_ ?_
      · intro ρ W hk hC
        simp only [seen, obOp, List.getD_cons_zero, List.getD_cons_succ]
        rintro h5 h28
        replace h5 : ρ (.tmp 5) = .int .i64 (k : Nat) := h5.trans rfl
        refine ⟨fun _ => ?_, fun hn => absurd h28 hn⟩
        exact rel_value (by simp [go_sem, h5]) hC
      refine ob_det (c := .pointer (some ⟨b, off + k * 3, none⟩)) ?_ ?_
      · intro ρ W hk hC
        simp only [seen, obOp, List.getD_cons_zero, List.getD_cons_succ]
        rintro h44 h45 h28
        refine ⟨fun _ => ?_, fun hn => absurd h28 hn⟩
        exact rel_value (by simp [go_sem, h44, h45, hkn]) hC
      refine ob_det (c := .pointer (some ⟨b, off + k * 3, none⟩)) ?_ ?_
      · intro ρ W hk hC
        simp only [seen, obOp, List.getD_cons_zero, List.getD_cons_succ]
        rintro h46 h28
        refine ⟨fun _ => ?_, fun hn => absurd h28 hn⟩
        exact rel_value (by simp [go_sem, h46]) hC
      refine ob_det (c := .int .i64 xa) ?_ ?_
      · intro ρ W hk hC
        simp only [seen, obOp, List.getD_cons_zero, List.getD_cons_succ]
        rintro h47 h28
        refine ⟨fun _ => ?_, fun hn => absurd h28 hn⟩
        exact rel_value (by simp [go_sem, h47, x0 W hC]) hC
      refine ob_det (c := .slice (some ⟨b, off, none⟩) n cap) ?_ ?_
      · intro ρ W hk hC
        simp only [seen, obOp, List.getD_cons_zero, List.getD_cons_succ]
        rintro h1 h28
        replace h1 : ρ (.tmp 1) = .slice (some ⟨b, off, none⟩) n cap := h1.trans rfl
        refine ⟨fun _ => ?_, fun hn => absurd h28 hn⟩
        exact rel_value (by simp [go_sem, h1]) hC
      refine ob_det (c := .int .i64 (k : Nat)) ?_ ?_
      · intro ρ W hk hC
        simp only [seen, obOp, List.getD_cons_zero, List.getD_cons_succ]
        rintro h5 h28
        replace h5 : ρ (.tmp 5) = .int .i64 (k : Nat) := h5.trans rfl
        refine ⟨fun _ => ?_, fun hn => absurd h28 hn⟩
        exact rel_value (by simp [go_sem, h5]) hC
      refine ob_det (c := .pointer (some ⟨b, off + k * 3, none⟩)) ?_ ?_
      · intro ρ W hk hC
        simp only [seen, obOp, List.getD_cons_zero, List.getD_cons_succ]
        rintro h49 h50 h28
        refine ⟨fun _ => ?_, fun hn => absurd h28 hn⟩
        exact rel_value (by simp [go_sem, h49, h50, hkn]) hC
      refine ob_det (c := .pointer (some ⟨b, off + k * 3 + 1, none⟩)) ?_ ?_
      · intro ρ W hk hC
        simp only [seen, obOp, List.getD_cons_zero, List.getD_cons_succ]
        rintro h51 h28
        refine ⟨fun _ => ?_, fun hn => absurd h28 hn⟩
        exact rel_value (by simp [go_sem, h51]) hC
      refine ob_det (c := .int .i64 xb) ?_ ?_
      · intro ρ W hk hC
        simp only [seen, obOp, List.getD_cons_zero, List.getD_cons_succ]
        rintro h52 h28
        refine ⟨fun _ => ?_, fun hn => absurd h28 hn⟩
        exact rel_value (by simp [go_sem, h52, x1 W hC]) hC
      refine ob_det (c := .agg #[.int .i64 xa, .int .i64 xb]) ?_ ?_
      · intro ρ W hk hC
        simp only [seen, obOp, List.getD_cons_zero, List.getD_cons_succ]
        rintro h48 h53 h28
        refine ⟨fun _ => ?_, fun hn => absurd h28 hn⟩
        exact rel_value (by simp [go_sem, h48, h53]) hC
      refine ob_det (c := .bool false) ?_ ?_
      · intro ρ W hk hC
        simp only [seen, obOp, List.getD_cons_zero, List.getD_cons_succ]
        rintro h43 h54 h28
        refine ⟨fun _ => ?_, fun hn => absurd h28 hn⟩
        exact rel_value (by simp [go_sem, h43, h54, hqE]) hC
      refine ob_det (c := .bool false) ?_ ?_
      · intro ρ W hk hC
        simp only [seen, obOp, List.getD_cons_zero, List.getD_cons_succ]
        rintro h28 h55 h25
        refine ⟨fun _ => ?_, fun hn => absurd h25 hn⟩
        exact rel_value (by simp [go_sem, h28, h55, hk.const]) hC
      refine ob_det (c := .bool false) ?_ ?_
      · intro ρ W hk hC
        simp only [seen, obOp, List.getD_cons_zero, List.getD_cons_succ]
        rintro h25 h56
        exact rel_value (by simp [go_sem, h25, h56, hk.const]) hC
      intro vs5 w5 hC5
      simp only [endSeen, List.getD_cons_zero]
      intro h57
      simp only [writeAll, List.setIfInBounds_toArray, List.set_cons_zero, List.set_cons_succ, h57]
      go_wp2
      go_roundw
      case rel => exact ⟨k + 1, by omega, by go_num, Lib.hid (show ClB X w5 from bchain HB4.out hC5), Lib.hid ⟨fun j y hj hy => by
        by_cases e : j = k
        · subst e
          rw [HXX.out.1] at hy
          cases hy
          exact HOK.out
        · exact HJ.out.1 j y (by omega) hy, trivial⟩, Lib.hid (fun j y z hj hy hz => by
        by_cases e : j + 1 = k
        · subst e
          obtain rfl : j = m := by have := HKM.out; omega
          rw [HYY.out] at hy
          rw [HXX.out.1] at hz
          cases hy; cases hz
          exact HLK.out
        · exact HL.out j y z (by omega) hy hz)⟩
      case measure => simp [intOf]; omega
    · have HLK := Lib.hid (show linkB L ⟨ya, yb, yc⟩ ⟨xa, xb, xc⟩ = false by rw [hlk, decide_eq_false_iff_not]; intro h; cases h; exact hE ⟨rfl, rfl⟩)
      rw [decide_eq_false hE] at hqE
      clear hlk hE
      obtain rfl : r = false := HR.out.2.1 m _ _ HYY.out (by rw [← HKM.out]; exact HXX.out.1) HLK.out
      refine wp_region_rel_below [([(7, none)], none), ([(23, some 0)], none), ([(24, some 0)], none), ([(5, none), (25, some 0)], some (25, false)), ([(26, some 0), (25, some 1)], some (25, false)), ([(27, some 0), (25, some 2)], some (25, false)), ([(2, none), (28, some 0)], some (28, true)), ([(1, none), (28, some 1)], some (28, true)), ([(5, none), (28, some 2)], some (28, true)), ([(31, some 0), (28, some 3)], some (28, true)), ([(30, some 2), (32, some 0), (28, some 4)], some (28, true)), ([(33, some 0), (28, some 5)], some (28, true)), ([(34, some 0), (28, some 6)], some (28, true)), ([(1, none), (28, some 7)], some (28, true)), ([(5, none), (28, some 8)], some (28, true)), ([(37, some 0), (28, some 9)], some (28, true)), ([(36, some 2), (38, some 0), (28, some 10)], some (28, true)), ([(39, some 0), (28, some 11)], some (28, true)), ([(40, some 0), (28, some 12)], some (28, true)), ([(35, some 6), (41, some 0), (28, some 13)], some (28, true)), ([(29, some 13), (42, some 0), (28, some 14)], some (28, true)), ([(1, none), (28, some 15)], some (28, true)), ([(5, none), (28, some 16)], some (28, true)), ([(44, some 1), (45, some 0), (28, some 17)], some (28, true)), ([(46, some 0), (28, some 18)], some (28, true)), ([(47, some 0), (28, some 19)], some (28, true)), ([(1, none), (28, some 20)], some (28, true)), ([(5, none), (28, some 21)], some (28, true)), ([(49, some 1), (50, some 0), (28, some 22)], some (28, true)), ([(51, some 0), (28, some 23)], some (28, true)), ([(52, some 0), (28, some 24)], some (28, true)), ([(48, some 5), (53, some 0), (28, some 25)], some (28, true)), ([(43, some 11), (54, some 0), (28, some 26)], some (28, true)), ([(28, some 27), (55, some 0), (25, some 30)], some (25, false)), ([(25, some 31), (56, some 0)], none)] [(0, 57)] (by kernel_rfl) (by kernel_rfl) ?_
      refine ob_det (c := .bool true) ?_ ?_
      · intro ρ W hk hC
        simp only [seen, obOp]
        rintro h7
        replace h7 : ρ (.tmp 7) = .bool true := h7.trans rfl
        exact rel_value (by simp [go_sem, h7]) hC
      refine ob_det (c := .bool false) ?_ ?_
      · intro ρ W hk hC
        simp only [seen, obOp, List.getD_cons_zero]
        rintro h23
        exact rel_value (by simp [go_sem, h23]) hC
      refine ob_det (c := .bool false) ?_ ?_
      · intro ρ W hk hC
        simp only [seen, obOp, List.getD_cons_zero]
        rintro h24
        exact rel_value (by simp [go_sem, h24]) hC
      refine ob_det (c := .int .i64 (k : Nat)) ?_ ?_
      · intro ρ W hk hC
        simp only [seen, obOp, List.getD_cons_zero]
        rintro h5 h25
        replace h5 : ρ (.tmp 5) = .int .i64 (k : Nat) := h5.trans rfl
        refine ⟨fun _ => ?_, fun hn => absurd h25 hn⟩
        exact rel_value (by simp [go_sem, h5]) hC
      refine ob_det (c := .bool true) ?_ ?_
      · intro ρ W hk hC
        simp only [seen, obOp, List.getD_cons_zero, List.getD_cons_succ]
        rintro h26 h25
        refine ⟨fun _ => ?_, fun hn => absurd h25 hn⟩
        exact rel_value (by simp [go_sem, h26, hk.const, hk0]) hC
      refine ob_det (c := .bool true) ?_ ?_
      · intro ρ W hk hC
        simp only [seen, obOp, List.getD_cons_zero, List.getD_cons_succ]
        rintro h27 h25
        refine ⟨fun _ => ?_, fun hn => absurd h25 hn⟩
        exact rel_value (by simp [go_sem, h27]) hC
      refine ob_det (c := .agg #[.slice a0 L.secs.length p0, .slice a1 L.sigs.length p1, .slice a2 L.exits.length p2, .slice a3 L.flanks.length p3, .int .i64 L.t0, .int .i64 L.t1, .int .i64 L.t2, .int .i64 L.t3, .int .i64 L.t4, .int .i64 L.t5, .int .i64 L.t6]) ?_ ?_
      · intro ρ W hk hC
        simp only [seen, obOp, List.getD_cons_zero]
        rintro h2 h28
        replace h2 : ρ (.tmp 2) = .pointer (some ⟨w.heap.size, 0, none⟩) := h2.trans rfl
        refine ⟨fun _ => ?_, fun hn => absurd h28 hn⟩
        exact rel_value (runLoad h2 (HBX2.out.below hC)) hC
      refine ob_det (c := .slice (some ⟨b, off, none⟩) n cap) ?_ ?_
      · intro ρ W hk hC
        simp only [seen, obOp, List.getD_cons_zero, List.getD_cons_succ]
        rintro h1 h28
        replace h1 : ρ (.tmp 1) = .slice (some ⟨b, off, none⟩) n cap := h1.trans rfl
        refine ⟨fun _ => ?_, fun hn => absurd h28 hn⟩
        exact rel_value (by simp [go_sem, h1]) hC
      refine ob_det (c := .int .i64 (k : Nat)) ?_ ?_
      · intro ρ W hk hC
        simp only [seen, obOp, List.getD_cons_zero, List.getD_cons_succ]
        rintro h5 h28
        replace h5 : ρ (.tmp 5) = .int .i64 (k : Nat) := h5.trans rfl
        refine ⟨fun _ => ?_, fun hn => absurd h28 hn⟩
        exact rel_value (by simp [go_sem, h5]) hC
      refine ob_det (c := .int .i64 (m : Nat)) ?_ ?_
      · intro ρ W hk hC
        simp only [seen, obOp, List.getD_cons_zero, List.getD_cons_succ]
        rintro h31 h28
        refine ⟨fun _ => ?_, fun hn => absurd h28 hn⟩
        exact rel_value (by simp [go_sem, h31, hk.const, hsub, hwm]) hC
      refine ob_det (c := .pointer (some ⟨b, off + m * 3, none⟩)) ?_ ?_
      · intro ρ W hk hC
        simp only [seen, obOp, List.getD_cons_zero, List.getD_cons_succ]
        rintro h30 h32 h28
        refine ⟨fun _ => ?_, fun hn => absurd h28 hn⟩
        exact rel_value (by simp [go_sem, h30, h32, hmn]) hC
      refine ob_det (c := .pointer (some ⟨b, off + m * 3, none⟩)) ?_ ?_
      · intro ρ W hk hC
        simp only [seen, obOp, List.getD_cons_zero, List.getD_cons_succ]
        rintro h33 h28
        refine ⟨fun _ => ?_, fun hn => absurd h28 hn⟩
        exact rel_value (by simp [go_sem, h33]) hC
      refine ob_det (c := .int .i64 ya) ?_ ?_
      · intro ρ W hk hC
        simp only [seen, obOp, List.getD_cons_zero, List.getD_cons_succ]
        rintro h34 h28
        refine ⟨fun _ => ?_, fun hn => absurd h28 hn⟩
        exact rel_value (by simp [go_sem, h34, y0 W hC]) hC
      refine ob_det (c := .slice (some ⟨b, off, none⟩) n cap) ?_ ?_
      · intro ρ W hk hC
        simp only [seen, obOp, List.getD_cons_zero, List.getD_cons_succ]
        rintro h1 h28
        replace h1 : ρ (.tmp 1) = .slice (some ⟨b, off, none⟩) n cap := h1.trans rfl
        refine ⟨fun _ => ?_, fun hn => absurd h28 hn⟩
        exact rel_value (by simp [go_sem, h1]) hC
      refine ob_det (c := .int .i64 (k : Nat)) ?_ ?_
      · intro ρ W hk hC
        simp only [seen, obOp, List.getD_cons_zero, List.getD_cons_succ]
        rintro h5 h28
        replace h5 : ρ (.tmp 5) = .int .i64 (k : Nat) := h5.trans rfl
        refine ⟨fun _ => ?_, fun hn => absurd h28 hn⟩
        exact rel_value (by simp [go_sem, h5]) hC
      refine ob_det (c := .int .i64 (m : Nat)) ?_ ?_
      · intro ρ W hk hC
        simp only [seen, obOp, List.getD_cons_zero, List.getD_cons_succ]
        rintro h37 h28
        refine ⟨fun _ => ?_, fun hn => absurd h28 hn⟩
        exact rel_value (by simp [go_sem, h37, hk.const, hsub, hwm]) hC
      refine ob_det (c := .pointer (some ⟨b, off + m * 3, none⟩)) ?_ ?_
      · intro ρ W hk hC
        simp only [seen, obOp, List.getD_cons_zero, List.getD_cons_succ]
        rintro h36 h38 h28
        refine ⟨fun _ => ?_, fun hn => absurd h28 hn⟩
        exact rel_value (by simp [go_sem, h36, h38, hmn]) hC
      refine ob_det (c := .pointer (some ⟨b, off + m * 3 + 2, none⟩)) ?_ ?_
      · intro ρ W hk hC
        simp only [seen, obOp, List.getD_cons_zero, List.getD_cons_succ]
        rintro h39 h28
        refine ⟨fun _ => ?_, fun hn => absurd h28 hn⟩
        exact rel_value (by simp [go_sem, h39]) hC
      refine ob_det (c := .int .i64 yc) ?_ ?_
      · intro ρ W hk hC
        simp only [seen, obOp, List.getD_cons_zero, List.getD_cons_succ]
        rintro h40 h28
        refine ⟨fun _ => ?_, fun hn => absurd h28 hn⟩
        exact rel_value (by simp [go_sem, h40, y2 W hC]) hC
      refine ob_det (c := .agg #[.int .i64 ya, .int .i64 yc]) ?_ ?_
      · intro ρ W hk hC
        simp only [seen, obOp, List.getD_cons_zero, List.getD_cons_succ]
        rintro h35 h41 h28
        refine ⟨fun _ => ?_, fun hn => absurd h28 hn⟩
        exact rel_value (by simp [go_sem, h35, h41]) hC
      refine ob_det (c := .agg #[.int .i64 zs, .int .i64 zp]) ?_ ?_
      · intro ρ W hk hC
        simp only [seen, obOp, List.getD_cons_zero, List.getD_cons_succ]
        rintro h29 h42 h28
        refine ⟨fun _ => ?_, fun hn => absurd h28 hn⟩
        exact rel_call (f := 36) (args := #[.agg #[.slice a0 L.secs.length p0, .slice a1 L.sigs.length p1, .slice a2 L.exits.length p2, .slice a3 L.flanks.length p3, .int .i64 L.t0, .int .i64 L.t1, .int .i64 L.t2, .int .i64 L.t3, .int .i64 L.t4, .int .i64 L.t5, .int .i64 L.t6], .agg #[.int .i64 ya, .int .i64 yc]]) (by simp [go_sem, h29, h42, hk.func]) hC (HBY.out W hC)
      refine ob_det (c := .slice (some ⟨b, off, none⟩) n cap) ?_ ?_
      · intro ρ W hk hC
        simp only [seen, obOp, List.getD_cons_zero, List.getD_cons_succ]
        rintro h1 h28
        replace h1 : ρ (.tmp 1) = .slice (some ⟨b, off, none⟩) n cap := h1.trans rfl
        refine ⟨fun _ => ?_, fun hn => absurd h28 hn⟩
        exact rel_value (by simp [go_sem, h1]) hC
      refine ob_det (c := .int .i64 (k : Nat)) ?_ ?_
      · intro ρ W hk hC
        simp only [seen, obOp, List.getD_cons_zero, List.getD_cons_succ]
        rintro h5 h28
        replace h5 : ρ (.tmp 5) = .int .i64 (k : Nat) := h5.trans rfl
        refine ⟨fun _ => ?_, fun hn => absurd h28 hn⟩
        exact rel_value (by simp [go_sem, h5]) hC
      refine ob_det (c := .pointer (some ⟨b, off + k * 3, none⟩)) ?_ ?_
      · intro ρ W hk hC
        simp only [seen, obOp, List.getD_cons_zero, List.getD_cons_succ]
        rintro h44 h45 h28
        refine ⟨fun _ => ?_, fun hn => absurd h28 hn⟩
        exact rel_value (by simp [go_sem, h44, h45, hkn]) hC
      refine ob_det (c := .pointer (some ⟨b, off + k * 3, none⟩)) ?_ ?_
      · intro ρ W hk hC
        simp only [seen, obOp, List.getD_cons_zero, List.getD_cons_succ]
        rintro h46 h28
        refine ⟨fun _ => ?_, fun hn => absurd h28 hn⟩
        exact rel_value (by simp [go_sem, h46]) hC
      refine ob_det (c := .int .i64 xa) ?_ ?_
      · intro ρ W hk hC
        simp only [seen, obOp, List.getD_cons_zero, List.getD_cons_succ]
        rintro h47 h28
        refine ⟨fun _ => ?_, fun hn => absurd h28 hn⟩
        exact rel_value (by simp [go_sem, h47, x0 W hC]) hC
      refine ob_det (c := .slice (some ⟨b, off, none⟩) n cap) ?_ ?_
      · intro ρ W hk hC
        simp only [seen, obOp, List.getD_cons_zero, List.getD_cons_succ]
        rintro h1 h28
        replace h1 : ρ (.tmp 1) = .slice (some ⟨b, off, none⟩) n cap := h1.trans rfl
        refine ⟨fun _ => ?_, fun hn => absurd h28 hn⟩
        exact rel_value (by simp [go_sem, h1]) hC
      refine ob_det (c := .int .i64 (k : Nat)) ?_ ?_
      · intro ρ W hk hC
        simp only [seen, obOp, List.getD_cons_zero, List.getD_cons_succ]
        rintro h5 h28
        replace h5 : ρ (.tmp 5) = .int .i64 (k : Nat) := h5.trans rfl
        refine ⟨fun _ => ?_, fun hn => absurd h28 hn⟩
        exact rel_value (by simp [go_sem, h5]) hC
      refine ob_det (c := .pointer (some ⟨b, off + k * 3, none⟩)) ?_ ?_
      · intro ρ W hk hC
        simp only [seen, obOp, List.getD_cons_zero, List.getD_cons_succ]
        rintro h49 h50 h28
        refine ⟨fun _ => ?_, fun hn => absurd h28 hn⟩
        exact rel_value (by simp [go_sem, h49, h50, hkn]) hC
      refine ob_det (c := .pointer (some ⟨b, off + k * 3 + 1, none⟩)) ?_ ?_
      · intro ρ W hk hC
        simp only [seen, obOp, List.getD_cons_zero, List.getD_cons_succ]
        rintro h51 h28
        refine ⟨fun _ => ?_, fun hn => absurd h28 hn⟩
        exact rel_value (by simp [go_sem, h51]) hC
      refine ob_det (c := .int .i64 xb) ?_ ?_
      · intro ρ W hk hC
        simp only [seen, obOp, List.getD_cons_zero, List.getD_cons_succ]
        rintro h52 h28
        refine ⟨fun _ => ?_, fun hn => absurd h28 hn⟩
        exact rel_value (by simp [go_sem, h52, x1 W hC]) hC
      refine ob_det (c := .agg #[.int .i64 xa, .int .i64 xb]) ?_ ?_
      · intro ρ W hk hC
        simp only [seen, obOp, List.getD_cons_zero, List.getD_cons_succ]
        rintro h48 h53 h28
        refine ⟨fun _ => ?_, fun hn => absurd h28 hn⟩
        exact rel_value (by simp [go_sem, h48, h53]) hC
      refine ob_det (c := .bool true) ?_ ?_
      · intro ρ W hk hC
        simp only [seen, obOp, List.getD_cons_zero, List.getD_cons_succ]
        rintro h43 h54 h28
        refine ⟨fun _ => ?_, fun hn => absurd h28 hn⟩
        exact rel_value (by simp [go_sem, h43, h54, hqE]) hC
      refine ob_det (c := .bool true) ?_ ?_
      · intro ρ W hk hC
        simp only [seen, obOp, List.getD_cons_zero, List.getD_cons_succ]
        rintro h28 h55 h25
        refine ⟨fun _ => ?_, fun hn => absurd h25 hn⟩
        exact rel_value (by simp [go_sem, h28, h55, hk.const]) hC
      refine ob_det (c := .bool true) ?_ ?_
      · intro ρ W hk hC
        simp only [seen, obOp, List.getD_cons_zero, List.getD_cons_succ]
        rintro h25 h56
        exact rel_value (by simp [go_sem, h25, h56, hk.const]) hC
      intro vs5 w5 hC5
      simp only [endSeen, List.getD_cons_zero]
      intro h57
      simp only [writeAll, List.setIfInBounds_toArray, List.set_cons_zero, List.set_cons_succ, h57]
      go_wp2
      go_ret
      exact ⟨rfl, bchain HX.out.1 (bchain HB4.out hC5)⟩
end Go.Proofs.YtpcojaoeahdgcaaGreatDoor
