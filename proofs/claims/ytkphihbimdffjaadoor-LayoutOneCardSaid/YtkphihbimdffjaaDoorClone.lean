/-
  slices.Clone at the structs of a layout.
-/
import Derived.Test.YtkphihbimdffjaaDoorSame2
namespace Go.Proofs.YtkphihbimdffjaaDoor
open Go.RowKit Go.Shelf

theorem flat_get {α : Type} {enc : α → List Value} {k : Nat} (hk : ∀ x, (enc x).length = k) (h0 : 0 < k) : ∀ (xs : List α) (j : Nat), (xs.flatMap enc)[j]? = (xs[j / k]?).bind fun x => (enc x)[j % k]?
  | [], j => by simp
  | x :: xs, j => by
    rw [List.flatMap_cons]
    by_cases h : j < k
    · rw [List.getElem?_append_left (by rw [hk]; exact h), Nat.div_eq_of_lt h, Nat.mod_eq_of_lt h]
      rfl
    · rw [List.getElem?_append_right (by rw [hk]; omega), hk, flat_get hk h0 xs (j - k)]
      obtain ⟨i, rfl⟩ : ∃ i, j = i + k := ⟨j - k, by omega⟩
      rw [Nat.add_sub_cancel, Nat.add_div_right _ h0, Nat.add_mod_right]
      rfl
theorem flat_len {α : Type} {enc : α → List Value} {k : Nat} (hk : ∀ x, (enc x).length = k) (xs : List α) : (xs.flatMap enc).length = xs.length * k := by
  induction xs with
  | nil => simp
  | cons x xs ih => rw [List.flatMap_cons, List.length_append, hk, ih, List.length_cons, Nat.add_mul, Nat.one_mul, Nat.add_comm]
theorem add_at {b o j : Nat} : (⟨b, o, none⟩ : Addr).add j = ⟨b, o + j, none⟩ := by unfold Addr.add; split <;> simp_all
theorem flat_cells {α : Type} {enc : α → List Value} {k : Nat} (hk : ∀ x, (enc x).length = k) (h0 : 0 < k) {W : World} {b off : Nat} {xs : List α} (h : RowAt' W k enc b off xs) (j : Nat) (u : Value) (hu : (xs.flatMap enc)[j]? = some u) : W.cell? ((⟨b, off, none⟩ : Addr).add j) = some u := by
  rw [flat_get hk h0] at hu
  obtain ⟨x, hx, hv⟩ := Option.bind_eq_some_iff.1 hu
  rw [add_at]
  have := h.2 (j / k) x hx (j % k) u hv
  rwa [Nat.add_assoc, Nat.mul_comm, Nat.div_add_mod] at this
theorem at_of_row {α : Type} {enc : α → List Value} {k : Nat} (hk : ∀ x, (enc x).length = k) (h0 : 0 < k) {W : World} {B e : Nat} {v : Value} {xs : List α} (h : W.ownsRow B e k v xs.length (xs.flatMap enc)) : Sl W k enc v xs := by
  have hc := fun g hg => h.cells (g := g) hg
  rcases h.2 with ⟨rfl, hz⟩ | ⟨g, cap, cur, rfl, hb, hg, h1, h2, _, _⟩
  · exact ⟨none, 0, by rw [hz], by omega, by unfold maxLen; omega, .inl (List.eq_nil_of_length_eq_zero hz)⟩
  · refine ⟨_, cap, rfl, h1, h2, .inr ⟨g, 0, rfl, (Array.getElem?_eq_some_iff.1 hg).1, fun j x hx i u hu => ?_⟩⟩
    have hlt : i < k := by rw [← hk x]; exact (List.getElem?_eq_some_iff.1 hu).1
    have := hc g rfl (j * k + i) u (by
      rw [flat_get hk h0, show (j * k + i) / k = j by rw [Nat.mul_comm, Nat.mul_add_div h0, Nat.div_eq_of_lt hlt]; omega, hx, show (j * k + i) % k = i by rw [Nat.mul_comm, Nat.mul_add_mod]; exact Nat.mod_eq_of_lt hlt]
      exact hu)
    rw [add_at] at this
    rwa [Nat.add_assoc]
/-- A copy comes back, in a row of its own. -/
def CloneOf {α : Type} (e : TypeId) (k : Nat) (enc : α → List Value) (xs : List α) (w : World) (en : Ending) (w' : World) : Prop :=
  ∃ v, en = .returned v ∧ w'.ownsRow w.heap.size e k v xs.length (xs.flatMap enc) ∧ Below w.heap.size w w'

theorem info_Section : ∃ i z, Tryd.prog.info? 39 = some i ∧ i.zero = some z ∧ i.size = 11 ∧ z.cells.size = 11 ∧ i.bytes ≤ 100 := by
  have h : (Tryd.prog.info? 39).any (fun i => (match i.zero with | some z => decide (z.cells.size = 11) | none => false) && decide (i.size = 11) && decide (i.bytes ≤ 100)) = true := by kernel_rfl
  cases hi : Tryd.prog.info? 39 with
  | none => rw [hi] at h; cases h
  | some i =>
    rw [hi] at h
    simp only [Option.any_some, Bool.and_eq_true, decide_eq_true_iff] at h
    cases hz : i.zero with
    | none => rw [hz] at h; simp at h
    | some z =>
      rw [hz] at h
      simp at h
      exact ⟨i, z, rfl, hz, h.1.2, h.1.1, h.2⟩
set_option maxRecDepth 100000 in
set_option maxHeartbeats 2000000 in
theorem cloneSection_any (A : Option Addr) (cap : Nat) (xs : List Sec) (w : World) (hA : At w 11 Sec.enc A xs) (hl : xs.length ≤ 1000) :
    Calls Tryd.prog 58 #[.slice A xs.length cap] w (CloneOf 39 11 Sec.enc xs w) := by
  obtain ⟨i0, z0, hi, hz, hs1, hs2, hs3⟩ := info_Section
  have hone : ∀ u ∈ xs.flatMap Sec.enc, u.oneCell' = true := by
    intro u hu
    obtain ⟨x, hx, hu⟩ := List.mem_flatMap.1 hu
    skip
    simp only [Sec.enc, List.mem_cons, List.not_mem_nil, or_false] at hu
    skip
    rcases hu with rfl | rfl | rfl | rfl | rfl | rfl | rfl | rfl | rfl | rfl | rfl <;> rfl
  have HO := Lib.hid hone
  have HA := Lib.hid hA
  have HL := Lib.hid hl
  have hnil := fun (W : World) (a : Option Addr) (n c : Nat) => Lib.run_equalIn_slice_nil (P := Tryd.prog) W 9999 22 39 a n c 0 0 Tryd.underlying22
  simp only [Nat.reduceAdd] at hnil
  have hnil2 := fun (W : World) (a : Option Addr) (n c : Nat) => Lib.run_eql_slice_nil (P := Tryd.prog) W 22 39 a n c 0 0 Tryd.underlying22
  cases A with
  | none =>
    obtain rfl : xs = [] := by
      rcases hA with h | ⟨b, off, h, _⟩
      · exact h
      · cases h
    clear hA hl hone hi hz hs1 hs2 hs3
    go_enter Tryd.func58, Tryd.ntmps58
    go_wp2
    go_ret
    exact ⟨_, rfl, World.ownsRow_nil _ _ _ _, Below.refl _ _⟩
  | some ad =>
    obtain ⟨len, hlen⟩ : ∃ len, len = xs.length := ⟨_, rfl⟩
    rw [← hlen]
    have HN := Lib.hid hlen
    have HI := Lib.hid (⟨hi, hz, hs1, hs2, hs3⟩ : _ ∧ _ ∧ _ ∧ _ ∧ _)
    clear hA hl hone hlen hi hz hs1 hs2 hs3
    go_enter Tryd.func58, Tryd.ntmps58
    go_wp2_with (at_builtin; refine wpList_append_own _ rfl _ _ 22 rfl w.heap.size 39 i0 z0 11 i0.bytes Tryd.underlying22 HI.out.1 HI.out.2.1 HI.out.2.2.1 rfl HI.out.2.2.2.1 (by decide) _ 0 [] rfl ?hown ad len cap (xs.flatMap Sec.enc) rfl ?c0 ?c1 ?c2 ?c3 ?c4 ?c5 ?_)
    case hown => exact ⟨rfl, .inr ⟨w.heap.size, 0, #[], rfl, Nat.le_refl _, World.alloc_heap_new _ _, Nat.le_refl _, by unfold maxLen; omega, by simp, by simp⟩⟩
    case c0 => rw [flat_len (enc := Sec.enc) (k := 11) (fun _ => rfl) xs, HN.out]
    case c1 =>
      intro j u hu
      rcases HA.out with h | ⟨b, off, h, hrow⟩
      · rw [h] at hu
        simp at hu
      · cases h
        have hx := flat_cells (enc := Sec.enc) (k := 11) (fun _ => rfl) (by decide) hrow j u hu
        rw [add_at] at hx ⊢
        exact ((bself (w := w)).cell (p := ⟨b, off + j, none⟩) hrow.1).trans hx
    case c2 => exact HO.out
    case c3 =>
      have := HL.out
      have := HN.out
      unfold maxLen
      omega
    case c4 =>
      have h1 : len ≤ 1000 := by rw [HN.out]; exact HL.out
      have h2 := Nat.mul_le_mul h1 HI.out.2.2.2.2
      rw [Nat.zero_add]
      omega
    case c5 => simp
    intro v' w1 hown' hgrow _
    have HG := Lib.hid (⟨hown', hgrow⟩ : _ ∧ _)
    clear hown' hgrow
    go_wp2
    go_ret
    exact ⟨v', rfl, by have h := HG.out.1; rw [HN.out] at h; exact h, (bself (w := w)).grown HG.out.2 (by simp) (fun k e => by cases e; exact Nat.le_refl _)⟩

theorem info_Signal : ∃ i z, Tryd.prog.info? 50 = some i ∧ i.zero = some z ∧ i.size = 2 ∧ z.cells.size = 2 ∧ i.bytes ≤ 100 := by
  have h : (Tryd.prog.info? 50).any (fun i => (match i.zero with | some z => decide (z.cells.size = 2) | none => false) && decide (i.size = 2) && decide (i.bytes ≤ 100)) = true := by kernel_rfl
  cases hi : Tryd.prog.info? 50 with
  | none => rw [hi] at h; cases h
  | some i =>
    rw [hi] at h
    simp only [Option.any_some, Bool.and_eq_true, decide_eq_true_iff] at h
    cases hz : i.zero with
    | none => rw [hz] at h; simp at h
    | some z =>
      rw [hz] at h
      simp at h
      exact ⟨i, z, rfl, hz, h.1.2, h.1.1, h.2⟩
set_option maxRecDepth 100000 in
set_option maxHeartbeats 2000000 in
theorem cloneSignal_any (A : Option Addr) (cap : Nat) (xs : List Prt) (w : World) (hA : At w 2 Prt.enc A xs) (hl : xs.length ≤ 1000) :
    Calls Tryd.prog 59 #[.slice A xs.length cap] w (CloneOf 50 2 Prt.enc xs w) := by
  obtain ⟨i0, z0, hi, hz, hs1, hs2, hs3⟩ := info_Signal
  have hone : ∀ u ∈ xs.flatMap Prt.enc, u.oneCell' = true := by
    intro u hu
    obtain ⟨x, hx, hu⟩ := List.mem_flatMap.1 hu
    skip
    simp only [Prt.enc, List.mem_cons, List.not_mem_nil, or_false] at hu
    skip
    rcases hu with rfl | rfl <;> rfl
  have HO := Lib.hid hone
  have HA := Lib.hid hA
  have HL := Lib.hid hl
  have hnil := fun (W : World) (a : Option Addr) (n c : Nat) => Lib.run_equalIn_slice_nil (P := Tryd.prog) W 9999 23 50 a n c 0 0 Tryd.underlying23
  simp only [Nat.reduceAdd] at hnil
  have hnil2 := fun (W : World) (a : Option Addr) (n c : Nat) => Lib.run_eql_slice_nil (P := Tryd.prog) W 23 50 a n c 0 0 Tryd.underlying23
  cases A with
  | none =>
    obtain rfl : xs = [] := by
      rcases hA with h | ⟨b, off, h, _⟩
      · exact h
      · cases h
    clear hA hl hone hi hz hs1 hs2 hs3
    go_enter Tryd.func59, Tryd.ntmps59
    go_wp2
    go_ret
    exact ⟨_, rfl, World.ownsRow_nil _ _ _ _, Below.refl _ _⟩
  | some ad =>
    obtain ⟨len, hlen⟩ : ∃ len, len = xs.length := ⟨_, rfl⟩
    rw [← hlen]
    have HN := Lib.hid hlen
    have HI := Lib.hid (⟨hi, hz, hs1, hs2, hs3⟩ : _ ∧ _ ∧ _ ∧ _ ∧ _)
    clear hA hl hone hlen hi hz hs1 hs2 hs3
    go_enter Tryd.func59, Tryd.ntmps59
    go_wp2_with (at_builtin; refine wpList_append_own _ rfl _ _ 23 rfl w.heap.size 50 i0 z0 2 i0.bytes Tryd.underlying23 HI.out.1 HI.out.2.1 HI.out.2.2.1 rfl HI.out.2.2.2.1 (by decide) _ 0 [] rfl ?hown ad len cap (xs.flatMap Prt.enc) rfl ?c0 ?c1 ?c2 ?c3 ?c4 ?c5 ?_)
    case hown => exact ⟨rfl, .inr ⟨w.heap.size, 0, #[], rfl, Nat.le_refl _, World.alloc_heap_new _ _, Nat.le_refl _, by unfold maxLen; omega, by simp, by simp⟩⟩
    case c0 => rw [flat_len (enc := Prt.enc) (k := 2) (fun _ => rfl) xs, HN.out]
    case c1 =>
      intro j u hu
      rcases HA.out with h | ⟨b, off, h, hrow⟩
      · rw [h] at hu
        simp at hu
      · cases h
        have hx := flat_cells (enc := Prt.enc) (k := 2) (fun _ => rfl) (by decide) hrow j u hu
        rw [add_at] at hx ⊢
        exact ((bself (w := w)).cell (p := ⟨b, off + j, none⟩) hrow.1).trans hx
    case c2 => exact HO.out
    case c3 =>
      have := HL.out
      have := HN.out
      unfold maxLen
      omega
    case c4 =>
      have h1 : len ≤ 1000 := by rw [HN.out]; exact HL.out
      have h2 := Nat.mul_le_mul h1 HI.out.2.2.2.2
      rw [Nat.zero_add]
      omega
    case c5 => simp
    intro v' w1 hown' hgrow _
    have HG := Lib.hid (⟨hown', hgrow⟩ : _ ∧ _)
    clear hown' hgrow
    go_wp2
    go_ret
    exact ⟨v', rfl, by have h := HG.out.1; rw [HN.out] at h; exact h, (bself (w := w)).grown HG.out.2 (by simp) (fun k e => by cases e; exact Nat.le_refl _)⟩

theorem info_Flank : ∃ i z, Tryd.prog.info? 55 = some i ∧ i.zero = some z ∧ i.size = 4 ∧ z.cells.size = 4 ∧ i.bytes ≤ 100 := by
  have h : (Tryd.prog.info? 55).any (fun i => (match i.zero with | some z => decide (z.cells.size = 4) | none => false) && decide (i.size = 4) && decide (i.bytes ≤ 100)) = true := by kernel_rfl
  cases hi : Tryd.prog.info? 55 with
  | none => rw [hi] at h; cases h
  | some i =>
    rw [hi] at h
    simp only [Option.any_some, Bool.and_eq_true, decide_eq_true_iff] at h
    cases hz : i.zero with
    | none => rw [hz] at h; simp at h
    | some z =>
      rw [hz] at h
      simp at h
      exact ⟨i, z, rfl, hz, h.1.2, h.1.1, h.2⟩
set_option maxRecDepth 100000 in
set_option maxHeartbeats 2000000 in
theorem cloneFlank_any (A : Option Addr) (cap : Nat) (xs : List Flk) (w : World) (hA : At w 4 Flk.enc A xs) (hl : xs.length ≤ 1000) :
    Calls Tryd.prog 60 #[.slice A xs.length cap] w (CloneOf 55 4 Flk.enc xs w) := by
  obtain ⟨i0, z0, hi, hz, hs1, hs2, hs3⟩ := info_Flank
  have hone : ∀ u ∈ xs.flatMap Flk.enc, u.oneCell' = true := by
    intro u hu
    obtain ⟨x, hx, hu⟩ := List.mem_flatMap.1 hu
    skip
    simp only [Flk.enc, List.mem_cons, List.not_mem_nil, or_false] at hu
    skip
    rcases hu with rfl | rfl | rfl | rfl <;> rfl
  have HO := Lib.hid hone
  have HA := Lib.hid hA
  have HL := Lib.hid hl
  have hnil := fun (W : World) (a : Option Addr) (n c : Nat) => Lib.run_equalIn_slice_nil (P := Tryd.prog) W 9999 25 55 a n c 0 0 Tryd.underlying25
  simp only [Nat.reduceAdd] at hnil
  have hnil2 := fun (W : World) (a : Option Addr) (n c : Nat) => Lib.run_eql_slice_nil (P := Tryd.prog) W 25 55 a n c 0 0 Tryd.underlying25
  cases A with
  | none =>
    obtain rfl : xs = [] := by
      rcases hA with h | ⟨b, off, h, _⟩
      · exact h
      · cases h
    clear hA hl hone hi hz hs1 hs2 hs3
    go_enter Tryd.func60, Tryd.ntmps60
    go_wp2
    go_ret
    exact ⟨_, rfl, World.ownsRow_nil _ _ _ _, Below.refl _ _⟩
  | some ad =>
    obtain ⟨len, hlen⟩ : ∃ len, len = xs.length := ⟨_, rfl⟩
    rw [← hlen]
    have HN := Lib.hid hlen
    have HI := Lib.hid (⟨hi, hz, hs1, hs2, hs3⟩ : _ ∧ _ ∧ _ ∧ _ ∧ _)
    clear hA hl hone hlen hi hz hs1 hs2 hs3
    go_enter Tryd.func60, Tryd.ntmps60
    go_wp2_with (at_builtin; refine wpList_append_own _ rfl _ _ 25 rfl w.heap.size 55 i0 z0 4 i0.bytes Tryd.underlying25 HI.out.1 HI.out.2.1 HI.out.2.2.1 rfl HI.out.2.2.2.1 (by decide) _ 0 [] rfl ?hown ad len cap (xs.flatMap Flk.enc) rfl ?c0 ?c1 ?c2 ?c3 ?c4 ?c5 ?_)
    case hown => exact ⟨rfl, .inr ⟨w.heap.size, 0, #[], rfl, Nat.le_refl _, World.alloc_heap_new _ _, Nat.le_refl _, by unfold maxLen; omega, by simp, by simp⟩⟩
    case c0 => rw [flat_len (enc := Flk.enc) (k := 4) (fun _ => rfl) xs, HN.out]
    case c1 =>
      intro j u hu
      rcases HA.out with h | ⟨b, off, h, hrow⟩
      · rw [h] at hu
        simp at hu
      · cases h
        have hx := flat_cells (enc := Flk.enc) (k := 4) (fun _ => rfl) (by decide) hrow j u hu
        rw [add_at] at hx ⊢
        exact ((bself (w := w)).cell (p := ⟨b, off + j, none⟩) hrow.1).trans hx
    case c2 => exact HO.out
    case c3 =>
      have := HL.out
      have := HN.out
      unfold maxLen
      omega
    case c4 =>
      have h1 : len ≤ 1000 := by rw [HN.out]; exact HL.out
      have h2 := Nat.mul_le_mul h1 HI.out.2.2.2.2
      rw [Nat.zero_add]
      omega
    case c5 => simp
    intro v' w1 hown' hgrow _
    have HG := Lib.hid (⟨hown', hgrow⟩ : _ ∧ _)
    clear hown' hgrow
    go_wp2
    go_ret
    exact ⟨v', rfl, by have h := HG.out.1; rw [HN.out] at h; exact h, (bself (w := w)).grown HG.out.2 (by simp) (fun k e => by cases e; exact Nat.le_refl _)⟩

theorem info_Exit : ∃ i z, Tryd.prog.info? 53 = some i ∧ i.zero = some z ∧ i.size = 3 ∧ z.cells.size = 3 ∧ i.bytes ≤ 100 := by
  have h : (Tryd.prog.info? 53).any (fun i => (match i.zero with | some z => decide (z.cells.size = 3) | none => false) && decide (i.size = 3) && decide (i.bytes ≤ 100)) = true := by kernel_rfl
  cases hi : Tryd.prog.info? 53 with
  | none => rw [hi] at h; cases h
  | some i =>
    rw [hi] at h
    simp only [Option.any_some, Bool.and_eq_true, decide_eq_true_iff] at h
    cases hz : i.zero with
    | none => rw [hz] at h; simp at h
    | some z =>
      rw [hz] at h
      simp at h
      exact ⟨i, z, rfl, hz, h.1.2, h.1.1, h.2⟩
set_option maxRecDepth 100000 in
set_option maxHeartbeats 2000000 in
theorem cloneExit_any (A : Option Addr) (cap : Nat) (xs : List (Ext' × Value)) (w : World) (hA : At w 3 Ext'.enc A xs) (hl : xs.length ≤ 1000) (ho : ∀ e ∈ xs, ∃ A n c, e.2 = .slice A n c) :
    Calls Tryd.prog 61 #[.slice A xs.length cap] w (CloneOf 53 3 Ext'.enc xs w) := by
  obtain ⟨i0, z0, hi, hz, hs1, hs2, hs3⟩ := info_Exit
  have hone : ∀ u ∈ xs.flatMap Ext'.enc, u.oneCell' = true := by
    intro u hu
    obtain ⟨x, hx, hu⟩ := List.mem_flatMap.1 hu
    obtain ⟨vA, vn, vc, ve⟩ := ho x hx
    simp only [Ext'.enc, List.mem_cons, List.not_mem_nil, or_false] at hu
    rw [ve] at hu
    rcases hu with rfl | rfl | rfl <;> rfl
  have HO := Lib.hid hone
  have HA := Lib.hid hA
  have HL := Lib.hid hl
  have hnil := fun (W : World) (a : Option Addr) (n c : Nat) => Lib.run_equalIn_slice_nil (P := Tryd.prog) W 9999 24 53 a n c 0 0 Tryd.underlying24
  simp only [Nat.reduceAdd] at hnil
  have hnil2 := fun (W : World) (a : Option Addr) (n c : Nat) => Lib.run_eql_slice_nil (P := Tryd.prog) W 24 53 a n c 0 0 Tryd.underlying24
  cases A with
  | none =>
    obtain rfl : xs = [] := by
      rcases hA with h | ⟨b, off, h, _⟩
      · exact h
      · cases h
    clear hA hl hone hi hz hs1 hs2 hs3 ho
    go_enter Tryd.func61, Tryd.ntmps61
    go_wp2
    go_ret
    exact ⟨_, rfl, World.ownsRow_nil _ _ _ _, Below.refl _ _⟩
  | some ad =>
    obtain ⟨len, hlen⟩ : ∃ len, len = xs.length := ⟨_, rfl⟩
    rw [← hlen]
    have HN := Lib.hid hlen
    have HI := Lib.hid (⟨hi, hz, hs1, hs2, hs3⟩ : _ ∧ _ ∧ _ ∧ _ ∧ _)
    clear hA hl hone hlen hi hz hs1 hs2 hs3 ho
    go_enter Tryd.func61, Tryd.ntmps61
    go_wp2_with (at_builtin; refine wpList_append_own _ rfl _ _ 24 rfl w.heap.size 53 i0 z0 3 i0.bytes Tryd.underlying24 HI.out.1 HI.out.2.1 HI.out.2.2.1 rfl HI.out.2.2.2.1 (by decide) _ 0 [] rfl ?hown ad len cap (xs.flatMap Ext'.enc) rfl ?c0 ?c1 ?c2 ?c3 ?c4 ?c5 ?_)
    case hown => exact ⟨rfl, .inr ⟨w.heap.size, 0, #[], rfl, Nat.le_refl _, World.alloc_heap_new _ _, Nat.le_refl _, by unfold maxLen; omega, by simp, by simp⟩⟩
    case c0 => rw [flat_len (enc := Ext'.enc) (k := 3) (fun _ => rfl) xs, HN.out]
    case c1 =>
      intro j u hu
      rcases HA.out with h | ⟨b, off, h, hrow⟩
      · rw [h] at hu
        simp at hu
      · cases h
        have hx := flat_cells (enc := Ext'.enc) (k := 3) (fun _ => rfl) (by decide) hrow j u hu
        rw [add_at] at hx ⊢
        exact ((bself (w := w)).cell (p := ⟨b, off + j, none⟩) hrow.1).trans hx
    case c2 => exact HO.out
    case c3 =>
      have := HL.out
      have := HN.out
      unfold maxLen
      omega
    case c4 =>
      have h1 : len ≤ 1000 := by rw [HN.out]; exact HL.out
      have h2 := Nat.mul_le_mul h1 HI.out.2.2.2.2
      rw [Nat.zero_add]
      omega
    case c5 => simp
    intro v' w1 hown' hgrow _
    have HG := Lib.hid (⟨hown', hgrow⟩ : _ ∧ _)
    clear hown' hgrow
    go_wp2
    go_ret
    exact ⟨v', rfl, by have h := HG.out.1; rw [HN.out] at h; exact h, (bself (w := w)).grown HG.out.2 (by simp) (fun k e => by cases e; exact Nat.le_refl _)⟩

theorem info_Step : ∃ i z, Tryd.prog.info? 33 = some i ∧ i.zero = some z ∧ i.size = 3 ∧ z.cells.size = 3 ∧ i.bytes ≤ 100 := by
  have h : (Tryd.prog.info? 33).any (fun i => (match i.zero with | some z => decide (z.cells.size = 3) | none => false) && decide (i.size = 3) && decide (i.bytes ≤ 100)) = true := by kernel_rfl
  cases hi : Tryd.prog.info? 33 with
  | none => rw [hi] at h; cases h
  | some i =>
    rw [hi] at h
    simp only [Option.any_some, Bool.and_eq_true, decide_eq_true_iff] at h
    cases hz : i.zero with
    | none => rw [hz] at h; simp at h
    | some z =>
      rw [hz] at h
      simp at h
      exact ⟨i, z, rfl, hz, h.1.2, h.1.1, h.2⟩
set_option maxRecDepth 100000 in
set_option maxHeartbeats 2000000 in
theorem cloneStep_any (A : Option Addr) (cap : Nat) (xs : List Stp) (w : World) (hA : At w 3 Stp.enc A xs) (hl : xs.length ≤ 1000) :
    Calls Tryd.prog 62 #[.slice A xs.length cap] w (CloneOf 33 3 Stp.enc xs w) := by
  obtain ⟨i0, z0, hi, hz, hs1, hs2, hs3⟩ := info_Step
  have hone : ∀ u ∈ xs.flatMap Stp.enc, u.oneCell' = true := by
    intro u hu
    obtain ⟨x, hx, hu⟩ := List.mem_flatMap.1 hu
    skip
    simp only [Stp.enc, List.mem_cons, List.not_mem_nil, or_false] at hu
    skip
    rcases hu with rfl | rfl | rfl <;> rfl
  have HO := Lib.hid hone
  have HA := Lib.hid hA
  have HL := Lib.hid hl
  have hnil := fun (W : World) (a : Option Addr) (n c : Nat) => Lib.run_equalIn_slice_nil (P := Tryd.prog) W 9999 51 33 a n c 0 0 Tryd.underlying51
  simp only [Nat.reduceAdd] at hnil
  have hnil2 := fun (W : World) (a : Option Addr) (n c : Nat) => Lib.run_eql_slice_nil (P := Tryd.prog) W 51 33 a n c 0 0 Tryd.underlying51
  cases A with
  | none =>
    obtain rfl : xs = [] := by
      rcases hA with h | ⟨b, off, h, _⟩
      · exact h
      · cases h
    clear hA hl hone hi hz hs1 hs2 hs3
    go_enter Tryd.func62, Tryd.ntmps62
    go_wp2
    go_ret
    exact ⟨_, rfl, World.ownsRow_nil _ _ _ _, Below.refl _ _⟩
  | some ad =>
    obtain ⟨len, hlen⟩ : ∃ len, len = xs.length := ⟨_, rfl⟩
    rw [← hlen]
    have HN := Lib.hid hlen
    have HI := Lib.hid (⟨hi, hz, hs1, hs2, hs3⟩ : _ ∧ _ ∧ _ ∧ _ ∧ _)
    clear hA hl hone hlen hi hz hs1 hs2 hs3
    go_enter Tryd.func62, Tryd.ntmps62
    go_wp2_with (at_builtin; refine wpList_append_own _ rfl _ _ 51 rfl w.heap.size 33 i0 z0 3 i0.bytes Tryd.underlying51 HI.out.1 HI.out.2.1 HI.out.2.2.1 rfl HI.out.2.2.2.1 (by decide) _ 0 [] rfl ?hown ad len cap (xs.flatMap Stp.enc) rfl ?c0 ?c1 ?c2 ?c3 ?c4 ?c5 ?_)
    case hown => exact ⟨rfl, .inr ⟨w.heap.size, 0, #[], rfl, Nat.le_refl _, World.alloc_heap_new _ _, Nat.le_refl _, by unfold maxLen; omega, by simp, by simp⟩⟩
    case c0 => rw [flat_len (enc := Stp.enc) (k := 3) (fun _ => rfl) xs, HN.out]
    case c1 =>
      intro j u hu
      rcases HA.out with h | ⟨b, off, h, hrow⟩
      · rw [h] at hu
        simp at hu
      · cases h
        have hx := flat_cells (enc := Stp.enc) (k := 3) (fun _ => rfl) (by decide) hrow j u hu
        rw [add_at] at hx ⊢
        exact ((bself (w := w)).cell (p := ⟨b, off + j, none⟩) hrow.1).trans hx
    case c2 => exact HO.out
    case c3 =>
      have := HL.out
      have := HN.out
      unfold maxLen
      omega
    case c4 =>
      have h1 : len ≤ 1000 := by rw [HN.out]; exact HL.out
      have h2 := Nat.mul_le_mul h1 HI.out.2.2.2.2
      rw [Nat.zero_add]
      omega
    case c5 => simp
    intro v' w1 hown' hgrow _
    have HG := Lib.hid (⟨hown', hgrow⟩ : _ ∧ _)
    clear hown' hgrow
    go_wp2
    go_ret
    exact ⟨v', rfl, by have h := HG.out.1; rw [HN.out] at h; exact h, (bself (w := w)).grown HG.out.2 (by simp) (fun k e => by cases e; exact Nat.le_refl _)⟩
end Go.Proofs.YtkphihbimdffjaaDoor
