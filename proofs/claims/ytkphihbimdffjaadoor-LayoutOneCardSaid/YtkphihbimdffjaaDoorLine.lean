/-
  lockbarlaw06.line: the layout of the law's own examples.
-/
import Derived.Test.YtkphihbimdffjaaDoorClone
namespace Go.Proofs.YtkphihbimdffjaaDoor
open Go.RowKit Go.Shelf

def lineL : Lay := ⟨[⟨1, -1, 0, 1, 0, -1, 0, -1, 0, 0, 0⟩, ⟨2, 0, 1, 2, 0, 3, 0, -1, 0, 0, 1⟩, ⟨1, 1, 1, -1, 0, -1, 0, -1, 0, 0, 0⟩, ⟨1, 1, 2, -1, 0, -1, 0, -1, 0, 0, 0⟩], [⟨0, 0⟩], [⟨1, 1, [⟨2, 0, 1⟩]⟩, ⟨3, 1, []⟩], [], 1, 1, 1, 1, 1, 1, 1⟩
/-- Where line's slices lie, from block n on. -/
def lineP (n : Nat) : Where := ⟨some ⟨n, 0, none⟩, some ⟨n + 1, 0, none⟩, some ⟨n + 1 + 1 + 1, 0, none⟩, none, 4, 1, 2, 0⟩
/-- The cells of line's blocks, from block n on. -/
structure LineAt (W : World) (n : Nat) : Prop where
  lt : n + 1 + 1 + 1 < W.heap.size
  secs : RowAt' W 11 Sec.enc n 0 lineL.secs
  sigs : RowAt' W 2 Prt.enc (n + 1) 0 lineL.sigs
  over : RowAt' W 3 Stp.enc (n + 1 + 1) 0 [⟨2, 0, 1⟩]
  exits : RowAt' W 3 Ext'.enc (n + 1 + 1 + 1) 0 [(⟨1, 1, [⟨2, 0, 1⟩]⟩, .slice (some ⟨n + 1 + 1, 0, none⟩) 1 1), (⟨3, 1, []⟩, .slice none 0 0)]
theorem LineAt.below {W W' : World} {n : Nat} (h : LineAt W n) (hb : Below W.heap.size W W') : LineAt W' n :=
  ⟨Nat.lt_of_lt_of_le h.lt hb.size, h.secs.below hb, h.sigs.below hb, h.over.below hb, h.exits.below hb⟩
theorem LineAt.lay {W : World} {n : Nat} (h : LineAt W n) : LayAt W (lineP n) lineL := by
  refine ⟨.inr ⟨_, _, rfl, h.secs⟩, .inr ⟨_, _, rfl, h.sigs⟩, ⟨_, rfl, .inr ⟨_, _, rfl, h.exits⟩, fun e he => ?_⟩, .inl rfl, by simp [lineL, lineP], by simp [lineL, lineP], by simp [lineL, lineP], by simp [lineL, lineP], by simp [lineL]⟩
  simp only [List.mem_cons, List.not_mem_nil, or_false] at he
  rcases he with rfl | rfl
  · exact ⟨_, _, rfl, by simp, by unfold maxLen; omega, .inr ⟨_, _, rfl, h.over⟩⟩
  · exact ⟨_, _, rfl, by simp, by unfold maxLen; omega, .inl rfl⟩

theorem rowAt_flat {α : Type} {W : World} {k : Nat} {enc : α → List Value} {b : Nat} {xs : List α} (hk : ∀ x, (enc x).length = k) (h0 : 0 < k) (hb : b < W.heap.size) (hc : ∀ (o : Nat) (v : Value), (xs.flatMap enc)[o]? = some v → W.cell? ⟨b, o, none⟩ = some v) : RowAt' W k enc b 0 xs :=
  ⟨hb, fun j x hj i v hv => by
    rw [Nat.zero_add]
    have hlt : i < k := by rw [← hk x]; exact (List.getElem?_eq_some_iff.1 hv).1
    refine hc _ _ ?_
    rw [flat_get hk h0, show (j * k + i) / k = j by rw [Nat.mul_comm, Nat.mul_add_div h0, Nat.div_eq_of_lt hlt]; omega, hj, show (j * k + i) % k = i by rw [Nat.mul_comm, Nat.mul_add_mod]; exact Nat.mod_eq_of_lt hlt]
    exact hv⟩

set_option maxRecDepth 100000 in
set_option maxHeartbeats 4000000 in
theorem line_any (w : World) : Calls Tryd.prog 26 #[] w fun e w' => e = .returned (lineL.val (lineP (w.heap.size + 1 + 1 + 1))) ∧ LineAt w' (w.heap.size + 1 + 1 + 1) ∧ (∀ o, w'.frozen? ⟨w.heap.size + 1 + 1 + 1, o, none⟩ = false) ∧ Below w.heap.size w w' := by
  go_enter Tryd.func26, Tryd.ntmps26
  go_wp2
  refine bodyPost_ret (v := lineL.val (lineP (w.heap.size + 1 + 1 + 1))) (by simp [results, Tryd.results26, go_sem, lineL, lineP]) rfl ⟨rfl, ⟨by simp, ?_, ?_, ?_, ?_⟩, ?_, ?_⟩
  · exact rowAt_flat (fun _ => rfl) (by decide) (by simp) (fun o v hv => by simpa [go_sem, lineL, Sec.enc] using hv)
  · exact rowAt_flat (fun _ => rfl) (by decide) (by simp) (fun o v hv => by simpa [go_sem, lineL, Prt.enc] using hv)
  · exact rowAt_flat (fun _ => rfl) (by decide) (by simp) (fun o v hv => by simpa [go_sem, Stp.enc] using hv)
  · exact rowAt_flat (fun _ => rfl) (by decide) (by simp) (fun o v hv => by simpa [go_sem, Ext'.enc] using hv)
  · intro o; simp [go_sem]
  · exact bchain (bchain (bchain (bchain (bchain (bchain bself bself) bself) bself) bself) bself) bself
end Go.Proofs.YtkphihbimdffjaaDoor
