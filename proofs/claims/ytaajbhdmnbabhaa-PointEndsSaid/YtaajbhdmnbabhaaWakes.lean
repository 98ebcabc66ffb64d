/-
  What the document says of a time to drive of 1: the law's own helper answers true.
-/
import Derived.Test.YtaajbhdmnbabhaaBits
namespace Go.Proofs.Ytaajbhdmnbabhaa
open Go.RowKit Go.Shelf

theorem callM_as {a r : Int} {f : Bool} {p : Int} {t : Int × Int × Bool} (h : callM a r f p = t) (w : World) :
    Calls Try.prog 15 #[mv a r f, .int .i64 p] w fun e w' => e = .returned (mvt t) ∧ Below w.heap.size w w' := h ▸ call_any a r f p w
theorem passM_as {a r : Int} {f : Bool} {p : Int} {oc lk : Bool} {dr : Int} {t : Int × Int × Bool} (h : passM a r f p oc lk dr = t) (w : World) :
    Calls Try.prog 19 #[mv a r f, .int .i64 p, .bool oc, .bool lk, .int .i64 dr] w fun e w' => e = .returned (mvt t) ∧ Below w.heap.size w w' := h ▸ pass_any a r f p oc lk dr w
theorem drives_as {a r : Int} {f : Bool} {p : Int} {oc lk : Bool} {t : Int} (h : drivesI a r f p oc lk = t) (w : World) :
    Calls Try.prog 17 #[mv a r f, .int .i64 p, .bool oc, .bool lk] w fun e w' => e = .returned (.int .i64 t) ∧ Below w.heap.size w w' := h ▸ drives_any a r f p oc lk w
theorem right_as {a r : Int} {f : Bool} {t : Bool} (h : rightB a r f = t) (w : World) :
    Calls Try.prog 13 #[mv a r f] w fun e w' => e = .returned (.bool t) ∧ Below w.heap.size w w' := h ▸ right_any a r f w
theorem bits_as {zs : List Int} {x y : Nat} (h0 : ored 0 zs (min zs.length 24) = x) (h1 : ored 1 zs (min zs.length 24) = y) (a : Option Addr) (k c : Nat) (w : World) (hI : Ints w.heap.size w (.slice a k c) zs) :
    Calls Try.prog 9 #[.slice a k c] w fun e w' => e = .returned (.tuple #[.int .u32 x, .int .u32 y]) ∧ Below w.heap.size w w' := h0 ▸ h1 ▸ bits_any a k c zs w hI
theorem ints4 (w : World) (b : Nat) (hb : b = w.heap.size) : Ints (w.alloc (.cells #[.int .i64 0, .int .i64 1, .int .i64 (-1), .int .i64 1] 3)).heap.size (w.alloc (.cells #[.int .i64 0, .int .i64 1, .int .i64 (-1), .int .i64 1] 3)) (.slice (some ⟨b, 0, none⟩) 4 4) [0, 1, -1, 1] := by
  subst hb
  refine .inr ⟨w.heap.size, 0, 4, rfl, by simp, by simp, by simp, ?_⟩
  intro j hj
  have : j = 0 ∨ j = 1 ∨ j = 2 ∨ j = 3 := by simp at hj; omega
  rcases this with rfl | rfl | rfl | rfl <;> simp [go_sem]

set_option maxRecDepth 100000 in
set_option maxHeartbeats 1000000 in
theorem wakes_any (w : World) :
    Calls Try.prog 8 #[] w fun e w' => e = .returned (.bool true) ∧ Below w.heap.size w w' := by
  go_enter Try.func8, Try.ntmps8
  go_wp2_with fail
  refine (rest_any _).mono ?_
  rintro e w1 ⟨rfl, hb1⟩
  go_wp2_with fail
  refine (callM_as (t := (1, 0, false)) (by decide) _).mono ?_
  rintro e w2 ⟨rfl, hb2⟩
  replace hb2 := bchain hb1 hb2
  clear hb1
  obtain ⟨hc2, hf2, hz2⟩ := bcell hb2
  go_wp2_with fail
  refine (passM_as (t := (1, 1, true)) (by decide) _).mono ?_
  rintro e w3 ⟨rfl, hb3⟩
  obtain ⟨hc3, hf3, hz3⟩ := bcell hb3
  go_wp2_with fail
  refine (bits_as (zs := [0, 1, -1, 1]) (x := 1) (y := 10) (by decide) (by decide) _ _ _ _ (ints4 _ _ (by simp))).mono ?_
  rintro e w4 ⟨rfl, hb4⟩
  have hb24 := bchain hb3 (bchain (bchain bself bself) hb4)
  have hb34 := bchain bself hb4
  have k1 : ∀ o, w4.cell? ⟨w2.heap.size, o, none⟩ = (w2.alloc (Obj.cells #[Value.int IntKind.i64 1, Value.int IntKind.i64 0, Value.bool false] 23)).cell? ⟨w2.heap.size, o, none⟩ := fun o => hb24.cell (p := ⟨w2.heap.size, o, none⟩) (by simp)
  have k2 : ∀ o, w4.cell? ⟨w3.heap.size, o, none⟩ = (w3.alloc (Obj.cells #[Value.int IntKind.i64 1, Value.int IntKind.i64 1, Value.bool true] 23)).cell? ⟨w3.heap.size, o, none⟩ := fun o => hb34.cell (p := ⟨w3.heap.size, o, none⟩) (by simp)
  have l1 : w2.heap.size < w4.heap.size := by have := hb24.size; simp at this; omega
  have l2 : w3.heap.size < w4.heap.size := by have := hb34.size; simp at this; omega
  have hB := bchain hb2 (bchain bself hb24)
  clear hb2 hc2 hf2 hz2 hb3 hc3 hf3 hz3 hb4 hb24 hb34
  go_wp2_with fail
  refine wp_region_ext (by kernel_rfl) (by kernel_rfl) fun hx => ?_
  repeat (go_big_quiet_step ((first | (go_at_call 11; exact Calls.ext (rest_any _)) | (go_at_call 19; exact Calls.ext (passM_as (t := (-1, 0, false)) (by decide) _)) | (go_at_call 15; exact Calls.ext (callM_as (t := (1, 0, false)) (by decide) _)) | (go_at_call 17; exact Calls.ext (drives_as (t := 1) (by decide) _)) | (go_at_call 17; exact Calls.ext (drives_as (t := -1) (by decide) _)) | (go_at_call 13; exact Calls.ext (right_as (t := true) (by decide) _)) | (go_at_call 13; exact Calls.ext (right_as (t := false) (by decide) _)))))
  refine wpQuiet_nil ?_
  intro w' hb
  go_wp2
  go_ret
  exact ⟨rfl, bchain hB hb⟩
end Go.Proofs.Ytaajbhdmnbabhaa
