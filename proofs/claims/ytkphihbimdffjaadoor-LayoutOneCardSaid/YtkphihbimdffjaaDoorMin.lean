/-
  slices.Min, slices.Max at []int.
-/
import Derived.Test.YtkphihbimdffjaaDoorPorts
namespace Go.Proofs.YtkphihbimdffjaaDoor
open Go.RowKit Go.Shelf

def MinOf (zs : List Int) (w : World) (e : Ending) (w' : World) : Prop := ∃ m, e = .returned (.int .i64 m) ∧ m ∈ zs ∧ (∀ z ∈ zs, m ≤ z) ∧ w = w'
def MaxOf (zs : List Int) (w : World) (e : Ending) (w' : World) : Prop := ∃ m, e = .returned (.int .i64 m) ∧ m ∈ zs ∧ (∀ z ∈ zs, z ≤ m) ∧ w = w'
theorem more_min {zs : List Int} {n : Nat} {m z x : Int} (hz : zs[n]? = some z) (h1 : m ∈ zs) (h2 : ∀ (j : Nat) y, j < n → zs[j]? = some y → m ≤ y) (hx : x = m ∨ x = z) (hy : x ≤ m ∧ x ≤ z) : x ∈ zs ∧ ∀ (j : Nat) y, j < n + 1 → zs[j]? = some y → x ≤ y := by
  refine ⟨?_, fun j y hj hjy => ?_⟩
  · rcases hx with rfl | rfl
    · exact h1
    · exact List.mem_of_getElem? hz
  · by_cases e : j = n
    · subst e
      rw [hz] at hjy
      cases hjy
      omega
    · have := h2 j y (by omega) hjy
      omega
theorem more_max {zs : List Int} {n : Nat} {m z x : Int} (hz : zs[n]? = some z) (h1 : m ∈ zs) (h2 : ∀ (j : Nat) y, j < n → zs[j]? = some y → y ≤ m) (hx : x = m ∨ x = z) (hy : m ≤ x ∧ z ≤ x) : x ∈ zs ∧ ∀ (j : Nat) y, j < n + 1 → zs[j]? = some y → y ≤ x := by
  refine ⟨?_, fun j y hj hjy => ?_⟩
  · rcases hx with rfl | rfl
    · exact h1
    · exact List.mem_of_getElem? hz
  · by_cases e : j = n
    · subst e
      rw [hz] at hjy
      cases hjy
      omega
    · have := h2 j y (by omega) hjy
      omega

set_option maxRecDepth 100000 in
set_option maxHeartbeats 2000000 in
theorem min_any (b cap : Nat) (zs : List Int) (w : World) (hc : ∀ (j : Nat) (z : Int), zs[j]? = some z → w.cell? ⟨b, j, none⟩ = some (.int .i64 z)) (h1 : 0 < zs.length) (hm : zs.length ≤ 9223372036854775807) :
    Calls Tryd.prog 39 #[.slice (some ⟨b, 0, none⟩) zs.length cap] w (MinOf zs w) := by
  obtain ⟨len, hlen⟩ : ∃ len, len = zs.length := ⟨_, rfl⟩
  rw [← hlen] at hm h1 ⊢
  have HC := Lib.hid hc
  have HL := Lib.hid hlen
  obtain ⟨z0, hz0⟩ : ∃ z, zs[0]? = some z := ⟨zs[0]'(by omega), List.getElem?_eq_getElem _⟩
  have c0 := hc 0 z0 hz0
  have HZ := Lib.hid hz0
  clear hc hlen hz0
  have hd : decide ((len : Int) < 1) = false := decide_eq_false (by omega)
  have hd1 : ¬ (len : Int) < 1 := by omega
  have hd2 : 0 < len := h1
  go_enter Tryd.func39, Tryd.ntmps39
  go_wp2_with fail
  go_loop [3, 4] (fun s3 s4 => ∃ (n : Nat) (m : Int), 1 ≤ n ∧ n ≤ len ∧ s4 = .int .i64 n ∧ s3 = .int .i64 m ∧ Hid (m ∈ zs ∧ ∀ (j : Nat) z, j < n → zs[j]? = some z → m ≤ z)) (fun _ s4 => len - (intOf s4).toNat)
  case atStart =>
    refine ⟨1, z0, by omega, by omega, rfl, rfl, Lib.hid ⟨List.mem_of_getElem? HZ.out, fun j z hj hz => ?_⟩⟩
    obtain rfl : j = 0 := by omega
    rw [HZ.out] at hz
    cases hz
    omega
  case round =>
    obtain ⟨n, m, hn1, hn, rfl, rfl, HM⟩ := hrel
    clear c0
    by_cases hlt : n < len
    · obtain ⟨z, hz⟩ : ∃ z, zs[n]? = some z := ⟨zs[n]'(by rw [← HL.out]; exact hlt), List.getElem?_eq_getElem _⟩
      have c := HC.out n z hz
      have HZn := Lib.hid hz
      clear hz
      have cs : m ≤ z ∨ z < m := by omega
      rcases cs with h | h
      all_goals
        go_wp2
        go_round
        case rel =>
          refine ⟨n + 1, _, by omega, by omega, by go_num, rfl, Lib.hid ?_⟩
          refine more_min HZn.out HM.out.1 HM.out.2 ?_ ?_
          · first | exact .inl rfl | exact .inr rfl | (split <;> simp)
          · first | (split <;> omega) | omega
        case measure => simp [intOf]; omega
    · obtain rfl : n = len := by omega
      go_wp2
      go_ret
      refine ⟨m, rfl, HM.out.1, fun z hz => ?_, rfl⟩
      obtain ⟨j, hj, e⟩ := List.mem_iff_getElem.1 hz
      exact HM.out.2 j z (by rw [HL.out]; exact hj) (by rw [← e]; exact List.getElem?_eq_getElem hj)

set_option maxRecDepth 100000 in
set_option maxHeartbeats 2000000 in
theorem max_any (b cap : Nat) (zs : List Int) (w : World) (hc : ∀ (j : Nat) (z : Int), zs[j]? = some z → w.cell? ⟨b, j, none⟩ = some (.int .i64 z)) (h1 : 0 < zs.length) (hm : zs.length ≤ 9223372036854775807) :
    Calls Tryd.prog 40 #[.slice (some ⟨b, 0, none⟩) zs.length cap] w (MaxOf zs w) := by
  obtain ⟨len, hlen⟩ : ∃ len, len = zs.length := ⟨_, rfl⟩
  rw [← hlen] at hm h1 ⊢
  have HC := Lib.hid hc
  have HL := Lib.hid hlen
  obtain ⟨z0, hz0⟩ : ∃ z, zs[0]? = some z := ⟨zs[0]'(by omega), List.getElem?_eq_getElem _⟩
  have c0 := hc 0 z0 hz0
  have HZ := Lib.hid hz0
  clear hc hlen hz0
  have hd : decide ((len : Int) < 1) = false := decide_eq_false (by omega)
  have hd1 : ¬ (len : Int) < 1 := by omega
  have hd2 : 0 < len := h1
  go_enter Tryd.func40, Tryd.ntmps40
  go_wp2_with fail
  go_loop [3, 4] (fun s3 s4 => ∃ (n : Nat) (m : Int), 1 ≤ n ∧ n ≤ len ∧ s4 = .int .i64 n ∧ s3 = .int .i64 m ∧ Hid (m ∈ zs ∧ ∀ (j : Nat) z, j < n → zs[j]? = some z → z ≤ m)) (fun _ s4 => len - (intOf s4).toNat)
  case atStart =>
    refine ⟨1, z0, by omega, by omega, rfl, rfl, Lib.hid ⟨List.mem_of_getElem? HZ.out, fun j z hj hz => ?_⟩⟩
    obtain rfl : j = 0 := by omega
    rw [HZ.out] at hz
    cases hz
    omega
  case round =>
    obtain ⟨n, m, hn1, hn, rfl, rfl, HM⟩ := hrel
    clear c0
    by_cases hlt : n < len
    · obtain ⟨z, hz⟩ : ∃ z, zs[n]? = some z := ⟨zs[n]'(by rw [← HL.out]; exact hlt), List.getElem?_eq_getElem _⟩
      have c := HC.out n z hz
      have HZn := Lib.hid hz
      clear hz
      have cs : m ≤ z ∨ z < m := by omega
      rcases cs with h | h
      all_goals
        go_wp2
        go_round
        case rel =>
          refine ⟨n + 1, _, by omega, by omega, by go_num, rfl, Lib.hid ?_⟩
          refine more_max HZn.out HM.out.1 HM.out.2 ?_ ?_
          · first | exact .inl rfl | exact .inr rfl | (split <;> simp)
          · first | (split <;> omega) | omega
        case measure => simp [intOf]; omega
    · obtain rfl : n = len := by omega
      go_wp2
      go_ret
      refine ⟨m, rfl, HM.out.1, fun z hz => ?_, rfl⟩
      obtain ⟨j, hj, e⟩ := List.mem_iff_getElem.1 hz
      exact HM.out.2 j z (by rw [HL.out]; exact hj) (by rw [← e]; exact List.getElem?_eq_getElem hj)
end Go.Proofs.YtkphihbimdffjaaDoor
