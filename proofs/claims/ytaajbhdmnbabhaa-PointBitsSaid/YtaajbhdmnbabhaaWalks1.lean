/-
  The walks of PointTells and PointBits.
-/
import Derived.Test.YtaajbhdmnbabhaaWakes
namespace Go.Proofs.Ytaajbhdmnbabhaa
open Go.RowKit Go.Shelf

set_option maxRecDepth 100000 in
set_option maxHeartbeats 1000000 in
theorem tells_walk (x r : Int) (f : Bool) (pos at_ : Int) (oc lk : Bool) (dr : Int) (a : Option Addr) (m c : Nat) (zs : List Int) (w : World) (hm : m ≤ 9223372036854775807) (hI : Ints w.heap.size w (.slice a m c) zs) :
    Calls Try.prog 3 #[mv x r f, .int .i64 pos, .int .i64 at_, .bool oc, .bool lk, .int .i64 dr, .slice a m c] w fun e w' => e = .returned (.bool true) ∧ Below w.heap.size w w' := by
  by_cases h : 40 < m
  · go_enter Try.func3, Try.ntmps3
    go_wp2_with fail
    refine (wakes_any _).mono ?_
    rintro e w1 ⟨rfl, hb1⟩
    go_wp2
    go_ret
    exact ⟨rfl, bchain bself hb1⟩
  · have hI1 : Ints (w.alloc (Obj.cells #[Value.int IntKind.i64 x, Value.int IntKind.i64 r, Value.bool f] 23)).heap.size (w.alloc (Obj.cells #[Value.int IntKind.i64 x, Value.int IntKind.i64 r, Value.bool f] 23)) (.slice a m c) zs := (hI.below bself).more (by simp)
    go_enter Try.func3, Try.ntmps3
    go_wp2_with fail
    refine (bits_any _ _ _ zs _ hI1).mono ?_
    rintro e w1 ⟨rfl, hb1⟩
    obtain ⟨hc1, hf1, hz1⟩ := bcell hb1
    go_wp2_with fail
    refine (rbits_any _ _ _ zs _ ((hI1.below hb1).more hb1.size)).mono ?_
    rintro e w2 ⟨rfl, rfl⟩
    go_wp2_with fail
    refine wp_region_ext (by kernel_rfl) (by kernel_rfl) fun hx => ?_
    repeat (go_big_quiet_step ((first | (go_at_call 11; exact Calls.ext (rest_any _)) | (go_at_call 12; exact Calls.ext (rrest_any _)) | (go_at_call 13; exact Calls.ext (right_any _ _ _ _)) | (go_at_call 14; exact Calls.ext (rright_any _ _ _ _)) | (go_at_call 15; exact Calls.ext (call_any _ _ _ _ _)) | (go_at_call 16; exact Calls.ext (rcall_any _ _ _ _ _)) | (go_at_call 17; exact Calls.ext (drives_any _ _ _ _ _ _ _)) | (go_at_call 18; exact Calls.ext (rdrives_any _ _ _ _ _ _ _)) | (go_at_call 19; exact Calls.ext (pass_any _ _ _ _ _ _ _ _)) | (go_at_call 20; exact Calls.ext (rpass_any _ _ _ _ _ _ _ _)) | (go_at_call 8; exact Calls.ext (wakes_any _)))))
    refine wpQuiet_nil ?_
    intro w' hb
    go_wp2
    go_ret
    exact ⟨rfl, bchain (bchain bself hb1) hb⟩
theorem ored_testBit (n : Int) (l : List Int) (i : Nat) : ∀ k, (ored n l k).testBit i = decide (i < k ∧ l[i]?.getD 0 = n)
  | 0 => by simp [ored]
  | k + 1 => by
    have ih := ored_testBit n l i k
    have e2 : ∀ e : ¬ k = i, (decide (i < k + 1)) = decide (i < k) := fun e => by rw [decide_eq_decide]; omega
    unfold ored
    split
    · rename_i h
      rw [Nat.testBit_or, ih, Nat.testBit_two_pow]
      by_cases e : k = i
      · subst e; simp [h]
      · simp [e, e2 e]
    · rename_i h
      rw [ih]
      by_cases e : k = i
      · subst e; simp [h]
      · simp [e2 e]
theorem ored_and (l : List Int) (k : Nat) : ored 0 l k &&& ored 1 l k = 0 := by
  apply Nat.eq_of_testBit_eq
  intro i
  rw [Nat.testBit_and, ored_testBit, ored_testBit]
  simp
  intro _ h _ h2
  omega
theorem ored_lt32 (n : Int) (l : List Int) (k : Nat) (h : k ≤ 24) : ored n l k < 2 ^ 32 := Nat.lt_trans (ored_lt n l k) (pow_lt32 h)
theorem and_nat (a b : Nat) (ha : a < 2 ^ 32) (hb : b < 2 ^ 32) : bits .and .u32 a b = ((a &&& b : Nat) : Int) := (bits_nat .u32 32 (by decide) wraps_u32 a b ha hb).1
theorem ored_bit (n : Int) (l : List Int) (k i : Nat) : ored n l k / 2 ^ i % 2 = if i < k ∧ l[i]?.getD 0 = n then 1 else 0 := by
  have h := ored_testBit n l i k
  rw [Nat.testBit_eq_decide_div_mod_eq] at h
  have h2 : (ored n l k / 2 ^ i % 2 = 1) ↔ (i < k ∧ l[i]?.getD 0 = n) := by
    constructor
    · intro e; rw [e] at h; simpa using h.symm
    · intro e; simpa [e] using h
  split
  · rename_i e; exact h2.2 e
  · rename_i e
    have : ¬ ored n l k / 2 ^ i % 2 = 1 := fun e2 => e (h2.1 e2)
    omega

theorem bit_test (N i : Nat) (P : Prop) [Decidable P] (hN : N < 2 ^ 32) (h : N / 2 ^ i % 2 = if P then 1 else 0) : (bits .and .u32 ((N : Int) / 2 ^ i) 1 == 1) = decide P := by
  have e : ((N : Int) / 2 ^ i) = ((N / 2 ^ i : Nat) : Int) := by push_cast; rfl
  have hl : N / 2 ^ i < 2 ^ 32 := Nat.lt_of_le_of_lt (Nat.div_le_self _ _) hN
  have e2 : bits .and .u32 ((N / 2 ^ i : Nat) : Int) 1 = ((N / 2 ^ i % 2 : Nat) : Int) := by
    have := and_nat (N / 2 ^ i) 1 hl (by decide)
    rw [Nat.and_one_is_mod] at this
    exact this
  rw [e, e2, h]
  by_cases hp : P <;> simp [hp]
set_option maxRecDepth 100000 in
set_option maxHeartbeats 1000000 in
theorem bitsLaw_walk (a : Option Addr) (m c : Nat) (zs : List Int) (q : Int) (w : World) (hm : m ≤ 9223372036854775807) (hI : Ints w.heap.size w (.slice a m c) zs) :
    Calls Try.prog 7 #[.slice a m c, .int .i64 q] w fun e w' => e = .returned (.bool true) ∧ Below w.heap.size w w' := by
  by_cases h : 40 < m
  · go_enter Try.func7, Try.ntmps7
    go_wp2_with fail
    refine (wakes_any _).mono ?_
    rintro e w1 ⟨rfl, hb1⟩
    go_wp2
    go_ret
    exact ⟨rfl, hb1⟩
  · have hml : m = zs.length := by
      rcases hI with ⟨A, cap, e, rfl, _⟩ | ⟨b, off, cap, e, _⟩
      · cases e; rfl
      · cases e; rfl
    subst hml
    have e1 : bits .and .u32 (ored 0 zs (min zs.length 24) : Int) (ored 1 zs (min zs.length 24) : Int) = 0 := by
      rw [and_nat _ _ (ored_lt32 _ _ _ (by omega)) (ored_lt32 _ _ _ (by omega)), ored_and]; rfl
    have e2 : bits .or .u32 (ored 0 zs (min zs.length 24) : Int) (ored 1 zs (min zs.length 24) : Int) / 16777216 = 0 := by
      rw [or_nat _ _ (ored_lt32 _ _ _ (by omega)) (ored_lt32 _ _ _ (by omega))]
      have h0 := ored_lt 0 zs (min zs.length 24)
      have h1 := ored_lt 1 zs (min zs.length 24)
      have hp : (2 : Nat) ^ (min zs.length 24) ≤ 2 ^ 24 := Nat.pow_le_pow_right (by decide) (by omega)
      have h2 : ored 0 zs (min zs.length 24) ||| ored 1 zs (min zs.length 24) < 2 ^ 24 := Nat.or_lt_two_pow (by omega) (by omega)
      omega
    have b0 := ored_bit 0 zs (min zs.length 24)
    have b1 := ored_bit 1 zs (min zs.length 24)
    have l0 := ored_lt32 0 zs (min zs.length 24) (by omega)
    have l1 := ored_lt32 1 zs (min zs.length 24) (by omega)
    have HB := Lib.hid (bits_any a zs.length c zs w hI)
    generalize ored 0 zs (min zs.length 24) = N at *
    generalize ored 1 zs (min zs.length 24) = R at *
    by_cases hq : q < 0 ∨ 24 ≤ q
    · rcases hq with hq | hq
      all_goals
        go_enter Try.func7, Try.ntmps7
        go_wp2_with fail
        refine HB.out.mono ?_
        rintro e w1 ⟨rfl, hb1⟩
        go_wp2_with fail
        refine (wakes_any _).mono ?_
        rintro e w2 ⟨rfl, hb2⟩
        go_wp2
        go_ret
        exact ⟨rfl, bchain hb1 hb2⟩
    · obtain ⟨i, rfl⟩ := Int.eq_ofNat_of_zero_le (show 0 ≤ q by omega)
      have hi24 : i < 24 := by omega
      clear hq
      by_cases hi : i < zs.length
      · rcases hI with ⟨A, cap, e, rfl, _⟩ | ⟨b, off, cap, e, hb, h1, h2, hc⟩
        · simp at hi
        cases e
        have hcx := hc i hi
        have B0 := b0 i
        have B1 := b1 i
        have hk : i < min zs.length 24 := by omega
        obtain ⟨z, hz⟩ : ∃ z, z = zs[i]?.getD 0 := ⟨_, rfl⟩
        simp only [hk, true_and, ← hz] at B0 B1
        rw [← hz] at hcx
        clear b0 b1 hk hz hc
        have E1 : _ = (z == 0) := (bit_test N i _ l0 B0).trans (by rw [Bool.eq_iff_iff]; simp)
        have E2 : _ = (z == 1) := (bit_test R i _ l1 B1).trans (by rw [Bool.eq_iff_iff]; simp)
        clear B0 B1
        go_enter Try.func7, Try.ntmps7
        go_wp2_with fail
        refine HB.out.mono ?_
        rintro e w1 ⟨rfl, hb1⟩
        have hcy := (hb1.cell (p := ⟨b, off + i, none⟩) hb).trans hcx
        go_wp2_with fail
        refine (wakes_any _).mono ?_
        rintro e w2 ⟨rfl, hb2⟩
        go_wp2
        go_ret
        exact ⟨rfl, bchain hb1 hb2⟩
      · have B0 := b0 i
        have B1 := b1 i
        have hk : ¬ i < min zs.length 24 := by omega
        simp only [hk, false_and] at B0 B1
        have E1 := bit_test N i False l0 B0
        have E2 := bit_test R i False l1 B1
        simp only [decide_false] at E1 E2
        clear b0 b1 hk B0 B1
        go_enter Try.func7, Try.ntmps7
        go_wp2_with fail
        refine HB.out.mono ?_
        rintro e w1 ⟨rfl, hb1⟩
        go_wp2_with fail
        refine (wakes_any _).mono ?_
        rintro e w2 ⟨rfl, hb2⟩
        go_wp2
        go_ret
        exact ⟨rfl, bchain hb1 hb2⟩
end Go.Proofs.Ytaajbhdmnbabhaa
