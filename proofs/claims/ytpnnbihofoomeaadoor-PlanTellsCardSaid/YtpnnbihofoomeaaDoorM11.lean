/-
  lockbarref01.bit, Take.
-/
import Derived.Test.YtpnnbihofoomeaaDoorM10

namespace Go.Proofs.YtpnnbihofoomeaaDoor
open Go.RowKit Go.Shelf
attribute [local go_sem] and1

set_option maxRecDepth 100000 in
set_option maxHeartbeats 4000000 in
theorem rbBit_any (A : Option Addr) (n cap : Nat) (N : Int) (bs : List Nat) (i : Nat) (w : World) (hn : n = bs.length) (hA : At w 1 bEnc A bs) (h8 : ∀ b ∈ bs, b < 256) (hi : i / 8 < bs.length) (hl : i ≤ 100000) :
    Calls Tryd.prog 97 #[.agg #[.slice A n cap, .int .i64 N], .int .i64 i] w fun e w' => e = .returned (.int .i64 (bitN (bitB bs i) : Nat)) ∧ Below w.heap.size w w' := by
  obtain ⟨d, hd⟩ : ∃ d, d = i / 8 := ⟨_, rfl⟩
  obtain ⟨m, hm⟩ : ∃ m, m = i % 8 := ⟨_, rfl⟩
  obtain ⟨r, hr⟩ : ∃ r, r = 7 - m := ⟨_, rfl⟩
  obtain ⟨x, hx⟩ : ∃ x, bs[d]? = some x := ⟨_, List.getElem?_eq_getElem (by rw [hd]; exact hi)⟩
  obtain ⟨b, off, ea, hrow⟩ := hA.get (j := d) (by rw [hd]; exact hi)
  subst ea
  have hbit : bitN (bitB bs i) = x / 2 ^ r % 2 := by
    have h := bitB_get (bs := bs) (i := i) (x := x) (by rw [← hd]; exact hx)
    rw [hr, hm]
    exact h
  have hx256 := h8 x (List.mem_of_getElem? hx)
  have hcell : w.cell? ⟨b, off + d, none⟩ = some (.int .u8 (x : Int)) := by simpa using hrow.2 d x hx 0 _ rfl
  have lb := hrow.1
  have hdi : (i : Int) / 8 = (d : Int) := by omega
  have hmi : (i : Int) % 8 = (m : Int) := by omega
  have hri : (7 : Int) - (m : Int) = (r : Int) := by omega
  have hdn : (d : Int) < (n : Int) := by omega
  have hr8 : r ≤ 7 := by omega
  have hru : IntKind.u64.wrap (r : Int) = (r : Int) := by rw [IntKind.wrap_u64]; omega
  obtain ⟨y, hy⟩ : ∃ y, y = x / 2 ^ r % 2 := ⟨_, rfl⟩
  have hyi : (x : Int) / 2 ^ r % 2 = (y : Int) := by rw [hy]; push_cast; rfl
  rw [hbit, ← hy]
  have e2 : wrap64 (d : Int) = (d : Int) := by clear hyi hy; unfold wrap64; omega
  have wx : wrap64 (x : Int) = (x : Int) := by clear hyi hy e2; unfold wrap64; omega
  obtain ⟨X, hX⟩ : ∃ X : Int, X = (x : Int) := ⟨_, rfl⟩
  rw [← hX] at hcell wx hyi
  clear hA h8 hi hl hd hm hr hx hrow hbit hx256 hy hX hn
  go_enter Tryd.func97, Tryd.ntmps97
  go_wp2_with fail
  go_ret
  exact ⟨rfl, bself⟩

set_option maxRecDepth 100000 in
set_option maxHeartbeats 8000000 in
theorem rbTake_any (A : Option Addr) (n cap N : Nat) (bs : List Nat) (a wd : Nat) (w : World) (hn : n = bs.length) (hA : At w 1 bEnc A bs) (hok : BitsOk bs N) (ha : a ≤ 100000) (hwd : wd ≤ 32) :
    Calls Tryd.prog 93 #[.agg #[.slice A n cap, .int .i64 N], .int .i64 a, .int .i64 wd] w fun e w' => e = .returned (if a + wd ≤ N then .tuple #[.int .i64 (takeN (bitB bs) a wd : Nat), .int .i64 0] else .tuple #[.int .i64 0, .int .i64 40]) ∧ Below w.heap.size w w' := by
  have HR := Lib.hid (fun W (h : Below w.heap.size w W) => rbRight_yes A n cap N bs W hn (hA.below h) hok)
  have d1 : ¬ (wd : Int) < 0 := by omega
  have d2 : ¬ (wd : Int) > 32 := by omega
  have d3 : ¬ (a : Int) < 0 := by omega
  have HX := Lib.hid (⟨hn, hA, hok⟩ : _ ∧ _ ∧ _)
  have hN : N ≤ 8000 := hok.2.1
  clear hn hA hok
  go_enter Tryd.func93, Tryd.ntmps93
  go_wp2_with fail
  (with_reducible refine (HR.out _ bself).mono ?_)
  rintro e w1 ⟨rfl, b1⟩
  obtain ⟨c1, f1, l1⟩ := bcell b1
  have y0 := l1 w.heap.size (by simp)
  have x0 : w1.cell? ⟨w.heap.size, 0, none⟩ = some (.slice A n cap) := (c1 _ 0 (by simp)).trans (by simp [go_sem])
  have x1 : w1.cell? ⟨w.heap.size, 1, none⟩ = some (.int .i64 N) := (c1 _ 1 (by simp)).trans (by simp [go_sem])
  have HB := Lib.hid (bchain bself b1 : Below w.heap.size w w1)
  clear b1 c1 f1 l1
  by_cases h1 : a > N
  · have d4 : (a : Int) > (N : Int) := by omega
    have HF := Lib.hid (show ¬ a + wd ≤ N by omega)
    clear h1
    go_wp2_with fail
    exact bodyPost_ret (v := .tuple #[.int .i64 0, .int .i64 40]) (by simp [results, Tryd.results93, go_sem]) rfl ⟨rfl, HB.out⟩
  have d4 : ¬ (a : Int) > (N : Int) := by omega
  have e1 : IntKind.i64.wrap ((N : Int) - (a : Int)) = (N : Int) - (a : Int) := IntWalk.i64_in _ (by omega)
  by_cases h2 : wd > N - a
  · have d5 : (N : Int) - (a : Int) < (wd : Int) := by omega
    have HF := Lib.hid (show ¬ a + wd ≤ N by omega)
    clear h1 h2
    go_wp2_with fail
    exact bodyPost_ret (v := .tuple #[.int .i64 0, .int .i64 40]) (by simp [results, Tryd.results93, go_sem]) rfl ⟨rfl, HB.out⟩
  have d5 : ¬ (N : Int) - (a : Int) < (wd : Int) := by omega
  have HF := Lib.hid (show a + wd ≤ N by omega)
  clear h1 h2
  go_wp2_with fail
  go_loopw [8, 9] (fun p q wr => ∃ j : Nat, j ≤ wd ∧ p = .int .i64 (takeN (bitB bs) a j : Nat) ∧ q = .int .i64 (j : Nat) ∧ Hid (Below w1.heap.size w1 wr)) (fun _ q _ => wd - (intOf q).toNat)
  case atStart => exact ⟨0, by omega, rfl, rfl, Lib.hid (Below.refl _ _)⟩
  case round =>
    obtain ⟨j, hj, rfl, rfl, HBr⟩ := hrel
    obtain ⟨t, ht⟩ : ∃ t, t = takeN (bitB bs) a j := ⟨_, rfl⟩
    rw [← ht]
    by_cases hlt : j < wd
    · have d6 : (j : Int) < (wd : Int) := by omega
      obtain ⟨i, hi⟩ : ∃ i, i = a + j := ⟨_, rfl⟩
      have hij : IntKind.i64.wrap ((a : Int) + (j : Int)) = (i : Int) := by rw [IntWalk.i64_in _ (by omega)]; omega
      have HBI := Lib.hid (rbBit_any A n cap N bs i wr HX.out.1 (HX.out.2.1.below (bchain HB.out HBr.out)) HX.out.2.2.2.2.1 (by have := HX.out.2.2.1; have := HF.out; omega) (by omega))
      obtain ⟨y, hy⟩ : ∃ y, y = bitN (bitB bs i) := ⟨_, rfl⟩
      have hy2 : y ≤ 1 := by rw [hy]; exact bitN_le _
      have htl : t < 2 ^ wd := by rw [ht]; exact Nat.lt_of_lt_of_le (takeN_lt _ _ j) (Nat.pow_le_pow_right (by decide) hj)
      have htl2 : t < 4294967296 := Nat.lt_of_lt_of_le htl (Nat.pow_le_pow_right (n := 2) (by decide) hwd)
      rw [← hy] at HBI
      have z0 : wr.cell? ⟨w.heap.size, 0, none⟩ = some (.slice A n cap) := (HBr.out.cell (p := ⟨w.heap.size, 0, none⟩) y0).trans x0
      have z1 : wr.cell? ⟨w.heap.size, 1, none⟩ = some (.int .i64 N) := (HBr.out.cell (p := ⟨w.heap.size, 1, none⟩) y0).trans x1
      have zl : w.heap.size < wr.heap.size := Nat.lt_of_lt_of_le y0 HBr.out.size
      have w2 : IntKind.i64.wrap (2 * (t : Int)) = 2 * (t : Int) := IntWalk.i64_in _ (by omega)
      have w3 : IntKind.i64.wrap (2 * (t : Int) + (y : Int)) = ((2 * t + y : Nat) : Int) := by rw [IntWalk.i64_in _ (by omega)]; omega
      have HT := Lib.hid (show 2 * t + y = takeN (bitB bs) a (j + 1) by rw [ht, hy, hi]; rfl)
      clear ht hy hi htl
      go_wp2_with fail
      (with_reducible refine HBI.out.mono ?_)
      rintro e w5 ⟨rfl, b5⟩
      have HB5 := Lib.hid (bchain HBr.out b5)
      clear b5 z0 z1 zl
      go_wp2_with fail
      go_roundw
      case measure => simp [intOf]; omega
      case rel => exact ⟨j + 1, by omega, by rw [← HT.out]; try push_cast; rfl, by go_num, HB5⟩
    · obtain rfl : j = wd := by omega
      have d6 : ¬ ((j : Nat) : Int) < (j : Int) := by omega
      have HT := Lib.hid ht
      clear ht
      go_wp2_with fail
      exact bodyPost_ret (v := .tuple #[.int .i64 (t : Nat), .int .i64 0]) (by simp [results, Tryd.results93, go_sem]) rfl ⟨by rw [HT.out], bchain HB.out HBr.out⟩
end Go.Proofs.YtpnnbihofoomeaaDoor
