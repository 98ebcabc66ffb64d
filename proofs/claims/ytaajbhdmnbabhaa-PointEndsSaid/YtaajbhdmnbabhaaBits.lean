/-
  Bits of positions: the program's two loops over an iterator, the reference's loop.
-/
import Derived.Test.YtaajbhdmnbabhaaMach
import Derived.Test.YtaajbhdmnbabhaaRange
import Derived.RegionTactic
namespace Go.Proofs.Ytaajbhdmnbabhaa
open Go.RowKit Go.Shelf
attribute [local go_sem] Oper.semAt_some

/-- The slice value sv holds the numbers zs, in a block below B; or it is nil and there are none. -/
def Ints (B : Nat) (W : World) (sv : Value) (zs : List Int) : Prop :=
  (∃ A cap, sv = .slice A 0 cap ∧ zs = [] ∧ cap ≤ 9223372036854775807) ∨ ∃ b off cap, sv = .slice (some ⟨b, off, none⟩) zs.length cap ∧ b < B ∧ zs.length ≤ cap ∧ cap ≤ 9223372036854775807 ∧ ∀ j, j < zs.length → W.cell? ⟨b, off + j, none⟩ = some (.int .i64 (zs[j]?.getD 0))
theorem Ints.below {B : Nat} {A C : World} (h : Below B A C) {sv : Value} {zs : List Int} : Ints B A sv zs → Ints B C sv zs
  | .inl e => .inl e
  | .inr ⟨b, off, cap, e, hb, h1, h2, hc⟩ => .inr ⟨b, off, cap, e, hb, h1, h2, fun j hj => (h.cell (p := ⟨b, off + j, none⟩) hb).trans (hc j hj)⟩

theorem Ints.more {B B' : Nat} {A : World} {sv : Value} {zs : List Int} (h : Ints B A sv zs) (hB : B ≤ B') : Ints B' A sv zs := by
  rcases h with e | ⟨b, off, cap, e, hb, h1, h2, hc⟩
  · exact .inl e
  · exact .inr ⟨b, off, cap, e, by omega, h1, h2, hc⟩

/-- The bits of the places below k where n stands, one after the other. -/
def ups (n : Int) (l : List Int) : Nat → List Nat
  | 0 => []
  | k + 1 => if l[k]?.getD 0 = n then ups n l k ++ [2 ^ k] else ups n l k
/-- .. put together. -/
def ored (n : Int) (l : List Int) : Nat → Nat
  | 0 => 0
  | k + 1 => if l[k]?.getD 0 = n then ored n l k ||| 2 ^ k else ored n l k

theorem ored_lt (n : Int) (l : List Int) : ∀ k, ored n l k < 2 ^ k
  | 0 => by simp [ored]
  | k + 1 => by
    have h := ored_lt n l k
    have h2 : (2 : Nat) ^ k < 2 ^ (k + 1) := Nat.pow_lt_pow_right (by decide) (by omega)
    unfold ored
    split
    · exact Nat.or_lt_two_pow (by omega) h2
    · omega
theorem ored_fold (n : Int) (l : List Int) : ∀ k, (ups n l k).foldl (· ||| ·) 0 = ored n l k
  | 0 => rfl
  | k + 1 => by
    unfold ups ored
    split
    · rw [List.foldl_append, ored_fold n l k]; rfl
    · exact ored_fold n l k

theorem ups_hit (n : Int) (l : List Int) (k : Nat) (h : l[k]?.getD 0 = n) : ups n l (k + 1) = ups n l k ++ [2 ^ k] := if_pos h
theorem ups_miss (n : Int) (l : List Int) (k : Nat) (h : ¬ l[k]?.getD 0 = n) : ups n l (k + 1) = ups n l k := if_neg h
theorem ups_length (n : Int) (l : List Int) : ∀ k, (ups n l k).length ≤ k
  | 0 => by simp [ups]
  | k + 1 => by have := ups_length n l k; unfold ups; split <;> simp <;> omega
theorem pow_mod : ∀ k : Nat, k < 24 → (2 : Int) ^ k % 4294967296 = 2 ^ k := by decide

set_option maxHeartbeats 400000 in
theorem those_any (n : Int) (sv : Value) (w : World) (hs : ∃ a m c, sv = .slice a m c) :
    Calls Try.prog 21 #[.int .i64 n, sv] w fun e w' => e = .returned (.func (.func 26) #[] #[.pointer (some ⟨w.heap.size + 1, 0, none⟩), .pointer (some ⟨w.heap.size, 0, none⟩)]) ∧ w' = (w.alloc (.cells #[.int .i64 n] 3)).alloc (.cells #[sv] 24) := by
  obtain ⟨a, m, c, rfl⟩ := hs
  go_enter Try.func21, Try.ntmps21
  go_wp2
  go_ret
  exact ⟨rfl, rfl⟩

set_option maxRecDepth 100000 in
set_option maxHeartbeats 2000000 in
theorem those1_in (F : Fence) (m : Nat) (h26 : F.fn 26) (hro : F.round = none) (hm : 1 ≤ m) (l Bs Bn b off cap : Nat) (n : Int) (zs : List Int) (hlen : zs.length ≤ cap) (hcap : cap ≤ 9223372036854775807) (Z : Nat → Prop) (hb : Z b) (hBs : Z Bs) (hBn : Z Bn) (J Jx : List Nat → World → Prop)
    (hY : ∀ pre x W, J pre W → pre.length < 24 → YieldAt F (m - 1) Try.prog l #[.int .u32 ((x : Nat) : Int)] W fun e W' =>
      (e = .returned (.bool true) ∧ J (pre ++ [x]) W' ∧ Keep Z W W') ∨ (e = .returned (.bool false) ∧ Jx (pre ++ [x]) W'))
    (W : World) (cs : W.cell? ⟨Bs, 0, none⟩ = some (.slice (some ⟨b, off, none⟩) zs.length cap)) (cn : W.cell? ⟨Bn, 0, none⟩ = some (.int .i64 n)) (hc : ∀ j, j < zs.length → W.cell? ⟨b, off + j, none⟩ = some (.int .i64 (zs[j]?.getD 0))) (h0 : J [] W) :
    CallsIn F m Try.prog 26 #[.func (.yield l) #[] #[], .pointer (some ⟨Bs, 0, none⟩), .pointer (some ⟨Bn, 0, none⟩)] W fun e W' => (∃ v, e = .returned v) ∧
      ((∃ ys, ys = ups n zs (min zs.length 24) ∧ J ys W') ∨ (∃ pre, (∃ k, k ≤ min zs.length 24 ∧ pre = ups n zs k) ∧ Jx pre W')) := by
  refine callsIn_of_wp Try.func26 rfl h26 ?_ hro
  simp only [Try.ntmps26, List.size_toArray, List.length_cons, List.length_nil, Nat.reduceAdd, Nat.reduceSub, Array.replicate_succ, Array.replicate_zero, List.push_toArray, List.append_toArray, List.nil_append, List.cons_append]
  have hmax : max (24 : Int) 0 = 24 := rfl
  gi_wp2
  all_goals
    gi_loopw [4, 5, 12] (fun _ _ i wr => ∃ k : Nat, k ≤ min zs.length 24 ∧ i = .int .i64 k ∧ J (ups n zs k) wr ∧ Keep Z W wr)
      (fun _ _ i _ => 24 - (intOf i).toNat)
    case atStart => exact ⟨0, Nat.zero_le _, rfl, h0, Keep.refl _ _⟩
    case round =>
      obtain ⟨k, hk, rfl, hJs, hnx⟩ := hrel
      have cs' := (hnx.cell (p := ⟨Bs, 0, none⟩) hBs).trans cs
      have cn' := (hnx.cell (p := ⟨Bn, 0, none⟩) hBn).trans cn
      by_cases hlt : k < min zs.length 24
      · have hl1 : k < zs.length := by omega
        have hl2 : k < 24 := by omega
        have hcx := (hnx.cell (p := ⟨b, off + k, none⟩) hb).trans (hc k hl1)
        have hu := ups_length n zs k
        have hp : (2 : Int) ^ k % 4294967296 = 2 ^ k := pow_mod k hl2
        clear hk hlt
        obtain ⟨z, hz⟩ : ∃ z, z = zs[k]?.getD 0 := ⟨_, rfl⟩
        rw [← hz] at hcx
        by_cases he : z = n
        · have HS := Lib.hid (ups_hit n zs k (hz ▸ he))
          obtain ⟨fn, tmps, assign, body, hy, hR⟩ := hY _ (2 ^ k) wr hJs (by omega)
          have hd : (z == n) = true := by simpa using he
          push_cast at hy
          clear hz he hu
          gi_wp2
          refine hR.mono ?_
          rintro e W3 (⟨rfl, hJ3, hk3⟩ | ⟨rfl, hJx3⟩)
          · gi_wp2
            go_roundw
            case rel => exact ⟨k + 1, by omega, by simp, by rw [HS.out]; exact hJ3, hnx.trans hk3⟩
            case measure => simp [intOf]; omega
          · gi_wp2
            refine bodyPost_ret (results_none rfl _ _ _) rfl ?_
            exact ⟨⟨_, rfl⟩, .inr ⟨_, ⟨k + 1, by omega, HS.out.symm⟩, hJx3⟩⟩
        · have HS := Lib.hid (ups_miss n zs k (hz ▸ he))
          have hd : (z == n) = false := by simpa using he
          clear hz he hu
          gi_wp2
          refine ⟨fun _ h => (by cases h), ?_⟩
          gi_wp2
          go_roundw
          case rel => exact ⟨k + 1, by omega, by simp, by rw [HS.out]; exact hJs, hnx⟩
          case measure => simp [intOf]; omega
      · obtain rfl : k = min zs.length 24 := by omega
        gi_wp2
        go_end0
        exact ⟨⟨_, rfl⟩, .inl ⟨_, rfl, hJs⟩⟩

set_option maxRecDepth 100000 in
set_option maxHeartbeats 1000000 in
theorem those1_nil_in (F : Fence) (m : Nat) (h26 : F.fn 26) (hro : F.round = none) (l Bs Bn : Nat) (J : List Nat → World → Prop) (W : World) (A : Option Addr) (cap : Nat) (_hcap : cap ≤ 9223372036854775807) (cs : W.cell? ⟨Bs, 0, none⟩ = some (.slice A 0 cap)) (h0 : J [] W) :
    CallsIn F m Try.prog 26 #[.func (.yield l) #[] #[], .pointer (some ⟨Bs, 0, none⟩), .pointer (some ⟨Bn, 0, none⟩)] W fun e W' => (∃ v, e = .returned v) ∧ J [] W' := by
  refine callsIn_of_wp Try.func26 rfl h26 ?_ hro
  simp only [Try.ntmps26, List.size_toArray, List.length_cons, List.length_nil, Nat.reduceAdd, Nat.reduceSub, Array.replicate_succ, Array.replicate_zero, List.push_toArray, List.append_toArray, List.nil_append, List.cons_append]
  gi_wp2
  gi_loopw [12] (fun i wr => i = .int .i64 0 ∧ J [] wr) (fun _ _ => 0)
  case atStart => exact ⟨rfl, h0⟩
  case round =>
    obtain ⟨rfl, hJs⟩ := hrel
    gi_wp2
    go_end0
    exact ⟨⟨_, rfl⟩, hJs⟩

theorem those_stops (F : Fence) (m : Nat) (h26 : F.fn 26) (hro : F.round = none) (hm : 1 ≤ m) (Bs Bn n₀ : Nat) (n : Int) (sv : Value) (zs : List Int) (w : World) (Z : Nat → Prop) (hZ : ∀ b, b < n₀ → Z b) (hZs : Z Bs) (hZn : Z Bn) (lBs : Bs < w.heap.size) (lBn : Bn < w.heap.size) (hn₀ : n₀ ≤ w.heap.size)
    (cs : w.cell? ⟨Bs, 0, none⟩ = some sv) (cn : w.cell? ⟨Bn, 0, none⟩ = some (.int .i64 n)) (hI : Ints n₀ w sv zs) :
    SeqStopsK F m Try.prog 26 #[.pointer (some ⟨Bs, 0, none⟩), .pointer (some ⟨Bn, 0, none⟩)] (fun x : Nat => #[Value.int .u32 (x : Int)]) (Keep Z) (fun ys => ys = ups n zs (min zs.length 24)) (fun pre => ∃ k, k ≤ min zs.length 24 ∧ pre = ups n zs k) 24 w := fun l J Jx W hW _ _ hY h0 => by
  have cs' := (hW.cell (p := ⟨Bs, 0, none⟩) lBs).trans cs
  have cn' := (hW.cell (p := ⟨Bn, 0, none⟩) lBn).trans cn
  rcases hI.below (hW.mono hn₀) with ⟨A, cap, rfl, rfl, hcap⟩ | ⟨b, off, cap, rfl, hb, h1, h2, hcs⟩
  · exact (those1_nil_in F m h26 hro l Bs Bn J W A cap hcap cs' h0).mono fun e W' ⟨he, hj⟩ => ⟨he, .inl ⟨_, rfl, hj⟩⟩
  · exact those1_in F m h26 hro hm l Bs Bn b off cap n zs h1 h2 Z (hZ b hb) hZs hZn J Jx hY W cs' cn' hcs h0

/-- Numbers put together, bit by bit. -/
def orsI (l : List Nat) : Int := l.foldl (fun (a : Int) (x : Nat) => bits .or .u32 a (x : Int)) 0
theorem orsI_snoc (l : List Nat) (x : Nat) : orsI (l ++ [x]) = bits .or .u32 (orsI l) (x : Int) := by simp [orsI]
theorem wraps_u32 (n : Int) (h₀ : 0 ≤ n) (h₁ : n < 2 ^ 32) : IntKind.u32.wrap n = n := by rw [IntKind.wrap_u32]; omega
theorem or_nat (a b : Nat) (ha : a < 2 ^ 32) (hb : b < 2 ^ 32) : bits .or .u32 a b = ((a ||| b : Nat) : Int) := (bits_nat .u32 32 (by decide) wraps_u32 a b ha hb).2
theorem pow_lt32 {k : Nat} (h : k ≤ 24) : 2 ^ k < 2 ^ 32 := Nat.pow_lt_pow_right (by decide) (by omega)
theorem orsI_ups (n : Int) (l : List Int) : ∀ k, k ≤ 24 → orsI (ups n l k) = (ored n l k : Int)
  | 0, _ => by simp [orsI, ups, ored]
  | k + 1, h => by
    have ih := orsI_ups n l k (by omega)
    unfold ups ored
    split
    · rw [orsI_snoc, ih, or_nat _ _ (Nat.lt_trans (ored_lt n l k) (pow_lt32 (by omega))) (pow_lt32 (by omega))]
    · exact ih

set_option maxRecDepth 100000 in
set_option maxHeartbeats 2000000 in
theorem bits_any (a : Option Addr) (k c : Nat) (zs : List Int) (w : World) (hI : Ints w.heap.size w (.slice a k c) zs) :
    Calls Try.prog 9 #[.slice a k c] w fun e w' => e = .returned (.tuple #[.int .u32 (ored 0 zs (min zs.length 24)), .int .u32 (ored 1 zs (min zs.length 24))]) ∧ Below w.heap.size w w' := by
  refine calls_marked w.heap.size Try.func9 rfl ?_
  simp only [Try.ntmps9, List.size_toArray, List.length_cons, List.length_nil, Nat.reduceAdd, Nat.reduceSub, Array.replicate_succ, Array.replicate_zero, List.push_toArray, List.append_toArray, List.nil_append, List.cons_append]
  go_wp2_with (go_at_call 21; refine (those_any _ _ _ ⟨_, _, _, rfl⟩).mono ?_; rintro e w' ⟨rfl, rfl⟩)
  have hI2 : Ints w.heap.size ((((w.alloc (Obj.cells #[Value.int IntKind.u32 0] 26)).alloc (Obj.cells #[Value.int IntKind.u32 0] 26)).alloc (Obj.cells #[Value.int IntKind.i64 0] 3)).alloc (Obj.cells #[Value.slice a k c] 24)) (.slice a k c) zs :=
    hI.below (bchain (bchain (bchain bself bself) bself) bself)
  refine wp_range (gf := 26) (lb := #[.pointer (some ⟨w.heap.size + 1 + 1 + 1, 0, none⟩), .pointer (some ⟨w.heap.size + 1 + 1, 0, none⟩)]) rfl (enters_of Try.func26 (by kernel_rfl) rfl) (fun b => b = w.heap.size) (by rintro b rfl; simp; try omega)
    (those_stops Fence.wide 4 trivial rfl (by decide) (w.heap.size + 1 + 1 + 1) (w.heap.size + 1 + 1) w.heap.size 0 (.slice a k c) zs _ _ (fun b h => by simp; omega) (by simp; try omega) (by simp; try omega) (by simp; try omega) (by simp; try omega) (by simp; try omega) (by simp [go_sem]) (by simp [go_sem]) hI2)
    (fun _ => rfl)
    (fun pre W => W.cell? ⟨w.heap.size, 0, none⟩ = some (.int .u32 (orsI pre)) ∧ W.frozen? ⟨w.heap.size, 0, none⟩ = false)
    (fun _ _ _ => False) (fun s W W' hs hA => ⟨(World.cell?_of_block (w := W) (hA _ rfl)).trans hs.1, (World.frozen?_of_block (w := W) (hA _ rfl)).trans hs.2⟩) (fun _ _ _ _ hs _ => hs) ⟨by simp [go_sem, orsI], by simp [go_sem]⟩
    (fun x => { tmps := #[.slice a k c, undef, .pointer (some ⟨w.heap.size, 0, none⟩), .pointer (some ⟨w.heap.size + 1, 0, none⟩), .int .u32 ((x : Nat) : Int), undef, .slice a k c, .func (.func 26) #[] #[.pointer (some ⟨w.heap.size + 1 + 1 + 1, 0, none⟩), .pointer (some ⟨w.heap.size + 1 + 1, 0, none⟩)], .int .u32 ((x : Nat) : Int), undef, undef, undef, undef, undef, undef, undef, undef, undef, undef, undef], defers := [] })
    ?assign ?body ?done ?stop
  case assign =>
    intro l x W K hK
    gi_wp2
    exact hK
  case body =>
    rintro l pre x W hw ⟨hc, hf⟩ _
    gi_wp2
    exact ⟨Writes.setCell (A := fun b => b = w.heap.size) (Writes.refl _ W) (p := ⟨w.heap.size, 0, none⟩) rfl _, by rw [orsI_snoc]; exact World.cell?_setCell_same' _ _ _ (by rw [hc]; rfl), by rw [World.frozen?_setCell]; exact hf⟩
  case stop =>
    rintro D c pre W _ _ _ h _
    exact h.elim
  case done =>
    rintro D ys W hD rfl hw ⟨hc, hf⟩ hK
    rw [orsI_ups _ _ _ (by omega)] at hc
    have hI3 : Ints w.heap.size W (.slice a k c) zs := hI.below (hw.below (bchain (bchain (bchain bself bself) bself) bself) (by simp; try omega) (by simp))
    have hc2 := hw.cell (w.heap.size + 1) 0 (by simp; try omega) (by simp)
    have hf2 := hw.frozen (w.heap.size + 1) 0 (by simp; try omega) (by simp)
    simp [go_sem] at hc2 hf2
    have hlt : D < W.heap.size := (Array.getElem?_eq_some_iff.1 hK).1
    simp at hD
    dsimp only
    go_wp2_with (go_at_call 21; refine (those_any _ _ _ ⟨_, _, _, rfl⟩).mono ?_; rintro e w' ⟨rfl, rfl⟩)
    have hI4 : Ints w.heap.size ((W.alloc (Obj.cells #[Value.int IntKind.i64 1] 3)).alloc (Obj.cells #[Value.slice a k c] 24)) (.slice a k c) zs := hI3.below ((bchain bself bself).mono (by omega))
    refine wp_range (gf := 26) (lb := #[.pointer (some ⟨W.heap.size + 1, 0, none⟩), .pointer (some ⟨W.heap.size, 0, none⟩)]) rfl (enters_of Try.func26 (by kernel_rfl) rfl) (fun b => b = w.heap.size + 1) (by rintro b rfl; simp; try omega)
      (those_stops Fence.wide 4 trivial rfl (by decide) (W.heap.size + 1) W.heap.size w.heap.size 1 (.slice a k c) zs _ _ (fun b h => by simp; omega) (by simp; try omega) (by simp; try omega) (by simp; try omega) (by simp; try omega) (by simp; try omega) (by simp [go_sem]) (by simp [go_sem]) hI4)
      (fun _ => rfl)
      (fun pre W => W.cell? ⟨w.heap.size + 1, 0, none⟩ = some (.int .u32 (orsI pre)) ∧ W.frozen? ⟨w.heap.size + 1, 0, none⟩ = false)
      (fun _ _ _ => False) (fun s W W' hs hA => ⟨(World.cell?_of_block (w := W) (hA _ rfl)).trans hs.1, (World.frozen?_of_block (w := W) (hA _ rfl)).trans hs.2⟩) (fun _ _ _ _ hs _ => hs) ?h0
      (fun x => { tmps := #[.slice a k c, undef, .pointer (some ⟨w.heap.size, 0, none⟩), .pointer (some ⟨w.heap.size + 1, 0, none⟩), undef, .int .u32 ((x : Nat) : Int), .slice a k c, .func (.func 26) #[] #[.pointer (some ⟨w.heap.size + 1 + 1 + 1, 0, none⟩), .pointer (some ⟨w.heap.size + 1 + 1, 0, none⟩)], undef, undef, undef, undef, .slice a k c, .func (.func 26) #[] #[.pointer (some ⟨W.heap.size + 1, 0, none⟩), .pointer (some ⟨W.heap.size, 0, none⟩)], .int .u32 ((x : Nat) : Int), undef, undef, undef, undef, undef], defers := [] })
      ?assign2 ?body2 ?done2 ?stop2
    case h0 =>
      have l1 : w.heap.size + 1 < W.heap.size := by omega
      have l2 : w.heap.size + 1 < W.heap.size + 1 := by omega
      exact ⟨by simp [go_sem, hc2, orsI, l1, l2], by simp [go_sem, hf2, l1, l2]⟩
    case assign2 =>
      intro l x W K hK
      gi_wp2
      exact hK
    case body2 =>
      rintro l pre x W hw ⟨hc, hf⟩ _
      gi_wp2
      exact ⟨Writes.setCell (A := fun b => b = w.heap.size + 1) (Writes.refl _ W) (p := ⟨w.heap.size + 1, 0, none⟩) rfl _, by rw [orsI_snoc]; exact World.cell?_setCell_same' _ _ _ (by rw [hc]; rfl), by rw [World.frozen?_setCell]; exact hf⟩
    case stop2 =>
      rintro D c pre W _ _ _ h _
      exact h.elim
    case done2 =>
      rintro D2 ys W2 hD2 rfl hw2 ⟨hc3, hf3⟩ hK2
      rw [orsI_ups _ _ _ (by omega)] at hc3
      have k1 := hw2.cell w.heap.size 0 (by simp; try omega) (by simp)
      have k2 := hw2.frozen w.heap.size 0 (by simp; try omega) (by simp)
      have l1 : w.heap.size < W.heap.size := by omega
      have l2 : w.heap.size < W.heap.size + 1 := by omega
      simp [go_sem, hc, hf, l1, l2] at k1 k2
      have k3 : W2.heap[D]? = some (.deferred (some [])) := (hw2.block D (by simp; omega) (by omega)).trans ((Below.heap_alloc _ _ _ (by simp; omega)).trans ((Below.heap_alloc _ _ _ hlt).trans hK))
      simp at hD2
      have hB : Below w.heap.size w W2 := hw2.below (((hw.below (bchain (bchain (bchain bself bself) bself) bself) (by simp; try omega) (by rintro b rfl; exact Nat.le_refl _)).alloc (by omega) _).alloc (by simp; omega) _) (by simp; omega) (by rintro b rfl; omega)
      clear hI hI2 hI3 hI4 hc hf hc2 hf2 hw hw2 hK l1 l2
      dsimp only
      go_wp2
      go_region
      go_wp2
      refine ⟨⟨[D2, D], ⟨rfl, by simp; omega, ?held⟩⟩, fun w' hb hk => ⟨_, ?res, rfl, ?bel⟩⟩
      case held =>
        rintro D' h
        simp only [List.mem_cons, List.not_mem_nil, or_false] at h
        rcases h with rfl | rfl
        · exact ⟨by omega, (Below.heap_setCell _ _ _ _ (by dsimp only; omega)).trans ((Below.heap_setCell _ _ _ _ (by dsimp only; omega)).trans hK2)⟩
        · exact ⟨by omega, (Below.heap_setCell _ _ _ _ (by dsimp only; omega)).trans ((Below.heap_setCell _ _ _ _ (by dsimp only; omega)).trans k3)⟩
      case res =>
        have e1 := cells_kept hk (b := w.heap.size) (o := 0) (v := .int .u32 (ored 0 zs (min zs.length 24))) (by simp [go_sem, k1])
        have e2 := cells_kept hk (b := w.heap.size + 1) (o := 0) (v := .int .u32 (ored 1 zs (min zs.length 24))) (by simp [go_sem, hc3])
        simp [results, Try.results9, go_sem, e1, e2]
      case bel =>
        exact (((hB.setCell (p := ⟨w.heap.size, 0, none⟩) (Nat.le_refl _) _).setCell (p := ⟨w.heap.size + 1, 0, none⟩) (by dsimp only; omega) _).drew).trans hb
theorem ored_hit (n : Int) (l : List Int) (k : Nat) (h : l[k]?.getD 0 = n) : ored n l (k + 1) = ored n l k ||| 2 ^ k := if_pos h
theorem ored_miss (n : Int) (l : List Int) (k : Nat) (h : ¬ l[k]?.getD 0 = n) : ored n l (k + 1) = ored n l k := if_neg h
theorem bits_step (n : Int) (l : List Int) (k : Nat) (h : k < 24) (hh : l[k]?.getD 0 = n) : bits .or .u32 (ored n l k : Int) (2 ^ k) = (ored n l (k + 1) : Int) := by
  rw [ored_hit n l k hh, ← or_nat _ _ (Nat.lt_trans (ored_lt n l k) (pow_lt32 (by omega))) (pow_lt32 (by omega))]
  push_cast
  rfl

set_option maxRecDepth 100000 in
set_option maxHeartbeats 1000000 in
theorem rbits_any (a : Option Addr) (m c : Nat) (zs : List Int) (w : World) (hI : Ints w.heap.size w (.slice a m c) zs) :
    Calls Try.prog 10 #[.slice a m c] w fun e w' => e = .returned (.tuple #[.int .u32 (ored 0 zs (min zs.length 24)), .int .u32 (ored 1 zs (min zs.length 24))]) ∧ w = w' := by
  rcases hI with ⟨A, cap, e, rfl, hcap⟩ | ⟨b, off, cap, e, hb, h1, h2, hc⟩
  · cases e
    go_enter Try.func10, Try.ntmps10
    go_wp2
    go_loop [4, 5, 6] (fun x y i => x = .int .u32 0 ∧ y = .int .u32 0 ∧ i = .int .i64 0) (fun _ _ _ => 0)
    case atStart => exact ⟨rfl, rfl, rfl⟩
    case round =>
      obtain ⟨rfl, rfl, rfl⟩ := hrel
      go_wp2
      go_ret2
      exact ⟨by simp [ored], rfl⟩
  · cases e
    go_enter Try.func10, Try.ntmps10
    go_wp2
    go_loop [4, 5, 6] (fun x y i => ∃ k : Nat, k ≤ min zs.length 24 ∧ x = .int .u32 (ored 0 zs k) ∧ y = .int .u32 (ored 1 zs k) ∧ i = .int .i64 k) (fun _ _ i => 24 - (intOf i).toNat)
    case atStart => exact ⟨0, Nat.zero_le _, by simp [ored], by simp [ored], rfl⟩
    case round =>
      obtain ⟨k, hk, rfl, rfl, rfl⟩ := hrel
      by_cases hlt : k < min zs.length 24
      · have hl1 : k < zs.length := by omega
        have hl2 : k < 24 := by omega
        have hcx := hc k hl1
        have hp : (2 : Int) ^ k % 4294967296 = 2 ^ k := pow_mod k hl2
        clear hk hlt hc
        obtain ⟨z, hz⟩ : ∃ z, z = zs[k]?.getD 0 := ⟨_, rfl⟩
        rw [← hz] at hcx
        have H0 := Lib.hid (fun h : z = 0 => bits_step 0 zs k hl2 (hz ▸ h))
        have H1 := Lib.hid (fun h : z = 1 => bits_step 1 zs k hl2 (hz ▸ h))
        have M0 := Lib.hid (fun h : ¬ z = 0 => ored_miss 0 zs k (hz ▸ h))
        have M1 := Lib.hid (fun h : ¬ z = 1 => ored_miss 1 zs k (hz ▸ h))
        clear hz
        generalize hx : (ored 0 zs k : Int) = x at *
        generalize hy : (ored 1 zs k : Int) = y at *
        have HX := Lib.hid hx
        have HY := Lib.hid hy
        clear hx hy
        go_wp2
        all_goals
          refine ⟨⟨k + 1, by omega, ?_, ?_, by go_num⟩, by simp [intOf]; omega⟩
          · first
              | (have e : z = 0 := by simpa using ‹(z == 0) = true›
                 rw [H0.out e])
              | (have e : ¬ z = 0 := by simpa using ‹(z == 0) = false›
                 rw [M0.out e, HX.out])
          · first
              | (have e : z = 1 := by simpa using ‹(z == 1) = true›
                 rw [H1.out e])
              | (have e : ¬ z = 1 := by simpa using ‹(z == 1) = false›
                 rw [M1.out e, HY.out])
      · obtain rfl : k = min zs.length 24 := by omega
        go_wp2
        all_goals go_ret2
        all_goals exact ⟨rfl, rfl⟩
end Go.Proofs.Ytaajbhdmnbabhaa
