/-
  Package port: the iterator over the ways from a port; Way; Outs.
-/
import Derived.Test.YtkphihbimdffjaaDoorPort1
import Derived.Test.YtkphihbimdffjaaDoorRangeE
namespace Go.Proofs.YtkphihbimdffjaaDoor
open Go.RowKit Go.Shelf
attribute [local go_sem] Oper.semAt_some

/-- The ways from port i, over the first n ways: where to, and their numbers. -/
def prs (i : Int) (a b : Nat → Int) : Nat → List (Int × Int)
  | 0 => []
  | n + 1 => prs i a b n ++ ((if a n = i then [(b n, (n : Int))] else []) ++ (if b n = i then [(a n, (n : Int))] else []))
def aOf (k : Int) (n : Nat) : Int := if n = 0 then 0 else kA1 k
def bOf (k : Int) (n : Nat) : Int := if n = 0 then kB0 k else kB1 k
def pairs (k i : Int) : List (Int × Int) := prs i (aOf k) (bOf k) (kMany k).toNat
theorem prs_length (i : Int) (a b : Nat → Int) : ∀ n, (prs i a b n).length ≤ 2 * n
  | 0 => by simp [prs]
  | n + 1 => by
    have := prs_length i a b n
    unfold prs
    split <;> split <;> simp <;> omega

theorem prs_prefix {i : Int} {a b : Nat → Int} {n m : Nat} (h : n ≤ m) : prs i a b n <+: prs i a b m := by
  induction h with
  | refl => exact List.prefix_rfl
  | step _ ih => exact ih.trans (List.prefix_append _ _)

/-- The iterator's own row, as it stands. -/
structure RowAt (k : Int) (Br : Nat) (W : World) : Prop where
  c1 : W.cell? ⟨Br, 1, none⟩ = some (.int .i64 0)
  c2 : W.cell? ⟨Br, 2, none⟩ = some (.int .i64 (kB0 k))
  c3 : W.cell? ⟨Br, 3, none⟩ = some (.int .i64 (kA1 k))
  c4 : W.cell? ⟨Br, 4, none⟩ = some (.int .i64 (kB1 k))
  row : rowOf W Br 100

set_option maxRecDepth 100000 in
set_option maxHeartbeats 2000000 in
theorem from1_in (l Bk Bi n₀ : Nat) (k i : Int) (h0 : 0 ≤ k) (h1 : k ≤ 255) (A : Nat → Prop) (E : TypeId → Prop) (hA : ∀ b, A b → b < n₀) (hk : Bk < n₀ ∧ ¬ A Bk) (hi : Bi < n₀ ∧ ¬ A Bi)
    (hE1 : ¬ E 100) (hE2 : ¬ E 97) (J Jx : List (Int × Int) → World → Prop) (W : World) (hW : n₀ ≤ W.heap.size) (hJ : AbidesFrom W.heap.size J)
    (hY : ∀ pre x W1, J pre W1 → pre.length < 4 → YieldAt Fence.wide 3 Tryd.prog l #[.int .i64 (x : Int × Int).1, .int .i64 x.2] W1 fun e W' =>
      (e = .returned (.bool true) ∧ J (pre ++ [x]) W' ∧ KeepsE A E n₀ W1 W') ∨ (e = .returned (.bool false) ∧ Jx (pre ++ [x]) W'))
    (ck : W.cell? ⟨Bk, 0, none⟩ = some (.int .u8 k)) (ci : W.cell? ⟨Bi, 0, none⟩ = some (.int .i64 i)) (K : Kinds W) (hJ0 : J [] W) :
    CallsIn Fence.wide 4 Tryd.prog 73 #[.func (.yield l) #[] #[], .pointer (some ⟨Bk, 0, none⟩), .pointer (some ⟨Bi, 0, none⟩)] W fun e W' => (∃ v, e = .returned v) ∧
      ((∃ ys, ys = pairs k i ∧ J ys W') ∨ (∃ pre, (pre <+: pairs k i) ∧ Jx pre W')) := by
  refine callsIn_of_wp Tryd.func73 rfl trivial ?_ rfl
  simp only [Tryd.ntmps73, List.size_toArray, List.length_cons, List.length_nil, Nat.reduceAdd, Nat.reduceSub, Array.replicate_succ, Array.replicate_zero, List.push_toArray, List.append_toArray, List.nil_append, List.cons_append]
  gi_wp2_with fail
  refine ⟨trivial, (callsIn_wide.2 (of_any k h0 h1 W K)).mono ?_⟩
  rintro e w1 ⟨rfl, hb1⟩
  have hm0 : 0 ≤ kMany k := by
    rcases kCases k with ⟨_, _, h, _⟩ | ⟨_, _, h, _⟩ | ⟨_, _, h, _⟩ | ⟨_, _, _, _, h, _⟩ <;> omega
  have hm2 := kMany_le k
  have hsz : W.heap.size ≤ w1.heap.size := hb1.size
  have R0 : RowAt k w1.heap.size (w1.alloc (.cells #[.int .i64 (kPorts k), .int .i64 0, .int .i64 (kB0 k), .int .i64 (kA1 k), .int .i64 (kB1 k), .int .i64 (kMany k), .bool (kPoint k)] 100)) :=
    ⟨by simp [go_sem], by simp [go_sem], by simp [go_sem], by simp [go_sem], .new _ _ _ _⟩
  have hJg : ∀ s (X Y : World), W.heap.size ≤ X.heap.size → J s X → Below X.heap.size X Y → J s Y := fun s X Y _ hx hb => hJ s X Y none hx ⟨hb.os, hb.tape, hb.output, hb.size, fun k' hk' _ => hb.block k' hk'⟩ (fun r e => by cases e)
  have K0 : KeepsE A E n₀ W (w1.alloc (.cells #[.int .i64 (kPorts k), .int .i64 0, .int .i64 (kB0 k), .int .i64 (kA1 k), .int .i64 (kB1 k), .int .i64 (kMany k), .bool (kPoint k)] 100)) :=
    .of_below (bchain hb1 bself)
  have J0 := hJg _ _ _ (Nat.le_refl _) hJ0 (bchain hb1 (bself (o := .cells #[.int .i64 (kPorts k), .int .i64 0, .int .i64 (kB0 k), .int .i64 (kA1 k), .int .i64 (kB1 k), .int .i64 (kMany k), .bool (kPoint k)] 100)))
  have KH := Lib.hid K
  have hmax : max (kMany k) 0 = kMany k := by omega
  clear K hJ hJ0
  unfold rowV
  gi_wp2_with fail
  gi_loopw [5, 6, 14] (fun _ _ c wr => ∃ n : Nat, (n : Int) ≤ kMany k ∧ c = .int .i64 n ∧ J (prs i (aOf k) (bOf k) n) wr ∧ RowAt k w1.heap.size wr ∧ KeepsE A E n₀ W wr)
    (fun _ _ c _ => 2 - (intOf c).toNat)
  case atStart => exact ⟨0, by omega, rfl, J0, R0, K0⟩
  case round =>
    obtain ⟨n, hn, rfl, hJn, R, Kn⟩ := hrel
    have ck' := Kn.old hk.1 hk.2 ck
    have ci' := Kn.old hi.1 hi.2 ci
    clear ck ci
    by_cases hlt : (n : Int) < kMany k
    · have hn2 : n = 0 ∨ n = 1 := by omega
      obtain ⟨x, hx⟩ : ∃ x, x = aOf k n := ⟨_, rfl⟩
      obtain ⟨y, hy⟩ : ∃ y, y = bOf k n := ⟨_, rfl⟩
      have c1 : wr.cell? ⟨w1.heap.size, 1 + n * 2, none⟩ = some (.int .i64 x) := by
        rcases hn2 with rfl | rfl
        · rw [hx]; exact R.c1
        · rw [hx]; exact R.c3
      have c2 : wr.cell? ⟨w1.heap.size, 1 + n * 2 + 1, none⟩ = some (.int .i64 y) := by
        rcases hn2 with rfl | rfl
        · rw [hy]; exact R.c2
        · rw [hy]; exact R.c4
      have hne : x ≠ y := by
        rcases kCases k with ⟨_, _, m, e0, e1, e2, _⟩ | ⟨_, _, m, e0, e1, e2, _⟩ | ⟨_, _, m, e0, e1, e2, _⟩ | ⟨_, _, _, _, m, _⟩ <;> rcases hn2 with rfl | rfl <;> simp_all [aOf, bOf]
      have PA : x = i → ¬ y = i → prs i (aOf k) (bOf k) (n + 1) = prs i (aOf k) (bOf k) n ++ [(y, (n : Int))] := fun h g => by simp only [prs]; rw [← hx, ← hy, if_pos h, if_neg g]; simp
      have PB : ¬ x = i → y = i → prs i (aOf k) (bOf k) (n + 1) = prs i (aOf k) (bOf k) n ++ [(x, (n : Int))] := fun h g => by simp only [prs]; rw [← hx, ← hy, if_neg h, if_pos g]; simp
      have PC : ¬ x = i → ¬ y = i → prs i (aOf k) (bOf k) (n + 1) = prs i (aOf k) (bOf k) n := fun h g => by simp only [prs]; rw [← hx, ← hy, if_neg h, if_neg g]; simp
      have hlen := prs_length i (aOf k) (bOf k) n
      have hpre : prs i (aOf k) (bOf k) (n + 1) <+: pairs k i := prs_prefix (i := i) (a := aOf k) (b := bOf k) (by omega)
      have hwr : W.heap.size ≤ wr.heap.size := Kn.size
      have liw : Bi < wr.heap.size := by omega
      have lrw : w1.heap.size < wr.heap.size := R.row.lt
      have hnA : ∀ b, n₀ ≤ b → ¬ A b := fun b hb ha => by have := hA b ha; omega
      obtain ⟨Wy, hWy⟩ : ∃ Wy, Wy = wr.alloc (.cells #[.int .i64 x, .int .i64 y] 97) := ⟨_, rfl⟩
      have By : Below wr.heap.size wr Wy := by rw [hWy]; exact bself
      have Jy := hJg _ _ Wy hwr hJn By
      have Ry : RowAt k w1.heap.size Wy := ⟨(By.cell (p := ⟨w1.heap.size, 1, none⟩) lrw).trans R.c1, (By.cell (p := ⟨w1.heap.size, 2, none⟩) lrw).trans R.c2, (By.cell (p := ⟨w1.heap.size, 3, none⟩) lrw).trans R.c3, (By.cell (p := ⟨w1.heap.size, 4, none⟩) lrw).trans R.c4, R.row.keep (By.block _ lrw)⟩
      have Ky : KeepsE A E n₀ W Wy := Kn.trans (.of_below By)
      have ey0 : Wy.cell? ⟨wr.heap.size, 0, none⟩ = some (.int .i64 x) := by rw [hWy]; simp [go_sem]
      have ey1 : Wy.cell? ⟨wr.heap.size, 1, none⟩ = some (.int .i64 y) := by rw [hWy]; simp [go_sem]
      have ery : rowOf Wy wr.heap.size 97 := by rw [hWy]; exact .new _ _ _ _
      have after : ∀ W3, KeepsE A E n₀ Wy W3 → RowAt k w1.heap.size W3 ∧ KeepsE A E n₀ W W3 ∧ W3.cell? ⟨wr.heap.size, 0, none⟩ = some (.int .i64 x) ∧ W3.cell? ⟨wr.heap.size, 1, none⟩ = some (.int .i64 y) ∧ W3.cell? ⟨Bi, 0, none⟩ = some (.int .i64 i) := by
        intro W3 h3
        have b1 := h3.own Ry.row (hnA _ (by omega)) hE1
        have b2 := h3.own ery (hnA _ (by omega)) hE2
        exact ⟨⟨(World.cell?_of_block (w := Wy) (a := ⟨w1.heap.size, 1, none⟩) b1).trans Ry.c1, (World.cell?_of_block (w := Wy) (a := ⟨w1.heap.size, 2, none⟩) b1).trans Ry.c2, (World.cell?_of_block (w := Wy) (a := ⟨w1.heap.size, 3, none⟩) b1).trans Ry.c3, (World.cell?_of_block (w := Wy) (a := ⟨w1.heap.size, 4, none⟩) b1).trans Ry.c4, Ry.row.keep b1⟩,
          Ky.trans h3, (World.cell?_of_block (w := Wy) (a := ⟨wr.heap.size, 0, none⟩) b2).trans ey0, (World.cell?_of_block (w := Wy) (a := ⟨wr.heap.size, 1, none⟩) b2).trans ey1, h3.old hi.1 hi.2 ((By.cell (p := ⟨Bi, 0, none⟩) liw).trans ci')⟩
      have HA := Lib.hid (⟨PA, PB, PC⟩ : _ ∧ _ ∧ _)
      have HR := Lib.hid (⟨Ry, Ky, Jy⟩ : _ ∧ _ ∧ _)
      clear hx hy R0 K0 J0 PA PB PC ey0 ey1 ery Ry Ky Jy By hJn R Kn
      by_cases hxi : x = i
      · have hyi : ¬ y = i := by omega
        have dx : (x == i) = true := by simpa using hxi
        have dy : (y == i) = false := by simpa using hyi
        have hP := Lib.hid (HA.out.1 hxi hyi)
        obtain ⟨fn, tmps, assign, body, hyy, hR⟩ := hY _ (y, (n : Int)) Wy HR.out.2.2 (by omega)
        subst hWy
        clear hxi hyi hne HA HR
        gi_wp2
        refine hR.mono ?_
        rintro e W3 (⟨rfl, hJ3, hk3⟩ | ⟨rfl, hJx3⟩)
        · obtain ⟨R3, K3, d0, d1, di⟩ := after _ hk3
          have H3 := Lib.hid (⟨R3, K3⟩ : _ ∧ _)
          clear R3 K3 hk3 after
          gi_wp2
          refine ⟨fun _ h => (by cases h), ?_⟩
          gi_wp2
          go_roundw
          case rel => exact ⟨n + 1, by omega, by simp, by rw [hP.out]; exact hJ3, H3.out.1, H3.out.2⟩
          case measure => simp [intOf]; omega
        · gi_wp2
          refine bodyPost_ret (results_none rfl _ _ _) rfl ?_
          exact ⟨⟨_, rfl⟩, .inr ⟨_, hP.out ▸ hpre, hJx3⟩⟩
      · have dx : (x == i) = false := by simpa using hxi
        by_cases hyi : y = i
        · have dy : (y == i) = true := by simpa using hyi
          have hP := Lib.hid (HA.out.2.1 hxi hyi)
          obtain ⟨fn, tmps, assign, body, hyy, hR⟩ := hY _ (x, (n : Int)) Wy HR.out.2.2 (by omega)
          subst hWy
          clear hxi hyi hne HA HR
          gi_wp2
          refine ⟨fun _ h => (by cases h), ?_⟩
          gi_wp2
          refine hR.mono ?_
          rintro e W3 (⟨rfl, hJ3, hk3⟩ | ⟨rfl, hJx3⟩)
          · obtain ⟨R3, K3, d0, d1, di⟩ := after _ hk3
            have H3 := Lib.hid (⟨R3, K3⟩ : _ ∧ _)
            clear R3 K3 hk3 after
            gi_wp2
            go_roundw
            case rel => exact ⟨n + 1, by omega, by simp, by rw [hP.out]; exact hJ3, H3.out.1, H3.out.2⟩
            case measure => simp [intOf]; omega
          · gi_wp2
            refine bodyPost_ret (results_none rfl _ _ _) rfl ?_
            exact ⟨⟨_, rfl⟩, .inr ⟨_, hP.out ▸ hpre, hJx3⟩⟩
        · have dy : (y == i) = false := by simpa using hyi
          have hP := Lib.hid (HA.out.2.2 hxi hyi)
          subst hWy
          clear hxi hyi hne HA after
          gi_wp2
          refine ⟨fun _ h => (by cases h), ?_⟩
          gi_wp2
          go_roundw
          case rel => exact ⟨n + 1, by omega, by simp, by rw [hP.out]; exact HR.out.2.2, HR.out.1, HR.out.2.1⟩
          case measure => simp [intOf]; omega
    · obtain rfl : n = (kMany k).toNat := by omega
      have hlt' : ¬ ((((kMany k).toNat : Nat) : Int) < kMany k) := hlt
      gi_wp2
      go_end0
      exact ⟨⟨_, rfl⟩, .inl hJn⟩
end Go.Proofs.YtkphihbimdffjaaDoor
