/-
  lockbarref01: Right of bits that may be, Own, Of.
-/
import Derived.Test.YtpnnbihofoomeaaDoorM8

namespace Go.Proofs.YtpnnbihofoomeaaDoor
open Go.RowKit Go.Shelf
attribute [local go_sem] Oper.semAt_some run_buildNone

def minI (x y : Int) : Int := if y < x then y else x
theorem min_two (ats : Array TypeId) (ty : TypeId) (k k' : IntKind) (x y : Int) : Builtin.min_ ats ty #[.int k x, .int k' y] = pure (.int k (minI x y)) := rfl
attribute [local go_sem ↓ high] min_two
set_option maxRecDepth 100000 in
set_option maxHeartbeats 4000000 in
theorem rbRight_yes (A : Option Addr) (n cap N : Nat) (bs : List Nat) (w : World) (hn : n = bs.length) (hA : At w 1 bEnc A bs) (hok : BitsOk bs N) :
    Calls Tryd.prog 66 #[.agg #[.slice A n cap, .int .i64 N]] w fun e w' => e = .returned (.bool true) ∧ Below w.heap.size w w' := by
  obtain ⟨h8, hN, hb, hlow⟩ := hok
  have hneg : ¬ (N : Int) < 0 := by omega
  by_cases hz : N % 8 = 0
  · have hzi : (N : Int) % 8 = 0 := by omega
    have hmin : minI 0 1 = 0 := rfl
    have e4 : (N : Int) / 8 = (n : Int) := by omega
    have e2 : wrap64 (n : Int) = (n : Int) := by unfold wrap64; omega
    clear hA hb hlow h8 hN hn hz
    go_enter Tryd.func66, Tryd.ntmps66
    go_wp2_with fail
    go_ret
    exact ⟨rfl, bself⟩
  · obtain ⟨d, hd⟩ : ∃ d, d = N / 8 := ⟨_, rfl⟩
    obtain ⟨m, hm⟩ : ∃ m, m = N % 8 := ⟨_, rfl⟩
    have hdi : (N : Int) / 8 = (d : Int) := by omega
    have hmi : (N : Int) % 8 = (m : Int) := by omega
    have hmz : ((m : Int) == 0) = false := by rw [beq_eq_false_iff_ne]; omega
    have hmz' : ¬ (m : Int) = 0 := by omega
    have hmin : minI (m : Int) 1 = 1 := by
      unfold minI
      by_cases h1 : (1 : Int) < (m : Int)
      · rw [if_pos h1]
      · rw [if_neg h1]; omega
    have hn0 : 0 < n := by omega
    obtain ⟨b, off, ea, hrow⟩ := hA.get (j := n - 1) (by omega)
    subst ea
    obtain ⟨x, hx⟩ : ∃ x, x = bs.getD (bs.length - 1) 0 := ⟨_, rfl⟩
    have hxg : bs[n - 1]? = some x := by
      rw [hx, hn, List.getD_eq_getElem?_getD, List.getElem?_eq_getElem (by omega)]
      rfl
    have hx256 := hb x (List.mem_of_getElem? hxg)
    have hcell : w.cell? ⟨b, off + (n - 1), none⟩ = some (.int .u8 (x : Int)) := by simpa using hrow.2 (n - 1) x hxg 0 _ rfl
    obtain ⟨k, hk⟩ : ∃ k, k = 8 - m := ⟨_, rfl⟩
    have hki : (8 : Int) - (m : Int) = (k : Int) := by omega
    have hk8 : k ≤ 8 := by omega
    have hlow' : x % 2 ^ k = 0 := by rw [hx, hk, hm]; exact hlow hz
    have hn1 : IntKind.i64.wrap ((n : Int) - 1) = ((n - 1 : Nat) : Int) := by rw [IntWalk.i64_in _ (by omega)]; omega
    have hn2 : ((n - 1 : Nat) : Int) < (n : Int) := by omega
    obtain ⟨p, hp⟩ : ∃ p, p = 2 ^ k := ⟨_, rfl⟩
    have hp256 : 0 < p ∧ p ≤ 256 := by
      rw [hp]
      exact ⟨Nat.two_pow_pos k, Nat.le_trans (Nat.pow_le_pow_right (by decide) hk8) (by decide)⟩
    rw [← hp] at hlow'
    have hpz : ¬ (p : Int) = 0 := by clear hp hlow'; omega
    have wx : wrap64 (x : Int) = (x : Int) := by clear hp hlow'; unfold wrap64; omega
    have wp : wrap64 (p : Int) = (p : Int) := by clear wx hp hlow'; unfold wrap64; omega
    have e2 : wrap64 (d : Int) = (d : Int) := by clear wx wp hp hlow'; unfold wrap64; omega
    have e3 : wrap64 ((d : Int) + 1) = (n : Int) := by clear wx wp e2 hp hlow'; unfold wrap64; omega
    have hpi : (2 : Int) ^ k = (p : Int) := by rw [hp]; push_cast; rfl
    have hr1 : (x : Int) % (p : Int) = 0 := by
      have h : ((x % p : Nat) : Int) = 0 := by rw [hlow']; rfl
      rw [← h]
      push_cast
      rfl
    have hr2 : (x : Int).tmod (p : Int) = 0 := by rw [Int.tmod_eq_emod_of_nonneg (Int.natCast_nonneg _)]; exact hr1
    have hpz' : ((p : Int) == 0) = false := by rw [beq_eq_false_iff_ne]; exact hpz
    have lb := hrow.1
    obtain ⟨X, hX⟩ : ∃ X : Int, X = (x : Int) := ⟨_, rfl⟩
    obtain ⟨P, hP⟩ : ∃ P : Int, P = (p : Int) := ⟨_, rfl⟩
    rw [← hX] at hcell hr1 hr2 wx
    rw [← hP] at hpz hpz' wp hpi hr1 hr2
    clear hX hP hA hb hlow hlow' h8 hN hn hz hrow hx hxg hx256 hd hm hk hp hp256
    go_enter Tryd.func66, Tryd.ntmps66
    go_wp2_with fail
    go_ret
    exact ⟨rfl, bself⟩

set_option maxRecDepth 100000 in
set_option maxHeartbeats 8000000 in
theorem rbOwn_any (A : Option Addr) (n cap : Nat) (N : Int) (bs : List Nat) (w : World) (hn : n = bs.length) (hA : At w 1 bEnc A bs) (hl : bs.length ≤ 1000) :
    Calls Tryd.prog 67 #[.agg #[.slice A n cap, .int .i64 N]] w fun e w' => ∃ A' c', e = .returned (.agg #[.slice A' n c', .int .i64 N]) ∧ w'.ownsRow w.heap.size 5 1 (.slice A' n c') n (bs.flatMap bEnc) ∧ Below w.heap.size w w' := by
  obtain ⟨i0, z0, hi, hz1, hs1, hs2, hs3⟩ := info_u8
  obtain ⟨U, hU⟩ : ∃ U, U = (w.alloc (.cells #[.slice A n cap, .int .i64 N] 54)).alloc (.cells #[.slice none 0 0, .int .i64 0] 54) := ⟨_, rfl⟩
  have u1 : Below w.heap.size w U := by rw [hU]; exact bchain bself bself
  have u2 : U.heap[w.heap.size + 1]? = some (.cells #[.slice none 0 0, .int .i64 0] 54 (0, 0)) := by
    rw [hU]
    have := World.alloc_heap_new (w.alloc (.cells #[.slice A n cap, .int .i64 N] 54)) (.cells #[.slice none 0 0, .int .i64 0] 54)
    simpa using this
  have u0 : U.heap[w.heap.size]? = some (.cells #[.slice A n cap, .int .i64 N] 54 (0, 0)) := by
    rw [hU]
    exact (bself.block _ (by simp)).trans (World.alloc_heap_new _ _)
  have x0 : ∀ V, ClB U V → V.cell? ⟨w.heap.size, 0, none⟩ = some (.slice A n cap) := fun V h => by
    have := (h.block _ (Array.getElem?_eq_some_iff.1 u0).1).trans u0
    simp [World.cell?, this]
  have x1 : ∀ V, ClB U V → V.cell? ⟨w.heap.size, 1, none⟩ = some (.int .i64 N) := fun V h => by
    have := (h.block _ (Array.getElem?_eq_some_iff.1 u0).1).trans u0
    simp [World.cell?, this]
  have HU := Lib.hid (⟨u1, u2, hA.below u1, hn, hl⟩ : _ ∧ _ ∧ At U 1 bEnc A bs ∧ _ ∧ _)
  have HI := Lib.hid (⟨hi, hz1, hs1, hs2, hs3⟩ : _ ∧ _ ∧ _ ∧ _ ∧ _)
  clear u1 u2 u0 hA hi hz1 hs1 hs2 hs3 hn hl
  go_enter Tryd.func67, Tryd.ntmps67
  go_upto_region 1 with fail
  rw [← hU]
  clear hU
  refine (wpIn_wide (n := 5)).1 (wpIn_region_rel_head (.inl rfl) 7 [([], none), ([(1, none)], none), ([(4, some 0)], none), ([(3, some 2), (5, some 0)], none), ([(1, none)], none), ([(7, some 0)], none), ([(6, some 2), (8, some 0)], none)] [(0, 9)] (by kernel_rfl) (by kernel_rfl) (by kernel_rfl) (by kernel_rfl) (by kernel_rfl) (by kernel_rfl) (by kernel_rfl) (by kernel_rfl) ?_)
  simp only [List.take_succ_cons, List.take_zero, List.drop_succ_cons, List.drop_zero]
  refine ⟨EmptyS U 5, fun _ _ _ h k => h.step k, ?_, ?_⟩
  · intro ρ W hk hC
    simp only [seen, obOp]
    exact rel_emptyS (by simp [go_sem]) hC
  refine ob_det (c := .pointer (some ⟨w.heap.size, 0, none⟩)) ?_ ?_
  · intro ρ W hk hC
    simp only [seen, obOp]
    rintro h1
    replace h1 : ρ (.tmp 1) = .pointer (some ⟨w.heap.size, 0, none⟩) := h1.trans rfl
    exact rel_value (by simp [go_sem, h1]) hC
  refine ob_det (c := .slice A n cap) ?_ ?_
  · intro ρ W hk hC
    simp only [seen, obOp, List.getD_cons_zero]
    rintro h4
    exact rel_value (by simp [go_sem, h4, x0 W hC]) hC
  refine ⟨fun v w' => ∃ A' c', v = .slice A' n c' ∧ w'.ownsRow U.heap.size 5 1 (.slice A' n c') n (bs.flatMap bEnc), fun _ _ _ h k => by obtain ⟨A', c', e, h⟩ := h; exact ⟨A', c', e, owns_below h k⟩, ?_, ?_⟩
  · intro ρ W hk hC
    simp only [seen, obOp, List.getD_cons_zero, List.getD_cons_succ]
    rintro h3 h5
    refine relUpon_mono (rel_copy (enc := bEnc) (i := i0) (z := z0) (size := 1) (bytes := i0.bytes) Tryd.underlying30 HI.out.1 HI.out.2.1 HI.out.2.2.1 rfl HI.out.2.2.2.1 (by decide) h3 HU.out.2.2.2.1 h5 (HU.out.2.2.1.below hC) (fun _ => rfl) (by have := HU.out.2.2.2; unfold maxLen; omega) ?_ hC) ?_
    · have h2 := Nat.mul_le_mul (show n ≤ 1000 by have := HU.out.2.2.2; omega) HI.out.2.2.2.2
      omega
    · intro v w' _ h
      obtain ⟨A', c', rfl⟩ := ownsV h
      exact ⟨A', c', rfl, h⟩
  refine ob_det (c := .pointer (some ⟨w.heap.size, 1, none⟩)) ?_ ?_
  · intro ρ W hk hC
    simp only [seen, obOp]
    rintro h1
    replace h1 : ρ (.tmp 1) = .pointer (some ⟨w.heap.size, 0, none⟩) := h1.trans rfl
    exact rel_value (by simp [go_sem, h1]) hC
  refine ob_det (c := .int .i64 N) ?_ ?_
  · intro ρ W hk hC
    simp only [seen, obOp, List.getD_cons_zero]
    rintro h7
    exact rel_value (by simp [go_sem, h7, x1 W hC]) hC
  refine ⟨fun v w' => ∃ A' c', v = .agg #[.slice A' n c', .int .i64 N] ∧ w'.ownsRow U.heap.size 5 1 (.slice A' n c') n (bs.flatMap bEnc), fun _ _ _ h k => by obtain ⟨A', c', e, h⟩ := h; exact ⟨A', c', e, owns_below h k⟩, ?_, ?_⟩
  · intro ρ W hk hC
    simp only [seen, obOp, List.getD_cons_zero, List.getD_cons_succ]
    rintro ⟨A6, c6, h6, o6⟩ h8
    exact relUpon_value (c := .agg #[.slice A6 n c6, .int .i64 N]) (by simp [go_sem, h6, h8]) hC ⟨A6, c6, rfl, o6⟩
  intro vs w5 hC5
  simp only [endSeen, List.getD_cons_zero]
  intro h9
  simp only [writeAll, List.setIfInBounds_toArray, List.set_cons_zero, List.set_cons_succ]
  obtain ⟨A', c', h9, o9⟩ := h9
  rw [show vs 9 = _ from h9]
  have q := (hC5.block _ (Array.getElem?_eq_some_iff.1 HU.out.2.1).1).trans HU.out.2.1
  have y0 : w5.cell? ⟨w.heap.size + 1, 0, none⟩ = some (.slice none 0 0) := by simp [World.cell?, q]
  have y1 : w5.cell? ⟨w.heap.size + 1, 1, none⟩ = some (.int .i64 0) := by simp [World.cell?, q]
  have yl := (Array.getElem?_eq_some_iff.1 q).1
  have yf : ∀ o, w5.frozen? ⟨w.heap.size + 1, o, none⟩ = false := fun o => frozen_of_row _ _ _ _ _ q
  have HB := Lib.hid (⟨bchain HU.out.1 hC5, o9, HU.out.1.size, q⟩ : Below w.heap.size w w5 ∧ w5.ownsRow U.heap.size 5 1 (.slice A' n c') n (bs.flatMap bEnc) ∧ w.heap.size ≤ U.heap.size ∧ _)
  clear hC5 o9 x0 x1 q h9
  gi_wp2
  go_wp2_with fail
  refine bodyPost_ret (v := .agg #[.slice A' n c', .int .i64 N]) (by simp [results, Tryd.results67, go_sem, y0, y1]) rfl ⟨A', c', rfl, ?_, ?_⟩
  · exact keep_box (heap_setCell_same _ _ _ _ _ _ HB.out.2.2.2) (keep_box HB.out.2.2.2 (owns_base HB.out.2.1 HB.out.2.2.1))
  · repeat refine Below.setCell ?_ (by dsimp only; omega) _
    exact HB.out.1

set_option maxRecDepth 100000 in
set_option maxHeartbeats 8000000 in
theorem rbOf_any (A : Option Addr) (n cap M : Nat) (bs : List Nat) (w : World) (hn : n = bs.length) (hM : M = 8 * bs.length) (hA : At w 1 bEnc A bs) (hl : bs.length ≤ 1000) :
    Calls Tryd.prog 35 #[.slice A n cap] w fun e w' => ∃ A' c', e = .returned (.agg #[.slice A' n c', .int .i64 (M : Nat)]) ∧ w'.ownsRow w.heap.size 5 1 (.slice A' n c') n (bs.flatMap bEnc) ∧ Below w.heap.size w w' := by
  obtain ⟨i0, z0, hi, hz1, hs1, hs2, hs3⟩ := info_u8
  have e1 : IntKind.i64.wrap (8 * (n : Int)) = (M : Int) := by rw [hM, hn, IntWalk.i64_in _ (by omega)]; omega
  obtain ⟨X, hX⟩ : ∃ X, X = w.alloc (.cells #[.slice none 0 0, .int .i64 0] 54) := ⟨_, rfl⟩
  have hx1 : Below w.heap.size w X := by rw [hX]; exact bself
  have hx2 : X.heap[w.heap.size]? = some (.cells #[.slice none 0 0, .int .i64 0] 54 (0, 0)) := by rw [hX]; exact World.alloc_heap_new _ _
  have hx3 : X.heap.size = w.heap.size + 1 := by rw [hX]; simp
  have HX := Lib.hid (⟨hx1, hx2, hA.below hx1, hn, hl⟩ : _ ∧ _ ∧ At X 1 bEnc A bs ∧ _ ∧ _)
  have HI := Lib.hid (⟨hi, hz1, hs1, hs2, hs3⟩ : _ ∧ _ ∧ _ ∧ _ ∧ _)
  clear hx1 hx2 hA hi hz1 hs1 hs2 hs3 hn hl hM
  go_enter Tryd.func35, Tryd.ntmps35
  go_wp2_with (at_builtin; refine Hid.out ?_)
  refine Lib.hid ?_
  rw [← hX]
  rw [← hx3]
  clear hX
  refine wpList_append_at (enc := bEnc) rfl _ _ _ rfl X.heap.size 5 i0 z0 1 i0.bytes Tryd.underlying30 HI.out.1 HI.out.2.1 HI.out.2.2.1 rfl HI.out.2.2.2.1 (by decide) (.slice (some ⟨X.heap.size, 0, none⟩) 0 0) 0 [] (by simp [go_sem]) (World.ownsRow_lit X #[] 0 (Nat.le_refl _) (by unfold maxLen; omega) rfl) A n cap bs HX.out.2.2.2.1 (by simp [go_sem]) (HX.out.2.2.1.below bself) (fun _ => rfl) u8_one (by have := HX.out.2.2.2; unfold maxLen; omega) ?_ (by simp) ?_
  · have h2 := Nat.mul_le_mul (show 0 + n ≤ 1000 by have := HX.out.2.2.2; omega) HI.out.2.2.2.2
    omega
  intro v' V hr hg
  have bV : Below X.heap.size X V := bgrown (World.ownsRow_lit (base := X.heap.size) (size := 1) X #[] 0 (Nat.le_refl _) (by unfold maxLen; omega) rfl) hg bself (by simp)
  rw [Nat.zero_add, List.nil_append] at hr
  obtain ⟨A', d', rfl⟩ := ownsV hr
  have q := (bV.block _ (Array.getElem?_eq_some_iff.1 HX.out.2.1).1).trans HX.out.2.1
  have y0 : V.cell? ⟨w.heap.size, 0, none⟩ = some (.slice none 0 0) := by simp [World.cell?, q]
  have y1 : V.cell? ⟨w.heap.size, 1, none⟩ = some (.int .i64 0) := by simp [World.cell?, q]
  have yl := (Array.getElem?_eq_some_iff.1 q).1
  have yf : ∀ o, V.frozen? ⟨w.heap.size, o, none⟩ = false := fun o => frozen_of_row _ _ _ _ _ q
  have HB := Lib.hid (⟨bchain HX.out.1 bV, hr, HX.out.1.size, q⟩ : Below w.heap.size w V ∧ _ ∧ w.heap.size ≤ X.heap.size ∧ _)
  clear hr hg bV q
  go_wp2_with fail
  refine bodyPost_ret (v := .agg #[.slice A' n d', .int .i64 M]) (by simp [results, Tryd.results35, go_sem, y0, y1]) rfl ⟨A', d', rfl, ?_, ?_⟩
  · exact keep_box (heap_setCell_same _ _ _ _ _ _ HB.out.2.2.2) (keep_box HB.out.2.2.2 (owns_base HB.out.2.1 HB.out.2.2.1))
  · repeat refine Below.setCell ?_ (by dsimp only; omega) _
    exact HB.out.1
end Go.Proofs.YtpnnbihofoomeaaDoor

/-
  lockbarref01.with: one bit more.
-/
namespace Go.Proofs.YtpnnbihofoomeaaDoor
open Go.RowKit Go.Shelf

/-- Two variables of bits: what they hold; the bytes in a row of one's own. -/
structure WSt (B g N : Nat) (w W : World) (v : Value) (n : Nat) (bs : List Nat) : Prop where
  bx : W.heap[g]? = some (.cells #[v, .int .i64 (N : Nat)] 54 (0, 0))
  zr : W.heap[g + 1]? = some (.cells #[.slice none 0 0, .int .i64 0] 54 (0, 0))
  own : W.ownsRow B 5 1 v n (bs.flatMap bEnc)
  below : Below B w W

set_option maxRecDepth 100000 in
set_option maxHeartbeats 8000000 in
theorem rbWith_any (B N n0 : Nat) (bl : List Bool) (one : Bool) (A : Option Addr) (c0 : Nat) (w : World) (ho : w.ownsRow B 5 1 (.slice A n0 c0) n0 ((pack bl).flatMap bEnc)) (hn0 : n0 = (pack bl).length) (hN : N = bl.length) (hl : bl.length < 8000) (hB : B ≤ w.heap.size) :
    Calls Tryd.prog 68 #[.agg #[.slice A n0 c0, .int .i64 (N : Nat)], .bool one] w fun e w' => ∃ A' c' n', e = .returned (.agg #[.slice A' n' c', .int .i64 ((N + 1 : Nat) : Int)]) ∧ n' = (pack (bl ++ [one])).length ∧
      w'.ownsRow B 5 1 (.slice A' n' c') n' ((pack (bl ++ [one])).flatMap bEnc) ∧ Below B w w' := by
  obtain ⟨g, hg⟩ : ∃ g, g = w.heap.size := ⟨_, rfl⟩
  obtain ⟨X, hX⟩ : ∃ X, X = (w.alloc (.cells #[.slice A n0 c0, .int .i64 (N : Nat)] 54)).alloc (.cells #[.slice none 0 0, .int .i64 0] 54) := ⟨_, rfl⟩
  have st : WSt B g N w X (.slice A n0 c0) n0 (pack bl) := by
    rw [hX, hg]
    refine ⟨(bself.block _ (by simp)).trans (World.alloc_heap_new _ _), ?_, owns_below (owns_below ho bself) bself, (bchain bself bself).mono hB⟩
    have := World.alloc_heap_new (w.alloc (.cells #[.slice A n0 c0, .int .i64 (N : Nat)] 54)) (.cells #[.slice none 0 0, .int .i64 0] 54)
    simpa using this
  have x0 : X.cell? ⟨g, 0, none⟩ = some (.slice A n0 c0) := by simp [World.cell?, st.bx]
  have x1 : X.cell? ⟨g, 1, none⟩ = some (.int .i64 (N : Nat)) := by simp [World.cell?, st.bx]
  have xl : g < X.heap.size := (Array.getElem?_eq_some_iff.1 st.bx).1
  have xf : ∀ o, X.frozen? ⟨g, o, none⟩ = false := fun o => frozen_of_row _ _ _ _ _ st.bx
  obtain ⟨m, hm⟩ : ∃ m, m = N % 8 := ⟨_, rfl⟩
  obtain ⟨d, hd⟩ : ∃ d, d = N / 8 := ⟨_, rfl⟩
  have hmi : (N : Int) % 8 = (m : Int) := by omega
  have hdi : (N : Int) / 8 = (d : Int) := by omega
  have hpl := pack_length bl
  have hnle : n0 ≤ 1001 := by omega
  have hN8 : N < 8000 := by omega
  have hm8 : m < 8 := by omega
  have hBX : B ≤ X.heap.size := by have := st.below.size; omega
  have HS := Lib.hid (⟨st, hBX⟩ : _ ∧ _)
  have HN := Lib.hid (⟨hN, hn0, hm, hd⟩ : _ ∧ _ ∧ _ ∧ _)
  clear hpl hN hn0 hm hd st ho hl hBX
  go_enter Tryd.func68, Tryd.ntmps68
  go_upto_if 8 with fail
  rw [← hX]
  rw [← hg]
  have HG := Lib.hid hg
  clear hX hg
  go_cut [] (fun w' => ∃ (A' : Option Addr) (c' : Nat), Hid (WSt B g N w w' (.slice A' (roomB bl).length c') (roomB bl).length (roomB bl)))
  case first =>
    by_cases hz : m = 0
    · have hrm : roomB bl = pack bl ++ [0] := by
        unfold roomB
        rw [if_pos (by have := HN.out.1; have := HN.out.2.2.1; omega)]
      have HRM := Lib.hid hrm
      obtain ⟨i0, z0, hi, hz1, hs1, hs2, hs3⟩ := info_u8
      have HI := Lib.hid (⟨hi, hz1, hs1, hs2, hs3⟩ : _ ∧ _ ∧ _ ∧ _ ∧ _)
      subst hz
      clear hrm hi hz1 hs1 hs2 hs3
      go_wp2_with (at_builtin; refine Hid.out ?_)
      refine Lib.hid ?_
      refine wpList_append_at (enc := bEnc) rfl _ _ _ rfl B 5 i0 z0 1 i0.bytes Tryd.underlying30 HI.out.1 HI.out.2.1 HI.out.2.2.1 rfl HI.out.2.2.2.1 (by decide) (.slice A n0 c0) n0 ((pack bl).flatMap bEnc) rfl (owns_below HS.out.1.own bself) (some ⟨X.heap.size, 0, none⟩) 1 1 [0] rfl (by simp [go_sem]) (at_one rfl) (fun _ => rfl) u8_one (by unfold maxLen; omega) ?_ (by have := HS.out.2; simp; omega) ?_
      · have h2 := Nat.mul_le_mul (show n0 + 1 ≤ 1002 by omega) HI.out.2.2.2.2
        omega
      intro v' V hr hgr
      have bV : Below B X V := bgrown (owns_below HS.out.1.own bself) hgr (bself.mono HS.out.2) (by have := HS.out.2; simp; omega)
      have hgV := heap_grown (owns_below HS.out.1.own bself) hgr ((bself (w := X)).block g xl |>.trans HS.out.1.bx) (by decide)
      have hzl := (Array.getElem?_eq_some_iff.1 HS.out.1.zr).1
      have hzV := heap_grown (owns_below HS.out.1.own bself) hgr ((bself (w := X)).block (g + 1) hzl |>.trans HS.out.1.zr) (by decide)
      obtain ⟨A', d', rfl⟩ := ownsV hr
      have v0 : V.cell? ⟨g, 0, none⟩ = some (.slice A n0 c0) := by simp [World.cell?, hgV]
      have v1 : ∀ o, V.frozen? ⟨g, o, none⟩ = false := fun o => frozen_of_row _ _ _ _ _ hgV
      have v2 : g < V.heap.size := (Array.getElem?_eq_some_iff.1 hgV).1
      have HV := Lib.hid (⟨hr, bV, hgV, hzV⟩ : _ ∧ _ ∧ _ ∧ _)
      clear hr hgr bV hgV hzV hzl x0 x1 xl xf
      go_wp2_with fail
      go_meet
      have hlr : (roomB bl).length = n0 + 1 := by rw [HRM.out, List.length_append, ← HN.out.2.1]; rfl
      rw [hlr, HRM.out]
      refine ⟨A', d', Lib.hid ⟨?_, ?_, ?_, ?_⟩⟩
      · rw [heap_setCell_same _ _ _ _ _ _ HV.out.2.2.1]
        rfl
      · exact (Below.heap_setCell _ _ _ _ (show g + 1 ≠ g by omega)).trans HV.out.2.2.2
      · have := keep_box (i := 0) (u := .slice A' (n0 + 1) d') HV.out.2.2.1 HV.out.1
        rw [List.flatMap_append]
        exact this
      · exact (HS.out.1.below.trans HV.out.2.1).setCell (by have := HG.out; dsimp only; omega) _
    · have hrm : roomB bl = pack bl := by
        unfold roomB
        rw [if_neg (by have := HN.out.1; have := HN.out.2.2.1; omega)]
      have hmz : ((m : Int) == 0) = false := by rw [beq_eq_false_iff_ne]; omega
      have HRM := Lib.hid hrm
      clear hrm
      go_wp2_with fail
      go_meet
      rw [HRM.out, ← HN.out.2.1]
      exact ⟨A, c0, Lib.hid HS.out.1⟩
  case rest =>
  obtain ⟨A', c', H1⟩ := hcut
  obtain ⟨n, hn⟩ : ∃ n, n = (roomB bl).length := ⟨_, rfl⟩
  have hnp := room_pos bl
  have hnl := room_le bl
  have hnd : n = d + 1 := by
    rw [hn]
    unfold roomB
    have h1 := HN.out.1
    have h2 := HN.out.2.2.2
    by_cases hz : bl.length % 8 = 0
    · rw [if_pos hz, List.length_append, pack_length]
      simp
      omega
    · rw [if_neg hz, pack_length]
      omega
  rw [← hn] at H1 hnp hnl
  obtain ⟨rb, cur, ea, hrB, hrh, hcm, hnc⟩ := owns_heap H1.out.own hnp
  subst ea
  obtain ⟨c, hc⟩ : ∃ c, c = c' := ⟨_, rfl⟩
  subst hc
  have hdn : (d : Int) < (n : Int) := by omega
  have HC := Lib.hid (⟨hn, hrB, hrh, hnd⟩ : _ ∧ _ ∧ _ ∧ _)
  clear x0 x1 xl xf hn HS hnd hrB hrh
  have y0 : wc.cell? ⟨g, 0, none⟩ = some (.slice (some ⟨rb, 0, none⟩) n c) := by simp [World.cell?, H1.out.bx]
  have y1 : wc.cell? ⟨g, 1, none⟩ = some (.int .i64 N) := by simp [World.cell?, H1.out.bx]
  have lg : g < wc.heap.size := (Array.getElem?_eq_some_iff.1 H1.out.bx).1
  have fg : ∀ o, wc.frozen? ⟨g, o, none⟩ = false := fun o => frozen_of_row _ _ _ _ _ H1.out.bx
  go_upto_if 14 with fail
  go_cut [] (fun w' => ∃ A2 c2, Hid (WSt B g N w w' (.slice A2 n c2) n (pack (bl ++ [one]))))
  case first =>
    cases one with
    | false =>
      go_wp2_with fail
      go_meet
      refine ⟨some ⟨rb, 0, none⟩, c, Lib.hid ?_⟩
      have hp : pack (bl ++ [false]) = roomB bl := by
        rw [pack_step, if_neg (by decide), Nat.or_zero]
        have hlt : (roomB bl).length - 1 < (roomB bl).length := by have := HC.out.1; omega
        rw [List.getD_eq_getElem?_getD, List.getElem?_eq_getElem hlt]
        exact List.set_getElem_self hlt
      rw [hp]
      exact H1.out
    | true =>
      go_wp2_with fail
      obtain ⟨x, hx⟩ : ∃ x, (roomB bl)[d]? = some x := ⟨_, List.getElem?_eq_getElem (by have := HC.out.1; omega)⟩
      have hx256 := room_lt bl x (List.mem_of_getElem? hx)
      have hor0 := or_u8 (x := x) (k := m) hx256 hm8
      obtain ⟨y, hy⟩ : ∃ y, y = x ||| 128 / 2 ^ m := ⟨_, rfl⟩
      rw [← hy] at hor0
      have hor := hor0
      have hrow : wc.cell? ⟨rb, d, none⟩ = some (.int .u8 (x : Nat)) := by
        have hrc := H1.out.own.cells (g := _) rfl d (.int .u8 (x : Nat)) (by
          rw [flat_get (k := 1) (fun _ => rfl) (by decide), Nat.div_one, Nat.mod_one, hx]
          rfl)
        rw [add_at] at hrc
        simpa using hrc
      have lr : rb < wc.heap.size := (Array.getElem?_eq_some_iff.1 HC.out.2.2.1).1
      have fr : wc.frozen? ⟨rb, d, none⟩ = false := frozen_of_row _ _ _ _ _ HC.out.2.2.1
      have cs : ∀ V', ClB wc V' → V'.cell? ⟨g, 0, none⟩ = some (.slice (some ⟨rb, 0, none⟩) n c) := fun V' h => (h.cell (p := ⟨g, 0, none⟩) lg).trans y0
      have cn : ∀ V', ClB wc V' → V'.cell? ⟨g, 1, none⟩ = some (.int .i64 (N : Nat)) := fun V' h => (h.cell (p := ⟨g, 1, none⟩) lg).trans y1
      have cb : ∀ V', ClB wc V' → V'.cell? ⟨rb, d, none⟩ = some (.int .u8 (x : Nat)) := fun V' h => (h.cell (p := ⟨rb, d, none⟩) lr).trans hrow
      have HXY := Lib.hid (⟨hx, hy⟩ : _ ∧ _)
      have e2 : IntKind.i64.wrap (d : Int) = (d : Int) := IntWalk.i64_in _ (by omega)
      have hmt : (N : Int).tmod 8 = (m : Int) := by rw [Int.tmod_eq_emod_of_nonneg (Int.natCast_nonneg _)]; exact hmi
      have hum : IntKind.u64.wrap (m : Int) = (m : Int) := by rw [IntKind.wrap_u64]; omega
      clear hx hy hx256
      refine (wpIn_wide (n := 5)).1 (wpIn_region_rel_head (.inl rfl) 19 [([(2, none)], none), ([(15, some 0)], none), ([(2, none)], none), ([(17, some 0)], none), ([(18, some 0)], none), ([(2, none)], none), ([(20, some 0)], none), ([(2, none)], none), ([(22, some 0)], none), ([(23, some 0)], none), ([(21, some 3), (24, some 0)], none), ([(25, some 0)], none), ([(2, none)], none), ([(27, some 0)], none), ([(28, some 0)], none), ([(29, some 0)], none), ([(30, some 0)], none), ([(26, some 5), (31, some 0)], none), ([(16, some 16), (19, some 13)], none)] [(0, 33), (1, 32)] (by kernel_rfl) (by kernel_rfl) (by kernel_rfl) (by kernel_rfl) (by kernel_rfl) (by kernel_rfl) (by kernel_rfl) (by kernel_rfl) ?_)
      simp only [List.take_succ_cons, List.take_zero, List.drop_succ_cons, List.drop_zero]
      refine ob_det (c := .pointer (some ⟨g, 0, none⟩)) ?_ ?_
      · intro ρ W hk hC
        simp only [seen, obOp]
        rintro h2
        replace h2 : ρ (.tmp 2) = .pointer (some ⟨g, 0, none⟩) := h2.trans rfl
        exact rel_value (by simp [go_sem, h2]) hC
      refine ob_det (c := .slice (some ⟨rb, 0, none⟩) n c) ?_ ?_
      · intro ρ W hk hC
        simp only [seen, obOp, List.getD_cons_zero]
        rintro h15
        exact rel_value (by simp [go_sem, h15, cs W hC]) hC
      refine ob_det (c := .pointer (some ⟨g, 1, none⟩)) ?_ ?_
      · intro ρ W hk hC
        simp only [seen, obOp]
        rintro h2
        replace h2 : ρ (.tmp 2) = .pointer (some ⟨g, 0, none⟩) := h2.trans rfl
        exact rel_value (by simp [go_sem, h2]) hC
      refine ob_det (c := .int .i64 (N : Nat)) ?_ ?_
      · intro ρ W hk hC
        simp only [seen, obOp, List.getD_cons_zero]
        rintro h17
        exact rel_value (by simp [go_sem, h17, cn W hC]) hC
      refine ob_det (c := .int .i64 (d : Nat)) ?_ ?_
      · intro ρ W hk hC
        simp only [seen, obOp, List.getD_cons_zero]
        rintro h18
        exact rel_value (by simp [go_sem, h18, hk.const, hdi, e2]) hC
      refine ob_det (c := .pointer (some ⟨g, 0, none⟩)) ?_ ?_
      · intro ρ W hk hC
        simp only [seen, obOp]
        rintro h2
        replace h2 : ρ (.tmp 2) = .pointer (some ⟨g, 0, none⟩) := h2.trans rfl
        exact rel_value (by simp [go_sem, h2]) hC
      refine ob_det (c := .slice (some ⟨rb, 0, none⟩) n c) ?_ ?_
      · intro ρ W hk hC
        simp only [seen, obOp, List.getD_cons_zero]
        rintro h20
        exact rel_value (by simp [go_sem, h20, cs W hC]) hC
      refine ob_det (c := .pointer (some ⟨g, 1, none⟩)) ?_ ?_
      · intro ρ W hk hC
        simp only [seen, obOp]
        rintro h2
        replace h2 : ρ (.tmp 2) = .pointer (some ⟨g, 0, none⟩) := h2.trans rfl
        exact rel_value (by simp [go_sem, h2]) hC
      refine ob_det (c := .int .i64 (N : Nat)) ?_ ?_
      · intro ρ W hk hC
        simp only [seen, obOp, List.getD_cons_zero]
        rintro h22
        exact rel_value (by simp [go_sem, h22, cn W hC]) hC
      refine ob_det (c := .int .i64 (d : Nat)) ?_ ?_
      · intro ρ W hk hC
        simp only [seen, obOp, List.getD_cons_zero]
        rintro h23
        exact rel_value (by simp [go_sem, h23, hk.const, hdi, e2]) hC
      refine ob_det (c := .pointer (some ⟨rb, d, none⟩)) ?_ ?_
      · intro ρ W hk hC
        simp only [seen, obOp, List.getD_cons_zero, List.getD_cons_succ]
        rintro h21 h24
        exact rel_value (by simp [go_sem, h21, h24, hdn]) hC
      refine ob_det (c := .int .u8 (x : Nat)) ?_ ?_
      · intro ρ W hk hC
        simp only [seen, obOp, List.getD_cons_zero]
        rintro h25
        exact rel_value (by simp [go_sem, h25, cb W hC]) hC
      refine ob_det (c := .pointer (some ⟨g, 1, none⟩)) ?_ ?_
      · intro ρ W hk hC
        simp only [seen, obOp]
        rintro h2
        replace h2 : ρ (.tmp 2) = .pointer (some ⟨g, 0, none⟩) := h2.trans rfl
        exact rel_value (by simp [go_sem, h2]) hC
      refine ob_det (c := .int .i64 (N : Nat)) ?_ ?_
      · intro ρ W hk hC
        simp only [seen, obOp, List.getD_cons_zero]
        rintro h27
        exact rel_value (by simp [go_sem, h27, cn W hC]) hC
      refine ob_det (c := .int .i64 (m : Nat)) ?_ ?_
      · intro ρ W hk hC
        simp only [seen, obOp, List.getD_cons_zero]
        rintro h28
        exact rel_value (by simp [go_sem, h28, hk.const, hmt]) hC
      refine ob_det (c := .int .u64 (m : Nat)) ?_ ?_
      · intro ρ W hk hC
        simp only [seen, obOp, List.getD_cons_zero]
        rintro h29
        exact rel_value (by simp [go_sem, h29, hum]) hC
      refine ob_det (c := .int .u8 (128 / 2 ^ m)) ?_ ?_
      · intro ρ W hk hC
        simp only [seen, obOp, List.getD_cons_zero]
        rintro h30
        exact rel_value (by simp [go_sem, h30, hk.const]) hC
      refine ob_det (c := .int .u8 (y : Nat)) ?_ ?_
      · intro ρ W hk hC
        simp only [seen, obOp, List.getD_cons_zero, List.getD_cons_succ]
        rintro h26 h31
        exact rel_value (by simp [go_sem, h26, h31, hor]) hC
      refine ob_det (c := .pointer (some ⟨rb, d, none⟩)) ?_ ?_
      · intro ρ W hk hC
        simp only [seen, obOp, List.getD_cons_zero, List.getD_cons_succ]
        rintro h16 h19
        exact rel_value (by simp [go_sem, h16, h19, hdn]) hC
      intro vs w5 hC5
      simp only [endSeen, List.getD_cons_zero, List.getD_cons_succ]
      intro h33 h32
      simp only [writeAll, List.setIfInBounds_toArray, List.set_cons_zero, List.set_cons_succ]
      rw [show vs 33 = _ from h33, show vs 32 = _ from h32]
      have z0 : w5.cell? ⟨rb, d, none⟩ = some (.int .u8 (x : Nat)) := cb w5 hC5
      have z1 : w5.frozen? ⟨rb, d, none⟩ = false := (hC5.frozen (p := ⟨rb, d, none⟩) lr).trans fr
      have z2 : rb < w5.heap.size := Nat.lt_of_lt_of_le lr hC5.size
      have HB5 := Lib.hid hC5
      clear cs cn cb hC5 hrow fr
      gi_wp2
      go_wp2_with fail
      go_meet
      have q1 := (HB5.out.block g lg).trans H1.out.bx
      have q2 := owns_below H1.out.own HB5.out
      have q3 := (HB5.out.block rb lr).trans HC.out.2.2.1
      have q4 := (HB5.out.block (g + 1) (Array.getElem?_eq_some_iff.1 H1.out.zr).1).trans H1.out.zr
      have q5 : Below B w w5 := H1.out.below.trans (HB5.out.mono (by have := H1.out.below.size; omega))
      refine ⟨some ⟨rb, 0, none⟩, c, Lib.hid ⟨?_, ?_, ?_, q5.setCell HC.out.2.1 _⟩⟩
      · exact (Below.heap_setCell _ _ _ _ (show g ≠ rb from fun e => by subst e; rw [q1] at q3; cases q3)).trans q1
      · exact (Below.heap_setCell _ _ _ _ (show g + 1 ≠ rb from fun e => by rw [← e, q4] at q3; cases q3)).trans q4
      · have hs := owns_set (i := d) (.int .u8 (y : Nat)) q2
        have hf := flat_set (k := 1) (enc := bEnc) (fun _ => rfl) (roomB bl) d 0 x y (.int .u8 (y : Nat)) HXY.out.1 (by decide) rfl
        rw [Nat.mul_one, Nat.add_zero] at hf
        rw [pack_step, if_pos rfl, ← HC.out.1, show n - 1 = d from Nat.sub_eq_of_eq_add HC.out.2.2.2, ← HN.out.1, ← HN.out.2.2.1, List.getD_eq_getElem?_getD, HXY.out.1, Option.getD_some, ← HXY.out.2, hf]
        exact hs
  case rest =>
  obtain ⟨A2, c2, K1⟩ := hcut
  have HLN : Hid (n = (pack (bl ++ [one])).length) := Lib.hid (by rw [pack_step, List.length_set]; exact HC.out.1)
  clear y0 y1 lg fg H1 HC
  have y0 : wc.cell? ⟨g, 0, none⟩ = some (.slice A2 n c2) := by simp [World.cell?, K1.out.bx]
  have y1 : wc.cell? ⟨g, 1, none⟩ = some (.int .i64 N) := by simp [World.cell?, K1.out.bx]
  have lg : g < wc.heap.size := (Array.getElem?_eq_some_iff.1 K1.out.bx).1
  have fg : ∀ o, wc.frozen? ⟨g, o, none⟩ = false := fun o => frozen_of_row _ _ _ _ _ K1.out.bx
  have z0 : wc.cell? ⟨g + 1, 0, none⟩ = some (.slice none 0 0) := by simp [World.cell?, K1.out.zr]
  have z1 : wc.cell? ⟨g + 1, 1, none⟩ = some (.int .i64 0) := by simp [World.cell?, K1.out.zr]
  have lz : g + 1 < wc.heap.size := (Array.getElem?_eq_some_iff.1 K1.out.zr).1
  have fz : ∀ o, wc.frozen? ⟨g + 1, o, none⟩ = false := fun o => frozen_of_row _ _ _ _ _ K1.out.zr
  have e1 : IntKind.i64.wrap ((N : Int) + 1) = ((N + 1 : Nat) : Int) := by clear hmi hdi hdn hcm hnc hnl; rw [IntWalk.i64_in _ (by omega)]; omega
  go_wp2_with fail
  obtain ⟨V, hV⟩ : ∃ V, V = ((wc.setCell ⟨g, 1, none⟩ (.int .i64 ((N + 1 : Nat) : Int))).setCell ⟨g + 1, 0, none⟩ (.slice A2 n c2)).setCell ⟨g + 1, 1, none⟩ (.int .i64 ((N + 1 : Nat) : Int)) := ⟨_, rfl⟩
  have hz : V.heap[g + 1]? = some (.cells #[.slice A2 n c2, .int .i64 ((N + 1 : Nat) : Int)] 54 (0, 0)) := by
    rw [hV, heap_setCell_same _ _ _ _ _ _ (heap_setCell_same _ _ _ _ _ (.slice A2 n c2) ((Below.heap_setCell _ _ _ _ (show g + 1 ≠ g by omega)).trans K1.out.zr))]
    rfl
  have ho : V.ownsRow B 5 1 (.slice A2 n c2) n ((pack (bl ++ [one])).flatMap bEnc) := by
    have h0 := keep_box (i := 1) (u := .int .i64 ((N + 1 : Nat) : Int)) K1.out.bx K1.out.own
    have hz1 := (Below.heap_setCell wc ⟨g, 1, none⟩ (.int .i64 ((N + 1 : Nat) : Int)) (g + 1) (show g + 1 ≠ g by omega)).trans K1.out.zr
    have h1 := keep_box (i := 0) (u := .slice A2 n c2) hz1 h0
    rw [hV]
    exact keep_box (i := 1) (u := .int .i64 ((N + 1 : Nat) : Int)) (heap_setCell_same _ _ _ _ _ (.slice A2 n c2) hz1) h1
  have hbV : Below B w V := by
    have := HG.out
    rw [hV]
    exact (((K1.out.below.setCell (by dsimp only; omega) _).setCell (by dsimp only; omega) _).setCell (by dsimp only; omega) _)
  have r0 : V.cell? ⟨g + 1, 0, none⟩ = some (.slice A2 n c2) := by simp [World.cell?, hz]
  have r1 : V.cell? ⟨g + 1, 1, none⟩ = some (.int .i64 ((N + 1 : Nat) : Int)) := by simp [World.cell?, hz]
  rw [show (N : Int) + 1 = ((N + 1 : Nat) : Int) from rfl, ← hV]
  exact bodyPost_ret (v := .agg #[.slice A2 n c2, .int .i64 ((N + 1 : Nat) : Int)]) (by simp [results, Tryd.results68, go_sem, r0, r1]) rfl ⟨A2, c2, n, rfl, HLN.out, ho, hbV⟩
end Go.Proofs.YtpnnbihofoomeaaDoor

/-
  lockbarref01.Put of a number that fits; lockbarref08.put.
-/
namespace Go.Proofs.YtpnnbihofoomeaaDoor
open Go.RowKit Go.Shelf
attribute [local go_sem] and1

/-- Put's two variables: the bits at hand, their bytes in a row of one's own; what will be told. -/
structure PSt (g N : Nat) (w W : World) (v : Value) (n : Nat) (bs : List Nat) : Prop where
  bx : W.heap[g]? = some (.cells #[v, .int .i64 (N : Nat)] 54 (0, 0))
  zr : W.heap[g + 1]? = some (.cells #[.slice none 0 0, .int .i64 0] 54 (0, 0))
  own : W.ownsRow (g + 2) 5 1 v n (bs.flatMap bEnc)
  below : Below g w W
theorem PSt.sz {g N : Nat} {w W : World} {v : Value} {n : Nat} {bs : List Nat} (h : PSt g N w W v n bs) : g + 2 ≤ W.heap.size := (Array.getElem?_eq_some_iff.1 h.zr).1
theorem pst_put {g N N' : Nat} {w W : World} {v v' : Value} {n' : Nat} {bs' : List Nat} (bx : W.heap[g]? = some (.cells #[v, .int .i64 (N : Nat)] 54 (0, 0))) (zr : W.heap[g + 1]? = some (.cells #[.slice none 0 0, .int .i64 0] 54 (0, 0))) (own : W.ownsRow (g + 2) 5 1 v' n' (bs'.flatMap bEnc)) (below : Below g w W) :
    PSt g N' w ((W.setCell ⟨g, 0, none⟩ v').setCell ⟨g, 1, none⟩ (.int .i64 (N' : Nat))) v' n' bs' := by
  refine ⟨?_, ?_, keep_box (heap_setCell_same _ _ _ _ _ _ bx) (keep_box bx own), (below.setCell (Nat.le_refl _) _).setCell (Nat.le_refl _) _⟩
  · rw [heap_setCell_same _ _ _ _ _ _ (heap_setCell_same _ _ _ _ _ v' bx)]
    rfl
  · rw [Below.heap_setCell _ _ _ _ (show g + 1 ≠ g by omega), Below.heap_setCell _ _ _ _ (show g + 1 ≠ g by omega)]
    exact zr
theorem PSt.step {g N N' : Nat} {w W W' : World} {v v' : Value} {n n' : Nat} {bs bs' : List Nat} (h : PSt g N w W v n bs) (own : W'.ownsRow (g + 2) 5 1 v' n' (bs'.flatMap bEnc)) (k : Below (g + 2) W W') :
    PSt g N' w ((W'.setCell ⟨g, 0, none⟩ v').setCell ⟨g, 1, none⟩ (.int .i64 (N' : Nat))) v' n' bs' :=
  pst_put ((k.block g (by omega)).trans h.bx) ((k.block (g + 1) (by omega)).trans h.zr) own (h.below.trans (k.mono (by omega)))
/-- A bit as the number's test tells it. -/
theorem bit_eq (n k : Nat) : (((n : Int) / 2 ^ k) % 2 == 1) = n.testBit k := by
  have e : ((n : Int) / 2 ^ k) % 2 = ((n / 2 ^ k % 2 : Nat) : Int) := by push_cast; rfl
  rw [e, Nat.testBit_eq_decide_div_mod_eq]
  by_cases h : n / 2 ^ k % 2 = 1
  · simp [h]
  · have h0 : n / 2 ^ k % 2 = 0 := by omega
    simp [h0]

set_option maxRecDepth 100000 in
set_option maxHeartbeats 16000000 in
theorem rbPut_any (A : Option Addr) (k cap : Nat) (bl : List Bool) (N n wd : Nat) (w : World) (hk : k = (pack bl).length) (hN : N = bl.length) (hA : At w 1 bEnc A (pack bl)) (hn : n < 2 ^ wd) (hwd : wd ≤ 32) (hl : bl.length + wd ≤ 7999) :
    Calls Tryd.prog 63 #[.agg #[.slice A k cap, .int .i64 (N : Nat)], .int .i64 n, .int .i64 wd] w fun e w' => ∃ A' c' n', e = .returned (.tuple #[.agg #[.slice A' n' c', .int .i64 ((N + wd : Nat) : Int)], .int .i64 0]) ∧ n' = (pack (bl ++ numBits n wd)).length ∧
      w'.ownsRow w.heap.size 5 1 (.slice A' n' c') n' ((pack (bl ++ numBits n wd)).flatMap bEnc) ∧ Below w.heap.size w w' := by
  have hok : BitsOk (pack bl) N := by rw [hN]; exact bitsOk_pack bl (by omega)
  have HR := Lib.hid (fun W (h : Below w.heap.size w W) => rbRight_yes A k cap N (pack bl) W hk (hA.below h) hok)
  have HO := Lib.hid (fun W (h : Below w.heap.size w W) => rbOwn_any A k cap N (pack bl) W hk (hA.below h) (by rw [pack_length]; omega))
  have d1 : ¬ (wd : Int) < 0 := by omega
  have d2 : ¬ (wd : Int) > 32 := by omega
  have d2' : ¬ (32 : Int) < (wd : Int) := by omega
  have d3 : ¬ (n : Int) < 0 := by omega
  have hw64 : IntKind.u64.wrap (wd : Int) = (wd : Int) := by rw [IntKind.wrap_u64]; omega
  obtain ⟨P, hP⟩ : ∃ P : Int, P = (2 : Int) ^ wd := ⟨_, rfl⟩
  have hP32 : (n : Int) < P ∧ P ≤ 4294967296 := by
    have e : ((2 ^ wd : Nat) : Int) = (2 : Int) ^ wd := by push_cast; rfl
    have h2 : 2 ^ wd ≤ 4294967296 := Nat.le_trans (Nat.pow_le_pow_right (by decide) hwd) (by decide)
    have h1 : (n : Int) < (2 : Int) ^ wd := by rw [← e]; exact Int.ofNat_lt.2 hn
    have h3 : (2 : Int) ^ wd ≤ 4294967296 := by rw [← e]; exact Int.ofNat_le.2 h2
    rw [hP]
    exact ⟨h1, h3⟩
  have d4 : ¬ (n : Int) ≥ P := by omega
  have d4' : ¬ P ≤ (n : Int) := by omega
  have wp : wrap64 P = P := by clear hP d1 d2 d2' d3 d4 d4' hw64; unfold wrap64; omega
  have hPe : (2 : Int) ^ wd = P := hP.symm
  have HK := Lib.hid (⟨hk, hN, hn, hl, hP32⟩ : _ ∧ _ ∧ _ ∧ _ ∧ _)
  clear hk hN hA hn hl hok hP hP32
  obtain ⟨g, hg⟩ : ∃ g, g = w.heap.size := ⟨_, rfl⟩
  obtain ⟨X, hX⟩ : ∃ X, X = (w.alloc (.cells #[.slice A k cap, .int .i64 (N : Nat)] 54)).alloc (.cells #[.slice none 0 0, .int .i64 0] 54) := ⟨_, rfl⟩
  have x1 : X.heap[g]? = some (.cells #[.slice A k cap, .int .i64 (N : Nat)] 54 (0, 0)) := by
    rw [hX, hg]
    exact (bself.block _ (by simp)).trans (World.alloc_heap_new _ _)
  have x2 : X.heap[g + 1]? = some (.cells #[.slice none 0 0, .int .i64 0] 54 (0, 0)) := by
    rw [hX, hg]
    have := World.alloc_heap_new (w.alloc (.cells #[.slice A k cap, .int .i64 (N : Nat)] 54)) (.cells #[.slice none 0 0, .int .i64 0] 54)
    simpa using this
  have x3 : Below w.heap.size w X := by rw [hX]; exact bchain bself bself
  have x4 : X.heap.size = g + 2 := by rw [hX, hg]; simp
  have HX := Lib.hid (⟨x1, x2, x3, x4⟩ : _ ∧ _ ∧ _ ∧ _)
  clear x1 x2 x3 x4
  go_enter Tryd.func63, Tryd.ntmps63
  go_wp2_with fail
  rw [← hX]
  rw [← hg]
  have HG := Lib.hid hg
  clear hX hg
  (with_reducible refine (HR.out _ HX.out.2.2.1).mono ?_)
  rintro e w1 ⟨rfl, b1⟩
  have y1 := (b1.block _ (Array.getElem?_eq_some_iff.1 HX.out.1).1).trans HX.out.1
  have y2 := (b1.block _ (Array.getElem?_eq_some_iff.1 HX.out.2.1).1).trans HX.out.2.1
  have c0 : w1.cell? ⟨g, 0, none⟩ = some (.slice A k cap) := by simp [World.cell?, y1]
  have c1 : w1.cell? ⟨g, 1, none⟩ = some (.int .i64 (N : Nat)) := by simp [World.cell?, y1]
  have cl := (Array.getElem?_eq_some_iff.1 y1).1
  have hs1 := b1.size
  have H1 := Lib.hid (⟨y1, y2, bchain HX.out.2.2.1 b1, (by have := HX.out.2.2.2; omega : g + 2 ≤ w1.heap.size)⟩ : _ ∧ _ ∧ Below w.heap.size w w1 ∧ _)
  clear y1 y2 b1 hs1 HX HR
  go_wp2_with fail
  (with_reducible refine (HO.out _ H1.out.2.2.1).mono ?_)
  rintro e w2 ⟨A1, k1, rfl, ho, b2⟩
  have y1 := (b2.block _ (Array.getElem?_eq_some_iff.1 H1.out.1).1).trans H1.out.1
  have y2 := (b2.block _ (Array.getElem?_eq_some_iff.1 H1.out.2.1).1).trans H1.out.2.1
  have c0 : w2.cell? ⟨g, 0, none⟩ = some (.slice A k cap) := by simp [World.cell?, y1]
  have c1 : w2.cell? ⟨g, 1, none⟩ = some (.int .i64 (N : Nat)) := by simp [World.cell?, y1]
  have cl := (Array.getElem?_eq_some_iff.1 y1).1
  have cf : ∀ o, w2.frozen? ⟨g, o, none⟩ = false := fun o => frozen_of_row _ _ _ _ _ y1
  have hs2 := b2.size
  have H2 := Lib.hid (⟨y1, y2, bchain H1.out.2.2.1 b2, (by have := H1.out.2.2.2; omega : g + 2 ≤ w2.heap.size), owns_base ho H1.out.2.2.2⟩ : _ ∧ _ ∧ Below w.heap.size w w2 ∧ _ ∧ w2.ownsRow (g + 2) 5 1 (.slice A1 k k1) k ((pack bl).flatMap bEnc))
  clear y1 y2 b2 hs2 ho H1 HO d1 d2 d2' d3 d4 d4' wp hPe
  have hs1 : IntKind.i64.wrap ((wd : Int) - 1) = (wd : Int) - 1 := IntWalk.i64_in _ (by omega)
  go_wp2_with fail
  have hP0 : PSt g N w ((w2.setCell ⟨g, 0, none⟩ (.slice A1 k k1)).setCell ⟨g, 1, none⟩ (.int .i64 (N : Nat))) (.slice A1 k k1) k (pack (bl ++ (numBits n wd).take 0)) := by
    rw [List.take_zero, List.append_nil]
    exact pst_put H2.out.1 H2.out.2.1 H2.out.2.2.2.2 (by have := HG.out; rw [this]; exact H2.out.2.2.1)
  clear c0 c1 cl cf H2 hs1
  go_loopw [8] (fun i wr => ∃ (j M : Nat) (A' : Option Addr) (c' n' : Nat), j ≤ wd ∧ i = .int .i64 (((wd - j : Nat) : Int) - 1) ∧ Hid (M = N + j ∧ n' = (pack (bl ++ (numBits n wd).take j)).length) ∧ Hid (PSt g M w wr (.slice A' n' c') n' (pack (bl ++ (numBits n wd).take j)))) (fun i _ => (intOf i + 1).toNat)
  case atStart => exact ⟨0, N, A1, k1, k, Nat.zero_le _, rfl, Lib.hid ⟨rfl, by rw [List.take_zero, List.append_nil]; exact HK.out.1⟩, Lib.hid hP0⟩
  case round =>
    obtain ⟨j, M, A', c', n', hj, rfl, hn', H⟩ := hrel
    have y0 : wr.cell? ⟨g, 0, none⟩ = some (.slice A' n' c') := by simp [World.cell?, H.out.bx]
    have y1 : wr.cell? ⟨g, 1, none⟩ = some (.int .i64 (M : Nat)) := by simp [World.cell?, H.out.bx]
    have yl := (Array.getElem?_eq_some_iff.1 H.out.bx).1
    clear hP0
    by_cases hlt : j < wd
    · obtain ⟨r, hr⟩ : ∃ r, r = wd - (j + 1) := ⟨_, rfl⟩
      have hri : ((wd - j : Nat) : Int) - 1 = (r : Int) := by omega
      have hrn : ¬ (r : Int) < 0 := by omega
      have hru : IntKind.u64.wrap (r : Int) = (r : Int) := by rw [IntKind.wrap_u64]; omega
      have hbt := bit_eq n r
      have hgt : (numBits n wd)[j]? = some (n.testBit r) := by rw [numBits_get hlt, show wd - 1 - j = r by omega]
      have hlen : M = (bl ++ (numBits n wd).take j).length := by rw [List.length_append, List.length_take, numBits_length, hn'.out.1, HK.out.2.1]; omega
      obtain ⟨b, hb⟩ : ∃ b, b = n.testBit r := ⟨_, rfl⟩
      rw [← hb] at hbt hgt
      have HWI := Lib.hid (rbWith_any (g + 2) M n' (bl ++ (numBits n wd).take j) b A' c' wr H.out.own hn'.out.2 hlen (by rw [← hlen, hn'.out.1]; have := HK.out.2; omega) H.out.sz)
      have HGT := Lib.hid (⟨hgt, hr⟩ : _ ∧ _)
      rw [hri]
      clear hgt hr hlen hb
      go_wp2_with fail
      (with_reducible refine HWI.out.mono ?_)
      rintro e w3 ⟨A3, c3, n3, rfl, hn3, ho3, b3⟩
      rw [List.append_assoc, ← take_next HGT.out.1] at hn3 ho3
      have H3 := Lib.hid (H.out.step (N' := M + 1) ho3 b3)
      have z1 := (b3.block g (by omega)).trans H.out.bx
      have z0 : w3.cell? ⟨g, 0, none⟩ = some (.slice A' n' c') := by simp [World.cell?, z1]
      have z2 : w3.cell? ⟨g, 1, none⟩ = some (.int .i64 (M : Nat)) := by simp [World.cell?, z1]
      have zl := (Array.getElem?_eq_some_iff.1 z1).1
      have zf : ∀ o, w3.frozen? ⟨g, o, none⟩ = false := fun o => frozen_of_row _ _ _ _ _ z1
      have hrw : IntKind.i64.wrap ((r : Int) - 1) = (r : Int) - 1 := IntWalk.i64_in _ (by omega)
      have HN3 := Lib.hid hn3
      obtain ⟨M1, hM1⟩ : ∃ M1 : Nat, M1 = M + 1 := ⟨_, rfl⟩
      rw [← hM1] at H3 ⊢
      have HM1 := Lib.hid hM1
      clear hn3 ho3 b3 z1 hM1 HWI
      go_wp2_with fail
      go_roundw
      case measure => simp only [intOf]; omega
      case rel => exact ⟨j + 1, M1, A3, c3, n3, by omega, by rw [show ((wd - (j + 1) : Nat) : Int) = (r : Int) by rw [HGT.out.2]], Lib.hid ⟨by rw [HM1.out, hn'.out.1]; omega, HN3.out⟩, H3⟩
    · obtain rfl : j = wd := by omega
      have ht : (numBits n j).take j = numBits n j := List.take_of_length_le (by rw [numBits_length]; exact Nat.le_refl _)
      rw [ht] at H hn'
      have hri : ((j - j : Nat) : Int) - 1 = -1 := by omega
      rw [hri]
      have q0 : wr.cell? ⟨g + 1, 0, none⟩ = some (.slice none 0 0) := by simp [World.cell?, H.out.zr]
      have q1 : wr.cell? ⟨g + 1, 1, none⟩ = some (.int .i64 0) := by simp [World.cell?, H.out.zr]
      have ql := (Array.getElem?_eq_some_iff.1 H.out.zr).1
      have qf : ∀ o, wr.frozen? ⟨g + 1, o, none⟩ = false := fun o => frozen_of_row _ _ _ _ _ H.out.zr
      go_wp2_with fail
      obtain ⟨hM, hn2⟩ := hn'.out
      have hz := heap_setCell_same _ (g + 1) 0 _ _ (.slice A' n' c') H.out.zr
      have hz2 := heap_setCell_same _ (g + 1) 1 _ _ (.int .i64 (M : Nat)) hz
      have ho := keep_box (i := 1) (u := .int .i64 (M : Nat)) hz (keep_box (i := 0) (u := .slice A' n' c') H.out.zr H.out.own)
      obtain ⟨V, hV⟩ : ∃ V, V = (wr.setCell ⟨g + 1, 0, none⟩ (.slice A' n' c')).setCell ⟨g + 1, 1, none⟩ (.int .i64 (M : Nat)) := ⟨_, rfl⟩
      rw [← hV] at hz2 ho ⊢
      have hbV : Below w.heap.size w V := by
        have h := HG.out
        rw [hV, ← h]
        exact (H.out.below.setCell (by dsimp only; omega) _).setCell (by dsimp only; omega) _
      have r0 : V.cell? ⟨g + 1, 0, none⟩ = some (.slice A' n' c') := by simp [World.cell?, hz2]
      have r1 : V.cell? ⟨g + 1, 1, none⟩ = some (.int .i64 (M : Nat)) := by simp [World.cell?, hz2]
      rw [← hM]
      exact bodyPost_ret (v := .tuple #[.agg #[.slice A' n' c', .int .i64 (M : Nat)], .int .i64 0]) (by simp [results, Tryd.results63, go_sem, r0, r1]) rfl ⟨A', c', n', rfl, hn2, owns_base ho (by have := HG.out; omega), hbV⟩

/-- Two variables of bits, both told. -/
theorem two_set {g B n : Nat} {W : World} {a b c d u t s : Value} {xs : List Value} (y1 : W.heap[g]? = some (.cells #[a, b] 54 (0, 0))) (y2 : W.heap[g + 1]? = some (.cells #[c, d] 54 (0, 0))) (own : W.ownsRow B 5 1 s n xs) :
    ((((W.setCell ⟨g, 0, none⟩ u).setCell ⟨g, 1, none⟩ t).setCell ⟨g + 1, 0, none⟩ u).setCell ⟨g + 1, 1, none⟩ t).heap[g + 1]? = some (.cells #[u, t] 54 (0, 0)) ∧ ((((W.setCell ⟨g, 0, none⟩ u).setCell ⟨g, 1, none⟩ t).setCell ⟨g + 1, 0, none⟩ u).setCell ⟨g + 1, 1, none⟩ t).ownsRow B 5 1 s n xs := by
  have h1 := heap_setCell_same _ g 0 _ _ u y1
  have h2 : ((W.setCell ⟨g, 0, none⟩ u).setCell ⟨g, 1, none⟩ t).heap[g + 1]? = some (.cells #[c, d] 54 (0, 0)) := by
    rw [Below.heap_setCell _ _ _ _ (show g + 1 ≠ g by omega), Below.heap_setCell _ _ _ _ (show g + 1 ≠ g by omega)]
    exact y2
  have h3 := heap_setCell_same _ (g + 1) 0 _ _ u h2
  refine ⟨?_, keep_box h3 (keep_box h2 (keep_box h1 (keep_box y1 own)))⟩
  rw [heap_setCell_same _ _ _ _ _ _ h3]
  rfl
/-- Bits that lie there: a value, its bits. -/
def BitsV (W : World) (v : Value) (bl : List Bool) : Prop := ∃ A n c N, v = .agg #[.slice A n c, .int .i64 (N : Nat)] ∧ N = bl.length ∧ n = (pack bl).length ∧ W.ownsRow 0 5 1 (.slice A n c) n ((pack bl).flatMap bEnc)
theorem BitsV.below {W W' : World} {v : Value} {bl : List Bool} (h : BitsV W v bl) (k : Below W.heap.size W W') : BitsV W' v bl := by
  obtain ⟨A, n, c, N, e, hN, hn, hA⟩ := h
  exact ⟨A, n, c, N, e, hN, hn, owns_below hA k⟩
theorem bitsV_nil (W : World) : BitsV W (.agg #[.slice none 0 0, .int .i64 0]) [] := ⟨none, 0, 0, 0, rfl, rfl, rfl, World.ownsRow_nil _ _ _ _⟩
theorem row_at {W : World} {B n c : Nat} {A : Option Addr} {bs : List Nat} (hn : n = bs.length) (h : W.ownsRow B 5 1 (.slice A n c) n (bs.flatMap bEnc)) : At W 1 bEnc A bs := by
  subst hn
  exact (sl_get (at_of_row (k := 1) (fun _ => rfl) (by decide) h)).1

set_option maxRecDepth 100000 in
set_option maxHeartbeats 4000000 in
theorem put8_any (v : Value) (bl : List Bool) (n wd : Nat) (w : World) (hv : BitsV w v bl) (hn : n < 2 ^ wd) (hwd : wd ≤ 32) (hl : bl.length + wd ≤ 7999) :
    Calls Tryd.prog 27 #[v, .int .i64 n, .int .i64 wd] w fun e w' => ∃ v', e = .returned v' ∧ BitsV w' v' (bl ++ numBits n wd) ∧ Below w.heap.size w w' := by
  obtain ⟨A, k, c, N, rfl, hN, hk, hA⟩ := hv
  replace hA := row_at hk hA
  have HP := Lib.hid (fun W (h : Below w.heap.size w W) => rbPut_any A k c bl N n wd W hk hN (hA.below h) hn hwd hl)
  have HN := Lib.hid hN
  clear hk hA hn hwd hl hN
  obtain ⟨g, hg⟩ : ∃ g, g = w.heap.size := ⟨_, rfl⟩
  obtain ⟨X, hX⟩ : ∃ X, X = (w.alloc (.cells #[.slice A k c, .int .i64 (N : Nat)] 54)).alloc (.cells #[.slice none 0 0, .int .i64 0] 54) := ⟨_, rfl⟩
  have x1 : X.heap[g]? = some (.cells #[.slice A k c, .int .i64 (N : Nat)] 54 (0, 0)) := by
    rw [hX, hg]
    exact (bself.block _ (by simp)).trans (World.alloc_heap_new _ _)
  have x2 : X.heap[g + 1]? = some (.cells #[.slice none 0 0, .int .i64 0] 54 (0, 0)) := by
    rw [hX, hg]
    have := World.alloc_heap_new (w.alloc (.cells #[.slice A k c, .int .i64 (N : Nat)] 54)) (.cells #[.slice none 0 0, .int .i64 0] 54)
    simpa using this
  have x3 : Below w.heap.size w X := by rw [hX]; exact bchain bself bself
  have x4 : X.heap.size = g + 2 := by rw [hX, hg]; simp
  have HX := Lib.hid (⟨x1, x2, x3, x4⟩ : _ ∧ _ ∧ _ ∧ _)
  clear x1 x2 x3 x4
  go_enter Tryd.func27, Tryd.ntmps27
  go_wp2_with fail
  rw [← hX]
  rw [← hg]
  have HG := Lib.hid hg
  clear hX hg
  (with_reducible refine (HP.out _ HX.out.2.2.1).mono ?_)
  rintro e w1 ⟨A', c', n', rfl, hn', ho, b1⟩
  obtain ⟨M, hM⟩ : ∃ M, M = N + wd := ⟨_, rfl⟩
  rw [← hM]
  have y1 := (b1.block _ (Array.getElem?_eq_some_iff.1 HX.out.1).1).trans HX.out.1
  have y2 := (b1.block _ (Array.getElem?_eq_some_iff.1 HX.out.2.1).1).trans HX.out.2.1
  have c0 : w1.cell? ⟨g, 0, none⟩ = some (.slice A k c) := by simp [World.cell?, y1]
  have c1 : w1.cell? ⟨g, 1, none⟩ = some (.int .i64 (N : Nat)) := by simp [World.cell?, y1]
  have cl := (Array.getElem?_eq_some_iff.1 y1).1
  have cf : ∀ o, w1.frozen? ⟨g, o, none⟩ = false := fun o => frozen_of_row _ _ _ _ _ y1
  have d0 : w1.cell? ⟨g + 1, 0, none⟩ = some (.slice none 0 0) := by simp [World.cell?, y2]
  have d1 : w1.cell? ⟨g + 1, 1, none⟩ = some (.int .i64 0) := by simp [World.cell?, y2]
  have dl := (Array.getElem?_eq_some_iff.1 y2).1
  have df : ∀ o, w1.frozen? ⟨g + 1, o, none⟩ = false := fun o => frozen_of_row _ _ _ _ _ y2
  have H1 := Lib.hid (⟨y2, bchain HX.out.2.2.1 b1, ho, hn', hM, y1⟩ : _ ∧ Below w.heap.size w w1 ∧ _ ∧ _ ∧ _ ∧ _)
  have hX4 := HX.out.2.2.2
  clear y1 y2 b1 ho hn' hM HX HP
  go_wp2_with fail
  obtain ⟨hz, ho⟩ := two_set (u := .slice A' n' c') (t := .int .i64 (M : Nat)) H1.out.2.2.2.2.2 H1.out.1 H1.out.2.2.1
  obtain ⟨V, hV⟩ : ∃ V, V = (((w1.setCell ⟨g, 0, none⟩ (.slice A' n' c')).setCell ⟨g, 1, none⟩ (.int .i64 (M : Nat))).setCell ⟨g + 1, 0, none⟩ (.slice A' n' c')).setCell ⟨g + 1, 1, none⟩ (.int .i64 (M : Nat)) := ⟨_, rfl⟩
  rw [← hV] at hz ho ⊢
  have hbV : Below w.heap.size w V := by
    have h := HG.out
    rw [hV]
    exact (((H1.out.2.1.setCell (by dsimp only; omega) _).setCell (by dsimp only; omega) _).setCell (by dsimp only; omega) _).setCell (by dsimp only; omega) _
  have r0 : V.cell? ⟨g + 1, 0, none⟩ = some (.slice A' n' c') := by simp [World.cell?, hz]
  have r1 : V.cell? ⟨g + 1, 1, none⟩ = some (.int .i64 (M : Nat)) := by simp [World.cell?, hz]
  have hlen : M = (bl ++ numBits n wd).length := by rw [List.length_append, numBits_length, H1.out.2.2.2.2.1, HN.out]
  exact bodyPost_ret (v := .agg #[.slice A' n' c', .int .i64 (M : Nat)]) (by simp [results, Tryd.results27, go_sem, r0, r1]) rfl ⟨_, rfl, ⟨A', n', c', M, rfl, hlen, H1.out.2.2.2.1, owns_base ho (Nat.zero_le _)⟩, hbV⟩
/-- A number that fits, put behind others. -/
theorem put8_next {v : Value} {bl : List Bool} {fs : List Fld} {w : World} (x wd : Int) (hv : BitsV w v (bl ++ bitsF fs)) (hf : fitF (x, wd)) (hl : bl.length + widF fs ≤ 7900) :
    Calls Tryd.prog 27 #[v, .int .i64 x, .int .i64 wd] w fun e w' => ∃ v', e = .returned v' ∧ BitsV w' v' (bl ++ bitsF (fs ++ [(x, wd)])) ∧ Below w.heap.size w w' := by
  obtain ⟨h0, h1, h2, h3⟩ := hf
  dsimp only at h0 h1 h2 h3
  obtain ⟨n, rfl⟩ := Int.eq_ofNat_of_zero_le h0
  obtain ⟨k, rfl⟩ := Int.eq_ofNat_of_zero_le h2
  have hn : n < 2 ^ k := by
    have h : (n : Int) < (2 : Int) ^ k := h1
    exact_mod_cast h
  have := put8_any v (bl ++ bitsF fs) n k w hv hn (by omega) (by rw [List.length_append, bitsF_length]; omega)
  rw [List.append_assoc] at this
  rw [bitsF_append]
  have e : bitsF [((n : Int), (k : Int))] = numBits n k := by simp [bitsF]
  rw [e]
  exact this
end Go.Proofs.YtpnnbihofoomeaaDoor

/-
  lockbarref08.section, times.
-/
namespace Go.Proofs.YtpnnbihofoomeaaDoor
open Go.RowKit Go.Shelf
attribute [local go_sem] Oper.semAt_some

/-- The three variables of section: the bits at hand, the section, what will be told. -/
structure S8 (g : Nat) (c : Sec) (w W : World) (A : Option Addr) (n cp N : Nat) (bl : List Bool) : Prop where
  bx : W.heap[g]? = some (.cells #[.slice A n cp, .int .i64 (N : Nat)] 54 (0, 0))
  sx : W.heap[g + 1]? = some (.cells c.enc.toArray 69 (0, 0))
  zr : W.heap[g + 2]? = some (.cells #[.slice none 0 0, .int .i64 0] 54 (0, 0))
  bv : BitsV W (.agg #[.slice A n cp, .int .i64 (N : Nat)]) bl
  below : Below g w W
theorem S8.sz {g : Nat} {c : Sec} {w W : World} {A : Option Addr} {n cp N : Nat} {bl : List Bool} (h : S8 g c w W A n cp N bl) : g + 3 ≤ W.heap.size := (Array.getElem?_eq_some_iff.1 h.zr).1
theorem S8.next {g : Nat} {c : Sec} {w W W' : World} {A : Option Addr} {n cp N : Nat} {bl : List Bool} (h : S8 g c w W A n cp N bl) (k : Below W.heap.size W W') : S8 g c w W' A n cp N bl :=
  ⟨(k.block _ (Array.getElem?_eq_some_iff.1 h.bx).1).trans h.bx, (k.block _ (Array.getElem?_eq_some_iff.1 h.sx).1).trans h.sx, (k.block _ (Array.getElem?_eq_some_iff.1 h.zr).1).trans h.zr, h.bv.below k, h.below.trans (k.mono (by have := h.sz; omega))⟩
/-- Bits lie as they lay when a variable of bits is written. -/
theorem bitsV_set {g i : Nat} {W : World} {cs : Array Value} {v u : Value} {bl : List Bool} (h : BitsV W v bl) (hg : W.heap[g]? = some (.cells cs 54 (0, 0))) : BitsV (W.setCell ⟨g, i, none⟩ u) v bl := by
  obtain ⟨A, n, c, N, e, hN, hn, ho⟩ := h
  exact ⟨A, n, c, N, e, hN, hn, keep_box hg ho⟩
theorem S8.put {g : Nat} {c : Sec} {w W : World} {A A' : Option Addr} {n cp N n' cp' N' : Nat} {bl bl' : List Bool} (h : S8 g c w W A n cp N bl) (b : BitsV W (.agg #[.slice A' n' cp', .int .i64 (N' : Nat)]) bl') :
    S8 g c w ((W.setCell ⟨g, 0, none⟩ (.slice A' n' cp')).setCell ⟨g, 1, none⟩ (.int .i64 (N' : Nat))) A' n' cp' N' bl' := by
  have h1 := heap_setCell_same _ g 0 _ _ (.slice A' n' cp') h.bx
  refine ⟨?_, ?_, ?_, bitsV_set (bitsV_set b h.bx) h1, (h.below.setCell (Nat.le_refl _) _).setCell (Nat.le_refl _) _⟩
  · rw [heap_setCell_same _ _ _ _ _ _ h1]
    rfl
  · rw [Below.heap_setCell _ _ _ _ (show g + 1 ≠ g by omega), Below.heap_setCell _ _ _ _ (show g + 1 ≠ g by omega)]
    exact h.sx
  · rw [Below.heap_setCell _ _ _ _ (show g + 2 ≠ g by omega), Below.heap_setCell _ _ _ _ (show g + 2 ≠ g by omega)]
    exact h.zr

set_option maxRecDepth 100000 in
set_option maxHeartbeats 32000000 in
theorem section8_any (v : Value) (bl0 : List Bool) (c : Sec) (w : World) (hv : BitsV w v bl0) (hr : rightT c = true) (hl : bl0.length ≤ 2000) :
    Calls Tryd.prog 28 #[v, .agg c.enc.toArray] w fun e w' => ∃ v', e = .returned v' ∧ BitsV w' v' (bl0 ++ bitsF (secF c)) ∧ Below w.heap.size w w' := by
  obtain ⟨A, n, cp, N, rfl, hN, hn, ho⟩ := hv
  have hk := right_kind hr
  have hfit := secF_fit hr
  have hw8 : wrap64 c.k = c.k := by unfold wrap64; omega
  have hp0 := kPorts_le c.k
  have hp1 : 0 ≤ kPorts c.k := by rcases kCases c.k with ⟨_, h, _⟩ | ⟨_, h, _⟩ | ⟨_, h, _⟩ | ⟨_, h, _⟩ <;> omega
  have hm0 := kMany_le c.k
  have hm1 : 0 ≤ kMany c.k := by rcases kCases c.k with ⟨_, _, h, _⟩ | ⟨_, _, h, _⟩ | ⟨_, _, h, _⟩ | ⟨_, _, _, _, h, _⟩ <;> omega
  obtain ⟨g, hg⟩ : ∃ g, g = w.heap.size := ⟨_, rfl⟩
  obtain ⟨X, hX⟩ : ∃ X, X = ((w.alloc (.cells #[.slice A n cp, .int .i64 (N : Nat)] 54)).alloc (.cells c.enc.toArray 69)).alloc (.cells #[.slice none 0 0, .int .i64 0] 54) := ⟨_, rfl⟩
  have hx3 : Below w.heap.size w X := by rw [hX]; exact bchain (bchain bself bself) bself
  have st : S8 g c w X A n cp N bl0 := by
    refine ⟨?_, ?_, ?_, ⟨A, n, cp, N, rfl, hN, hn, owns_below ho hx3⟩, by rw [hg]; exact hx3⟩
    · rw [hX, hg]
      exact (bself.block _ (by simp; omega)).trans ((bself.block _ (by simp)).trans (World.alloc_heap_new _ _))
    · rw [hX, hg]
      have := World.alloc_heap_new (w.alloc (.cells #[.slice A n cp, .int .i64 (N : Nat)] 54)) (.cells c.enc.toArray 69)
      rw [World.size_alloc] at this
      exact (bself.block _ (by simp)).trans this
    · rw [hX, hg]
      have := World.alloc_heap_new ((w.alloc (.cells #[.slice A n cp, .int .i64 (N : Nat)] 54)).alloc (.cells c.enc.toArray 69)) (.cells #[.slice none 0 0, .int .i64 0] 54)
      rw [World.size_alloc, World.size_alloc] at this
      exact this
  have HS := Lib.hid st
  have HR := Lib.hid (⟨hr, hl, hN, hk, hfit⟩ : _ ∧ _ ∧ _ ∧ _ ∧ _)
  clear st hx3 hN hn ho hr hl hfit
  unfold Sec.enc at hX ⊢
  go_enter Tryd.func28, Tryd.ntmps28
  go_wp2_with fail
  rw [← hX]
  rw [← hg]
  have HG := Lib.hid hg
  clear hX hg hk
  have hput := put8_next (fs := []) c.k 2 (show BitsV X (.agg #[.slice A n cp, .int .i64 (N : Nat)]) (bl0 ++ bitsF []) by simpa [bitsF] using HS.out.bv) (fit2 (by have := HR.out.2.2.2.1; omega)) (by have := HR.out.2.1; simp [widF]; omega)
  have HP := Lib.hid hput
  clear hput
  have x0 : X.cell? ⟨g, 0, none⟩ = some (.slice A n cp) := by simp [World.cell?, HS.out.bx]
  have x1 : X.cell? ⟨g, 1, none⟩ = some (.int .i64 (N : Nat)) := by simp [World.cell?, HS.out.bx]
  (with_reducible refine HP.out.mono ?_)
  rintro e w1 ⟨v', rfl, ⟨A1, n1, c1, N1, rfl, hN1, hn1, ho1⟩, b1⟩
  have s1 := HS.out.next b1
  have y0 : w1.cell? ⟨g, 0, none⟩ = some (.slice A n cp) := by simp [World.cell?, s1.bx]
  have y1 : w1.cell? ⟨g, 1, none⟩ = some (.int .i64 (N : Nat)) := by simp [World.cell?, s1.bx]
  have yl := (Array.getElem?_eq_some_iff.1 s1.bx).1
  have yf : ∀ o, w1.frozen? ⟨g, o, none⟩ = false := fun o => frozen_of_row _ _ _ _ _ s1.bx
  have H1 := Lib.hid (s1.put ⟨A1, n1, c1, N1, rfl, hN1, hn1, ho1⟩)
  clear x0 x1 HP HS s1 hN1 hn1 ho1 b1
  go_wp2_with fail
  clear y0 y1 yl yf
  go_loopw [5] (fun i wr => ∃ (p n cp N : Nat) (A : Option Addr), p ≤ (kPorts c.k).toNat ∧ i = .int .i64 p ∧ Hid (S8 g c w wr A n cp N (bl0 ++ bitsF ([(c.k, 2)] ++ jsF c p)))) (fun i _ => 4 - (intOf i).toNat)
  case atStart => exact ⟨0, n1, c1, N1, A1, Nat.zero_le _, rfl, H1⟩
  case round =>
    obtain ⟨p, n, cp, N, A, hp, rfl, H⟩ := hrel
    clear H1
    have u2 := (boxS_heap H.out.sx).cells.1
    have ul := (boxS_heap H.out.sx).1
    go_wp2_with fail
    (with_reducible refine (rPorts_any c.k _).mono ?_)
    rintro e w2 ⟨rfl, b2⟩
    have H2 := Lib.hid (H.out.next b2)
    clear b2 H u2 ul
    by_cases hlt : p < (kPorts c.k).toNat
    · have hpi : (p : Int) < kPorts c.k := by omega
      have hp4 : (p : Int) < 4 := by omega
      have hp4n : p < 4 := by omega
      obtain ⟨S, hS⟩ : ∃ S, S = c.S p := ⟨_, rfl⟩
      obtain ⟨Q, hQ⟩ : ∃ Q, Q = c.P p := ⟨_, rfl⟩
      have hjf : jF c p = if S < 0 then [(0, 1)] else [(1, 1), (S, 5), (Q, 2)] := by rw [hS, hQ]; rfl
      obtain ⟨u0, u1⟩ := (boxS_heap H2.out.sx).ports p hp4n
      have ul := (boxS_heap H2.out.sx).1
      rw [← hS] at u0
      rw [← hQ] at u1
      have hft := (jF_fit (right_port HR.out.1 hlt)).1
      rw [hjf] at hft
      have hjs : jsF c (p + 1) = jsF c p ++ jF c p := rfl
      have hwl : widF ([(c.k, 2)] ++ jsF c p) ≤ 38 := Nat.le_trans (by
        have h := congrArg widF (show secF c = (([(c.k, 2)] ++ jsF c (kPorts c.k).toNat) ++ csF c (kMany c.k).toNat) from rfl)
        rw [widF_append] at h
        obtain ⟨t, ht⟩ := jsF_pre c (Nat.le_of_lt hlt)
        rw [← ht, ← List.append_assoc, widF_append] at h
        omega) HR.out.2.2.2.2.2
      have HJ := Lib.hid (⟨hjf, hjs, hft, hwl⟩ : _ ∧ _ ∧ _ ∧ _)
      clear hS hQ hjf hjs hft hwl
      have c0 : w2.cell? ⟨g, 0, none⟩ = some (.slice A n cp) := by simp [World.cell?, H2.out.bx]
      have c1' : w2.cell? ⟨g, 1, none⟩ = some (.int .i64 (N : Nat)) := by simp [World.cell?, H2.out.bx]
      have cl := (Array.getElem?_eq_some_iff.1 H2.out.bx).1
      by_cases hneg : S < 0
      · have hn := Lib.hid (show jF c p = [(0, 1)] by rw [HJ.out.1, if_pos hneg])
        have hput := put8_next (fs := []) 0 1 (show BitsV w2 (.agg #[.slice A n cp, .int .i64 (N : Nat)]) ((bl0 ++ bitsF ([(c.k, 2)] ++ jsF c p)) ++ bitsF []) by simpa [bitsF] using H2.out.bv) (fit1 (by omega)) (by rw [List.length_append, bitsF_length]; have := HR.out.2.1; have := HJ.out.2.2.2; simp only [widF, List.map_nil, List.sum_nil] at *; omega)
        have HP := Lib.hid hput
        clear hput u1
        go_wp2_with fail
        (with_reducible refine HP.out.mono ?_)
        rintro e w3 ⟨v', rfl, ⟨A3, n3, c3, N3, rfl, hN3, hn3, ho3⟩, b3⟩
        have s3 := H2.out.next b3
        have y0 : w3.cell? ⟨g, 0, none⟩ = some (.slice A n cp) := by simp [World.cell?, s3.bx]
        have y1 : w3.cell? ⟨g, 1, none⟩ = some (.int .i64 (N : Nat)) := by simp [World.cell?, s3.bx]
        have yl := (Array.getElem?_eq_some_iff.1 s3.bx).1
        have yf : ∀ o, w3.frozen? ⟨g, o, none⟩ = false := fun o => frozen_of_row _ _ _ _ _ s3.bx
        have H3 := Lib.hid (s3.put ⟨A3, n3, c3, N3, rfl, hN3, hn3, ho3⟩)
        clear s3 hN3 hn3 ho3 b3 HP c0 c1' cl u0 ul
        go_wp2_with fail
        go_roundw
        case measure => simp only [intOf]; omega
        case rel => exact ⟨p + 1, n3, c3, N3, A3, by omega, by push_cast; rfl, by rw [HJ.out.2.1, hn.out, ← List.append_assoc, bitsF_append, ← List.append_assoc]; exact H3⟩
      · have hpo := Lib.hid (show jF c p = [(1, 1), (S, 5), (Q, 2)] by rw [HJ.out.1, if_neg hneg])
        have HF := Lib.hid (show fitF (S, 5) ∧ fitF (Q, 2) by
          have h := HJ.out.2.2.1
          rw [if_neg hneg] at h
          exact ⟨h _ (by simp), h _ (by simp)⟩)
        obtain ⟨bl, hbl⟩ : ∃ bl, bl = bl0 ++ bitsF ([(c.k, 2)] ++ jsF c p) := ⟨_, rfl⟩
        rw [← hbl] at H2
        have HL := Lib.hid (show bl.length ≤ 2100 by rw [hbl, List.length_append, bitsF_length]; have := HR.out.2.1; have := HJ.out.2.2.2; omega)
        have HBL := Lib.hid hbl
        have HV := Lib.hid (show BitsV w2 (.agg #[.slice A n cp, .int .i64 (N : Nat)]) (bl ++ bitsF []) by simpa [bitsF] using H2.out.bv)
        have c0b : ∀ V, ClB w2 V → V.cell? ⟨g, 0, none⟩ = some (.slice A n cp) := fun V h => (h.cell (p := ⟨g, 0, none⟩) cl).trans c0
        have c1b : ∀ V, ClB w2 V → V.cell? ⟨g, 1, none⟩ = some (.int .i64 (N : Nat)) := fun V h => (h.cell (p := ⟨g, 1, none⟩) cl).trans c1'
        have u0b : ∀ V, ClB w2 V → V.cell? ⟨g + 1, 1 + p * 2, none⟩ = some (.int .i64 S) := fun V h => (h.cell (p := ⟨g + 1, 1 + p * 2, none⟩) ul).trans u0
        have u1b : ∀ V, ClB w2 V → V.cell? ⟨g + 1, 1 + p * 2 + 1, none⟩ = some (.int .i64 Q) := fun V h => (h.cell (p := ⟨g + 1, 1 + p * 2 + 1, none⟩) ul).trans u1
        clear hbl u1
        go_upto_region 7 with fail
        clear c0 c1' u0 ul cl
        refine (wpIn_wide (n := 5)).1 (wpIn_region_rel_head (.inl rfl) 14 [([(2, none)], none), ([(27, some 0)], none), ([(5, none)], none), ([(3, none)], none), ([(30, some 0), (29, some 1)], none), ([(31, some 0)], none), ([(32, some 0)], none), ([(28, some 5), (33, some 0)], none), ([(5, none)], none), ([(3, none)], none), ([(36, some 0), (35, some 1)], none), ([(37, some 0)], none), ([(38, some 0)], none), ([(34, some 5), (39, some 0)], none)] [(0, 40)] (by kernel_rfl) (by kernel_rfl) (by kernel_rfl) (by kernel_rfl) (by kernel_rfl) (by kernel_rfl) (by kernel_rfl) (by kernel_rfl) ?_)
        simp only [List.take_succ_cons, List.take_zero, List.drop_succ_cons, List.drop_zero]
        refine ob_det (c := .agg #[.slice A n cp, .int .i64 (N : Nat)]) ?_ ?_
        · intro ρ W hk hC
          simp only [seen, obOp]
          rintro h2
          replace h2 : ρ (.tmp 2) = .pointer (some ⟨g, 0, none⟩) := h2.trans rfl
          exact rel_value (by simp [go_sem, h2, c0b W hC, c1b W hC]) hC
        refine ⟨fun v w' => BitsV w' v (bl ++ bitsF [(1, 1)]), fun _ _ _ h k => h.below k, ?_, ?_⟩
        · intro ρ W hk hC
          simp only [seen, obOp, List.getD_cons_zero]
          rintro h27
          refine rel_enter (f := 27) (args := #[.agg #[.slice A n cp, .int .i64 (N : Nat)], .int .i64 1, .int .i64 1]) (by simp [go_sem, h27, hk.const, hk.func]) ((put8_next (fs := []) (1) 1 (HV.out.below hC) (fit1 (by omega)) (by have := HL.out; simp [widF]; omega)).mono ?_)
          rintro e w9 ⟨v, rfl, hb, b9⟩
          exact ⟨_, rfl, hC.step b9, b9, hb⟩
        refine ob_det (c := .int .i64 (p : Nat)) ?_ ?_
        · intro ρ W hk hC
          simp only [seen, obOp]
          rintro h5
          replace h5 : ρ (.tmp 5) = .int .i64 (p : Nat) := h5.trans rfl
          exact rel_value (by simp [go_sem, h5]) hC
        refine ob_det (c := .pointer (some ⟨g + 1, 1, none⟩)) ?_ ?_
        · intro ρ W hk hC
          simp only [seen, obOp]
          rintro h3
          replace h3 : ρ (.tmp 3) = .pointer (some ⟨g + 1, 0, none⟩) := h3.trans rfl
          exact rel_value (by simp [go_sem, h3]) hC
        refine ob_det (c := .pointer (some ⟨g + 1, 1 + p * 2, none⟩)) ?_ ?_
        · intro ρ W hk hC
          simp only [seen, obOp, List.getD_cons_zero, List.getD_cons_succ]
          rintro h30 h29
          exact rel_value (by simp [go_sem, h30, h29, hp4]) hC
        refine ob_det (c := .pointer (some ⟨g + 1, 1 + p * 2, none⟩)) ?_ ?_
        · intro ρ W hk hC
          simp only [seen, obOp, List.getD_cons_zero]
          rintro h31
          exact rel_value (by simp [go_sem, h31]) hC
        refine ob_det (c := .int .i64 S) ?_ ?_
        · intro ρ W hk hC
          simp only [seen, obOp, List.getD_cons_zero]
          rintro h32
          exact rel_value (by simp [go_sem, h32, u0b W hC]) hC
        refine ⟨fun v w' => BitsV w' v (bl ++ bitsF [(1, 1), (S, 5)]), fun _ _ _ h k => h.below k, ?_, ?_⟩
        · intro ρ W hk hC
          simp only [seen, obOp, List.getD_cons_zero, List.getD_cons_succ]
          rintro ⟨A28, n28, c28, N28, h28, e28, m28, o28⟩ h33
          refine rel_enter (f := 27) (args := #[.agg #[.slice A28 n28 c28, .int .i64 (N28 : Nat)], .int .i64 (S), .int .i64 5]) (by simp [go_sem, h28, h33, hk.const, hk.func]) ((put8_next (fs := [(1, 1)]) (S) 5 (show BitsV W _ (bl ++ bitsF [(1, 1)]) from ⟨A28, n28, c28, N28, rfl, e28, m28, o28⟩) HF.out.1 (by have := HL.out; simp [widF]; omega)).mono ?_)
          rintro e w9 ⟨v, rfl, hb, b9⟩
          exact ⟨_, rfl, hC.step b9, b9, hb⟩
        refine ob_det (c := .int .i64 (p : Nat)) ?_ ?_
        · intro ρ W hk hC
          simp only [seen, obOp]
          rintro h5
          replace h5 : ρ (.tmp 5) = .int .i64 (p : Nat) := h5.trans rfl
          exact rel_value (by simp [go_sem, h5]) hC
        refine ob_det (c := .pointer (some ⟨g + 1, 1, none⟩)) ?_ ?_
        · intro ρ W hk hC
          simp only [seen, obOp]
          rintro h3
          replace h3 : ρ (.tmp 3) = .pointer (some ⟨g + 1, 0, none⟩) := h3.trans rfl
          exact rel_value (by simp [go_sem, h3]) hC
        refine ob_det (c := .pointer (some ⟨g + 1, 1 + p * 2, none⟩)) ?_ ?_
        · intro ρ W hk hC
          simp only [seen, obOp, List.getD_cons_zero, List.getD_cons_succ]
          rintro h36 h35
          exact rel_value (by simp [go_sem, h36, h35, hp4]) hC
        refine ob_det (c := .pointer (some ⟨g + 1, 1 + p * 2 + 1, none⟩)) ?_ ?_
        · intro ρ W hk hC
          simp only [seen, obOp, List.getD_cons_zero]
          rintro h37
          exact rel_value (by simp [go_sem, h37]) hC
        refine ob_det (c := .int .i64 Q) ?_ ?_
        · intro ρ W hk hC
          simp only [seen, obOp, List.getD_cons_zero]
          rintro h38
          exact rel_value (by simp [go_sem, h38, u1b W hC]) hC
        refine ⟨fun v w' => BitsV w' v (bl ++ bitsF [(1, 1), (S, 5), (Q, 2)]), fun _ _ _ h k => h.below k, ?_, ?_⟩
        · intro ρ W hk hC
          simp only [seen, obOp, List.getD_cons_zero, List.getD_cons_succ]
          rintro ⟨A34, n34, c34, N34, h34, e34, m34, o34⟩ h39
          refine rel_enter (f := 27) (args := #[.agg #[.slice A34 n34 c34, .int .i64 (N34 : Nat)], .int .i64 (Q), .int .i64 2]) (by simp [go_sem, h34, h39, hk.const, hk.func]) ((put8_next (fs := [(1, 1), (S, 5)]) (Q) 2 (show BitsV W _ (bl ++ bitsF [(1, 1), (S, 5)]) from ⟨A34, n34, c34, N34, rfl, e34, m34, o34⟩) HF.out.2 (by have := HL.out; simp [widF]; omega)).mono ?_)
          rintro e w9 ⟨v, rfl, hb, b9⟩
          exact ⟨_, rfl, hC.step b9, b9, hb⟩
        intro vs w5 hC5
        simp only [endSeen, List.getD_cons_zero]
        intro hT
        simp only [writeAll, List.setIfInBounds_toArray, List.set_cons_zero, List.set_cons_succ]
        obtain ⟨A4, n4, c4, N4, h40, e4, m4, o4⟩ := hT
        rw [show vs 40 = _ from h40]
        have s5 := H2.out.next hC5
        have y0 : w5.cell? ⟨g, 0, none⟩ = some (.slice A n cp) := by simp [World.cell?, s5.bx]
        have y1 : w5.cell? ⟨g, 1, none⟩ = some (.int .i64 (N : Nat)) := by simp [World.cell?, s5.bx]
        have yl := (Array.getElem?_eq_some_iff.1 s5.bx).1
        have yf : ∀ o, w5.frozen? ⟨g, o, none⟩ = false := fun o => frozen_of_row _ _ _ _ _ s5.bx
        have H5 := Lib.hid (s5.put ⟨A4, n4, c4, N4, rfl, e4, m4, o4⟩)
        clear s5 e4 m4 o4 h40 hC5 c0b c1b u0b u1b HV H2
        gi_wp2
        go_wp2_with fail
        go_roundw
        case measure => simp only [intOf]; omega
        case rel => exact ⟨p + 1, n4, c4, N4, A4, by omega, by push_cast; rfl, by rw [HJ.out.2.1, hpo.out, ← List.append_assoc, bitsF_append, ← List.append_assoc, ← HBL.out]; exact H5⟩
    · obtain rfl : p = (kPorts c.k).toNat := by omega
      have hpi : ¬ (((kPorts c.k).toNat : Nat) : Int) < kPorts c.k := by omega
      have hpe : (((kPorts c.k).toNat : Nat) : Int) = kPorts c.k := by omega
      rw [hpe] at hpi ⊢
      go_wp2_with fail
      go_loopw [6] (fun i wr => ∃ (p n cp N : Nat) (A : Option Addr), p ≤ (kMany c.k).toNat ∧ i = .int .i64 p ∧ Hid (S8 g c w wr A n cp N (bl0 ++ bitsF (([(c.k, 2)] ++ jsF c (kPorts c.k).toNat) ++ csF c p)))) (fun i _ => 4 - (intOf i).toNat)
      case atStart => exact ⟨0, n, cp, N, A, Nat.zero_le _, rfl, by simpa [csF] using H2⟩
      case round =>
        obtain ⟨q, n, cp, N, A, hq, rfl, H⟩ := hrel
        clear H2 hlt hpi hpe
        have u2 := (boxS_heap H.out.sx).cells.1
        have ul := (boxS_heap H.out.sx).1
        go_wp2_with fail
        (with_reducible refine (rWays_any c.k _).mono ?_)
        rintro e w2 ⟨rfl, b2⟩
        have H2 := Lib.hid (H.out.next b2)
        clear b2 H u2 ul
        by_cases hlt : q < (kMany c.k).toNat
        · have hpi : (q : Int) < kMany c.k := by omega
          have hp2 : (q : Int) < 2 := by omega
          obtain ⟨C, hC⟩ : ∃ C, C = c.C q := ⟨_, rfl⟩
          have hcf : csF c (q + 1) = csF c q ++ [(C, 2)] := by rw [hC]; rfl
          have u0 := (boxS_heap H2.out.sx).classes q (by omega)
          have ul := (boxS_heap H2.out.sx).1
          rw [← hC] at u0
          have HF := Lib.hid (show fitF (C, 2) by rw [hC]; exact fit2 (by have := right_class HR.out.1 hlt; omega))
          have hwl : widF (([(c.k, 2)] ++ jsF c (kPorts c.k).toNat) ++ csF c q) ≤ 38 := Nat.le_trans (by
            have h := congrArg widF (show secF c = (([(c.k, 2)] ++ jsF c (kPorts c.k).toNat) ++ csF c (kMany c.k).toNat) from rfl)
            obtain ⟨t, ht⟩ := csF_pre c (Nat.le_of_lt hlt)
            rw [← ht, ← List.append_assoc, widF_append] at h
            omega) HR.out.2.2.2.2.2
          have c0 : w2.cell? ⟨g, 0, none⟩ = some (.slice A n cp) := by simp [World.cell?, H2.out.bx]
          have c1' : w2.cell? ⟨g, 1, none⟩ = some (.int .i64 (N : Nat)) := by simp [World.cell?, H2.out.bx]
          have cl := (Array.getElem?_eq_some_iff.1 H2.out.bx).1
          obtain ⟨bl, hbl⟩ : ∃ bl, bl = bl0 ++ bitsF (([(c.k, 2)] ++ jsF c (kPorts c.k).toNat) ++ csF c q) := ⟨_, rfl⟩
          rw [← hbl] at H2
          have HL := Lib.hid (show bl.length ≤ 2100 by rw [hbl, List.length_append, bitsF_length]; have := HR.out.2.1; omega)
          have HBL := Lib.hid (⟨hbl, hcf⟩ : _ ∧ _)
          have HV := Lib.hid (show BitsV w2 (.agg #[.slice A n cp, .int .i64 (N : Nat)]) (bl ++ bitsF []) by simpa [bitsF] using H2.out.bv)
          have c0b : ∀ V, ClB w2 V → V.cell? ⟨g, 0, none⟩ = some (.slice A n cp) := fun V h => (h.cell (p := ⟨g, 0, none⟩) cl).trans c0
          have c1b : ∀ V, ClB w2 V → V.cell? ⟨g, 1, none⟩ = some (.int .i64 (N : Nat)) := fun V h => (h.cell (p := ⟨g, 1, none⟩) cl).trans c1'
          have u0b : ∀ V, ClB w2 V → V.cell? ⟨g + 1, 9 + q, none⟩ = some (.int .i64 C) := fun V h => (h.cell (p := ⟨g + 1, 9 + q, none⟩) ul).trans u0
          clear hbl hcf hwl hC
          go_upto_region 11 with fail
          clear c0 c1' u0 ul cl
          refine (wpIn_wide (n := 5)).1 (wpIn_region_rel_head (.inl rfl) 6 [([(2, none)], none), ([(6, none)], none), ([(3, none)], none), ([(50, some 0), (49, some 1)], none), ([(51, some 0)], none), ([(48, some 4), (52, some 0)], none)] [(0, 53)] (by kernel_rfl) (by kernel_rfl) (by kernel_rfl) (by kernel_rfl) (by kernel_rfl) (by kernel_rfl) (by kernel_rfl) (by kernel_rfl) ?_)
          simp only [List.take_succ_cons, List.take_zero, List.drop_succ_cons, List.drop_zero]
          refine ob_det (c := .agg #[.slice A n cp, .int .i64 (N : Nat)]) ?_ ?_
          · intro ρ W hk hC
            simp only [seen, obOp]
            rintro h2
            replace h2 : ρ (.tmp 2) = .pointer (some ⟨g, 0, none⟩) := h2.trans rfl
            exact rel_value (by simp [go_sem, h2, c0b W hC, c1b W hC]) hC
          refine ob_det (c := .int .i64 (q : Nat)) ?_ ?_
          · intro ρ W hk hC
            simp only [seen, obOp]
            rintro h6
            replace h6 : ρ (.tmp 6) = .int .i64 (q : Nat) := h6.trans rfl
            exact rel_value (by simp [go_sem, h6]) hC
          refine ob_det (c := .pointer (some ⟨g + 1, 9, none⟩)) ?_ ?_
          · intro ρ W hk hC
            simp only [seen, obOp]
            rintro h3
            replace h3 : ρ (.tmp 3) = .pointer (some ⟨g + 1, 0, none⟩) := h3.trans rfl
            exact rel_value (by simp [go_sem, h3]) hC
          refine ob_det (c := .pointer (some ⟨g + 1, 9 + q, none⟩)) ?_ ?_
          · intro ρ W hk hC
            simp only [seen, obOp, List.getD_cons_zero, List.getD_cons_succ]
            rintro h50 h49
            exact rel_value (by simp [go_sem, h50, h49, hp2]) hC
          refine ob_det (c := .int .i64 C) ?_ ?_
          · intro ρ W hk hC
            simp only [seen, obOp, List.getD_cons_zero]
            rintro h51
            exact rel_value (by simp [go_sem, h51, u0b W hC]) hC
          refine ⟨fun v w' => BitsV w' v (bl ++ bitsF [(C, 2)]), fun _ _ _ h k => h.below k, ?_, ?_⟩
          · intro ρ W hk hC
            simp only [seen, obOp, List.getD_cons_zero, List.getD_cons_succ]
            rintro h48 h52
            refine rel_enter (f := 27) (args := #[.agg #[.slice A n cp, .int .i64 (N : Nat)], .int .i64 (C), .int .i64 2]) (by simp [go_sem, h48, h52, hk.const, hk.func]) ((put8_next (fs := []) (C) 2 (HV.out.below hC) HF.out (by have := HL.out; simp [widF]; omega)).mono ?_)
            rintro e w9 ⟨v, rfl, hb, b9⟩
            exact ⟨_, rfl, hC.step b9, b9, hb⟩
          intro vs w5 hC5
          simp only [endSeen, List.getD_cons_zero]
          intro hT
          simp only [writeAll, List.setIfInBounds_toArray, List.set_cons_zero, List.set_cons_succ]
          obtain ⟨A4, n4, c4, N4, h40, e4, m4, o4⟩ := hT
          rw [show vs 53 = _ from h40]
          have s5 := H2.out.next hC5
          have y0 : w5.cell? ⟨g, 0, none⟩ = some (.slice A n cp) := by simp [World.cell?, s5.bx]
          have y1 : w5.cell? ⟨g, 1, none⟩ = some (.int .i64 (N : Nat)) := by simp [World.cell?, s5.bx]
          have yl := (Array.getElem?_eq_some_iff.1 s5.bx).1
          have yf : ∀ o, w5.frozen? ⟨g, o, none⟩ = false := fun o => frozen_of_row _ _ _ _ _ s5.bx
          have H5 := Lib.hid (s5.put ⟨A4, n4, c4, N4, rfl, e4, m4, o4⟩)
          clear s5 e4 m4 o4 h40 hC5 c0b c1b u0b HV H2
          gi_wp2
          go_wp2_with fail
          go_roundw
          case measure => simp only [intOf]; omega
          case rel => exact ⟨q + 1, n4, c4, N4, A4, by omega, by push_cast; rfl, by rw [HBL.out.2, ← List.append_assoc, bitsF_append, ← List.append_assoc, ← HBL.out.1]; exact H5⟩
        · obtain rfl : q = (kMany c.k).toNat := by omega
          have hpi : ¬ (((kMany c.k).toNat : Nat) : Int) < kMany c.k := by omega
          have hpe : (((kMany c.k).toNat : Nat) : Int) = kMany c.k := by omega
          rw [hpe] at hpi ⊢
          have c0 : w2.cell? ⟨g, 0, none⟩ = some (.slice A n cp) := by simp [World.cell?, H2.out.bx]
          have c1' : w2.cell? ⟨g, 1, none⟩ = some (.int .i64 (N : Nat)) := by simp [World.cell?, H2.out.bx]
          have cl := (Array.getElem?_eq_some_iff.1 H2.out.bx).1
          have z0 : w2.cell? ⟨g + 1 + 1, 0, none⟩ = some (.slice none 0 0) := by simp [World.cell?, H2.out.zr]
          have z1 : w2.cell? ⟨g + 1 + 1, 1, none⟩ = some (.int .i64 0) := by simp [World.cell?, H2.out.zr]
          have zl : g + 1 + 1 < w2.heap.size := (Array.getElem?_eq_some_iff.1 H2.out.zr).1
          have zf : ∀ o, w2.frozen? ⟨g + 1 + 1, o, none⟩ = false := fun o => frozen_of_row _ _ _ _ _ H2.out.zr
          go_wp2_with fail
          have hz := heap_setCell_same _ (g + 1 + 1) 0 _ _ (.slice A n cp) H2.out.zr
          have hz2 := heap_setCell_same _ (g + 1 + 1) 1 _ _ (.int .i64 (N : Nat)) hz
          have hbv := bitsV_set (i := 1) (u := .int .i64 (N : Nat)) (bitsV_set (i := 0) (u := .slice A n cp) H2.out.bv H2.out.zr) hz
          obtain ⟨V, hV⟩ : ∃ V, V = (w2.setCell ⟨g + 1 + 1, 0, none⟩ (.slice A n cp)).setCell ⟨g + 1 + 1, 1, none⟩ (.int .i64 (N : Nat)) := ⟨_, rfl⟩
          rw [← hV] at hz2 hbv ⊢
          have hbV : Below w.heap.size w V := by
            have h := HG.out
            rw [hV, ← h]
            exact (H2.out.below.setCell (by dsimp only; omega) _).setCell (by dsimp only; omega) _
          have r0 : V.cell? ⟨g + 1 + 1, 0, none⟩ = some (.slice A n cp) := by simp [World.cell?, hz2]
          have r1 : V.cell? ⟨g + 1 + 1, 1, none⟩ = some (.int .i64 (N : Nat)) := by simp [World.cell?, hz2]
          exact bodyPost_ret (v := .agg #[.slice A n cp, .int .i64 (N : Nat)]) (by simp [results, Tryd.results28, go_sem, r0, r1]) rfl ⟨_, rfl, hbv, hbV⟩
set_option maxRecDepth 100000 in
set_option maxHeartbeats 4000000 in
theorem times8_any (t0 t1 t2 t3 t4 t5 t6 : Int) (w : World) : Calls Tryd.prog 29 #[.agg #[.int .i64 t0, .int .i64 t1, .int .i64 t2, .int .i64 t3, .int .i64 t4, .int .i64 t5, .int .i64 t6]] w fun e w' => e = .returned (.agg #[.int .i64 t0, .int .i64 t1, .int .i64 t2, .int .i64 t3, .int .i64 t4, .int .i64 t5, .int .i64 t6]) ∧ Below w.heap.size w w' := by
  go_enter Tryd.func29, Tryd.ntmps29
  go_wp2
  refine bodyPost_ret (v := .agg #[.int .i64 t0, .int .i64 t1, .int .i64 t2, .int .i64 t3, .int .i64 t4, .int .i64 t5, .int .i64 t6]) (by simp [results, Tryd.results29, go_sem]) rfl ⟨rfl, ?_⟩
  repeat refine Below.setCell ?_ (by dsimp only; omega) _
  exact bchain bself bself
end Go.Proofs.YtpnnbihofoomeaaDoor

/-
  lockbarref01.Pad, Take.
-/
namespace Go.Proofs.YtpnnbihofoomeaaDoor
open Go.RowKit Go.Shelf

theorem pack_off (bl : List Bool) (h : bl.length % 8 ≠ 0) : pack (bl ++ [false]) = pack bl := by
  rw [pack_old bl false h, if_neg (by decide), Nat.or_zero]
  have hl : 0 < (pack bl).length := by rw [pack_length]; omega
  rw [List.getD_eq_getElem?_getD, List.getElem?_eq_getElem (by omega)]
  exact List.set_getElem_self (by omega)

set_option maxRecDepth 100000 in
set_option maxHeartbeats 16000000 in
theorem rbPad_any (A : Option Addr) (k cap : Nat) (bl0 : List Bool) (N : Nat) (w : World) (hk : k = (pack bl0).length) (hN : N = bl0.length) (hA : At w 1 bEnc A (pack bl0)) (hl : bl0.length ≤ 7900) :
    Calls Tryd.prog 30 #[.agg #[.slice A k cap, .int .i64 (N : Nat)]] w fun e w' => ∃ A' c' M, e = .returned (.tuple #[.agg #[.slice A' k c', .int .i64 (M : Nat)], .int .i64 0]) ∧
      w'.ownsRow w.heap.size 5 1 (.slice A' k c') k ((pack bl0).flatMap bEnc) ∧ Below w.heap.size w w' := by
  have hok : BitsOk (pack bl0) N := by rw [hN]; exact bitsOk_pack bl0 (by omega)
  have HR := Lib.hid (fun W (h : Below w.heap.size w W) => rbRight_yes A k cap N (pack bl0) W hk (hA.below h) hok)
  have HO := Lib.hid (fun W (h : Below w.heap.size w W) => rbOwn_any A k cap N (pack bl0) W hk (hA.below h) (by rw [pack_length]; omega))
  have HK := Lib.hid (⟨hk, hN, hl⟩ : _ ∧ _ ∧ _)
  clear hk hN hA hl hok
  obtain ⟨g, hg⟩ : ∃ g, g = w.heap.size := ⟨_, rfl⟩
  obtain ⟨X, hX⟩ : ∃ X, X = (w.alloc (.cells #[.slice A k cap, .int .i64 (N : Nat)] 54)).alloc (.cells #[.slice none 0 0, .int .i64 0] 54) := ⟨_, rfl⟩
  have x1 : X.heap[g]? = some (.cells #[.slice A k cap, .int .i64 (N : Nat)] 54 (0, 0)) := by
    rw [hX, hg]
    exact (bself.block _ (by simp)).trans (World.alloc_heap_new _ _)
  have x2 : X.heap[g + 1]? = some (.cells #[.slice none 0 0, .int .i64 0] 54 (0, 0)) := by
    rw [hX, hg]
    have := World.alloc_heap_new (w.alloc (.cells #[.slice A k cap, .int .i64 (N : Nat)] 54)) (.cells #[.slice none 0 0, .int .i64 0] 54)
    simpa using this
  have x3 : Below w.heap.size w X := by rw [hX]; exact bchain bself bself
  have x4 : X.heap.size = g + 2 := by rw [hX, hg]; simp
  have HX := Lib.hid (⟨x1, x2, x3, x4⟩ : _ ∧ _ ∧ _ ∧ _)
  clear x1 x2 x3 x4
  go_enter Tryd.func30, Tryd.ntmps30
  go_wp2_with fail
  rw [← hX]
  rw [← hg]
  have HG := Lib.hid hg
  clear hX hg
  (with_reducible refine (HR.out _ HX.out.2.2.1).mono ?_)
  rintro e w1 ⟨rfl, b1⟩
  have y1 := (b1.block _ (Array.getElem?_eq_some_iff.1 HX.out.1).1).trans HX.out.1
  have y2 := (b1.block _ (Array.getElem?_eq_some_iff.1 HX.out.2.1).1).trans HX.out.2.1
  have c0 : w1.cell? ⟨g, 0, none⟩ = some (.slice A k cap) := by simp [World.cell?, y1]
  have c1 : w1.cell? ⟨g, 1, none⟩ = some (.int .i64 (N : Nat)) := by simp [World.cell?, y1]
  have cl := (Array.getElem?_eq_some_iff.1 y1).1
  have hs1 := b1.size
  have H1 := Lib.hid (⟨y1, y2, bchain HX.out.2.2.1 b1, (by have := HX.out.2.2.2; omega : g + 2 ≤ w1.heap.size)⟩ : _ ∧ _ ∧ Below w.heap.size w w1 ∧ _)
  clear y1 y2 b1 hs1 HX HR
  go_wp2_with fail
  (with_reducible refine (HO.out _ H1.out.2.2.1).mono ?_)
  rintro e w2 ⟨A1, k1, rfl, ho, b2⟩
  have y1 := (b2.block _ (Array.getElem?_eq_some_iff.1 H1.out.1).1).trans H1.out.1
  have y2 := (b2.block _ (Array.getElem?_eq_some_iff.1 H1.out.2.1).1).trans H1.out.2.1
  have c0 : w2.cell? ⟨g, 0, none⟩ = some (.slice A k cap) := by simp [World.cell?, y1]
  have c1 : w2.cell? ⟨g, 1, none⟩ = some (.int .i64 (N : Nat)) := by simp [World.cell?, y1]
  have cl := (Array.getElem?_eq_some_iff.1 y1).1
  have cf : ∀ o, w2.frozen? ⟨g, o, none⟩ = false := fun o => frozen_of_row _ _ _ _ _ y1
  have hs2 := b2.size
  have H2 := Lib.hid (⟨y1, y2, bchain H1.out.2.2.1 b2, (by have := H1.out.2.2.2; omega : g + 2 ≤ w2.heap.size), owns_base ho H1.out.2.2.2⟩ : _ ∧ _ ∧ Below w.heap.size w w2 ∧ _ ∧ w2.ownsRow (g + 2) 5 1 (.slice A1 k k1) k ((pack bl0).flatMap bEnc))
  clear y1 y2 b2 hs2 ho H1 HO
  go_wp2_with fail
  have hP0 : PSt g N w ((w2.setCell ⟨g, 0, none⟩ (.slice A1 k k1)).setCell ⟨g, 1, none⟩ (.int .i64 (N : Nat))) (.slice A1 k k1) k (pack bl0) :=
    pst_put H2.out.1 H2.out.2.1 H2.out.2.2.2.2 (by have := HG.out; rw [this]; exact H2.out.2.2.1)
  clear c0 c1 cl cf H2
  go_loopw [] (fun wr => ∃ (M : Nat) (bl : List Bool) (A' : Option Addr) (c' : Nat), Hid (M = bl.length ∧ pack bl = pack bl0 ∧ bl.length ≤ 7992) ∧ M ≤ 7992 ∧ Hid (PSt g M w wr (.slice A' k c') k (pack bl))) (fun wr => match wr.cell? ⟨g, 1, none⟩ with | some (.int _ v) => (8 - (v.toNat % 8)) % 8 | _ => 0)
  case atStart => exact ⟨N, bl0, A1, k1, Lib.hid ⟨HK.out.2.1, rfl, by have := HK.out.2.2; omega⟩, by have := HK.out.2; omega, Lib.hid hP0⟩
  case round =>
    obtain ⟨M, bl, A', c', HM, hM, H⟩ := hrel
    have y0 : wr.cell? ⟨g, 0, none⟩ = some (.slice A' k c') := by simp [World.cell?, H.out.bx]
    have y1 : wr.cell? ⟨g, 1, none⟩ = some (.int .i64 (M : Nat)) := by simp [World.cell?, H.out.bx]
    have yl := (Array.getElem?_eq_some_iff.1 H.out.bx).1
    clear hP0
    obtain ⟨m, hm⟩ : ∃ m, m = M % 8 := ⟨_, rfl⟩
    have hmi : (M : Int) % 8 = (m : Int) := by omega
    by_cases hz : m = 0
    · have hmz : ((m : Int) != 0) = false := by simp [hz]
      have q0 : wr.cell? ⟨g + 1, 0, none⟩ = some (.slice none 0 0) := by simp [World.cell?, H.out.zr]
      have q1 : wr.cell? ⟨g + 1, 1, none⟩ = some (.int .i64 0) := by simp [World.cell?, H.out.zr]
      have ql := (Array.getElem?_eq_some_iff.1 H.out.zr).1
      have qf : ∀ o, wr.frozen? ⟨g + 1, o, none⟩ = false := fun o => frozen_of_row _ _ _ _ _ H.out.zr
      have HMM := Lib.hid hm
      clear hm hz
      go_wp2_with fail
      have hz := heap_setCell_same _ (g + 1) 0 _ _ (.slice A' k c') H.out.zr
      have hz2 := heap_setCell_same _ (g + 1) 1 _ _ (.int .i64 (M : Nat)) hz
      have ho := keep_box (i := 1) (u := .int .i64 (M : Nat)) hz (keep_box (i := 0) (u := .slice A' k c') H.out.zr H.out.own)
      obtain ⟨V, hV⟩ : ∃ V, V = (wr.setCell ⟨g + 1, 0, none⟩ (.slice A' k c')).setCell ⟨g + 1, 1, none⟩ (.int .i64 (M : Nat)) := ⟨_, rfl⟩
      rw [← hV] at hz2 ho ⊢
      have hbV : Below w.heap.size w V := by
        have h := HG.out
        rw [hV, ← h]
        exact (H.out.below.setCell (by dsimp only; omega) _).setCell (by dsimp only; omega) _
      have r0 : V.cell? ⟨g + 1, 0, none⟩ = some (.slice A' k c') := by simp [World.cell?, hz2]
      have r1 : V.cell? ⟨g + 1, 1, none⟩ = some (.int .i64 (M : Nat)) := by simp [World.cell?, hz2]
      rw [HM.out.2.1] at ho
      exact bodyPost_ret (v := .tuple #[.agg #[.slice A' k c', .int .i64 (M : Nat)], .int .i64 0]) (by simp [results, Tryd.results30, go_sem, r0, r1]) rfl ⟨A', c', M, rfl, owns_base ho (by have := HG.out; omega), hbV⟩
    · have hmz : ((m : Int) != 0) = true := by simp [hz]
      have HWI := Lib.hid (rbWith_any (g + 2) M k bl false A' c' wr H.out.own (by rw [HM.out.2.1]; exact HK.out.1) HM.out.1 (by have := HM.out.2.2; omega) H.out.sz)
      have HMM := Lib.hid (⟨hm, hz⟩ : _ ∧ _)
      clear hm hz
      go_wp2_with fail
      (with_reducible refine HWI.out.mono ?_)
      rintro e w3 ⟨A3, c3, n3, rfl, hn3, ho3, b3⟩
      have hp8 : pack (bl ++ [false]) = pack bl0 := by
        rw [pack_off bl (by have := HMM.out; have := HM.out.1; omega)]
        exact HM.out.2.1
      rw [hp8] at hn3 ho3
      obtain rfl : n3 = k := by rw [hn3]; exact HK.out.1.symm
      have H3 := Lib.hid (H.out.step (N' := M + 1) ho3 b3)
      have z1 := (b3.block g (by omega)).trans H.out.bx
      have z0 : w3.cell? ⟨g, 0, none⟩ = some (.slice A' n3 c') := by simp [World.cell?, z1]
      have z2 : w3.cell? ⟨g, 1, none⟩ = some (.int .i64 (M : Nat)) := by simp [World.cell?, z1]
      have zl := (Array.getElem?_eq_some_iff.1 z1).1
      have zf : ∀ o, w3.frozen? ⟨g, o, none⟩ = false := fun o => frozen_of_row _ _ _ _ _ z1
      obtain ⟨M1, hM1⟩ : ∃ M1 : Nat, M1 = M + 1 := ⟨_, rfl⟩
      rw [← hM1] at H3 ⊢
      have HM1 := Lib.hid hM1
      have HP8 := Lib.hid hp8
      clear hn3 ho3 b3 z1 hM1 HWI hp8
      go_wp2_with fail
      go_roundw
      case measure =>
        have y3 := H3.out.bx
        have y4 : ((w3.setCell ⟨g, 0, none⟩ (.slice A3 n3 c3)).setCell ⟨g, 1, none⟩ (.int .i64 (M1 : Nat))).cell? ⟨g, 1, none⟩ = some (.int .i64 (M1 : Nat)) := by simp [World.cell?, y3]
        rw [y4, y1]
        simp only [Int.toNat_natCast]
        have := HM1.out
        have := HMM.out
        omega
      case rel => exact ⟨M1, bl ++ [false], A3, c3, Lib.hid ⟨by rw [HM1.out, List.length_append, ← HM.out.1]; rfl, HP8.out, by rw [List.length_append]; have := HM.out.1; have := HMM.out; simp; omega⟩, by have := HM1.out; have := HMM.out; omega, Lib.hid (by rw [HP8.out]; exact H3.out)⟩
end Go.Proofs.YtpnnbihofoomeaaDoor
