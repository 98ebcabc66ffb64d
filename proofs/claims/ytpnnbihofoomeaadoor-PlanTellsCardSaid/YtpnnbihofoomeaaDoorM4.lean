/-
  bits.add: one bit more.
-/
import Derived.Test.YtpnnbihofoomeaaDoorM3
import Derived.Deep.DeepCutAuto
import Derived.Deep.RegionHeld3

namespace Go.Proofs.YtpnnbihofoomeaaDoor
open Go.RowKit Go.Shelf

/-- The bits bl in the variable g: their bytes in a row of one's own. -/
def PutAt (B g : Nat) (W : World) (bl : List Bool) : Prop := ∃ (A : Option Addr) (c : Nat), W.heap[g]? = some (.cells #[.slice A (pack bl).length c, .int .i64 (bl.length : Nat)] 54 (0, 0)) ∧ W.ownsRow B 5 1 (.slice A (pack bl).length c) (pack bl).length ((pack bl).flatMap bEnc)
/-- The bytes, room made for one bit more. -/
def roomB (bl : List Bool) : List Nat := if bl.length % 8 = 0 then pack bl ++ [0] else pack bl
theorem room_pos (bl : List Bool) : 0 < (roomB bl).length := by
  unfold roomB
  split
  · simp
  · rw [pack_length]; omega
theorem room_le (bl : List Bool) : (roomB bl).length ≤ (bl.length + 8) / 8 := by
  unfold roomB
  split
  · rw [List.length_append, pack_length]; simp; omega
  · rw [pack_length]; omega
theorem pack_step (bl : List Bool) (c : Bool) : pack (bl ++ [c]) = (roomB bl).set ((roomB bl).length - 1) ((roomB bl).getD ((roomB bl).length - 1) 0 ||| (if c then 128 / 2 ^ (bl.length % 8) else 0)) := by
  unfold roomB
  split
  · rename_i h
    rw [pack_new bl c h, h]
    simp
  · rename_i h
    exact pack_old bl c h
theorem room_lt (bl : List Bool) : ∀ b ∈ roomB bl, b < 256 := by
  unfold roomB
  split
  · intro b hb
    rcases List.mem_append.1 hb with hb | hb
    · exact pack_lt bl b hb
    · rw [List.mem_singleton.1 hb]; decide
  · exact pack_lt bl
def isU8 (e : TypeId) : Prop := e = 5
/-- A row that grew or was set, seen from outside. -/
theorem writes_row {B g : Nat} {W W' : World} {v : Value} {n : Nat} {xs : List Value} (h : W.ownsRow B 5 1 v n xs) (k : W.grownBy W' v.ownBlock) : WritesE (fun b => b = g) isU8 B W W' :=
  (WritesE.refl _ _ _ W).grown k fun r e => by
    rcases h.2 with ⟨rfl, _⟩ | ⟨g', cap, cur, rfl, hb, hg, _⟩
    · cases e
    · obtain rfl : g' = r := by simpa [Value.ownBlock] using e
      exact ⟨hb, _, hg, _, _, _, rfl, rfl⟩
theorem writes_cell {B g r i : Nat} {W : World} {u : Value} {cur : Array Value} (hb : B ≤ r) (hg : W.heap[r]? = some (.cells cur 5 (0, 0))) : WritesE (fun b => b = g) isU8 B W (W.setCell ⟨r, i, none⟩ u) :=
  ⟨rfl, rfl, rfl, by simp [World.setCell], fun b o ho _ he => (Below.heap_setCell _ _ _ _ (fun e => by
    dsimp only at e
    subst e
    rw [hg] at ho
    cases ho
    exact he ⟨hb, _, _, _, rfl, rfl⟩)).trans ho⟩
theorem keep_box {g i : Nat} {W : World} {u : Value} {cs : Array Value} {base : Nat} {size : Nat} {sv : Value} {n : Nat} {xs : List Value} (hg : W.heap[g]? = some (.cells cs 54 (0, 0))) (hr : W.ownsRow base 5 size sv n xs) : (W.setCell ⟨g, i, none⟩ u).ownsRow base 5 size sv n xs :=
  owns_kept hr (set_others W ⟨g, i, none⟩ u) (fun cur hc => by rw [hg] at hc; cases hc)
attribute [local go_sem] and7

set_option maxRecDepth 100000 in
set_option maxHeartbeats 8000000 in
theorem bAdd_any (B g : Nat) (bl : List Bool) (one : Bool) (w : World) (h : PutAt B g w bl) (hl : bl.length < 8000) (hB : B ≤ w.heap.size) :
    Calls Tryd.prog 62 #[.pointer (some ⟨g, 0, none⟩), .bool one] w fun e w' => (∃ v, e = .returned v) ∧ PutAt B g w' (bl ++ [one]) ∧ WritesE (fun b => b = g) isU8 B w w' := by
  obtain ⟨A, c, hg, ho⟩ := h
  obtain ⟨N, hN⟩ : ∃ N, N = bl.length := ⟨_, rfl⟩
  obtain ⟨n0, hn0⟩ : ∃ n0, n0 = (pack bl).length := ⟨_, rfl⟩
  rw [← hN, ← hn0] at hg
  rw [← hn0] at ho
  have y0 : w.cell? ⟨g, 0, none⟩ = some (.slice A n0 c) := by simp [World.cell?, hg]
  have y1 : w.cell? ⟨g, 1, none⟩ = some (.int .i64 N) := by simp [World.cell?, hg]
  have lg : g < w.heap.size := (Array.getElem?_eq_some_iff.1 hg).1
  have fg : ∀ o, w.frozen? ⟨g, o, none⟩ = false := fun o => frozen_of_row _ _ _ _ _ hg
  obtain ⟨m, hm⟩ : ∃ m, m = N % 8 := ⟨_, rfl⟩
  have hmi : (N : Int) % 8 = (m : Int) := by omega
  have HG := Lib.hid (⟨hg, ho⟩ : _ ∧ _)
  have HN := Lib.hid (⟨hN, hn0, hm⟩ : _ ∧ _ ∧ _)
  have hpl := pack_length bl
  have hnle : n0 ≤ 1001 := by omega
  have hN8 : N < 8000 := by omega
  clear hg ho hpl hN hn0 hm
  go_enter Tryd.func62, Tryd.ntmps62
  go_upto_if 11 with fail
  go_cut [] (fun w' => ∃ (A' : Option Addr) (c' : Nat), Hid (w'.heap[g]? = some (.cells #[.slice A' (roomB bl).length c', .int .i64 N] 54 (0, 0))) ∧ Hid (w'.ownsRow B 5 1 (.slice A' (roomB bl).length c') (roomB bl).length ((roomB bl).flatMap bEnc)) ∧ Hid (WritesE (fun b => b = g) isU8 B w w'))
  case first =>
    by_cases hz : m = 0
    · have hrm : roomB bl = pack bl ++ [0] := by
        unfold roomB
        rw [if_pos (by have := HN.out.1; have := HN.out.2.2; omega)]
      have HRM := Lib.hid hrm
      obtain ⟨i0, z0, hi, hz1, hs1, hs2, hs3⟩ := info_u8
      have HI := Lib.hid (⟨hi, hz1, hs1, hs2, hs3⟩ : _ ∧ _ ∧ _ ∧ _ ∧ _)
      subst hz
      clear hrm hi hz1 hs1 hs2 hs3
      go_wp2_with (at_builtin; refine Hid.out ?_)
      refine Lib.hid ?_
      have HO := HG.out.2
      refine wpList_append_at (enc := bEnc) rfl _ _ _ rfl B 5 i0 z0 1 i0.bytes Tryd.underlying30 HI.out.1 HI.out.2.1 HI.out.2.2.1 rfl HI.out.2.2.2.1 (by decide) (.slice A n0 c) n0 ((pack bl).flatMap bEnc) rfl (owns_below HO bself) (some ⟨w.heap.size, 0, none⟩) 1 1 [0] rfl (by simp [go_sem]) (at_one rfl) (fun _ => rfl) u8_one (by unfold maxLen; omega) ?_ (by simp; omega) ?_
      · have h2 := Nat.mul_le_mul (show n0 + 1 ≤ 1002 by omega) HI.out.2.2.2.2
        omega
      intro v' V hr hgr
      obtain ⟨A', d', rfl⟩ := ownsV hr
      have hW : WritesE (fun b => b = g) isU8 B w V := ((WritesE.refl _ _ _ w).alloc _).trans (writes_row (owns_below HO bself) hgr)
      have hgV : V.heap[g]? = some (.cells #[.slice A n0 c, .int .i64 N] 54 (0, 0)) := heap_grown (owns_below HO bself) hgr ((bself (w := w)).block g lg |>.trans HG.out.1) (by decide)
      have v0 : V.cell? ⟨g, 0, none⟩ = some (.slice A n0 c) := by simp [World.cell?, hgV]
      have v1 : V.frozen? ⟨g, 0, none⟩ = false := frozen_of_row _ _ _ _ _ hgV
      have v2 : g < V.heap.size := (Array.getElem?_eq_some_iff.1 hgV).1
      have HV := Lib.hid (⟨hr, hW, hgV⟩ : _ ∧ _ ∧ _)
      clear hr hgr hW hgV y0 y1 lg fg
      go_wp2_with fail
      go_meet
      have hlr : (roomB bl).length = n0 + 1 := by rw [HRM.out, List.length_append, ← HN.out.2.1]; rfl
      rw [hlr]
      refine ⟨A', d', Lib.hid ?_, Lib.hid ?_, Lib.hid (HV.out.2.1.setCell rfl _)⟩
      · rw [heap_setCell_same _ _ _ _ _ _ HV.out.2.2]
        rfl
      · have := keep_box (i := 0) (u := .slice A' (n0 + 1) d') HV.out.2.2 HV.out.1
        rw [HRM.out, List.flatMap_append]
        exact this
    · have hrm : roomB bl = pack bl := by
        unfold roomB
        rw [if_neg (by have := HN.out.1; have := HN.out.2.2; omega)]
      have hmi2 : ¬ (m : Int) = 0 := by omega
      have HRM := Lib.hid hrm
      clear hrm
      go_wp2_with fail
      go_meet
      rw [HRM.out, ← HN.out.2.1]
      exact ⟨A, c, Lib.hid HG.out.1, Lib.hid HG.out.2, Lib.hid (WritesE.refl _ _ _ _)⟩
  case rest =>
  obtain ⟨A', c', H1, H2, H3⟩ := hcut
  obtain ⟨n, hn⟩ : ∃ n, n = (roomB bl).length := ⟨_, rfl⟩
  have hnp := room_pos bl
  have hnl := room_le bl
  rw [← hn] at H1 H2 hnp hnl
  obtain ⟨rb, cur, ea, hrB, hrh, hcm, hnc⟩ := owns_heap H2.out hnp
  subst ea
  obtain ⟨c, hc⟩ : ∃ c, c = c' := ⟨_, rfl⟩
  subst hc
  have HC := Lib.hid (⟨hn, hrB, hrh⟩ : _ ∧ _ ∧ _)
  clear y0 y1 lg fg HG hn
  have y0 : wc.cell? ⟨g, 0, none⟩ = some (.slice (some ⟨rb, 0, none⟩) n c) := by simp [World.cell?, H1.out]
  have y1 : wc.cell? ⟨g, 1, none⟩ = some (.int .i64 N) := by simp [World.cell?, H1.out]
  have lg : g < wc.heap.size := (Array.getElem?_eq_some_iff.1 H1.out).1
  have fg : ∀ o, wc.frozen? ⟨g, o, none⟩ = false := fun o => frozen_of_row _ _ _ _ _ H1.out
  go_upto_if 21 with fail
  go_cut [] (fun w' => Hid (w'.heap[g]? = some (.cells #[.slice (some ⟨rb, 0, none⟩) n c, .int .i64 N] 54 (0, 0))) ∧ Hid (w'.ownsRow B 5 1 (.slice (some ⟨rb, 0, none⟩) n c) n ((pack (bl ++ [one])).flatMap bEnc)) ∧ Hid (WritesE (fun b => b = g) isU8 B w w'))
  case first =>
    cases one with
    | false =>
      go_wp2_with fail
      go_meet
      refine ⟨H1, Lib.hid ?_, H3⟩
      have hp : pack (bl ++ [false]) = roomB bl := by
        rw [pack_step, if_neg (by decide), Nat.or_zero]
        have hlt : (roomB bl).length - 1 < (roomB bl).length := by have := HC.out.1; omega
        rw [List.getD_eq_getElem?_getD, List.getElem?_eq_getElem hlt]
        exact List.set_getElem_self hlt
      rw [hp]
      exact H2.out
    | true =>
      go_wp2_with fail
      obtain ⟨x, hx⟩ : ∃ x, (roomB bl)[n - 1]? = some x := ⟨_, List.getElem?_eq_getElem (by have := HC.out.1; omega)⟩
      have hx256 := room_lt bl x (List.mem_of_getElem? hx)
      have hm8 : m < 8 := by have := HN.out.2.2; omega
      have hor0 := or_u8 (x := x) (k := m) hx256 hm8
      obtain ⟨y, hy⟩ : ∃ y, y = x ||| 128 / 2 ^ m := ⟨_, rfl⟩
      rw [← hy] at hor0
      have hor := hor0
      have hrow : wc.cell? ⟨rb, n - 1, none⟩ = some (.int .u8 (x : Nat)) := by
        have hrc := H2.out.cells (g := _) rfl (n - 1) (.int .u8 (x : Nat)) (by
          rw [flat_get (k := 1) (fun _ => rfl) (by decide), Nat.div_one, Nat.mod_one, hx]
          rfl)
        rw [add_at] at hrc
        simpa using hrc
      have lr : rb < wc.heap.size := (Array.getElem?_eq_some_iff.1 HC.out.2.2).1
      have fr : wc.frozen? ⟨rb, n - 1, none⟩ = false := frozen_of_row _ _ _ _ _ HC.out.2.2
      have hn1 : IntKind.i64.wrap ((n : Int) - 1) = ((n - 1 : Nat) : Int) := by rw [IntWalk.i64_in _ (by omega)]; omega
      have hn2 : ((n - 1 : Nat) : Int) < (n : Int) := by omega
      have cs : ∀ V', ClB wc V' → V'.cell? ⟨g, 0, none⟩ = some (.slice (some ⟨rb, 0, none⟩) n c) := fun V' h => (h.cell (p := ⟨g, 0, none⟩) lg).trans y0
      have cb : ∀ V', ClB wc V' → V'.cell? ⟨rb, n - 1, none⟩ = some (.int .u8 (x : Nat)) := fun V' h => (h.cell (p := ⟨rb, n - 1, none⟩) lr).trans hrow
      have HXY := Lib.hid (⟨hx, hy⟩ : _ ∧ _)
      clear hx hy hx256
      refine (wpIn_wide (n := 5)).1 (wpIn_region_rel_head (.inl rfl) 15 [([(0, none)], none), ([(22, some 0)], none), ([(23, some 0)], none), ([(24, some 0)], none), ([(0, none)], none), ([(26, some 0)], none), ([(27, some 0)], none), ([(28, some 0)], none), ([(29, some 0)], none), ([(30, some 0)], none), ([(25, some 6), (31, some 0)], none), ([(32, some 0)], none), ([(4, none)], none), ([(34, some 0)], none), ([(33, some 2), (35, some 0)], none)] [(0, 36), (5, 31), (11, 25)] (by kernel_rfl) (by kernel_rfl) (by kernel_rfl) (by kernel_rfl) (by kernel_rfl) (by kernel_rfl) (by kernel_rfl) (by kernel_rfl) ?_)
      simp only [List.take_succ_cons, List.take_zero, List.drop_succ_cons, List.drop_zero]
      refine ob_det (c := .pointer (some ⟨g, 0, none⟩)) ?_ ?_
      · intro ρ W hk hC
        simp only [seen, obOp]
        rintro h0
        replace h0 : ρ (.tmp 0) = .pointer (some ⟨g, 0, none⟩) := h0.trans rfl
        exact rel_value (by simp [go_sem, h0]) hC
      refine ob_det (c := .pointer (some ⟨g, 0, none⟩)) ?_ ?_
      · intro ρ W hk hC
        simp only [seen, obOp, List.getD_cons_zero]
        rintro h22
        exact rel_value (by simp [go_sem, h22]) hC
      refine ob_det (c := .pointer (some ⟨g, 0, none⟩)) ?_ ?_
      · intro ρ W hk hC
        simp only [seen, obOp, List.getD_cons_zero]
        rintro h23
        exact rel_value (by simp [go_sem, h23]) hC
      refine ob_det (c := .slice (some ⟨rb, 0, none⟩) n c) ?_ ?_
      · intro ρ W hk hC
        simp only [seen, obOp, List.getD_cons_zero]
        rintro h24
        exact rel_value (by simp [go_sem, h24, cs W hC]) hC
      refine ob_det (c := .pointer (some ⟨g, 0, none⟩)) ?_ ?_
      · intro ρ W hk hC
        simp only [seen, obOp]
        rintro h0
        replace h0 : ρ (.tmp 0) = .pointer (some ⟨g, 0, none⟩) := h0.trans rfl
        exact rel_value (by simp [go_sem, h0]) hC
      refine ob_det (c := .pointer (some ⟨g, 0, none⟩)) ?_ ?_
      · intro ρ W hk hC
        simp only [seen, obOp, List.getD_cons_zero]
        rintro h26
        exact rel_value (by simp [go_sem, h26]) hC
      refine ob_det (c := .pointer (some ⟨g, 0, none⟩)) ?_ ?_
      · intro ρ W hk hC
        simp only [seen, obOp, List.getD_cons_zero]
        rintro h27
        exact rel_value (by simp [go_sem, h27]) hC
      refine ob_det (c := .slice (some ⟨rb, 0, none⟩) n c) ?_ ?_
      · intro ρ W hk hC
        simp only [seen, obOp, List.getD_cons_zero]
        rintro h28
        exact rel_value (by simp [go_sem, h28, cs W hC]) hC
      refine ob_det (c := .int .i64 (n : Nat)) ?_ ?_
      · intro ρ W hk hC
        simp only [seen, obOp, List.getD_cons_zero]
        rintro h29
        exact rel_value (by simp [go_sem, h29]) hC
      refine ob_det (c := .int .i64 (n - 1 : Nat)) ?_ ?_
      · intro ρ W hk hC
        simp only [seen, obOp, List.getD_cons_zero]
        rintro h30
        exact rel_value (by simp [go_sem, h30, hk.const, hn1]) hC
      refine ob_det (c := .pointer (some ⟨rb, n - 1, none⟩)) ?_ ?_
      · intro ρ W hk hC
        simp only [seen, obOp, List.getD_cons_zero, List.getD_cons_succ]
        rintro h25 h31
        exact rel_value (by simp [go_sem, h25, h31, hn2]) hC
      refine ob_det (c := .int .u8 (x : Nat)) ?_ ?_
      · intro ρ W hk hC
        simp only [seen, obOp, List.getD_cons_zero]
        rintro h32
        exact rel_value (by simp [go_sem, h32, cb W hC]) hC
      refine ob_det (c := .int .i64 (m : Nat)) ?_ ?_
      · intro ρ W hk hC
        simp only [seen, obOp]
        rintro h4
        replace h4 : ρ (.tmp 4) = .int .i64 (m : Nat) := h4.trans rfl
        exact rel_value (by simp [go_sem, h4]) hC
      refine ob_det (c := .int .u8 (128 / 2 ^ m)) ?_ ?_
      · intro ρ W hk hC
        simp only [seen, obOp, List.getD_cons_zero]
        rintro h34
        exact rel_value (by simp [go_sem, h34, hk.const]) hC
      refine ob_det (c := .int .u8 (y : Nat)) ?_ ?_
      · intro ρ W hk hC
        simp only [seen, obOp, List.getD_cons_zero, List.getD_cons_succ]
        rintro h33 h35
        exact rel_value (by simp [go_sem, h33, h35, hor]) hC
      intro vs w5 hC5
      simp only [endSeen, List.getD_cons_zero, List.getD_cons_succ]
      intro h36 h31 h25
      simp only [writeAll, List.setIfInBounds_toArray, List.set_cons_zero, List.set_cons_succ]
      rw [show vs 36 = _ from h36, show vs 31 = _ from h31, show vs 25 = _ from h25]
      have z0 : w5.cell? ⟨rb, n - 1, none⟩ = some (.int .u8 (x : Nat)) := cb w5 hC5
      have z1 : w5.frozen? ⟨rb, n - 1, none⟩ = false := (hC5.frozen (p := ⟨rb, n - 1, none⟩) lr).trans fr
      have z2 : rb < w5.heap.size := Nat.lt_of_lt_of_le lr hC5.size
      have HB5 := Lib.hid hC5
      clear cs cb hC5 hrow fr
      gi_wp2
      go_wp2_with fail
      go_meet
      have q1 := (HB5.out.block g lg).trans H1.out
      have q2 := owns_below H2.out HB5.out
      have q3 := (HB5.out.block rb lr).trans HC.out.2.2
      refine ⟨Lib.hid ?_, Lib.hid ?_, Lib.hid ((H3.out.trans (.of_below HB5.out)).trans (writes_cell HC.out.2.1 q3))⟩
      · exact (Below.heap_setCell _ _ _ _ (show g ≠ rb from fun e => by subst e; rw [q1] at q3; cases q3)).trans q1
      · have hs := owns_set (i := n - 1) (.int .u8 (y : Nat)) q2
        have hf := flat_set (k := 1) (enc := bEnc) (fun _ => rfl) (roomB bl) (n - 1) 0 x y (.int .u8 (y : Nat)) HXY.out.1 (by decide) rfl
        rw [Nat.mul_one, Nat.add_zero] at hf
        rw [pack_step, if_pos rfl, ← HC.out.1, ← HN.out.1, ← HN.out.2.2, List.getD_eq_getElem?_getD, HXY.out.1, Option.getD_some, ← HXY.out.2, hf]
        exact hs
  case rest =>
  obtain ⟨K1, K2, K3⟩ := hcut
  have HLN : Hid (n = (pack (bl ++ [one])).length ∧ N + 1 = (bl ++ [one]).length) := Lib.hid ⟨by rw [pack_step, List.length_set]; exact HC.out.1, by rw [List.length_append, ← HN.out.1]; rfl⟩
  clear y0 y1 lg fg H1 H2 H3 HC hrh hrB
  have y1 : wc.cell? ⟨g, 1, none⟩ = some (.int .i64 N) := by simp [World.cell?, K1.out]
  have lg : g < wc.heap.size := (Array.getElem?_eq_some_iff.1 K1.out).1
  have fg : wc.frozen? ⟨g, 1, none⟩ = false := frozen_of_row _ _ _ _ _ K1.out
  have e1 : IntKind.i64.wrap ((N : Int) + 1) = ((N + 1 : Nat) : Int) := by rw [IntWalk.i64_in _ (by have := HN.out.1; omega)]; omega
  go_wp2_with fail
  go_end0
  refine ⟨⟨_, rfl⟩, ⟨some ⟨rb, 0, none⟩, c, ?_, ?_⟩, WritesE.setCell (A := fun b => b = g) (p := ⟨g, 1, none⟩) K3.out rfl _⟩
  · rw [heap_setCell_same _ _ _ _ _ _ K1.out, ← HLN.out.1, ← HLN.out.2]
    rfl
  · rw [← HLN.out.1]
    exact keep_box K1.out K2.out
end Go.Proofs.YtpnnbihofoomeaaDoor

/-
  plan.joined: a section's numbers, one by one.
-/
namespace Go.Proofs.YtpnnbihofoomeaaDoor
open Go.RowKit Go.Shelf
attribute [local go_sem] Oper.semAt_some

abbrev Fld := Int × Int
def fEnc (f : Fld) : List Value := [.int .i64 f.1, .int .i64 f.2]
def fV (f : Fld) : Array Value := #[.agg #[.int .i64 f.1, .int .i64 f.2]]
def jF (c : Sec) (p : Nat) : List Fld := if c.S p < 0 then [(0, 1)] else [(1, 1), (c.S p, 5), (c.P p, 2)]
def jsF (c : Sec) : Nat → List Fld
  | 0 => []
  | p + 1 => jsF c p ++ jF c p
def csF (c : Sec) : Nat → List Fld
  | 0 => []
  | w + 1 => csF c w ++ [(c.C w, 2)]
/-- A section's numbers. -/
def secF (c : Sec) : List Fld := ([(c.k, 2)] ++ jsF c (kPorts c.k).toNat) ++ csF c (kMany c.k).toNat
theorem jsF_pre (c : Sec) {p q : Nat} (h : p ≤ q) : jsF c p <+: jsF c q := by
  induction h with
  | refl => exact List.prefix_rfl
  | step _ ih => exact ih.trans (List.prefix_append _ _)
theorem csF_pre (c : Sec) {p q : Nat} (h : p ≤ q) : csF c p <+: csF c q := by
  induction h with
  | refl => exact List.prefix_rfl
  | step _ ih => exact ih.trans (List.prefix_append _ _)
theorem pre_add {α : Type} {a b c : List α} (h : b <+: c) : a ++ b <+: a ++ c := by
  obtain ⟨t, ht⟩ := h
  exact ⟨t, by rw [List.append_assoc, ht]⟩

/-- What an iterator's parts know of the rounds: each goes on; what they write is not the iterator's. -/
structure ItCtx (l : Nat) (xs : List Fld) (J : List Fld → World → Prop) (A : Nat → Prop) (E : TypeId → Prop) (m n0 : Nat) (w0 : World) : Prop where
  step : ∀ s X Y, J s X → ItW NoB X Y → J s Y
  yield : ∀ pre x W1, J pre W1 → pre ++ [x] <+: xs → YieldAt Fence.wide 3 Tryd.prog l (fV x) W1 fun e W' => e = .returned (.bool true) ∧ J (pre ++ [x]) W' ∧ KeepsE A E m W1 W'
  hA : ∀ b, A b → m ≤ b ∧ b < n0
  hE : ∀ e, E e → isU8 e
  hm : m = w0.heap.size
section
variable {l : Nat} {xs : List Fld} {J : List Fld → World → Prop} {A : Nat → Prop} {E : TypeId → Prop} {m n0 : Nat} {w0 : World}
theorem ItCtx.alloc (h : ItCtx l xs J A E m n0 w0) {s : List Fld} {X Y : World} (hj : J s X) (hb : Below X.heap.size X Y) : J s Y := h.step s X Y hj (ItW.of_below hb)
theorem ItCtx.own (h : ItCtx l xs J A E m n0 w0) {X Y : World} (k : KeepsE A E m X Y) {b : Nat} {cs : Array Value} {e : TypeId} (hh : X.heap[b]? = some (.cells cs e (0, 0))) (hb : n0 ≤ b) (he : e ≠ 5) : Y.heap[b]? = some (.cells cs e (0, 0)) :=
  k.same b _ hh rfl (fun ha => by have := (h.hA b ha).2; omega) (fun ⟨_, c, e', r, h1, h2⟩ => by cases h1; exact he (h.hE _ h2))
theorem ItCtx.old (h : ItCtx l xs J A E m n0 w0) {X Y : World} (k : KeepsE A E m X Y) (hk : Kept w0 X) : Kept w0 Y :=
  ⟨Nat.le_trans hk.size k.size, fun b o v e => k.old (by rw [h.hm]; exact World.block_lt_of_cell? _ _ e) (fun ha => by
    have h1 := (h.hA b ha).1
    have h2 := World.block_lt_of_cell? _ _ e
    rw [h.hm] at h1
    dsimp only at h2
    omega) (hk.cell b o v e)⟩
end
theorem boxS_heap {W : World} {g : Nat} {c : Sec} (h : W.heap[g]? = some (.cells c.enc.toArray 69 (0, 0))) : BoxS W g c :=
  ⟨(Array.getElem?_eq_some_iff.1 h).1, fun i v e => by simp [World.cell?, h, e]⟩
theorem pre_tail {α : Type} {xs a b c : List α} (h : a ++ (b ++ c) <+: xs) : a ++ b <+: xs := by
  rw [← List.append_assoc] at h
  exact (List.prefix_append _ _).trans h
theorem secF_ports {c : Sec} {p : Nat} (hp : p < (kPorts c.k).toNat) : ([(c.k, 2)] ++ jsF c p) ++ jF c p <+: secF c := by
  unfold secF
  refine (List.IsPrefix.trans ?_ (List.prefix_append _ _))
  rw [List.append_assoc]
  exact pre_add (jsF_pre c (show p + 1 ≤ _ by omega))
theorem secF_ways {c : Sec} {w : Nat} (hw : w < (kMany c.k).toNat) : (([(c.k, 2)] ++ jsF c (kPorts c.k).toNat) ++ csF c w) ++ [(c.C w, 2)] <+: secF c := by
  unfold secF
  rw [List.append_assoc ([(c.k, 2)] ++ jsF c (kPorts c.k).toNat)]
  exact pre_add (csF_pre c (show w + 1 ≤ _ by omega))
/-- What holds in the midst of a section's numbers: those of s have come. -/
structure SecAt (J : List Fld → World → Prop) (A : Nat → Prop) (E : TypeId → Prop) (m : Nat) (w0 W : World) (sb : Nat) (c : Sec) (s : List Fld) (V : World) : Prop where
  j : J s V
  box : V.heap[sb]? = some (.cells c.enc.toArray 69 (0, 0))
  old : Kept w0 V
  keep : KeepsE A E m W V
section
variable {l : Nat} {xs : List Fld} {J : List Fld → World → Prop} {A : Nat → Prop} {E : TypeId → Prop} {m n0 : Nat} {w0 W : World} {sb : Nat} {c : Sec} {s s' : List Fld} {V V' : World}
theorem SecAt.below (hc : ItCtx l xs J A E m n0 w0) (h : SecAt J A E m w0 W sb c s V) (hb : Below V.heap.size V V') : SecAt J A E m w0 W sb c s V' :=
  ⟨hc.alloc h.j hb, (hb.block _ (Array.getElem?_eq_some_iff.1 h.box).1).trans h.box, h.old.trans (.of_below hb), h.keep.trans (.of_below hb)⟩
theorem SecAt.round (hc : ItCtx l xs J A E m n0 w0) (h : SecAt J A E m w0 W sb c s V) (hs : n0 ≤ sb) (hj : J s' V') (hk : KeepsE A E m V V') : SecAt J A E m w0 W sb c s' V' :=
  ⟨hj, hc.own hk h.box hs (by decide), hc.old hk h.old, h.keep.trans hk⟩
end

set_option maxRecDepth 100000 in
set_option maxHeartbeats 8000000 in
theorem joined_in (c : Sec) (hk : 0 ≤ c.k ∧ c.k ≤ 255) {l : Nat} {xs : List Fld} {J : List Fld → World → Prop} {A : Nat → Prop} {E : TypeId → Prop} {m n0 : Nat} {w0 : World} (hc : ItCtx l xs J A E m n0 w0) (K0 : Kinds w0) (pre : List Fld) (hpre : pre ++ secF c <+: xs) (W : World) (hW : n0 ≤ W.heap.size) (hold : Kept w0 W) (hJ : J pre W) :
    Calls Tryd.prog 59 #[.agg c.enc.toArray, .func (.yield l) #[] #[]] W fun e W' => e = .returned (.bool true) ∧ J (pre ++ secF c) W' ∧ KeepsE A E m W W' := by
  refine (callsIn_wide (n := 4)).1 ?_
  have CT := Lib.hid hc
  have HP := Lib.hid hpre
  have HK := Lib.hid (⟨hk, K0⟩ : _ ∧ _)
  have HW := Lib.hid hold
  have HJ := Lib.hid hJ
  have hp2 := (show kPorts c.k ≤ 4 by rcases kCases c.k with h | h | h | h <;> omega)
  have hp0 := (show 0 ≤ kPorts c.k by rcases kCases c.k with h | h | h | h <;> omega)
  have hm2 := kMany_le c.k
  have hm0 := (show 0 ≤ kMany c.k by rcases kCases c.k with ⟨_, _, h, _⟩ | ⟨_, _, h, _⟩ | ⟨_, _, h, _⟩ | ⟨_, _, _, _, h, _⟩ <;> omega)
  have hmax1 : max (kPorts c.k) 0 = kPorts c.k := by omega
  have hmax2 : max (kMany c.k) 0 = kMany c.k := by omega
  have hw8 : wrap64 c.k = c.k := by unfold wrap64; omega
  clear hc hpre K0 hold hJ
  obtain ⟨U, hU⟩ : ∃ U, U = W.alloc (.cells c.enc.toArray 69) := ⟨_, rfl⟩
  have hUb : Below W.heap.size W U := by rw [hU]; exact bself
  have hUh : U.heap[W.heap.size]? = some (.cells c.enc.toArray 69 (0, 0)) := by rw [hU]; exact World.alloc_heap_new _ _
  have HU := Lib.hid (⟨CT.out.alloc HJ.out hUb, hUh, HW.out.trans (.of_below hUb), .of_below hUb⟩ : SecAt J A E m w0 W W.heap.size c pre U)
  have hUs : W.heap.size < U.heap.size := by rw [hU]; simp
  have hns : n0 ≤ W.heap.size := hW
  refine callsIn_of_wp Tryd.func59 rfl trivial ?_ rfl
  simp only [Tryd.ntmps59, List.size_toArray, List.length_cons, List.length_nil, Nat.reduceAdd, Nat.reduceSub, Array.replicate_succ, Array.replicate_zero, List.push_toArray, List.append_toArray, List.nil_append, List.cons_append]
  obtain ⟨x0, x1, x2, x3, x4, x5, x6, x7, x8, x9, x10⟩ := (boxS_heap HU.out.box).cells
  obtain ⟨fn, tmps, assign, body, hyy, hR⟩ := CT.out.yield _ (c.k, 2) U HU.out.j ((List.prefix_append _ _).trans (by simpa [secF, List.append_assoc] using HP.out))
  unfold fV at hyy
  dsimp only at hyy
  clear hUb hUh HJ HW
  unfold Sec.enc at hU ⊢
  subst hU
  gi_wp2
  refine hR.mono ?_
  rintro e W3 ⟨rfl, hJ3, hk3⟩
  have H3 := Lib.hid (HU.out.round CT.out hns hJ3 hk3)
  clear hJ3 hk3 hyy hR HU x0 x1 x2 x3 x4 x5 x6 x7 x8 x9 x10
  have x0 := (boxS_heap H3.out.box).cells.1
  have l0 := (boxS_heap H3.out.box).1
  gi_wp2_with fail
  refine ⟨trivial, (callsIn_wide.2 (ports_any c.k HK.out.1.1 HK.out.1.2 _ (HK.out.2.kept H3.out.old))).mono ?_⟩
  rintro e W4 ⟨rfl, b4⟩
  have H4 := Lib.hid (H3.out.below CT.out b4)
  clear b4 H3 x0 l0
  gi_wp2_with fail
  gi_loopw [18] (fun cc wr => ∃ p : Nat, p ≤ (kPorts c.k).toNat ∧ cc = .int .i64 p ∧ Hid (SecAt J A E m w0 W W.heap.size c (pre ++ ([(c.k, 2)] ++ jsF c p)) wr)) (fun cc _ => 4 - (intOf cc).toNat)
  case atStart => exact ⟨0, by omega, rfl, by simpa [jsF] using H4⟩
  case round =>
    obtain ⟨p, hp, rfl, HS⟩ := hrel
    clear H4
    by_cases hlt : p < (kPorts c.k).toNat
    · have hpi : (p : Int) < kPorts c.k := by omega
      have hp4 : (p : Int) < 4 := by omega
      have hp4n : p < 4 := by omega
      obtain ⟨u0, u1⟩ := (boxS_heap HS.out.box).ports p hp4n
      have l0 := (boxS_heap HS.out.box).1
      have HQ := Lib.hid (show (pre ++ ([(c.k, 2)] ++ jsF c p)) ++ jF c p <+: xs by
        rw [List.append_assoc]
        exact (pre_add (secF_ports hlt)).trans HP.out)
      have hjs : jsF c (p + 1) = jsF c p ++ jF c p := rfl
      have HJS := Lib.hid hjs
      clear hjs
      obtain ⟨S, hS⟩ : ∃ S, S = c.S p := ⟨_, rfl⟩
      obtain ⟨Q, hQ⟩ : ∃ Q, Q = c.P p := ⟨_, rfl⟩
      have hjf : jF c p = if S < 0 then [(0, 1)] else [(1, 1), (S, 5), (Q, 2)] := by rw [hS, hQ]; rfl
      rw [← hS] at u0
      rw [← hQ] at u1
      clear hS hQ
      obtain ⟨V, hV⟩ : ∃ V, V = wr.alloc (.cells #[.int .i64 S, .int .i64 Q] 48) := ⟨_, rfl⟩
      have hVb : Below wr.heap.size wr V := by rw [hV]; exact bself
      have hVh : V.heap[wr.heap.size]? = some (.cells #[.int .i64 S, .int .i64 Q] 48 (0, 0)) := by rw [hV]; exact World.alloc_heap_new _ _
      have HV := Lib.hid (⟨HS.out.below CT.out hVb, hVh⟩ : _ ∧ _)
      have hnw : n0 ≤ wr.heap.size := by have := HS.out.keep.size; omega
      clear hVb hVh HS
      by_cases hs : S < 0
      · have ds : decide (S < 0) = true := decide_eq_true hs
        rw [if_pos hs] at hjf
        rw [hjf] at HQ HJS
        clear hjf
        obtain ⟨fn, tmps, assign, body, hyy, hR⟩ := CT.out.yield _ (0, 1) V HV.out.1.j (HQ.out)
        unfold fV at hyy
        dsimp only at hyy
        subst hV
        gi_wp2
        refine hR.mono ?_
        rintro e W5 ⟨rfl, hJ3, hk3⟩
        have H5 := Lib.hid (HV.out.1.round CT.out hns hJ3 hk3)
        clear hJ3 hk3 hyy hR
        gi_wp2
        go_roundw
        case measure => simp [intOf]; omega
        case rel => exact ⟨p + 1, by omega, by go_num, Lib.hid (by rw [HJS.out, ← List.append_assoc, ← List.append_assoc]; have := H5.out; rw [← List.append_assoc] at this; exact this)⟩
      · have ds : decide (S < 0) = false := decide_eq_false hs
        rw [if_neg hs] at hjf
        rw [hjf] at HQ HJS
        clear hjf
        obtain ⟨fn, tmps, assign, body, hyy, hR⟩ := CT.out.yield _ (1, 1) V HV.out.1.j ((pre_add (by exact ⟨[(S, 5), (Q, 2)], rfl⟩)).trans HQ.out)
        unfold fV at hyy
        dsimp only at hyy
        subst hV
        gi_wp2
        refine hR.mono ?_
        rintro e W5 ⟨rfl, hJ3, hk3⟩
        have hq5 := CT.out.own hk3 HV.out.2 hnw (by decide)
        have H5 := Lib.hid (⟨HV.out.1.round CT.out hns hJ3 hk3, hq5⟩ : _ ∧ _)
        have y0 : W5.cell? ⟨wr.heap.size, 0, none⟩ = some (.int .i64 S) := by simp [World.cell?, hq5]
        have y1 : W5.cell? ⟨wr.heap.size, 1, none⟩ = some (.int .i64 Q) := by simp [World.cell?, hq5]
        have y2 : wr.heap.size < W5.heap.size := (Array.getElem?_eq_some_iff.1 hq5).1
        clear hJ3 hk3 hyy hR hq5
        obtain ⟨fn, tmps, assign, body, hyy, hR⟩ := CT.out.yield _ (S, 5) W5 H5.out.1.j ((by rw [List.append_assoc]; exact (pre_add (by exact ⟨[(Q, 2)], rfl⟩)).trans HQ.out))
        unfold fV at hyy
        dsimp only at hyy
        gi_wp2
        clear y0 y1 y2
        refine hR.mono ?_
        rintro e W6 ⟨rfl, hJ3, hk3⟩
        have hq6 := CT.out.own hk3 H5.out.2 hnw (by decide)
        have H6 := Lib.hid (⟨H5.out.1.round CT.out hns hJ3 hk3, hq6⟩ : _ ∧ _)
        have y0 : W6.cell? ⟨wr.heap.size, 0, none⟩ = some (.int .i64 S) := by simp [World.cell?, hq6]
        have y1 : W6.cell? ⟨wr.heap.size, 1, none⟩ = some (.int .i64 Q) := by simp [World.cell?, hq6]
        have y2 : wr.heap.size < W6.heap.size := (Array.getElem?_eq_some_iff.1 hq6).1
        clear hJ3 hk3 hyy hR hq6
        obtain ⟨fn, tmps, assign, body, hyy, hR⟩ := CT.out.yield _ (Q, 2) W6 H6.out.1.j ((by rw [List.append_assoc, List.append_assoc]; exact HQ.out))
        unfold fV at hyy
        dsimp only at hyy
        gi_wp2
        clear y0 y1 y2
        refine hR.mono ?_
        rintro e W7 ⟨rfl, hJ3, hk3⟩
        have hq7 := CT.out.own hk3 H6.out.2 hnw (by decide)
        have H7 := Lib.hid (⟨H6.out.1.round CT.out hns hJ3 hk3, hq7⟩ : _ ∧ _)
        have y0 : W7.cell? ⟨wr.heap.size, 0, none⟩ = some (.int .i64 S) := by simp [World.cell?, hq7]
        have y1 : W7.cell? ⟨wr.heap.size, 1, none⟩ = some (.int .i64 Q) := by simp [World.cell?, hq7]
        have y2 : wr.heap.size < W7.heap.size := (Array.getElem?_eq_some_iff.1 hq7).1
        clear hJ3 hk3 hyy hR hq7
        clear y0 y1 y2
        gi_wp2
        go_roundw
        case measure => simp [intOf]; omega
        case rel => exact ⟨p + 1, by omega, by go_num, Lib.hid (by rw [HJS.out]; have := H7.out.1; simpa [List.append_assoc] using this)⟩
    · obtain rfl : p = (kPorts c.k).toNat := by omega
      have hpe : (((kPorts c.k).toNat : Nat) : Int) = kPorts c.k := by omega
      have hpi : ¬ (((kPorts c.k).toNat : Nat) : Int) < kPorts c.k := by omega
      have x0 := (boxS_heap HS.out.box).cells.1
      have l0 := (boxS_heap HS.out.box).1
      gi_wp2_with fail
      refine ⟨trivial, (callsIn_wide.2 (ways_any c.k HK.out.1.1 HK.out.1.2 _ (HK.out.2.kept HS.out.old))).mono ?_⟩
      rintro e W4 ⟨rfl, b4⟩
      have H4 := Lib.hid (HS.out.below CT.out b4)
      clear b4 HS x0 l0
      gi_wp2_with fail
      gi_loopw [58] (fun cc wv => ∃ q : Nat, q ≤ (kMany c.k).toNat ∧ cc = .int .i64 q ∧ Hid (SecAt J A E m w0 W W.heap.size c (pre ++ (([(c.k, 2)] ++ jsF c (kPorts c.k).toNat) ++ csF c q)) wv)) (fun cc _ => 4 - (intOf cc).toNat)
      case atStart => exact ⟨0, by omega, rfl, by simpa [csF] using H4⟩
      case round =>
        obtain ⟨q, hq, rfl, HS⟩ := hrel
        clear H4
        by_cases hlt2 : q < (kMany c.k).toNat
        · have hqi : (q : Int) < kMany c.k := by omega
          have hq2 : (q : Int) < 2 := by omega
          have hq2n : q < 2 := by omega
          have u0 := (boxS_heap HS.out.box).classes q hq2n
          have l0 := (boxS_heap HS.out.box).1
          have HQ := Lib.hid (show (pre ++ (([(c.k, 2)] ++ jsF c (kPorts c.k).toNat) ++ csF c q)) ++ [(c.C q, 2)] <+: xs by
            rw [List.append_assoc]
            exact (pre_add (secF_ways hlt2)).trans HP.out)
          have HJS := Lib.hid (show csF c (q + 1) = csF c q ++ [(c.C q, 2)] from rfl)
          generalize c.C q = S at u0 HQ HJS
          have HV := HS
          obtain ⟨fn, tmps, assign, body, hyy, hR⟩ := CT.out.yield _ (S, 2) _ HV.out.j (HQ.out)
          unfold fV at hyy
          dsimp only at hyy
          gi_wp2
          refine hR.mono ?_
          rintro e W5 ⟨rfl, hJ3, hk3⟩
          have H5 := Lib.hid (HV.out.round CT.out hns hJ3 hk3)
          clear hJ3 hk3 hyy hR
          gi_wp2
          go_roundw
          case measure => simp [intOf]; omega
          case rel => exact ⟨q + 1, by omega, by go_num, Lib.hid (by rw [HJS.out]; have := H5.out; simpa [List.append_assoc] using this)⟩
        · obtain rfl : q = (kMany c.k).toNat := by omega
          have hqi : ¬ (((kMany c.k).toNat : Nat) : Int) < kMany c.k := by omega
          gi_wp2
          go_ret
          exact ⟨rfl, HS.out.j, HS.out.keep⟩
end Go.Proofs.YtpnnbihofoomeaaDoor

/-
  plan.fields: the closure that tells a few numbers.
-/
namespace Go.Proofs.YtpnnbihofoomeaaDoor
open Go.RowKit Go.Shelf
attribute [local go_sem] Oper.semAt_some

structure AllAt (J : List Fld → World → Prop) (A : Nat → Prop) (E : TypeId → Prop) (m l : Nat) (W : World) (By fb : Nat) (fs s : List Fld) (V : World) : Prop where
  j : J s V
  y : V.heap[By]? = some (.cells #[.func (.yield l) #[] #[]] 109 (0, 0))
  f : V.heap[fb]? = some (.cells (fs.flatMap fEnc).toArray 59 (0, 0))
  keep : KeepsE A E m W V
section
variable {l : Nat} {xs : List Fld} {J : List Fld → World → Prop} {A : Nat → Prop} {E : TypeId → Prop} {m n0 : Nat} {w0 W : World} {By fb : Nat} {fs s s' : List Fld} {V V' : World}
theorem AllAt.below (hc : ItCtx l xs J A E m n0 w0) (h : AllAt J A E m l W By fb fs s V) (hb : Below V.heap.size V V') : AllAt J A E m l W By fb fs s V' :=
  ⟨hc.alloc h.j hb, (hb.block _ (Array.getElem?_eq_some_iff.1 h.y).1).trans h.y, (hb.block _ (Array.getElem?_eq_some_iff.1 h.f).1).trans h.f, h.keep.trans (.of_below hb)⟩
theorem AllAt.round (hc : ItCtx l xs J A E m n0 w0) (h : AllAt J A E m l W By fb fs s V) (hy : n0 ≤ By) (hf : n0 ≤ fb) (hj : J s' V') (hk : KeepsE A E m V V') : AllAt J A E m l W By fb fs s' V' :=
  ⟨hj, hc.own hk h.y hy (by decide), hc.own hk h.f hf (by decide), h.keep.trans hk⟩
end

set_option maxRecDepth 100000 in
set_option maxHeartbeats 8000000 in
theorem all_in {l : Nat} {xs : List Fld} {J : List Fld → World → Prop} {A : Nat → Prop} {E : TypeId → Prop} {m n0 : Nat} {w0 : World} (hc : ItCtx l xs J A E m n0 w0) (pre fs : List Fld) (hpre : pre ++ fs <+: xs) (W : World) (By fb n cap : Nat) (hn : n = fs.length) (hl : fs.length ≤ 100)
    (hy : W.heap[By]? = some (.cells #[.func (.yield l) #[] #[]] 109 (0, 0))) (hby : n0 ≤ By) (hf : W.heap[fb]? = some (.cells (fs.flatMap fEnc).toArray 59 (0, 0))) (hfb : n0 ≤ fb) (hJ : J pre W) :
    Calls Tryd.prog 58 #[.slice (some ⟨fb, 0, none⟩) n cap, .pointer (some ⟨By, 0, none⟩)] W fun e W' => e = .returned (.bool true) ∧ J (pre ++ fs) W' ∧ KeepsE A E m W W' := by
  refine (callsIn_wide (n := 4)).1 ?_
  have CT := Lib.hid hc
  have HP := Lib.hid hpre
  have H0 := Lib.hid (⟨hJ, hy, hf, KeepsE.refl _ _ _ _⟩ : AllAt J A E m l W By fb fs pre W)
  clear hc hpre hJ hy hf
  refine callsIn_of_wp Tryd.func58 rfl trivial ?_ rfl
  simp only [Tryd.ntmps58, List.size_toArray, List.length_cons, List.length_nil, Nat.reduceAdd, Nat.reduceSub, Array.replicate_succ, Array.replicate_zero, List.push_toArray, List.append_toArray, List.nil_append, List.cons_append]
  have HN := Lib.hid hn
  have hn1 : n ≤ 100 := by omega
  clear hn hl
  gi_wp2_with fail
  gi_loopw [8] (fun cc wv => ∃ k : Nat, k ≤ n ∧ cc = .int .i64 k ∧ Hid (AllAt J A E m l W By fb fs (pre ++ fs.take k) wv)) (fun cc _ => n - (intOf cc).toNat)
  case atStart => exact ⟨0, by omega, rfl, by simpa using H0⟩
  case round =>
    obtain ⟨k, hk, rfl, HS⟩ := hrel
    clear H0
    by_cases hlt : k < n
    · have hki : (k : Int) < (n : Int) := by omega
      obtain ⟨x, hx⟩ : ∃ x, fs[k]? = some x := ⟨_, List.getElem?_eq_getElem (by have := HN.out; omega)⟩
      have hfl : fb < wr.heap.size := (Array.getElem?_eq_some_iff.1 HS.out.f).1
      have hyl : By < wr.heap.size := (Array.getElem?_eq_some_iff.1 HS.out.y).1
      have e0 : wr.cell? ⟨fb, k * 2, none⟩ = some (.int .i64 x.1) := by
        have h : (fs.flatMap fEnc)[k * 2]? = some (.int .i64 x.1) := by
          rw [flat_get (k := 2) (fun _ => rfl) (by decide), Nat.mul_div_cancel _ (by decide), hx, Nat.mul_mod_left]
          rfl
        simp [World.cell?, HS.out.f, h]
      have e1 : wr.cell? ⟨fb, k * 2 + 1, none⟩ = some (.int .i64 x.2) := by
        have h : (fs.flatMap fEnc)[k * 2 + 1]? = some (.int .i64 x.2) := by
          rw [flat_get (k := 2) (fun _ => rfl) (by decide), show (k * 2 + 1) / 2 = k by omega, hx, show (k * 2 + 1) % 2 = 1 by omega]
          rfl
        simp [World.cell?, HS.out.f, h]
      have e2 : wr.cell? ⟨By, 0, none⟩ = some (.func (.yield l) #[] #[]) := by simp [World.cell?, HS.out.y]
      have HX := Lib.hid hx
      have HQ := Lib.hid (show (pre ++ fs.take k) ++ [x] <+: xs by
        rw [List.append_assoc]
        exact (pre_add (take_pre hx)).trans HP.out)
      obtain ⟨x1, x2⟩ := x
      dsimp only at e0 e1
      obtain ⟨V, hV⟩ : ∃ V, V = wr.alloc (.cells #[.int .i64 x1, .int .i64 x2] 59) := ⟨_, rfl⟩
      have hVb : Below wr.heap.size wr V := by rw [hV]; exact bself
      have HV := Lib.hid (HS.out.below CT.out hVb)
      obtain ⟨fn, tmps, assign, body, hyy, hR⟩ := CT.out.yield _ (x1, x2) V HV.out.j HQ.out
      unfold fV at hyy
      dsimp only at hyy
      clear hx HS hVb
      subst hV
      gi_wp2
      refine hR.mono ?_
      rintro e W5 ⟨rfl, hJ3, hk3⟩
      have H5 := Lib.hid (HV.out.round CT.out hby hfb hJ3 hk3)
      clear hJ3 hk3 hyy hR
      gi_wp2
      go_roundw
      case measure => simp [intOf]; omega
      case rel => exact ⟨k + 1, by omega, by go_num, Lib.hid (by rw [take_next HX.out, ← List.append_assoc]; exact H5.out)⟩
    · obtain rfl : k = n := by omega
      have ht : fs.take k = fs := List.take_of_length_le (by have := HN.out; omega)
      rw [ht] at HS
      gi_wp2
      go_ret
      exact ⟨rfl, HS.out.j, HS.out.keep⟩
end Go.Proofs.YtpnnbihofoomeaaDoor

/-
  layout.Own.
-/
namespace Go.Proofs.YtpnnbihofoomeaaDoor
open Go.RowKit Go.Shelf

theorem ownsRow_slice {B e size n : Nat} {W : World} {sv : Value} {xs : List Value} (h : W.ownsRow B e size sv n xs) : ∃ A c, sv = .slice A n c := by
  rcases h.2 with ⟨rfl, rfl⟩ | ⟨g', cap, cur, rfl, _⟩
  · exact ⟨_, _, rfl⟩
  · exact ⟨_, _, rfl⟩
/-- A layout of few of each. -/
def Few (L : Lay) : Prop := L.secs.length ≤ 1000 ∧ L.sigs.length ≤ 1000 ∧ L.exits.length ≤ 1000 ∧ L.flanks.length ≤ 1000 ∧ ∀ x ∈ L.exits, x.over.length ≤ 1000
/-- A copy comes back. -/
def CopyV {α : Type} (e : TypeId) (k : Nat) (enc : α → List Value) (xs : List α) (w0 w : World) (en : Ending) (w' : World) : Prop :=
  ∃ A c, en = .returned (.slice A xs.length c) ∧ Hid (w'.ownsRow w.heap.size e k (.slice A xs.length c) xs.length (xs.flatMap enc)) ∧ Hid (Below w.heap.size w w') ∧ Hid (Below w0.heap.size w0 w')
theorem copyV {α : Type} {e : TypeId} {k : Nat} {enc : α → List Value} {xs : List α} {w0 w : World} {en : Ending} {w' : World} (h0 : Below w0.heap.size w0 w) (h : CloneOf e k enc xs w en w') : CopyV e k enc xs w0 w en w' := by
  obtain ⟨v, he, ho, hb⟩ := h
  obtain ⟨A, c, rfl⟩ := ownsRow_slice ho
  exact ⟨A, c, he, Lib.hid ho, Lib.hid hb, Lib.hid (bchain h0 hb)⟩

/-- As At, the block between z and B. -/
def AtB {α : Type} (z B : Nat) (W : World) (k : Nat) (enc : α → List Value) (A : Option Addr) (xs : List α) : Prop :=
  xs = [] ∨ ∃ b off, A = some ⟨b, off, none⟩ ∧ (z < b ∧ b < B) ∧ RowAt' W k enc b off xs
theorem AtB.at {α : Type} {z B : Nat} {W : World} {k : Nat} {enc : α → List Value} {A : Option Addr} {xs : List α} (h : AtB z B W k enc A xs) : At W k enc A xs := by
  rcases h with h | ⟨b, off, e, _, h⟩
  · exact .inl h
  · exact .inr ⟨b, off, e, h⟩
theorem AtB.below {α : Type} {z B : Nat} {W W' : World} {k : Nat} {enc : α → List Value} {A : Option Addr} {xs : List α} (h : AtB z B W k enc A xs) (hb : Below B W W') : AtB z B W' k enc A xs := by
  rcases h with h | ⟨b, off, e, h1, h2, h3⟩
  · exact .inl h
  · exact .inr ⟨b, off, e, h1, Nat.lt_of_lt_of_le h2 hb.size, fun j x hx i v hv => (hb.cell (p := ⟨b, off + j * k + i, none⟩) h1.2).trans (h3 j x hx i v hv)⟩
/-- A slice that holds xs, in other blocks than g and z. -/
def SlN {α : Type} (g z : Nat) (W : World) (k : Nat) (enc : α → List Value) (v : Value) (xs : List α) : Prop :=
  ∃ A cap, v = .slice A xs.length cap ∧ xs.length ≤ cap ∧ cap ≤ maxLen ∧ (xs = [] ∨ ∃ b off, A = some ⟨b, off, none⟩ ∧ b ≠ g ∧ b ≠ z ∧ RowAt' W k enc b off xs)
theorem SlN.sl {α : Type} {g z : Nat} {W : World} {k : Nat} {enc : α → List Value} {v : Value} {xs : List α} (h : SlN g z W k enc v xs) : Sl W k enc v xs := by
  obtain ⟨A, c, e, h1, h2, h3⟩ := h
  refine ⟨A, c, e, h1, h2, ?_⟩
  rcases h3 with h3 | ⟨b, off, e, _, _, h⟩
  · exact .inl h3
  · exact .inr ⟨b, off, e, h⟩
theorem SlN.below {α : Type} {g z : Nat} {W W' : World} {k : Nat} {enc : α → List Value} {v : Value} {xs : List α} (h : SlN g z W k enc v xs) (hb : Below W.heap.size W W') : SlN g z W' k enc v xs := by
  obtain ⟨A, c, e, h1, h2, h3⟩ := h
  refine ⟨A, c, e, h1, h2, ?_⟩
  rcases h3 with h3 | ⟨b, off, e, hn, hz, h⟩
  · exact .inl h3
  · exact .inr ⟨b, off, e, hn, hz, h.below hb⟩
theorem RowAt'.set {α : Type} {g o : Nat} {u : Value} {W : World} {k : Nat} {enc : α → List Value} {b off : Nat} {xs : List α} (h : RowAt' W k enc b off xs) (hn : b ≠ g) : RowAt' (W.setCell ⟨g, o, none⟩ u) k enc b off xs :=
  ⟨by simpa [World.setCell] using h.1, fun j x hx i v hv => (World.cell?_of_block (w := W) (a := ⟨b, off + j * k + i, none⟩) (Below.heap_setCell _ _ _ _ hn)).trans (h.2 j x hx i v hv)⟩
theorem SlN.set {α : Type} {g z o : Nat} {u : Value} {W : World} {k : Nat} {enc : α → List Value} {v : Value} {xs : List α} (h : SlN g z W k enc v xs) : SlN g z (W.setCell ⟨g, o, none⟩ u) k enc v xs := by
  obtain ⟨A, c, e, h1, h2, h3⟩ := h
  refine ⟨A, c, e, h1, h2, ?_⟩
  rcases h3 with h3 | ⟨b, off, e, hn, hz, h⟩
  · exact .inl h3
  · exact .inr ⟨b, off, e, hn, hz, h.set hn⟩
theorem SlN.setz {α : Type} {g z o : Nat} {u : Value} {W : World} {k : Nat} {enc : α → List Value} {v : Value} {xs : List α} (h : SlN g z W k enc v xs) : SlN g z (W.setCell ⟨z, o, none⟩ u) k enc v xs := by
  obtain ⟨A, c, e, h1, h2, h3⟩ := h
  refine ⟨A, c, e, h1, h2, ?_⟩
  rcases h3 with h3 | ⟨b, off, e, hn, hz, h⟩
  · exact .inl h3
  · exact .inr ⟨b, off, e, hn, hz, h.set hz⟩
theorem AtB.setz {α : Type} {z B o : Nat} {u : Value} {W : World} {k : Nat} {enc : α → List Value} {A : Option Addr} {xs : List α} (h : AtB z B W k enc A xs) : AtB z B (W.setCell ⟨z, o, none⟩ u) k enc A xs := by
  rcases h with h | ⟨b, off, e, h1, h2⟩
  · exact .inl h
  · exact .inr ⟨b, off, e, h1, h2.set (by omega)⟩
/-- The exits' row, Own's own. -/
def ExOwn (z B : Nat) (W : World) (A : Option Addr) (xs : List Ext') : Prop :=
  xs = [] ∨ ∃ g es, A = some ⟨g, 0, none⟩ ∧ B ≤ g ∧ es.map (·.1) = xs ∧ RowAt' W 3 Ext'.enc g 0 es ∧ (∀ e ∈ es, SlN g z W 3 Stp.enc e.2 e.1.over) ∧ (∀ o, W.frozen? ⟨g, o, none⟩ = false)
theorem ExOwn.below {z B : Nat} {W W' : World} {A : Option Addr} {xs : List Ext'} (h : ExOwn z B W A xs) (hb : Below W.heap.size W W') : ExOwn z B W' A xs := by
  rcases h with h | ⟨g, es, e, h1, h2, h3, h4, h5⟩
  · exact .inl h
  · exact .inr ⟨g, es, e, h1, h2, h3.below hb, fun y hy => (h4 y hy).below hb, fun o => (hb.frozen (p := ⟨g, o, none⟩) h3.1).trans (h5 o)⟩
theorem ExOwn.at {z B : Nat} {W : World} {A : Option Addr} {xs : List Ext'} (h : ExOwn z B W A xs) : ExAt W A xs := by
  rcases h with h | ⟨g, es, e, h1, h2, h3, h4, h5⟩
  · subst h
    exact ⟨[], rfl, .inl rfl, fun e he => by cases he⟩
  · exact ⟨es, h2, .inr ⟨_, _, e, h3⟩, fun y hy => (h4 y hy).sl⟩
def zeroLay : List Value := [.slice none 0 0, .slice none 0 0, .slice none 0 0, .slice none 0 0, .int .i64 0, .int .i64 0, .int .i64 0, .int .i64 0, .int .i64 0, .int .i64 0, .int .i64 0]
theorem ExOwn.setz {z B o : Nat} {u : Value} {W : World} {A : Option Addr} {xs : List Ext'} (hz : z < B) (h : ExOwn z B W A xs) : ExOwn z B (W.setCell ⟨z, o, none⟩ u) A xs := by
  rcases h with h | ⟨g, es, e, h1, h2, h3, h4, h5⟩
  · exact .inl h
  · exact .inr ⟨g, es, e, h1, h2, h3.set (by omega), fun y hy => (h4 y hy).setz, fun p => by rw [World.frozen?_setCell]; exact h5 p⟩
/-- What Own holds behind its first statement. -/
structure OwnAt (n0 B : Nat) (L : Lay) (q : Where) (W : World) : Prop where
  lt : n0 + 1 < B
  le : B ≤ W.heap.size
  secs : AtB (n0 + 1) B W 11 Sec.enc q.a0 L.secs
  sigs : AtB (n0 + 1) B W 2 Prt.enc q.a1 L.sigs
  flanks : AtB (n0 + 1) B W 4 Flk.enc q.a3 L.flanks
  l0 : L.secs.length ≤ q.c0 ∧ q.c0 ≤ 9223372036854775807
  l1 : L.sigs.length ≤ q.c1 ∧ q.c1 ≤ 9223372036854775807
  l2 : L.exits.length ≤ q.c2 ∧ q.c2 ≤ 9223372036854775807
  l3 : L.flanks.length ≤ q.c3 ∧ q.c3 ≤ 9223372036854775807
  bx : ∀ (i : Nat) (v : Value), (L.cells q)[i]? = some v → W.cell? ⟨n0, i, none⟩ = some v
  zr : ∀ o, W.frozen? ⟨n0 + 1, o, none⟩ = false
  zc : ∀ (i : Nat) (v : Value), zeroLay[i]? = some v → W.cell? ⟨n0 + 1, i, none⟩ = some v

theorem row_set {W : World} {g n : Nat} {u : Value} {y : Ext' × Value} {es : List (Ext' × Value)} (h : RowAt' W 3 Ext'.enc g 0 es) (hy : es[n]? = some y) : RowAt' (W.setCell ⟨g, n * 3 + 2, none⟩ u) 3 Ext'.enc g 0 (es.set n (y.1, u)) := by
  have hn := (List.getElem?_eq_some_iff.1 hy).1
  have hz := h.2 n y hy 2 _ rfl
  rw [Nat.zero_add] at hz
  refine ⟨by simpa [World.setCell] using h.1, fun j x hx i v hv => ?_⟩
  have hi : i < 3 := (List.getElem?_eq_some_iff.1 hv).1
  by_cases hj : j = n
  · subst hj
    rw [List.getElem?_set_self hn] at hx
    obtain rfl := Option.some.inj hx
    have h3 : i = 0 ∨ i = 1 ∨ i = 2 := by omega
    rw [Nat.zero_add]
    rcases h3 with rfl | rfl | rfl
    · rw [World.cell?_setCell_other _ _ _ _ (by simp)]
      have := h.2 j y hy 0 v hv
      rwa [Nat.zero_add] at this
    · rw [World.cell?_setCell_other _ _ _ _ (by simp)]
      have := h.2 j y hy 1 v hv
      rwa [Nat.zero_add] at this
    · rw [World.cell?_setCell_same _ _ _ hz]
      exact hv
  · rw [List.getElem?_set_ne (Ne.symm hj)] at hx
    rw [World.cell?_setCell_other _ _ _ _ (by simp <;> omega)]
    exact h.2 j x hx i v hv
theorem slN_of_row {z : Nat} {α : Type} {enc : α → List Value} {k : Nat} (hk : ∀ x, (enc x).length = k) (h0 : 0 < k) {W : World} {B e g : Nat} {v : Value} {xs : List α} (h : W.ownsRow B e k v xs.length (xs.flatMap enc)) (hg : g < B) (hz : z < B) : SlN g z W k enc v xs := by
  have hs := at_of_row hk h0 h
  obtain ⟨A, c, e1, h1, h2, h3⟩ := hs
  refine ⟨A, c, e1, h1, h2, ?_⟩
  rcases h3 with h3 | ⟨b, off, e2, hr⟩
  · exact .inl h3
  · suffices hbB : B ≤ b from .inr ⟨b, off, e2, by omega, by omega, hr⟩
    subst e2 e1
    rcases h.2 with ⟨h4, _⟩ | ⟨g', cap, cur, h4, h5, _⟩
    · cases h4
    · cases h4
      omega
theorem exOwn_set {W W1 : World} {z B g n d : Nat} {A : Option Addr} {y : Ext' × Value} {es : List (Ext' × Value)} {xs : List Ext'} {b e : Nat} (hgB : B ≤ g) (hes : es.map (·.1) = xs) (hrow : RowAt' W 3 Ext'.enc g 0 es) (hov : ∀ t ∈ es, SlN g z W 3 Stp.enc t.2 t.1.over) (hfz : ∀ o, W.frozen? ⟨g, o, none⟩ = false)
    (hy : es[n]? = some y) (q : Below W.heap.size W W1) (ho : W1.ownsRow b e 3 (.slice A y.1.over.length d) y.1.over.length (y.1.over.flatMap Stp.enc)) (hb : g < b) (hzb : z < b) : ExOwn z B (W1.setCell ⟨g, n * 3 + 2, none⟩ (.slice A y.1.over.length d)) (some ⟨g, 0, none⟩) xs := by
  have hn := (List.getElem?_eq_some_iff.1 hy).1
  refine .inr ⟨g, es.set n (y.1, .slice A y.1.over.length d), rfl, hgB, ?_, row_set (hrow.below q) hy, fun t hz => ?_, fun o => ?_⟩
  · rw [← hes, List.map_set]
    apply List.ext_getElem?
    intro j
    by_cases hj : j = n
    · subst hj
      rw [List.getElem?_set_self (by simpa using hn), List.getElem?_map, hy]
      rfl
    · rw [List.getElem?_set_ne (Ne.symm hj)]
  · rcases List.mem_or_eq_of_mem_set hz with hz | rfl
    · exact ((hov t hz).below q).set
    · exact (slN_of_row (enc := Stp.enc) (k := 3) (fun _ => rfl) (by decide) ho hb hzb).set
  · rw [World.frozen?_setCell]
    exact (q.frozen (p := ⟨g, o, none⟩) hrow.1).trans (hfz o)

theorem row_own {α : Type} {enc : α → List Value} {k : Nat} (hk : ∀ x, (enc x).length = k) (h0 : 0 < k) {W : World} {B e : Nat} {A : Option Addr} {c : Nat} {xs : List α} (h : W.ownsRow B e k (.slice A xs.length c) xs.length (xs.flatMap enc)) :
    (xs = [] ∨ ∃ g, A = some ⟨g, 0, none⟩ ∧ B ≤ g ∧ RowAt' W k enc g 0 xs ∧ ∀ o, W.frozen? ⟨g, o, none⟩ = false) ∧ xs.length ≤ c ∧ c ≤ 9223372036854775807 := by
  obtain ⟨A', c', e1, h1, h2, h3⟩ := at_of_row hk h0 h
  cases e1
  refine ⟨?_, h1, by unfold maxLen at h2; omega⟩
  rcases h3 with h3 | ⟨b, off, rfl, hr⟩
  · exact .inl h3
  · rcases h.2 with ⟨h4, _⟩ | ⟨g', cap, cur, h4, h5, _⟩
    · cases h4
    · cases h4
      exact .inr ⟨_, rfl, h5, hr, fun o => h.frozenAt o⟩
theorem atB_of {α : Type} {enc : α → List Value} {k z B B' : Nat} {W W' : World} {A : Option Addr} {xs : List α} (h : xs = [] ∨ ∃ g, A = some ⟨g, 0, none⟩ ∧ B ≤ g ∧ RowAt' W k enc g 0 xs ∧ ∀ o, W.frozen? ⟨g, o, none⟩ = false)
    (hz : z < B) (hb : Below W.heap.size W W') (hB : W.heap.size ≤ B') : AtB z B' W' k enc A xs := by
  rcases h with h | ⟨g, e, h1, h2, _⟩
  · exact .inl h
  · exact .inr ⟨g, 0, e, ⟨by omega, Nat.lt_of_lt_of_le h2.1 hB⟩, h2.below hb⟩
theorem AtB.setn {α : Type} {z B g o : Nat} {u : Value} {W : World} {k : Nat} {enc : α → List Value} {A : Option Addr} {xs : List α} (hg : g ≤ z) (h : AtB z B W k enc A xs) : AtB z B (W.setCell ⟨g, o, none⟩ u) k enc A xs := by
  rcases h with h | ⟨b, off, e, h1, h2⟩
  · exact .inl h
  · exact .inr ⟨b, off, e, h1, h2.set (by omega)⟩
/-- Own's four rows are copied, and its box is filled. -/
theorem own_join {L : Lay} {p : Where} {w X W1 W2 W3 W4 : World} {es : List (Ext' × Value)} {A1 A2 A3 A4 : Option Addr} {d1 d2 d3 d4 e1 e2 e3 e4 : Nat} (hX : Below w.heap.size w X) (hs : X.heap.size = w.heap.size + 2)
    (cX : ∀ (i : Nat) (v : Value), (L.cells p)[i]? = some v → X.cell? ⟨w.heap.size, i, none⟩ = some v) (zX : ∀ (i : Nat) (v : Value), zeroLay[i]? = some v → X.cell? ⟨w.heap.size + 1, i, none⟩ = some v) (fX : ∀ o, X.frozen? ⟨w.heap.size + 1, o, none⟩ = false)
    (hes : es.map (·.1) = L.exits) (hov : ∀ e ∈ es, Sl w 3 Stp.enc e.2 e.1.over) (hlen : es.length = L.exits.length)
    (o1 : W1.ownsRow X.heap.size e1 11 (.slice A1 L.secs.length d1) L.secs.length (L.secs.flatMap Sec.enc)) (o2 : W2.ownsRow W1.heap.size e2 2 (.slice A2 L.sigs.length d2) L.sigs.length (L.sigs.flatMap Prt.enc))
    (o3 : W3.ownsRow W2.heap.size e3 4 (.slice A3 L.flanks.length d3) L.flanks.length (L.flanks.flatMap Flk.enc)) (o4 : W4.ownsRow W3.heap.size e4 3 (.slice A4 es.length d4) es.length (es.flatMap Ext'.enc))
    (q1 : Below X.heap.size X W1) (r2 : Below W1.heap.size W1 W2) (r3 : Below W2.heap.size W2 W3) (r4 : Below W3.heap.size W3 W4) :
    ∃ q B, Hid (OwnAt w.heap.size B L q ((((W4.setCell ⟨w.heap.size, 0, none⟩ (.slice A1 L.secs.length d1)).setCell ⟨w.heap.size, 1, none⟩ (.slice A2 L.sigs.length d2)).setCell ⟨w.heap.size, 3, none⟩ (.slice A3 L.flanks.length d3)).setCell ⟨w.heap.size, 2, none⟩ (.slice A4 es.length d4))) ∧
      Hid (ExOwn (w.heap.size + 1) B ((((W4.setCell ⟨w.heap.size, 0, none⟩ (.slice A1 L.secs.length d1)).setCell ⟨w.heap.size, 1, none⟩ (.slice A2 L.sigs.length d2)).setCell ⟨w.heap.size, 3, none⟩ (.slice A3 L.flanks.length d3)).setCell ⟨w.heap.size, 2, none⟩ (.slice A4 es.length d4)) q.a2 L.exits) ∧
      Hid (Below w.heap.size w ((((W4.setCell ⟨w.heap.size, 0, none⟩ (.slice A1 L.secs.length d1)).setCell ⟨w.heap.size, 1, none⟩ (.slice A2 L.sigs.length d2)).setCell ⟨w.heap.size, 3, none⟩ (.slice A3 L.flanks.length d3)).setCell ⟨w.heap.size, 2, none⟩ (.slice A4 es.length d4))) := by
  have q4 : Below X.heap.size X W4 := bchain (bchain (bchain q1 r2) r3) r4
  have z1 := q1.size
  have z2 := r2.size
  have z3 := r3.size
  have z4 := r4.size
  obtain ⟨s1, m1⟩ := row_own (enc := Sec.enc) (k := 11) (fun _ => rfl) (by decide) o1
  obtain ⟨s2, m2⟩ := row_own (enc := Prt.enc) (k := 2) (fun _ => rfl) (by decide) o2
  obtain ⟨s3, m3⟩ := row_own (enc := Flk.enc) (k := 4) (fun _ => rfl) (by decide) o3
  obtain ⟨s4, m4⟩ := row_own (enc := Ext'.enc) (k := 3) (fun _ => rfl) (by decide) o4
  have t1 := atB_of (z := w.heap.size + 1) (B' := W3.heap.size) s1 (by omega) (bchain (bchain r2 r3) r4) (by omega)
  have t2 := atB_of (z := w.heap.size + 1) (B' := W3.heap.size) s2 (by omega) (bchain r3 r4) (by omega)
  have t3 := atB_of (z := w.heap.size + 1) (B' := W3.heap.size) s3 (by omega) r4 (by omega)
  have h4 : ∀ (i : Nat) (v : Value), (L.cells p)[i]? = some v → W4.cell? ⟨w.heap.size, i, none⟩ = some v := fun i v h => (q4.cell (p := ⟨w.heap.size, i, none⟩) (by dsimp only; omega)).trans (cX i v h)
  have k0 := h4 0 _ rfl
  have k1 : (W4.setCell ⟨w.heap.size, 0, none⟩ (.slice A1 L.secs.length d1)).cell? ⟨w.heap.size, 1, none⟩ = _ := (World.cell?_setCell_other _ _ _ _ (by simp)).trans (h4 1 _ rfl)
  have k3 : ((W4.setCell ⟨w.heap.size, 0, none⟩ (.slice A1 L.secs.length d1)).setCell ⟨w.heap.size, 1, none⟩ (.slice A2 L.sigs.length d2)).cell? ⟨w.heap.size, 3, none⟩ = _ := (World.cell?_setCell_other _ _ _ _ (by simp)).trans ((World.cell?_setCell_other _ _ _ _ (by simp)).trans (h4 3 _ rfl))
  have k2 : (((W4.setCell ⟨w.heap.size, 0, none⟩ (.slice A1 L.secs.length d1)).setCell ⟨w.heap.size, 1, none⟩ (.slice A2 L.sigs.length d2)).setCell ⟨w.heap.size, 3, none⟩ (.slice A3 L.flanks.length d3)).cell? ⟨w.heap.size, 2, none⟩ = _ := (World.cell?_setCell_other _ _ _ _ (by simp)).trans ((World.cell?_setCell_other _ _ _ _ (by simp)).trans ((World.cell?_setCell_other _ _ _ _ (by simp)).trans (h4 2 _ rfl)))
  have hV : Below w.heap.size w ((((W4.setCell ⟨w.heap.size, 0, none⟩ (.slice A1 L.secs.length d1)).setCell ⟨w.heap.size, 1, none⟩ (.slice A2 L.sigs.length d2)).setCell ⟨w.heap.size, 3, none⟩ (.slice A3 L.flanks.length d3)).setCell ⟨w.heap.size, 2, none⟩ (.slice A4 es.length d4)) :=
    ((((bchain hX q4).setCell (p := ⟨w.heap.size, 0, none⟩) (Nat.le_refl _) _).setCell (p := ⟨w.heap.size, 1, none⟩) (Nat.le_refl _) _).setCell (p := ⟨w.heap.size, 3, none⟩) (Nat.le_refl _) _).setCell (p := ⟨w.heap.size, 2, none⟩) (Nat.le_refl _) _
  refine ⟨⟨A1, A2, A4, A3, d1, d2, d4, d3⟩, W3.heap.size, Lib.hid ⟨by omega, by simp only [World.setCell, Array.size_modify]; exact z4, ?_, ?_, ?_, m1, m2, by rw [hlen] at m4; exact m4, m3, ?_, ?_, ?_⟩, Lib.hid ?_, Lib.hid hV⟩
  · exact (((t1.setn (by omega)).setn (by omega)).setn (by omega)).setn (by omega)
  · exact (((t2.setn (by omega)).setn (by omega)).setn (by omega)).setn (by omega)
  · exact (((t3.setn (by omega)).setn (by omega)).setn (by omega)).setn (by omega)
  · intro i v h
    obtain rfl | rfl | rfl | rfl | hi : i = 0 ∨ i = 1 ∨ i = 2 ∨ i = 3 ∨ 4 ≤ i := by omega
    · rw [World.cell?_setCell_other _ _ _ _ (by simp), World.cell?_setCell_other _ _ _ _ (by simp), World.cell?_setCell_other _ _ _ _ (by simp), World.cell?_setCell_same _ _ _ k0]
      exact h
    · rw [World.cell?_setCell_other _ _ _ _ (by simp), World.cell?_setCell_other _ _ _ _ (by simp), World.cell?_setCell_same _ _ _ k1]
      exact h
    · rw [World.cell?_setCell_same _ _ _ k2, hlen]
      exact h
    · rw [World.cell?_setCell_other _ _ _ _ (by simp), World.cell?_setCell_same _ _ _ k3]
      exact h
    · obtain ⟨j, rfl⟩ : ∃ j, i = j + 4 := ⟨i - 4, by omega⟩
      rw [World.cell?_setCell_other _ _ _ _ (by simp), World.cell?_setCell_other _ _ _ _ (by simp), World.cell?_setCell_other _ _ _ _ (by simp), World.cell?_setCell_other _ _ _ _ (by simp)]
      exact h4 _ v (by simpa [Lay.cells] using h)
  · intro o
    rw [World.frozen?_setCell, World.frozen?_setCell, World.frozen?_setCell, World.frozen?_setCell]
    exact (q4.frozen (p := ⟨w.heap.size + 1, o, none⟩) (by dsimp only; omega)).trans (fX o)
  · intro i v h
    rw [World.cell?_setCell_far _ _ _ _ (by simp), World.cell?_setCell_far _ _ _ _ (by simp), World.cell?_setCell_far _ _ _ _ (by simp), World.cell?_setCell_far _ _ _ _ (by simp)]
    exact (q4.cell (p := ⟨w.heap.size + 1, i, none⟩) (by dsimp only; omega)).trans (zX i v h)
  · rcases s4 with s4 | ⟨g, rfl, h1, h2, h3⟩
    · subst s4
      exact .inl hes.symm
    · refine .inr ⟨g, es, rfl, h1, hes, (((h2.set (by omega)).set (by omega)).set (by omega)).set (by omega), fun e he => ?_, fun o => ?_⟩
      · obtain ⟨A, c, e1, h5, h6, h7⟩ := hov e he
        refine ⟨A, c, e1, h5, h6, ?_⟩
        rcases h7 with h7 | ⟨b, off, e2, h8⟩
        · exact .inl h7
        · have := h8.1
          exact .inr ⟨b, off, e2, by omega, by omega, h8.below hV⟩
      · rw [World.frozen?_setCell, World.frozen?_setCell, World.frozen?_setCell, World.frozen?_setCell]
        exact h3 o

def OwnOf (L : Lay) (w : World) (e : Ending) (w' : World) : Prop := ∃ p', e = .returned (L.val p') ∧ LayAt w' p' L ∧ Below w.heap.size w w'

end Go.Proofs.YtpnnbihofoomeaaDoor

/-
  plan.fields' iterator: a layout's numbers, one by one.
-/
namespace Go.Proofs.YtpnnbihofoomeaaDoor
open Go.RowKit Go.Shelf
attribute [local go_sem] Oper.semAt_some

def headF (L : Lay) : List Fld := [((L.secs.length : Nat), 5), ((L.sigs.length : Nat), 4), ((L.exits.length : Nat), 4), ((L.flanks.length : Nat), 5)]
def sigF (x : Prt) : List Fld := [(x.s, 5), (x.p, 2)]
def stF (x : Stp) : List Fld := [(x.s, 5), (x.i, 2), (x.o, 2)]
def exhF (x : Ext') : List Fld := [(x.s, 5), (x.p, 2), ((x.over.length : Nat), 2)]
def exF (x : Ext') : List Fld := exhF x ++ x.over.flatMap stF
def flF (x : Flk) : List Fld := [(x.s, 5), (x.way, 1), (x.pt, 5), (x.pos, 1)]
def tmF (t : Int) : List Fld := [(t - 1, 10)]
/-- A layout's numbers. -/
def fieldsL (L : Lay) : List Fld := ((((headF L ++ L.secs.flatMap secF) ++ L.sigs.flatMap sigF) ++ L.exits.flatMap exF) ++ L.flanks.flatMap flF) ++ L.times.flatMap tmF
theorem boxL_heap {W : World} {g : Nat} {L : Lay} {p : Where} (h : W.heap[g]? = some (.cells (L.cells p).toArray 29 (0, 0))) : BoxL W g L p :=
  ⟨(Array.getElem?_eq_some_iff.1 h).1, fun i v e => by simp [World.cell?, h, e]⟩
theorem flat_take {α β : Type} (f : α → List β) {xs : List α} {j : Nat} {x : α} (h : xs[j]? = some x) : (xs.take (j + 1)).flatMap f = (xs.take j).flatMap f ++ f x := by
  rw [take_next h, List.flatMap_append, List.flatMap_cons, List.flatMap_nil, List.append_nil]
theorem flat_pre {α β : Type} (f : α → List β) {xs : List α} {j : Nat} {x : α} (h : xs[j]? = some x) : (xs.take j).flatMap f ++ f x <+: xs.flatMap f := by
  rw [← flat_take f h]
  have e : xs.flatMap f = (xs.take (j + 1)).flatMap f ++ (xs.drop (j + 1)).flatMap f := by rw [← List.flatMap_append, List.take_append_drop]
  rw [e]
  exact List.prefix_append _ _
theorem up0 (L : Lay) : headF L <+: fieldsL L := ((List.prefix_append _ _).trans ((List.prefix_append _ _).trans ((List.prefix_append _ _).trans ((List.prefix_append _ _).trans (List.prefix_append _ _)))))
theorem up1 (L : Lay) : (headF L ++ L.secs.flatMap secF) <+: fieldsL L := ((List.prefix_append _ _).trans ((List.prefix_append _ _).trans ((List.prefix_append _ _).trans (List.prefix_append _ _))))
theorem up2 (L : Lay) : ((headF L ++ L.secs.flatMap secF) ++ L.sigs.flatMap sigF) <+: fieldsL L := ((List.prefix_append _ _).trans ((List.prefix_append _ _).trans (List.prefix_append _ _)))
theorem up3 (L : Lay) : (((headF L ++ L.secs.flatMap secF) ++ L.sigs.flatMap sigF) ++ L.exits.flatMap exF) <+: fieldsL L := ((List.prefix_append _ _).trans (List.prefix_append _ _))
theorem up4 (L : Lay) : ((((headF L ++ L.secs.flatMap secF) ++ L.sigs.flatMap sigF) ++ L.exits.flatMap exF) ++ L.flanks.flatMap flF) <+: fieldsL L := (List.prefix_append _ _)
theorem up5 (L : Lay) : (((((headF L ++ L.secs.flatMap secF) ++ L.sigs.flatMap sigF) ++ L.exits.flatMap exF) ++ L.flanks.flatMap flF) ++ L.times.flatMap tmF) <+: fieldsL L := List.prefix_rfl
theorem fp1 (L : Lay) {i : Nat} {x : Sec} (h : L.secs[i]? = some x) : (headF L ++ (L.secs.take i).flatMap secF) ++ secF x <+: fieldsL L := by
  rw [List.append_assoc]
  exact (pre_add (flat_pre secF h)).trans (up1 L)
theorem fp2 (L : Lay) {i : Nat} {x : Prt} (h : L.sigs[i]? = some x) : ((headF L ++ L.secs.flatMap secF) ++ (L.sigs.take i).flatMap sigF) ++ sigF x <+: fieldsL L := by
  rw [List.append_assoc]
  exact (pre_add (flat_pre sigF h)).trans (up2 L)
theorem fp3 (L : Lay) {i : Nat} {x : Ext'} (h : L.exits[i]? = some x) : (((headF L ++ L.secs.flatMap secF) ++ L.sigs.flatMap sigF) ++ (L.exits.take i).flatMap exF) ++ exF x <+: fieldsL L := by
  rw [List.append_assoc]
  exact (pre_add (flat_pre exF h)).trans (up3 L)
theorem fp4 (L : Lay) {i : Nat} {x : Flk} (h : L.flanks[i]? = some x) : ((((headF L ++ L.secs.flatMap secF) ++ L.sigs.flatMap sigF) ++ L.exits.flatMap exF) ++ (L.flanks.take i).flatMap flF) ++ flF x <+: fieldsL L := by
  rw [List.append_assoc]
  exact (pre_add (flat_pre flF h)).trans (up4 L)
theorem fp5 (L : Lay) {i : Nat} {x : Int} (h : L.times[i]? = some x) : (((((headF L ++ L.secs.flatMap secF) ++ L.sigs.flatMap sigF) ++ L.exits.flatMap exF) ++ L.flanks.flatMap flF) ++ (L.times.take i).flatMap tmF) ++ tmF x <+: fieldsL L := by
  rw [List.append_assoc]
  exact (pre_add (flat_pre tmF h)).trans (up5 L)
/-- What holds between two of the numbers. -/
structure FSt (J : List Fld → World → Prop) (A : Nat → Prop) (E : TypeId → Prop) (m l : Nat) (w0 W : World) (By Bl : Nat) (L : Lay) (P : Where) (s : List Fld) (V : World) : Prop where
  j : J s V
  y : V.heap[By]? = some (.cells #[.func (.yield l) #[] #[]] 109 (0, 0))
  b : V.heap[Bl]? = some (.cells (L.cells P).toArray 29 (0, 0))
  old : Kept w0 V
  keep : KeepsE A E m W V
section
variable {l : Nat} {xs : List Fld} {J : List Fld → World → Prop} {A : Nat → Prop} {E : TypeId → Prop} {m n0 : Nat} {w0 W : World} {By Bl : Nat} {L : Lay} {P : Where} {s s' : List Fld} {V V' : World}
theorem FSt.below (hc : ItCtx l xs J A E m n0 w0) (h : FSt J A E m l w0 W By Bl L P s V) (hb : Below V.heap.size V V') : FSt J A E m l w0 W By Bl L P s V' :=
  ⟨hc.alloc h.j hb, (hb.block _ (Array.getElem?_eq_some_iff.1 h.y).1).trans h.y, (hb.block _ (Array.getElem?_eq_some_iff.1 h.b).1).trans h.b, h.old.trans (.of_below hb), h.keep.trans (.of_below hb)⟩
theorem FSt.round (hc : ItCtx l xs J A E m n0 w0) (h : FSt J A E m l w0 W By Bl L P s V) (hy : n0 ≤ By) (hl : ¬ A Bl) (hj : J s' V') (hk : KeepsE A E m V V') : FSt J A E m l w0 W By Bl L P s' V' :=
  ⟨hj, hc.own hk h.y hy (by decide), hk.same _ _ h.b rfl hl (fun ⟨_, c, e', r, h1, h2⟩ => by cases h1; exact absurd (hc.hE _ h2) (by unfold isU8; decide)), hc.old hk h.old, h.keep.trans hk⟩
theorem FSt.cells (h : FSt J A E m l w0 W By Bl L P s V) : BoxL V Bl L P := ⟨(Array.getElem?_eq_some_iff.1 h.b).1, fun i v e => by simp [World.cell?, h.b, e]⟩
theorem FSt.all (hc : ItCtx l xs J A E m n0 w0) (h : FSt J A E m l w0 W By Bl L P s V) (hy : n0 ≤ By) (hl : ¬ A Bl) (hV : n0 ≤ V.heap.size) (fs : List Fld) (n b : Nat) (hn : n = fs.length) (hb : b = V.heap.size) (hpre : s ++ fs <+: xs) (h100 : n ≤ 100) :
    Calls Tryd.prog 58 #[.slice (some ⟨b, 0, none⟩) n n, .pointer (some ⟨By, 0, none⟩)] (V.alloc (.cells (fs.flatMap fEnc).toArray 59)) fun e W' => e = .returned (.bool true) ∧ FSt J A E m l w0 W By Bl L P (s ++ fs) W' ∧ KeepsE A E m V W' := by
  subst hb
  have hb : Below V.heap.size V (V.alloc (.cells (fs.flatMap fEnc).toArray 59)) := bself
  have h2 := h.below hc hb
  exact (all_in hc s fs hpre _ By V.heap.size n n hn (by omega) h2.y hy (World.alloc_heap_new _ _) hV h2.j).mono fun _ _ ⟨he, hj, hk⟩ => ⟨he, h2.round hc hy hl hj hk, (KeepsE.of_below hb).trans hk⟩
theorem FSt.joined (hc : ItCtx l xs J A E m n0 w0) (h : FSt J A E m l w0 W By Bl L P s V) (hy : n0 ≤ By) (hl : ¬ A Bl) (hV : n0 ≤ V.heap.size) (K0 : Kinds w0) (c : Sec) (hk : 0 ≤ c.k ∧ c.k ≤ 255) (hpre : s ++ secF c <+: xs) :
    Calls Tryd.prog 59 #[.agg c.enc.toArray, .func (.yield l) #[] #[]] V fun e W' => e = .returned (.bool true) ∧ FSt J A E m l w0 W By Bl L P (s ++ secF c) W' :=
  (joined_in c hk hc K0 s hpre V hV h.old h.j).mono fun _ _ ⟨he, hj, hk⟩ => ⟨he, h.round hc hy hl hj hk⟩
theorem FSt.size (h : FSt J A E m l w0 W By Bl L P s V) : W.heap.size ≤ V.heap.size := h.keep.size
end

section
variable {x0 x1 x2 x3 x4 x5 x6 : Value} {w : World}
theorem tms_at0 : (Instr.index 76 (.agg #[x0, x1, x2, x3, x4, x5, x6]) (.int .i64 0)).run Tryd.prog w = .ok x0 w := by kernel_rfl
theorem tms_at1 : (Instr.index 76 (.agg #[x0, x1, x2, x3, x4, x5, x6]) (.int .i64 1)).run Tryd.prog w = .ok x1 w := by kernel_rfl
theorem tms_at2 : (Instr.index 76 (.agg #[x0, x1, x2, x3, x4, x5, x6]) (.int .i64 2)).run Tryd.prog w = .ok x2 w := by kernel_rfl
theorem tms_at3 : (Instr.index 76 (.agg #[x0, x1, x2, x3, x4, x5, x6]) (.int .i64 3)).run Tryd.prog w = .ok x3 w := by kernel_rfl
theorem tms_at4 : (Instr.index 76 (.agg #[x0, x1, x2, x3, x4, x5, x6]) (.int .i64 4)).run Tryd.prog w = .ok x4 w := by kernel_rfl
theorem tms_at5 : (Instr.index 76 (.agg #[x0, x1, x2, x3, x4, x5, x6]) (.int .i64 5)).run Tryd.prog w = .ok x5 w := by kernel_rfl
theorem tms_at6 : (Instr.index 76 (.agg #[x0, x1, x2, x3, x4, x5, x6]) (.int .i64 6)).run Tryd.prog w = .ok x6 w := by kernel_rfl
end
attribute [local go_sem] tms_at0 tms_at1 tms_at2 tms_at3 tms_at4 tms_at5 tms_at6

set_option maxRecDepth 100000 in
set_option maxHeartbeats 32000000 in
theorem fields1_in (L : Lay) (P : Where) {l : Nat} {J : List Fld → World → Prop} {A : Nat → Prop} {E : TypeId → Prop} {m n0 : Nat} {w0 : World} (hc : ItCtx l (fieldsL L) J A E m n0 w0) (hL : LayAt w0 P L) (K0 : Kinds w0) (hf : Few L) (ht : ∀ t ∈ L.times, 1 ≤ t ∧ t ≤ 1000) (W : World) (Bl : Nat) (hW : n0 ≤ W.heap.size) (hold : Kept w0 W) (hBl : ¬ A Bl) (hb : W.heap[Bl]? = some (.cells (L.cells P).toArray 29 (0, 0))) (hJ : J [] W) :
    Calls Tryd.prog 57 #[.func (.yield l) #[] #[], .pointer (some ⟨Bl, 0, none⟩)] W fun e W' => (∃ v, e = .returned v) ∧ J (fieldsL L) W' := by
  refine (callsIn_wide (n := 4)).1 ?_
  have CT := Lib.hid hc
  have HL := Lib.hid (⟨hL, K0, hf, ht⟩ : _ ∧ _ ∧ _ ∧ _)
  obtain ⟨h00, h01, h02, h03, _⟩ := hf
  have g0 : L.secs.length ≤ P.c0 ∧ P.c0 ≤ 9223372036854775807 := hL.l0
  have g1 : L.sigs.length ≤ P.c1 ∧ P.c1 ≤ 9223372036854775807 := hL.l1
  have g2 : L.exits.length ≤ P.c2 ∧ P.c2 ≤ 9223372036854775807 := hL.l2
  have g3 : L.flanks.length ≤ P.c3 ∧ P.c3 ≤ 9223372036854775807 := hL.l3
  have hx := (boxL_heap hb).cells
  have lBl := (Array.getElem?_eq_some_iff.1 hb).1
  have hUb : Below W.heap.size W (W.alloc (.cells #[.func (.yield l) #[] #[]] 109)) := bself
  have hUy := World.alloc_heap_new W (.cells #[.func (.yield l) #[] #[]] 109)
  have HU := Lib.hid (⟨CT.out.alloc hJ hUb, hUy, (hUb.block _ lBl).trans hb, hold.trans (.of_below hUb), .of_below hUb⟩ : FSt J A E m l w0 W W.heap.size Bl L P [] (W.alloc (.cells #[.func (.yield l) #[] #[]] 109)))
  obtain ⟨a0, a1, a2, a3, p0, p1, p2, p3⟩ := P
  obtain ⟨x0, x1, x2, x3, x4, x5, x6, x7, x8, x9, x10⟩ := hx
  dsimp only at x0 x1 x2 x3
  clear hc hL K0 hold hb hJ hUb hUy ht
  refine callsIn_of_wp Tryd.func57 rfl trivial ?_ rfl
  simp only [Tryd.ntmps57, List.size_toArray, List.length_cons, List.length_nil, Nat.reduceAdd, Nat.reduceSub, Array.replicate_succ, Array.replicate_zero, List.push_toArray, List.append_toArray, List.nil_append, List.cons_append]
  gi_wp2_with fail
  refine ⟨trivial, (callsIn_wide.2 (HU.out.all CT.out hW hBl (by simp; omega) (headF L) 4 (W.heap.size + 1) rfl (by simp) (up0 L) (by decide))).mono ?_⟩
  rintro e W3 ⟨rfl, h3, k3⟩
  have HW3 := Lib.hid h3
  rw [List.nil_append] at HW3
  clear h3 k3 HU x0 x1 x2 x3 x4 x5 x6 x7 x8 x9 x10 lBl
  obtain ⟨c0x, c1x, c2x, c3x, _⟩ := HW3.out.cells.cells
  dsimp only at c0x
  have lBl := HW3.out.cells.1
  gi_wp2_with fail
  clear c0x c1x c2x c3x lBl
  gi_loopw [41] (fun cc wv => ∃ i : Nat, i ≤ L.secs.length ∧ cc = .int .i64 i ∧ Hid (FSt J A E m l w0 W W.heap.size Bl L ⟨a0, a1, a2, a3, p0, p1, p2, p3⟩ (headF L ++ (L.secs.take i).flatMap secF) wv)) (fun cc _ => L.secs.length - (intOf cc).toNat)
  case atStart => exact ⟨0, by omega, rfl, by simpa using HW3⟩
  case round =>
    obtain ⟨i, hi, rfl, HS⟩ := hrel
    clear HW3
    by_cases hlt : i < L.secs.length
    · have hii : (i : Int) < (L.secs.length : Int) := by omega
      have hVs : n0 ≤ wr.heap.size := Nat.le_trans hW HS.out.size
      obtain ⟨c, hc⟩ : ∃ c, L.secs[i]? = some c := ⟨_, List.getElem?_eq_getElem hlt⟩
      obtain ⟨eb, eo, ea, hrow⟩ := HL.out.1.secs.get (j := i) hlt
      dsimp only at ea
      subst ea
      have hrow2 := hrow.kept HS.out.old
      have lr := hrow2.1
      have z0 : wr.cell? ⟨eb, eo + i * 11, none⟩ = some (.int .u8 c.k) := hrow2.2 i c hc 0 _ rfl
      have z1 : wr.cell? ⟨eb, eo + i * 11 + 1, none⟩ = some (.int .i64 c.s0) := hrow2.2 i c hc 1 _ rfl
      have z2 : wr.cell? ⟨eb, eo + i * 11 + 2, none⟩ = some (.int .i64 c.p0) := hrow2.2 i c hc 2 _ rfl
      have z3 : wr.cell? ⟨eb, eo + i * 11 + 3, none⟩ = some (.int .i64 c.s1) := hrow2.2 i c hc 3 _ rfl
      have z4 : wr.cell? ⟨eb, eo + i * 11 + 4, none⟩ = some (.int .i64 c.p1) := hrow2.2 i c hc 4 _ rfl
      have z5 : wr.cell? ⟨eb, eo + i * 11 + 5, none⟩ = some (.int .i64 c.s2) := hrow2.2 i c hc 5 _ rfl
      have z6 : wr.cell? ⟨eb, eo + i * 11 + 6, none⟩ = some (.int .i64 c.p2) := hrow2.2 i c hc 6 _ rfl
      have z7 : wr.cell? ⟨eb, eo + i * 11 + 7, none⟩ = some (.int .i64 c.s3) := hrow2.2 i c hc 7 _ rfl
      have z8 : wr.cell? ⟨eb, eo + i * 11 + 8, none⟩ = some (.int .i64 c.p3) := hrow2.2 i c hc 8 _ rfl
      have z9 : wr.cell? ⟨eb, eo + i * 11 + 9, none⟩ = some (.int .i64 c.c0) := hrow2.2 i c hc 9 _ rfl
      have z10 : wr.cell? ⟨eb, eo + i * 11 + 10, none⟩ = some (.int .i64 c.c1) := hrow2.2 i c hc 10 _ rfl
      have yy : wr.cell? ⟨W.heap.size, 0, none⟩ = some (.func (.yield l) #[] #[]) := by simp [World.cell?, HS.out.y]
      have ly : W.heap.size < wr.heap.size := (Array.getElem?_eq_some_iff.1 HS.out.y).1
      have HC := Lib.hid hc
      have hkk := HL.out.1.kinds c (List.mem_of_getElem? hc)
      have HV := Lib.hid (HS.out.below CT.out (bself (o := .cells c.enc.toArray 69)))
      have hcall := HV.out.joined CT.out hW hBl (by simp; omega) HL.out.2.1 c hkk (fp1 L hc)
      have HCL := Lib.hid hcall
      clear hc hrow hrow2 hkk HS hcall
      gi_wp2_with fail
      refine ⟨trivial, (callsIn_wide.2 HCL.out).mono ?_⟩
      rintro e W5 ⟨rfl, h3⟩
      have H5 := Lib.hid h3
      clear h3 HCL yy ly lr z0 z1 z2 z3 z4 z5 z6 z7 z8 z9 z10
      gi_wp2
      go_roundw
      case measure => simp [intOf]; omega
      case rel => exact ⟨i + 1, by omega, by go_num, Lib.hid (by rw [flat_take secF HC.out, ← List.append_assoc]; exact H5.out)⟩
    · obtain rfl : i = L.secs.length := by omega
      have hii : ¬ ((L.secs.length : Nat) : Int) < (L.secs.length : Int) := by omega
      rw [List.take_length] at HS
      obtain ⟨x0, x1, x2, x3, x4, x5, x6, x7, x8, x9, x10⟩ := HS.out.cells.cells
      dsimp only at x0 x1 x2 x3
      have lBl := HS.out.cells.1
      gi_wp2_with fail
      clear x0 x1 x2 x3 x4 x5 x6 x7 x8 x9 x10 lBl
      have HS0 := HS
      clear HS
      gi_loopw [53] (fun cc wv => ∃ i : Nat, i ≤ L.sigs.length ∧ cc = .int .i64 i ∧ Hid (FSt J A E m l w0 W W.heap.size Bl L ⟨a0, a1, a2, a3, p0, p1, p2, p3⟩ ((headF L ++ L.secs.flatMap secF) ++ (L.sigs.take i).flatMap sigF) wv)) (fun cc _ => L.sigs.length - (intOf cc).toNat)
      case atStart => exact ⟨0, by omega, rfl, by simpa using HS0⟩
      case round =>
        obtain ⟨i, hi, rfl, HS⟩ := hrel
        clear HS0
        by_cases hlt : i < L.sigs.length
        · have hii : (i : Int) < (L.sigs.length : Int) := by omega
          have hVs : n0 ≤ wr.heap.size := Nat.le_trans hW HS.out.size
          obtain ⟨x, hx⟩ : ∃ x, L.sigs[i]? = some x := ⟨_, List.getElem?_eq_getElem hlt⟩
          obtain ⟨eb, eo, ea, hrow⟩ := HL.out.1.sigs.get (j := i) hlt
          dsimp only at ea
          subst ea
          have hrow2 := hrow.kept HS.out.old
          have lr := hrow2.1
          have z0 : wr.cell? ⟨eb, eo + i * 2, none⟩ = some (.int .i64 x.s) := hrow2.2 i x hx 0 _ rfl
          have z1 : wr.cell? ⟨eb, eo + i * 2 + 1, none⟩ = some (.int .i64 x.p) := hrow2.2 i x hx 1 _ rfl
          have yy : wr.cell? ⟨W.heap.size, 0, none⟩ = some (.func (.yield l) #[] #[]) := by simp [World.cell?, HS.out.y]
          have ly : W.heap.size < wr.heap.size := (Array.getElem?_eq_some_iff.1 HS.out.y).1
          have HC := Lib.hid hx
          have HV := Lib.hid (HS.out.below CT.out (bself (o := .cells #[.int .i64 x.s, .int .i64 x.p] 71)))
          clear hx hrow hrow2 HS
          gi_wp2_with fail
          refine ⟨trivial, (callsIn_wide.2 (HV.out.all CT.out hW hBl (by simp; omega) (sigF x) 2 (wr.heap.size + 1) rfl (by simp) (fp2 L HC.out) (by decide))).mono ?_⟩
          rintro e W5 ⟨rfl, h3, k3⟩
          have HW5 := Lib.hid h3
          clear h3 k3 yy ly lr z0 z1
          gi_wp2
          go_roundw
          case measure => simp [intOf]; omega
          case rel => exact ⟨i + 1, by omega, by go_num, Lib.hid (by rw [flat_take sigF HC.out, ← List.append_assoc]; exact HW5.out)⟩
        · obtain rfl : i = L.sigs.length := by omega
          have hii : ¬ ((L.sigs.length : Nat) : Int) < (L.sigs.length : Int) := by omega
          rw [List.take_length] at HS
          obtain ⟨x0, x1, x2, x3, x4, x5, x6, x7, x8, x9, x10⟩ := HS.out.cells.cells
          dsimp only at x0 x1 x2 x3
          have lBl := HS.out.cells.1
          gi_wp2_with fail
          clear x0 x1 x2 x3 x4 x5 x6 x7 x8 x9 x10 lBl
          have HS0 := HS
          clear HS
          gi_loopw [73] (fun cc wv => ∃ i : Nat, i ≤ L.exits.length ∧ cc = .int .i64 i ∧ Hid (FSt J A E m l w0 W W.heap.size Bl L ⟨a0, a1, a2, a3, p0, p1, p2, p3⟩ (((headF L ++ L.secs.flatMap secF) ++ L.sigs.flatMap sigF) ++ (L.exits.take i).flatMap exF) wv)) (fun cc _ => L.exits.length - (intOf cc).toNat)
          case atStart => exact ⟨0, by omega, rfl, by simpa using HS0⟩
          case round =>
            obtain ⟨i, hi, rfl, HS⟩ := hrel
            clear HS0
            by_cases hlt : i < L.exits.length
            · have hii : (i : Int) < (L.exits.length : Int) := by omega
              have hVs : n0 ≤ wr.heap.size := Nat.le_trans hW HS.out.size
              obtain ⟨es, hes, hAt, hov⟩ := HL.out.1.exits
              have hel : es.length = L.exits.length := by rw [← hes, List.length_map]
              obtain ⟨eb, eo, ea, hrow⟩ := hAt.get (j := i) (by omega)
              dsimp only at ea
              subst ea
              obtain ⟨x, hx⟩ : ∃ x, es[i]? = some x := ⟨_, List.getElem?_eq_getElem (by omega)⟩
              have hxL : L.exits[i]? = some x.1 := by rw [← hes, List.getElem?_map, hx]; rfl
              obtain ⟨vA, vc, ve, hvl, hvm, hva⟩ := hov x (List.mem_of_getElem? hx)
              obtain ⟨ol, hol⟩ : ∃ ol, ol = x.1.over.length := ⟨_, rfl⟩
              rw [← hol] at ve hvl
              have hol2 : ol ≤ 1000 := by rw [hol]; exact HL.out.2.2.1.2.2.2.2 x.1 (List.mem_of_getElem? hxL)
              have hrow2 := hrow.kept HS.out.old
              have lr := hrow2.1
              have z0 : wr.cell? ⟨eb, eo + i * 3, none⟩ = some (.int .i64 x.1.s) := hrow2.2 i x hx 0 _ rfl
              have z1 : wr.cell? ⟨eb, eo + i * 3 + 1, none⟩ = some (.int .i64 x.1.p) := hrow2.2 i x hx 1 _ rfl
              have z2 : wr.cell? ⟨eb, eo + i * 3 + 2, none⟩ = some (.slice vA ol vc) := hrow2.2 i x hx 2 _ (by rw [← ve]; rfl)
              have yy : wr.cell? ⟨W.heap.size, 0, none⟩ = some (.func (.yield l) #[] #[]) := by simp [World.cell?, HS.out.y]
              have ly : W.heap.size < wr.heap.size := (Array.getElem?_eq_some_iff.1 HS.out.y).1
              have hex : exF x.1 = [(x.1.s, 5), (x.1.p, 2), ((ol : Nat), 2)] ++ x.1.over.flatMap stF := by rw [hol]; rfl
              have HC := Lib.hid (⟨hxL, hex, hol, hva.kept HS.out.old⟩ : _ ∧ _ ∧ _ ∧ _)
              have hbx : Below wr.heap.size wr (wr.alloc (.cells #[.int .i64 x.1.s, .int .i64 x.1.p, .slice vA ol vc] 51)) := bself
              have HV := Lib.hid (HS.out.below CT.out hbx)
              have HBX := Lib.hid (World.alloc_heap_new wr (.cells #[.int .i64 x.1.s, .int .i64 x.1.p, .slice vA ol vc] 51))
              have HKV := Lib.hid (HS.out.old.trans (.of_below hbx))
              have HVA := Lib.hid hva
              clear hx hxL hes hAt hov hel hrow hrow2 HS hex hol hva ve hbx
              gi_wp2_with fail
              refine ⟨trivial, (callsIn_wide.2 (HV.out.all CT.out hW hBl (by simp; omega) ([(x.1.s, 5), (x.1.p, 2), ((ol : Nat), 2)]) 3 (wr.heap.size + 1) rfl (by simp) ((by have h := fp3 L HC.out.1; rw [HC.out.2.1, ← List.append_assoc] at h; exact (List.prefix_append _ _).trans h)) (by decide))).mono ?_⟩
              rintro e W5 ⟨rfl, h3, k3⟩
              have HW5 := Lib.hid h3
              have hb5 := CT.out.own k3 HBX.out hVs (by decide)
              have q2 : W5.cell? ⟨wr.heap.size, 2, none⟩ = some (.slice vA ol vc) := by simp [World.cell?, hb5]
              have q3 : wr.heap.size < W5.heap.size := (Array.getElem?_eq_some_iff.1 hb5).1
              clear h3 k3 yy ly lr z0 z1 z2 hb5 HBX HV
              obtain ⟨wx, hwx⟩ : ∃ wx, wx = wr.heap.size := ⟨_, rfl⟩
              rw [← hwx] at q2 q3 ⊢
              clear hwx hVs
              gi_wp2_with fail
              clear q2 q3
              gi_loopw [96] (fun cc wv => ∃ j : Nat, j ≤ ol ∧ cc = .int .i64 j ∧ Hid (FSt J A E m l w0 W W.heap.size Bl L ⟨a0, a1, some ⟨eb, eo, none⟩, a3, p0, p1, p2, p3⟩ (((((headF L ++ L.secs.flatMap secF) ++ L.sigs.flatMap sigF) ++ (L.exits.take i).flatMap exF) ++ [(x.1.s, 5), (x.1.p, 2), ((ol : Nat), 2)]) ++ (x.1.over.take j).flatMap stF) wv)) (fun cc _ => ol - (intOf cc).toNat)
              case atStart => exact ⟨0, by omega, rfl, by simpa using HW5⟩
              case round =>
                obtain ⟨j, hj, rfl, HS⟩ := hrel
                clear HW5
                by_cases hjt : j < ol
                · have hji : (j : Int) < (ol : Int) := by omega
                  have hVs : n0 ≤ wr.heap.size := Nat.le_trans hW HS.out.size
                  obtain ⟨st, hst⟩ : ∃ st, x.1.over[j]? = some st := ⟨_, List.getElem?_eq_getElem (by have := HC.out.2.2.1; omega)⟩
                  obtain ⟨fb, fo, fa, frow⟩ := HVA.out.get (j := j) (by have := HC.out.2.2.1; omega)
                  subst fa
                  have frow2 := frow.kept HS.out.old
                  have lr := frow2.1
                  have z0 : wr.cell? ⟨fb, fo + j * 3, none⟩ = some (.int .i64 st.s) := frow2.2 j st hst 0 _ rfl
                  have z1 : wr.cell? ⟨fb, fo + j * 3 + 1, none⟩ = some (.int .i64 st.i) := frow2.2 j st hst 1 _ rfl
                  have z2 : wr.cell? ⟨fb, fo + j * 3 + 2, none⟩ = some (.int .i64 st.o) := frow2.2 j st hst 2 _ rfl
                  have yy : wr.cell? ⟨W.heap.size, 0, none⟩ = some (.func (.yield l) #[] #[]) := by simp [World.cell?, HS.out.y]
                  have ly : W.heap.size < wr.heap.size := (Array.getElem?_eq_some_iff.1 HS.out.y).1
                  have HST := Lib.hid hst
                  have HV := Lib.hid (HS.out.below CT.out (bself (o := .cells #[.int .i64 st.s, .int .i64 st.i, .int .i64 st.o] 73)))
                  clear hst frow frow2 HS
                  gi_wp2_with fail
                  refine ⟨trivial, (callsIn_wide.2 (HV.out.all CT.out hW hBl (by simp; omega) (stF st) 3 (wr.heap.size + 1) rfl (by simp) ((by have h := fp3 L HC.out.1; rw [HC.out.2.1, ← List.append_assoc] at h; rw [List.append_assoc]; exact (pre_add (flat_pre stF HST.out)).trans h)) (by decide))).mono ?_⟩
                  rintro e W6 ⟨rfl, h3, k3⟩
                  have HW6 := Lib.hid h3
                  clear h3 k3 yy ly lr z0 z1 z2
                  gi_wp2
                  go_roundw
                  case measure => simp [intOf]; omega
                  case rel => exact ⟨j + 1, by omega, by go_num, Lib.hid (by rw [flat_take stF HST.out, ← List.append_assoc]; exact HW6.out)⟩
                · obtain rfl : j = ol := by omega
                  have hji : ¬ ((j : Nat) : Int) < (j : Int) := by omega
                  have ht : x.1.over.take j = x.1.over := List.take_of_length_le (by have := HC.out.2.2.1; omega)
                  rw [ht] at HS
                  gi_wp2_with fail
                  go_roundw
                  case measure => simp [intOf]; omega
                  case rel => exact ⟨i + 1, by omega, by go_num, Lib.hid (by rw [flat_take exF HC.out.1, HC.out.2.1]; have := HS.out; simpa only [List.append_assoc] using this)⟩
            · obtain rfl : i = L.exits.length := by omega
              have hii : ¬ ((L.exits.length : Nat) : Int) < (L.exits.length : Int) := by omega
              rw [List.take_length] at HS
              obtain ⟨x0, x1, x2, x3, x4, x5, x6, x7, x8, x9, x10⟩ := HS.out.cells.cells
              dsimp only at x0 x1 x2 x3
              have lBl := HS.out.cells.1
              gi_wp2_with fail
              clear x0 x1 x2 x3 x4 x5 x6 x7 x8 x9 x10 lBl
              have HS0 := HS
              clear HS
              gi_loopw [118] (fun cc wv => ∃ i : Nat, i ≤ L.flanks.length ∧ cc = .int .i64 i ∧ Hid (FSt J A E m l w0 W W.heap.size Bl L ⟨a0, a1, a2, a3, p0, p1, p2, p3⟩ ((((headF L ++ L.secs.flatMap secF) ++ L.sigs.flatMap sigF) ++ L.exits.flatMap exF) ++ (L.flanks.take i).flatMap flF) wv)) (fun cc _ => L.flanks.length - (intOf cc).toNat)
              case atStart => exact ⟨0, by omega, rfl, by simpa using HS0⟩
              case round =>
                obtain ⟨i, hi, rfl, HS⟩ := hrel
                clear HS0
                by_cases hlt : i < L.flanks.length
                · have hii : (i : Int) < (L.flanks.length : Int) := by omega
                  have hVs : n0 ≤ wr.heap.size := Nat.le_trans hW HS.out.size
                  obtain ⟨x, hx⟩ : ∃ x, L.flanks[i]? = some x := ⟨_, List.getElem?_eq_getElem hlt⟩
                  obtain ⟨eb, eo, ea, hrow⟩ := HL.out.1.flanks.get (j := i) hlt
                  dsimp only at ea
                  subst ea
                  have hrow2 := hrow.kept HS.out.old
                  have lr := hrow2.1
                  have z0 : wr.cell? ⟨eb, eo + i * 4, none⟩ = some (.int .i64 x.s) := hrow2.2 i x hx 0 _ rfl
                  have z1 : wr.cell? ⟨eb, eo + i * 4 + 1, none⟩ = some (.int .i64 x.way) := hrow2.2 i x hx 1 _ rfl
                  have z2 : wr.cell? ⟨eb, eo + i * 4 + 2, none⟩ = some (.int .i64 x.pt) := hrow2.2 i x hx 2 _ rfl
                  have z3 : wr.cell? ⟨eb, eo + i * 4 + 3, none⟩ = some (.int .i64 x.pos) := hrow2.2 i x hx 3 _ rfl
                  have yy : wr.cell? ⟨W.heap.size, 0, none⟩ = some (.func (.yield l) #[] #[]) := by simp [World.cell?, HS.out.y]
                  have ly : W.heap.size < wr.heap.size := (Array.getElem?_eq_some_iff.1 HS.out.y).1
                  have HC := Lib.hid hx
                  have HV := Lib.hid (HS.out.below CT.out (bself (o := .cells #[.int .i64 x.s, .int .i64 x.way, .int .i64 x.pt, .int .i64 x.pos] 75)))
                  clear hx hrow hrow2 HS
                  gi_wp2_with fail
                  refine ⟨trivial, (callsIn_wide.2 (HV.out.all CT.out hW hBl (by simp; omega) (flF x) 4 (wr.heap.size + 1) rfl (by simp) (fp4 L HC.out) (by decide))).mono ?_⟩
                  rintro e W5 ⟨rfl, h3, k3⟩
                  have HW5 := Lib.hid h3
                  clear h3 k3 yy ly lr z0 z1 z2 z3
                  gi_wp2
                  go_roundw
                  case measure => simp [intOf]; omega
                  case rel => exact ⟨i + 1, by omega, by go_num, Lib.hid (by rw [flat_take flF HC.out, ← List.append_assoc]; exact HW5.out)⟩
                · obtain rfl : i = L.flanks.length := by omega
                  have hii : ¬ ((L.flanks.length : Nat) : Int) < (L.flanks.length : Int) := by omega
                  rw [List.take_length] at HS
                  obtain ⟨x0, x1, x2, x3, x4, x5, x6, x7, x8, x9, x10⟩ := HS.out.cells.cells
                  dsimp only at x0 x1 x2 x3
                  have lBl := HS.out.cells.1
                  have HT := Lib.hid (HS.out.below CT.out (bself (o := .cells #[.int .i64 L.t0, .int .i64 L.t1, .int .i64 L.t2, .int .i64 L.t3, .int .i64 L.t4, .int .i64 L.t5, .int .i64 L.t6] 27)))
                  gi_wp2_with fail
                  clear x0 x1 x2 x3 x4 x5 x6 x7 x8 x9 x10 lBl
                  have HS0 := HS
                  clear HS
                  gi_loopw [156] (fun cc wv => ∃ i : Nat, i ≤ 7 ∧ cc = .int .i64 i ∧ Hid (FSt J A E m l w0 W W.heap.size Bl L ⟨a0, a1, a2, a3, p0, p1, p2, p3⟩ (((((headF L ++ L.secs.flatMap secF) ++ L.sigs.flatMap sigF) ++ L.exits.flatMap exF) ++ L.flanks.flatMap flF) ++ (L.times.take i).flatMap tmF) wv)) (fun cc _ => 7 - (intOf cc).toNat)
                  case atStart => exact ⟨0, by omega, rfl, by simpa using HT⟩
                  case round =>
                    obtain ⟨i, hi, rfl, HR⟩ := hrel
                    clear HT HS0
                    have hVs : n0 ≤ wr.heap.size := Nat.le_trans hW HR.out.size
                    have yy : wr.cell? ⟨W.heap.size, 0, none⟩ = some (.func (.yield l) #[] #[]) := by simp [World.cell?, HR.out.y]
                    have ly : W.heap.size < wr.heap.size := (Array.getElem?_eq_some_iff.1 HR.out.y).1
                    by_cases hlt : i < 7
                    · have hii : (i : Int) < 7 := by omega
                      have HTL := Lib.hid hlt
                      rcases (show i = 0 ∨ i = 1 ∨ i = 2 ∨ i = 3 ∨ i = 4 ∨ i = 5 ∨ i = 6 by omega) with rfl | rfl | rfl | rfl | rfl | rfl | rfl
                      · have ht1 := HL.out.2.2.2 L.t0 (by simp [Lay.times])
                        have hw : IntKind.i64.wrap (L.t0 - 1) = L.t0 - 1 := IntWalk.i64_in _ (by omega)
                        gi_wp2_with fail
                        refine ⟨trivial, (callsIn_wide.2 (HR.out.all CT.out hW hBl hVs (tmF L.t0) 1 wr.heap.size rfl (by simp) (fp5 L (i := 0) (x := L.t0) rfl) (by decide))).mono ?_⟩
                        rintro e W5 ⟨rfl, h3, k3⟩
                        have HW5 := Lib.hid h3
                        clear h3 k3 yy ly
                        gi_wp2
                        go_roundw
                        case measure => simp [intOf]
                        case rel => exact ⟨1, by omega, by go_num, Lib.hid (by rw [flat_take tmF (show L.times[0]? = some L.t0 from rfl), ← List.append_assoc]; exact HW5.out)⟩
                      · have ht1 := HL.out.2.2.2 L.t1 (by simp [Lay.times])
                        have hw : IntKind.i64.wrap (L.t1 - 1) = L.t1 - 1 := IntWalk.i64_in _ (by omega)
                        gi_wp2_with fail
                        refine ⟨trivial, (callsIn_wide.2 (HR.out.all CT.out hW hBl hVs (tmF L.t1) 1 wr.heap.size rfl (by simp) (fp5 L (i := 1) (x := L.t1) rfl) (by decide))).mono ?_⟩
                        rintro e W5 ⟨rfl, h3, k3⟩
                        have HW5 := Lib.hid h3
                        clear h3 k3 yy ly
                        gi_wp2
                        go_roundw
                        case measure => simp [intOf]
                        case rel => exact ⟨2, by omega, by go_num, Lib.hid (by rw [flat_take tmF (show L.times[1]? = some L.t1 from rfl), ← List.append_assoc]; exact HW5.out)⟩
                      · have ht1 := HL.out.2.2.2 L.t2 (by simp [Lay.times])
                        have hw : IntKind.i64.wrap (L.t2 - 1) = L.t2 - 1 := IntWalk.i64_in _ (by omega)
                        gi_wp2_with fail
                        refine ⟨trivial, (callsIn_wide.2 (HR.out.all CT.out hW hBl hVs (tmF L.t2) 1 wr.heap.size rfl (by simp) (fp5 L (i := 2) (x := L.t2) rfl) (by decide))).mono ?_⟩
                        rintro e W5 ⟨rfl, h3, k3⟩
                        have HW5 := Lib.hid h3
                        clear h3 k3 yy ly
                        gi_wp2
                        go_roundw
                        case measure => simp [intOf]
                        case rel => exact ⟨3, by omega, by go_num, Lib.hid (by rw [flat_take tmF (show L.times[2]? = some L.t2 from rfl), ← List.append_assoc]; exact HW5.out)⟩
                      · have ht1 := HL.out.2.2.2 L.t3 (by simp [Lay.times])
                        have hw : IntKind.i64.wrap (L.t3 - 1) = L.t3 - 1 := IntWalk.i64_in _ (by omega)
                        gi_wp2_with fail
                        refine ⟨trivial, (callsIn_wide.2 (HR.out.all CT.out hW hBl hVs (tmF L.t3) 1 wr.heap.size rfl (by simp) (fp5 L (i := 3) (x := L.t3) rfl) (by decide))).mono ?_⟩
                        rintro e W5 ⟨rfl, h3, k3⟩
                        have HW5 := Lib.hid h3
                        clear h3 k3 yy ly
                        gi_wp2
                        go_roundw
                        case measure => simp [intOf]
                        case rel => exact ⟨4, by omega, by go_num, Lib.hid (by rw [flat_take tmF (show L.times[3]? = some L.t3 from rfl), ← List.append_assoc]; exact HW5.out)⟩
                      · have ht1 := HL.out.2.2.2 L.t4 (by simp [Lay.times])
                        have hw : IntKind.i64.wrap (L.t4 - 1) = L.t4 - 1 := IntWalk.i64_in _ (by omega)
                        gi_wp2_with fail
                        refine ⟨trivial, (callsIn_wide.2 (HR.out.all CT.out hW hBl hVs (tmF L.t4) 1 wr.heap.size rfl (by simp) (fp5 L (i := 4) (x := L.t4) rfl) (by decide))).mono ?_⟩
                        rintro e W5 ⟨rfl, h3, k3⟩
                        have HW5 := Lib.hid h3
                        clear h3 k3 yy ly
                        gi_wp2
                        go_roundw
                        case measure => simp [intOf]
                        case rel => exact ⟨5, by omega, by go_num, Lib.hid (by rw [flat_take tmF (show L.times[4]? = some L.t4 from rfl), ← List.append_assoc]; exact HW5.out)⟩
                      · have ht1 := HL.out.2.2.2 L.t5 (by simp [Lay.times])
                        have hw : IntKind.i64.wrap (L.t5 - 1) = L.t5 - 1 := IntWalk.i64_in _ (by omega)
                        gi_wp2_with fail
                        refine ⟨trivial, (callsIn_wide.2 (HR.out.all CT.out hW hBl hVs (tmF L.t5) 1 wr.heap.size rfl (by simp) (fp5 L (i := 5) (x := L.t5) rfl) (by decide))).mono ?_⟩
                        rintro e W5 ⟨rfl, h3, k3⟩
                        have HW5 := Lib.hid h3
                        clear h3 k3 yy ly
                        gi_wp2
                        go_roundw
                        case measure => simp [intOf]
                        case rel => exact ⟨6, by omega, by go_num, Lib.hid (by rw [flat_take tmF (show L.times[5]? = some L.t5 from rfl), ← List.append_assoc]; exact HW5.out)⟩
                      · have ht1 := HL.out.2.2.2 L.t6 (by simp [Lay.times])
                        have hw : IntKind.i64.wrap (L.t6 - 1) = L.t6 - 1 := IntWalk.i64_in _ (by omega)
                        gi_wp2_with fail
                        refine ⟨trivial, (callsIn_wide.2 (HR.out.all CT.out hW hBl hVs (tmF L.t6) 1 wr.heap.size rfl (by simp) (fp5 L (i := 6) (x := L.t6) rfl) (by decide))).mono ?_⟩
                        rintro e W5 ⟨rfl, h3, k3⟩
                        have HW5 := Lib.hid h3
                        clear h3 k3 yy ly
                        gi_wp2
                        go_roundw
                        case measure => simp [intOf]
                        case rel => exact ⟨7, by omega, by go_num, Lib.hid (by rw [flat_take tmF (show L.times[6]? = some L.t6 from rfl), ← List.append_assoc]; exact HW5.out)⟩
                    · obtain rfl : i = 7 := by omega
                      gi_wp2
                      go_end0
                      exact ⟨⟨_, rfl⟩, HR.out.j⟩
end Go.Proofs.YtpnnbihofoomeaaDoor

/-
  A layout that may be: its numbers fit, and are at most 1600 bits.
-/
namespace Go.Proofs.YtpnnbihofoomeaaDoor
open Go.RowKit Go.Shelf

/-- The bits of numbers. -/
def bitsF (fs : List Fld) : List Bool := fs.flatMap fun f => numBits f.1.toNat f.2.toNat
def widF (fs : List Fld) : Nat := (fs.map fun f => f.2.toNat).sum
theorem bitsF_length (fs : List Fld) : (bitsF fs).length = widF fs := by
  unfold bitsF widF
  rw [List.length_flatMap]
  congr 1
  refine List.map_congr_left fun f _ => numBits_length _ _
theorem bitsF_append (a b : List Fld) : bitsF (a ++ b) = bitsF a ++ bitsF b := by unfold bitsF; rw [List.flatMap_append]
theorem widF_append (a b : List Fld) : widF (a ++ b) = widF a + widF b := by unfold widF; rw [List.map_append, List.sum_append_nat]
/-- A number that fits. -/
def fitF (f : Fld) : Prop := 0 ≤ f.1 ∧ f.1 < 2 ^ f.2.toNat ∧ 0 ≤ f.2 ∧ f.2 ≤ 10
theorem widF_flat {α : Type} (f : α → List Fld) (n : Nat) : ∀ (xs : List α), (∀ x ∈ xs, widF (f x) ≤ n) → widF (xs.flatMap f) ≤ xs.length * n
  | [], _ => by simp [widF]
  | x :: xs, h => by
    rw [List.flatMap_cons, widF_append, List.length_cons, Nat.add_mul]
    have h1 := h x (List.mem_cons_self ..)
    have h2 := widF_flat f n xs fun y hy => h y (List.mem_cons_of_mem _ hy)
    omega
theorem right_iff (L : Lay) : rightL L = true ↔ (L.secs.length ≤ 24 ∧ L.sigs.length ≤ 12 ∧ L.exits.length ≤ 12 ∧ L.flanks.length ≤ 16) ∧ timesT L = true ∧ L.secs.all rightT = true ∧ (∀ f ∈ L.flanks, flankT L f = true) ∧
    (∀ c ∈ L.secs, ∀ j, j < 4 → 0 ≤ c.S j → hasB L (c.S j) (c.P j) = true) ∧ (∀ s ∈ L.sigs, hasB L s.s s.p = true) ∧ (∀ x ∈ L.exits, hasB L x.s x.p = true) ∧ ∀ x ∈ L.exits, overT L x = true := by
  unfold rightL sizesT portsT
  simp only [Bool.and_eq_true, decide_eq_true_eq, List.all_eq_true]
  constructor
  · rintro ⟨⟨⟨⟨⟨⟨⟨⟨h1, h2⟩, h3⟩, h4⟩, ht⟩, hs⟩, hf⟩, hp⟩, he⟩
    exact ⟨⟨h1, h2, h3, h4⟩, ht, hs, hf, fun c hc j hj h0 => hp _ ((portsL_mem L ⟨c.S j, c.P j⟩).2 (.inl ⟨c, hc, j, hj, h0, rfl⟩)), fun s hs' => hp s ((portsL_mem L s).2 (.inr (.inl hs'))),
      fun x hx => hp ⟨x.s, x.p⟩ ((portsL_mem L ⟨x.s, x.p⟩).2 (.inr (.inr ⟨x, hx, rfl⟩))), he⟩
  · rintro ⟨⟨h1, h2, h3, h4⟩, ht, hs, hf, hj, hsg, hx, he⟩
    refine ⟨⟨⟨⟨⟨⟨⟨⟨h1, h2⟩, h3⟩, h4⟩, ht⟩, hs⟩, hf⟩, fun p hp => ?_⟩, he⟩
    rcases (portsL_mem L p).1 hp with ⟨c, hc, j, hj4, h0, rfl⟩ | h | ⟨e, h, rfl⟩
    · exact hj c hc j hj4 h0
    · exact hsg p h
    · exact hx e h
theorem kPorts_le (k : Int) : kPorts k ≤ 4 := by rcases kCases k with h | h | h | h <;> omega
theorem way_ports {k i o : Int} (h : wayB k i o = true) : (0 ≤ i ∧ i < 4) ∧ (0 ≤ o ∧ o < 4) := by
  rw [(way_spec k i o).1] at h
  have h' := of_decide_eq_true h
  unfold hit at h'
  rcases kCases k with ⟨rfl, _⟩ | ⟨rfl, _⟩ | ⟨rfl, _⟩ | ⟨_, _, _, _, m, _⟩
  · simp [kMany, aOf, bOf, kA1, kB0, kB1] at h'
    omega
  · simp [kMany, aOf, bOf, kA1, kB0, kB1] at h'
    omega
  · simp [kMany, aOf, bOf, kA1, kB0, kB1] at h'
    omega
  · simp [m] at h'
theorem hasB_in {L : Lay} {s p : Int} (h : hasB L s p = true) : (0 ≤ s ∧ s < L.secs.length) ∧ (0 ≤ p ∧ p < 4) := by
  unfold hasB atO at h
  by_cases hs : 0 ≤ s ∧ s < L.secs.length
  · refine ⟨hs, ?_⟩
    obtain ⟨n, c, _, _, _, hc, _⟩ := secAt_some hs
    rw [hc, Option.bind_some] at h
    split at h
    · rename_i hp
      have := kPorts_le c.k
      omega
    · cases h
  · rw [secAt_none hs] at h
    cases h
theorem stepB_in {L : Lay} {s i o : Int} (h : stepB L s i o = true) : (0 ≤ s ∧ s < L.secs.length) ∧ (0 ≤ i ∧ i < 4) ∧ (0 ≤ o ∧ o < 4) := by
  by_cases hs : 0 ≤ s ∧ s < L.secs.length
  · obtain ⟨n, c, _, _, _, hc, _⟩ := secAt_some hs
    unfold stepB at h
    rw [hc] at h
    exact ⟨hs, way_ports h⟩
  · unfold stepB at h
    rw [secAt_none hs] at h
    cases h
theorem fit5 {x : Int} (h : 0 ≤ x ∧ x < 32) : fitF (x, 5) := ⟨h.1, by show x < 2 ^ 5; omega, (by decide : (0 : Int) ≤ 5), (by decide : (5 : Int) ≤ 10)⟩
theorem fit4 {x : Int} (h : 0 ≤ x ∧ x < 16) : fitF (x, 4) := ⟨h.1, by show x < 2 ^ 4; omega, (by decide : (0 : Int) ≤ 4), (by decide : (4 : Int) ≤ 10)⟩
theorem fit2 {x : Int} (h : 0 ≤ x ∧ x < 4) : fitF (x, 2) := ⟨h.1, by show x < 2 ^ 2; omega, (by decide : (0 : Int) ≤ 2), (by decide : (2 : Int) ≤ 10)⟩
theorem fit1 {x : Int} (h : 0 ≤ x ∧ x < 2) : fitF (x, 1) := ⟨h.1, by show x < 2 ^ 1; omega, (by decide : (0 : Int) ≤ 1), (by decide : (1 : Int) ≤ 10)⟩
theorem fit10 {x : Int} (h : 0 ≤ x ∧ x < 1024) : fitF (x, 10) := ⟨h.1, by show x < 2 ^ 10; omega, (by decide : (0 : Int) ≤ 10), (by decide : (10 : Int) ≤ 10)⟩
theorem jF_fit {c : Sec} {p : Nat} (h : mayT (c.S p) (c.P p) = true) : (∀ f ∈ jF c p, fitF f) ∧ widF (jF c p) ≤ 8 := by
  unfold mayT at h
  simp only [Bool.or_eq_true, Bool.and_eq_true, beq_iff_eq, decide_eq_true_eq] at h
  unfold jF
  split
  · refine ⟨fun f hf => ?_, by decide⟩
    rw [List.mem_singleton.1 hf]
    exact fit1 (by omega)
  · refine ⟨fun f hf => ?_, by simp [widF]⟩
    simp only [List.mem_cons, List.not_mem_nil, or_false] at hf
    rcases hf with rfl | rfl | rfl
    · exact fit1 (by omega)
    · exact fit5 (by omega)
    · exact fit2 (by omega)
theorem right_port {c : Sec} (h : rightT c = true) {p : Nat} (hp : p < (kPorts c.k).toNat) : mayT (c.S p) (c.P p) = true := by
  unfold rightT at h
  simp only [Bool.and_eq_true] at h
  have h4 := kPorts_le c.k
  obtain ⟨⟨_, ⟨⟨h0, h1⟩, h2⟩, h3⟩, _⟩ := h
  have hpt : portT c p = true := by
    obtain rfl | rfl | rfl | rfl : p = 0 ∨ p = 1 ∨ p = 2 ∨ p = 3 := by omega
    · exact h0
    · exact h1
    · exact h2
    · exact h3
  unfold portT at hpt
  rwa [if_pos (by omega)] at hpt
theorem right_class {c : Sec} (h : rightT c = true) {p : Nat} (hp : p < (kMany c.k).toNat) : 0 ≤ c.C p ∧ c.C p < 4 := by
  unfold rightT at h
  simp only [Bool.and_eq_true] at h
  have h2 := kMany_le c.k
  obtain ⟨_, h0, h1⟩ := h
  have hct : classT c p = true := by
    obtain rfl | rfl : p = 0 ∨ p = 1 := by omega
    · exact h0
    · exact h1
  unfold classT at hct
  simp only [Bool.and_eq_true, decide_eq_true_eq] at hct
  omega
theorem right_kind {c : Sec} (h : rightT c = true) : 1 ≤ c.k ∧ c.k ≤ 3 := by
  unfold rightT at h
  simp only [Bool.and_eq_true] at h
  have h1 := h.1.1
  unfold kPorts at h1
  split at h1
  · omega
  split at h1
  · omega
  split at h1
  · omega
  · simp at h1
theorem secF_fit {c : Sec} (h : rightT c = true) : (∀ f ∈ secF c, fitF f) ∧ widF (secF c) ≤ 38 := by
  have hj : ∀ p, p ≤ (kPorts c.k).toNat → (∀ f ∈ jsF c p, fitF f) ∧ widF (jsF c p) ≤ 8 * p := by
    intro p
    induction p with
    | zero => exact fun _ => ⟨(fun f hf => by cases hf), by simp [jsF, widF]⟩
    | succ p ih =>
      intro hp
      obtain ⟨h1, h2⟩ := ih (by omega)
      obtain ⟨h3, h4⟩ := jF_fit (right_port h (p := p) (by omega))
      refine ⟨fun f hf => ?_, by show widF (jsF c p ++ jF c p) ≤ _; rw [widF_append]; omega⟩
      rcases List.mem_append.1 (show f ∈ jsF c p ++ jF c p from hf) with hf | hf
      · exact h1 f hf
      · exact h3 f hf
  have hc : ∀ p, p ≤ (kMany c.k).toNat → (∀ f ∈ csF c p, fitF f) ∧ widF (csF c p) ≤ 2 * p := by
    intro p
    induction p with
    | zero => exact fun _ => ⟨(fun f hf => by cases hf), by simp [csF, widF]⟩
    | succ p ih =>
      intro hp
      obtain ⟨h1, h2⟩ := ih (by omega)
      refine ⟨fun f hf => ?_, by
        show widF (csF c p ++ [(c.C p, 2)]) ≤ _
        rw [widF_append]
        have : widF [(c.C p, 2)] = 2 := by simp [widF]
        omega⟩
      rcases List.mem_append.1 (show f ∈ csF c p ++ [(c.C p, 2)] from hf) with hf | hf
      · exact h1 f hf
      · rw [List.mem_singleton.1 hf]
        exact fit2 (right_class h (by omega))
  have hk := right_kind h
  have h4 := kPorts_le c.k
  have h2 := kMany_le c.k
  obtain ⟨j1, j2⟩ := hj _ (Nat.le_refl _)
  obtain ⟨c1, c2⟩ := hc _ (Nat.le_refl _)
  refine ⟨fun f hf => ?_, ?_⟩
  · unfold secF at hf
    rcases List.mem_append.1 hf with hf | hf
    · rcases List.mem_append.1 hf with hf | hf
      · rw [List.mem_singleton.1 hf]
        exact fit2 (by omega)
      · exact j1 f hf
    · exact c1 f hf
  · unfold secF
    rw [widF_append, widF_append]
    have : widF [(c.k, 2)] = 2 := by simp [widF]
    omega
/-- All numbers of a layout that may be fit; they are at most 1600 bits, at least 88. -/
theorem right_fields {L : Lay} (h : rightL L = true) : (∀ f ∈ fieldsL L, fitF f) ∧ widF (fieldsL L) ≤ 1600 ∧ 88 ≤ widF (fieldsL L) := by
  obtain ⟨⟨l0, l1, l2, l3⟩, ht, hs, hf, _, hg, hx, ho⟩ := (right_iff L).1 h
  rw [List.all_eq_true] at hs
  unfold timesT at ht
  simp only [List.all_eq_true, Bool.and_eq_true, decide_eq_true_eq] at ht
  have a0 : ∀ f ∈ headF L, fitF f := by
    intro f hf
    simp only [headF, List.mem_cons, List.not_mem_nil, or_false] at hf
    rcases hf with rfl | rfl | rfl | rfl
    · exact fit5 (by omega)
    · exact fit4 (by omega)
    · exact fit4 (by omega)
    · exact fit5 (by omega)
  have a2 : ∀ x ∈ L.sigs, ∀ f ∈ sigF x, fitF f := by
    intro x hx f hf
    have := hasB_in (hg x hx)
    simp only [sigF, List.mem_cons, List.not_mem_nil, or_false] at hf
    rcases hf with rfl | rfl
    · exact fit5 (by omega)
    · exact fit2 (by omega)
  have b3 : ∀ x ∈ L.exits, x.over.length ≤ 2 ∧ ∀ s ∈ x.over, stepB L s.s s.i s.o = true := by
    intro x hx
    have := ho x hx
    unfold overT at this
    simpa using this
  have a3 : ∀ x ∈ L.exits, ∀ f ∈ exF x, fitF f := by
    intro x hxx f hf
    have h1 := hasB_in (hx x hxx)
    obtain ⟨h2, h3⟩ := b3 x hxx
    unfold exF exhF at hf
    rcases List.mem_append.1 hf with hf | hf
    · simp only [List.mem_cons, List.not_mem_nil, or_false] at hf
      rcases hf with rfl | rfl | rfl
      · exact fit5 (by omega)
      · exact fit2 (by omega)
      · exact fit2 (by omega)
    · obtain ⟨s, hs, hf⟩ := List.mem_flatMap.1 hf
      have := stepB_in (h3 s hs)
      simp only [stF, List.mem_cons, List.not_mem_nil, or_false] at hf
      rcases hf with rfl | rfl | rfl
      · exact fit5 (by omega)
      · exact fit2 (by omega)
      · exact fit2 (by omega)
  have a4 : ∀ x ∈ L.flanks, ∀ f ∈ flF x, fitF f := by
    intro x hx f hff
    have hp := of_decide_eq_true (hf x hx)
    obtain ⟨h1, h2, _, h3, h4, h5, h6, _⟩ := hp
    obtain ⟨n1, _, e1, g1, _⟩ := isSec_get h1
    obtain ⟨n2, _, e2, g2, _⟩ := isSec_get h2
    have h7 := kMany_le (secK L x.s)
    simp only [flF, List.mem_cons, List.not_mem_nil, or_false] at hff
    rcases hff with rfl | rfl | rfl | rfl
    · exact fit5 (by omega)
    · exact fit1 (by omega)
    · exact fit5 (by omega)
    · exact fit1 (by omega)
  have a5 : ∀ t ∈ L.times, ∀ f ∈ tmF t, fitF f := by
    intro t htt f hff
    have := ht t htt
    rw [List.mem_singleton.1 hff]
    exact fit10 (by omega)
  have w0 : widF (headF L) = 18 := by simp [headF, widF]
  have w1 := widF_flat secF 38 L.secs fun c hc => (secF_fit (hs c hc)).2
  have w2 := widF_flat sigF 7 L.sigs fun c _ => by simp [sigF, widF]
  have w3 := widF_flat exF 27 L.exits fun x hxx => by
    unfold exF
    rw [widF_append]
    have h1 := widF_flat stF 9 x.over fun s _ => by simp [stF, widF]
    have h2 := (b3 x hxx).1
    have h3 : widF (exhF x) = 9 := by simp [exhF, widF]
    omega
  have w4 := widF_flat flF 12 L.flanks fun c _ => by simp [flF, widF]
  have w5 : widF (L.times.flatMap tmF) = 70 := by simp [Lay.times, tmF, widF]
  refine ⟨fun f hff => ?_, ?_, ?_⟩
  · unfold fieldsL at hff
    simp only [List.mem_append, List.mem_flatMap] at hff
    rcases hff with ((((hff | ⟨x, hx, hff⟩) | ⟨x, hx, hff⟩) | ⟨x, hx, hff⟩) | ⟨x, hx, hff⟩) | ⟨x, hx, hff⟩
    · exact a0 f hff
    · exact (secF_fit (hs x hx)).1 f hff
    · exact a2 x hx f hff
    · exact a3 x hx f hff
    · exact a4 x hx f hff
    · exact a5 x hx f hff
  · unfold fieldsL
    simp only [widF_append]
    omega
  · unfold fieldsL
    simp only [widF_append]
    omega
end Go.Proofs.YtpnnbihofoomeaaDoor

/-
  bits.Put of a number that fits; Pad.
-/
namespace Go.Proofs.YtpnnbihofoomeaaDoor
open Go.RowKit Go.Shelf
attribute [local go_sem] Oper.semAt_some

/-- A frame by its name. -/
theorem wp_act {P : Program} {c : Code} {Q : Exit → Act → World → Prop} {tm : Array Value} {ds : List Deferred} {w : World} (h : ∀ T, T = tm → c.wp P Q { tmps := T, defers := ds } w) : c.wp P Q { tmps := tm, defers := ds } w := h _ rfl
theorem owns_same {W W' : World} {base : Nat} {e : TypeId} {size : Nat} {v : Value} {n : Nat} {xs : List Value} (h : W.ownsRow base e size v n xs) (k : ∀ g cur, base ≤ g → W.heap[g]? = some (.cells cur e (0, 0)) → W'.heap[g]? = some (.cells cur e (0, 0))) : W'.ownsRow base e size v n xs := by
  refine ⟨h.1, ?_⟩
  rcases h.2 with hn | ⟨g, cap, cur, e1, hb, hg, rest⟩
  · exact .inl hn
  · exact .inr ⟨g, cap, cur, e1, hb, k g cur hb hg, rest⟩
theorem PutAt.same {B g : Nat} {W W' : World} {bl : List Bool} (h : PutAt B g W bl) (k : SameCells W W') : PutAt B g W' bl := by
  obtain ⟨A, c, h1, h2⟩ := h
  exact ⟨A, c, k _ _ h1 rfl, owns_same h2 fun _ _ _ hg => k _ _ hg rfl⟩
theorem PutAt.it {B g Bw : Nat} {W W' : World} {bl : List Bool} (h : PutAt B g W bl) (hr : rowOf W Bw 3) (k : ItW (fun b => b = Bw) W W') : PutAt B g W' bl := by
  obtain ⟨A, c, h1, h2⟩ := h
  obtain ⟨rc, rr, hrr⟩ := hr
  have keep : ∀ (b : Nat) (o : Obj), W.heap[b]? = some o → b ≠ Bw → W'.heap[b]? = some o := fun b o ho hb => k.w.same b o ho hb (fun ⟨_, _, _, _, _, k⟩ => k)
  refine ⟨A, c, keep _ _ h1 (fun e => ?_), owns_same h2 fun g cur _ hg => keep _ _ hg (fun e => ?_)⟩
  · subst e; rw [hrr] at h1; cases h1
  · subst e; rw [hrr] at hg; cases hg
theorem PutAt.below {B g : Nat} {W W' : World} {bl : List Bool} (h : PutAt B g W bl) (k : Below W.heap.size W W') : PutAt B g W' bl := by
  obtain ⟨A, c, h1, h2⟩ := h
  exact ⟨A, c, (k.block _ (Array.getElem?_eq_some_iff.1 h1).1).trans h1, owns_below h2 k⟩

set_option maxRecDepth 100000 in
set_option maxHeartbeats 8000000 in
theorem bPut_any (A : Option Addr) (k cap : Nat) (bl : List Bool) (n wd : Nat) (w : World) (hk : k = (pack bl).length) (hA : At w 1 bEnc A (pack bl)) (hn : n < 2 ^ wd) (hwd : wd ≤ 32) (hl : bl.length + wd ≤ 7999) :
    Calls Tryd.prog 24 #[.agg #[.slice A k cap, .int .i64 (bl.length : Nat)], .int .i64 n, .int .i64 wd] w fun e w' => ∃ v, e = .returned (.tuple #[.agg #[v, .int .i64 ((bl ++ numBits n wd).length : Nat)], .int .i64 0]) ∧
      w'.ownsRow w.heap.size 5 1 v (pack (bl ++ numBits n wd)).length ((pack (bl ++ numBits n wd)).flatMap bEnc) ∧ Below w.heap.size w w' := by
  refine calls_marked w.heap.size Tryd.func24 rfl ?_
  have HBG := Lib.hid (fun W (h : Below w.heap.size w W) => bBegin_any A k cap bl.length (pack bl) W hk (hA.below h) (bitsOk_pack bl (by omega)))
  obtain ⟨N, hN⟩ : ∃ N, N = bl.length := ⟨_, rfl⟩
  rw [← hN] at HBG ⊢
  have d1 : ¬ (wd : Int) < 0 := by omega
  have d2 : ¬ (wd : Int) > 32 := by omega
  have d3 : ¬ (n : Int) < 0 := by omega
  have d4 : (n : Int) / 2 ^ wd = 0 := by
    have h : n / 2 ^ wd = 0 := Nat.div_eq_of_lt hn
    have e : (n : Int) / 2 ^ wd = ((n / 2 ^ wd : Nat) : Int) := by push_cast; rfl
    rw [e, h]; rfl
  have HK := Lib.hid (⟨hN, hn, hl⟩ : _ ∧ _ ∧ _)
  clear hk hA hN hn hl
  simp only [Tryd.ntmps24, List.size_toArray, List.length_cons, List.length_nil, Nat.reduceAdd, Nat.reduceSub, Array.replicate_succ, Array.replicate_zero, List.push_toArray, List.append_toArray, List.nil_append, List.cons_append]
  go_wp2_with fail
  (with_reducible refine (HBG.out _ (bchain bself bself)).mono ?_)
  rintro e w1 ⟨v, rfl, ho, b1⟩
  obtain ⟨A1, c1', rfl⟩ := ownsV ho
  obtain ⟨c1, f1, l1⟩ := bcell b1
  obtain ⟨g, hg⟩ : ∃ g, g = w.heap.size + 1 := ⟨_, rfl⟩
  have hgh : w1.heap[g]? = some (.cells #[.slice none 0 0, .int .i64 0] 54 (0, 0)) := by
    rw [hg, b1.block _ (by simp)]
    have := World.alloc_heap_new (w.alloc (.cells #[.slice A k cap, .int .i64 (N : Nat)] 54)) (.cells #[.slice none 0 0, .int .i64 0] 54)
    simpa using this
  have y0 : w1.cell? ⟨g, 0, none⟩ = some (.slice none 0 0) := by simp [World.cell?, hgh]
  have y1 : w1.cell? ⟨g, 1, none⟩ = some (.int .i64 0) := by simp [World.cell?, hgh]
  have lg : g < w1.heap.size := (Array.getElem?_eq_some_iff.1 hgh).1
  have fg : ∀ o, w1.frozen? ⟨g, o, none⟩ = false := fun o => frozen_of_row _ _ _ _ _ hgh
  have hb1 : Below w.heap.size w w1 := bchain (bchain bself bself) b1
  have HO := Lib.hid (⟨ho, hgh, hb1⟩ : _ ∧ _ ∧ _)
  have hszw : w.heap.size + 2 ≤ w1.heap.size := by have := b1.size; simpa using this
  rw [← hg]
  have HG := Lib.hid hg
  clear ho hgh hb1 b1 c1 f1 l1 hg
  go_wp2_with fail
  obtain ⟨w2, hw2⟩ : ∃ w2, w2 = (w1.setCell ⟨g, 0, none⟩ (.slice A1 (pack bl).length c1')).setCell ⟨g, 1, none⟩ (.int .i64 (N : Nat)) := ⟨_, rfl⟩
  rw [← hw2]
  have hp2 : PutAt w.heap.size g w2 bl ∧ Below w.heap.size w w2 := by
    have h1 := heap_setCell_same w1 g 0 _ _ (.slice A1 (pack bl).length c1') HO.out.2.1
    have h2 := heap_setCell_same _ g 1 _ _ (.int .i64 (N : Nat)) h1
    have o1 := keep_box (i := 0) (u := .slice A1 (pack bl).length c1') HO.out.2.1 (owns_base HO.out.1 (show w.heap.size ≤ ((w.alloc (.cells #[.slice A k cap, .int .i64 (N : Nat)] 54)).alloc (.cells #[.slice none 0 0, .int .i64 0] 54)).heap.size by simp; omega))
    have o2 := keep_box (i := 1) (u := .int .i64 (N : Nat)) h1 o1
    rw [← hw2] at h2 o2
    refine ⟨⟨A1, c1', ?_, o2⟩, ?_⟩
    · rw [h2, ← HK.out.1]
      rfl
    · rw [hw2]
      exact (HO.out.2.2.setCell (p := ⟨g, 0, none⟩) (by have := HG.out; dsimp only; omega) _).setCell (p := ⟨g, 1, none⟩) (by have := HG.out; dsimp only; omega) _
  have hz2 : w2.heap.size = w1.heap.size := by rw [hw2]; simp [World.setCell]
  have HP2 := Lib.hid (⟨hp2.1, hp2.2, hz2⟩ : _ ∧ _ ∧ _)
  clear hw2 hp2 hz2 y0 y1 lg fg
  (with_reducible refine (high_fn n wd _).mono ?_)
  rintro e w3 ⟨rfl, hw3⟩
  have h3n : w3.heap[w2.heap.size]? = some (.cells #[.int .i64 n] 3 (0, 0)) := by
    rw [hw3, (bself (w := w2.alloc _)).block _ (by simp)]
    exact World.alloc_heap_new _ _
  have h3w : w3.heap[w2.heap.size + 1]? = some (.cells #[.int .i64 wd] 3 (0, 0)) := by
    rw [hw3]
    have := World.alloc_heap_new (w2.alloc (.cells #[.int .i64 n] 3)) (.cells #[.int .i64 wd] 3)
    simpa using this
  have hb3 : Below w2.heap.size w2 w3 := by rw [hw3]; exact bchain bself bself
  have hlt2 : g < w2.heap.size := by have := HP2.out.2.2; have := HG.out; omega
  obtain ⟨b, hb⟩ : ∃ b, b = w2.heap.size := ⟨_, rfl⟩
  rw [← hb] at h3n h3w hlt2 ⊢
  have HP3 := Lib.hid (⟨HP2.out.1.below hb3, bchain HP2.out.2.1 hb3⟩ : PutAt w.heap.size g w3 bl ∧ Below w.heap.size w w3)
  have hwg : w.heap.size ≤ g := by have := HG.out; omega
  have lb3 : b + 1 < w3.heap.size := (Array.getElem?_eq_some_iff.1 h3w).1
  have HW := Lib.hid (⟨h3n, h3w⟩ : _ ∧ _)
  clear h3n h3w hb3 hw3 hb HP2 HO
  go_wp2_with fail
  refine wp_act fun T hT => ?_
  refine wp_range_m (α := Bool) (gf := 91) (lb := #[.pointer (some ⟨b + 1, 0, none⟩), .pointer (some ⟨b, 0, none⟩)]) (encs := fun b : Bool => #[.bool b]) (xs := numBits n wd) (by rw [hT]; rfl) (enters_of Tryd.func91 (by kernel_rfl) rfl)
    (fun k => k = g) isU8 w.heap.size (fun k => k = b + 1) (by rintro k rfl; omega) (by rintro k rfl; exact lb3)
    (high1_seq n wd (b + 1) b _ _ _ w3 hwd HW.out.2 HW.out.1 (by omega) (by omega) (by omega) (by unfold isU8; decide)) (fun _ => rfl)
    (fun pre W => PutAt w.heap.size g W (bl ++ pre) ∧ rowOf W (b + 1) 3) (fun s X Y h k hs => ⟨h.1.same k, by obtain ⟨c, r, hh⟩ := h.2; exact ⟨c, r, k _ _ hh rfl⟩⟩) (fun s X Y h k => ⟨h.1.it h.2 k, k.row _ _ h.2⟩)
    ⟨by rw [List.append_nil]; exact HP3.out.1, _, _, HW.out.2⟩
    (fun x a' _ => a' = { tmps := (T.setIfInBounds 39 (.bool x)).setIfInBounds 9 (.bool x), defers := [] }) (fun _ _ _ _ h _ _ => h) ?assign ?body ?done
  case assign =>
    intro l x W K hK
    subst hT
    gi_wp2
    exact hK _ _ (Below.refl _ _) (by simp only [List.setIfInBounds_toArray, List.set_cons_zero, List.set_cons_succ])
  case body =>
    rintro l pre x a' W hw ⟨hp, hr⟩ rfl hx
    have hlen : (bl ++ pre).length < 8000 := by
      have h1 := hx.length_le
      rw [numBits_length, List.length_append] at h1
      simp only [List.length_cons, List.length_nil] at h1
      rw [List.length_append]
      have := HK.out.2.2
      omega
    have hadd := bAdd_any w.heap.size g (bl ++ pre) x W hp hlen (Nat.le_trans HP3.out.2.size hw.size)
    have HA := Lib.hid hadd
    have HR := Lib.hid hr
    clear hadd hr hp hx hw hlen
    subst hT
    simp only [List.setIfInBounds_toArray, List.set_cons_zero, List.set_cons_succ]
    gi_wp2_with fail
    refine ⟨trivial, (CallsIn.inRound l (callsIn_wide.2 HA.out)).mono ?_⟩
    rintro e W3 ⟨⟨v, rfl⟩, h1, h2⟩
    gi_wp2
    refine ⟨h2, by rw [← List.append_assoc]; exact h1, ?_⟩
    obtain ⟨c, r, hh⟩ := HR.out
    exact ⟨c, r, h2.same _ _ hh (by omega) (fun ⟨_, c', e', r', h, h'⟩ => by cases h; cases h')⟩
  case done =>
    rintro D W hD hw ⟨⟨A2, c2, hh, ho⟩, _⟩ hK
    have hB := hw.below HP3.out.2 (HP3.out.2.size) (Nat.le_refl _) (by rintro k (rfl | rfl) <;> omega)
    obtain ⟨M, hM⟩ : ∃ M, M = (bl ++ numBits n wd).length := ⟨_, rfl⟩
    obtain ⟨q, hq⟩ : ∃ q, q = (pack (bl ++ numBits n wd)).length := ⟨_, rfl⟩
    rw [← hM, ← hq] at hh
    rw [← hq] at ho
    have HMQ := Lib.hid (⟨hM, hq⟩ : _ ∧ _)
    have z0 : W.cell? ⟨g, 0, none⟩ = some (.slice A2 q c2) := by simp [World.cell?, hh]
    have z1 : W.cell? ⟨g, 1, none⟩ = some (.int .i64 M) := by simp [World.cell?, hh]
    have z2 : ∀ o, W.frozen? ⟨g, o, none⟩ = false := fun o => frozen_of_row _ _ _ _ _ hh
    have z3 : g < W.heap.size := (Array.getElem?_eq_some_iff.1 hh).1
    have HO := Lib.hid (⟨ho, hh, hB, hK⟩ : _ ∧ _ ∧ _ ∧ _)
    clear ho hh hB hK hM hq hw
    subst hT
    dsimp only
    go_wp2
    refine ⟨⟨[D], ⟨rfl, by simp, ?held⟩⟩, fun w' hb hk => ⟨.tuple #[.agg #[.slice A2 q c2, .int .i64 (M : Nat)], .int .i64 0], ?res, ⟨.slice A2 q c2, ?ret, ?own, ?bel⟩⟩⟩
    case held =>
      rintro D' h
      simp only [List.mem_cons, List.not_mem_nil, or_false] at h
      subst h
      exact ⟨by have := HP3.out.2.size; omega, (Below.heap_setCell _ _ _ _ (by dsimp only; omega)).trans ((Below.heap_setCell _ _ _ _ (by dsimp only; omega)).trans HO.out.2.2.2)⟩
    case res =>
      have e1 := cells_kept hk (b := g) (o := 0) (v := .slice A2 q c2) (by simp [go_sem, z0])
      have e2 := cells_kept hk (b := g) (o := 1) (v := .int .i64 (M : Nat)) (by simp [go_sem, z1])
      simp [results, Tryd.results24, go_sem, e1, e2]
    case ret => rw [← HMQ.out.1]
    case own =>
      have h1 := heap_setCell_same W g 0 _ _ (.slice A2 q c2) HO.out.2.1
      have o2 := keep_box (i := 1) (u := .int .i64 (M : Nat)) h1 (keep_box (i := 0) (u := .slice A2 q c2) HO.out.2.1 HO.out.1)
      rw [← HMQ.out.2]
      exact owns_same o2 fun _ _ _ hg => hk _ _ hg rfl
    case bel => exact ((HO.out.2.2.1.setCell (p := ⟨g, 0, none⟩) hwg _).setCell (p := ⟨g, 1, none⟩) hwg _).trans hb
end Go.Proofs.YtpnnbihofoomeaaDoor
