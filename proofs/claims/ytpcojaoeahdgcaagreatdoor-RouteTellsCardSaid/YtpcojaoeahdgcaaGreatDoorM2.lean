/-
  layout.ports: the iterator over all ports that a layout names.
-/
import Derived.Test.YtpcojaoeahdgcaaGreatDoorM1
import Derived.Deep.DeepCutAuto
import Derived.ChangeKeysEq
import Derived.Laws.StructEq
import Derived.Deep.RegionHeld
import Derived.StillTail
import Derived.Deep.RegionHeld3
import Derived.OrdersIn
import Derived.RangeFuncCalls
import Derived.TacticsIn

namespace Go.Proofs.YtpcojaoeahdgcaaGreatDoor
open Go.RowKit Go.Shelf
attribute [local go_sem] Oper.semAt_some join_at0 join_at1 join_at2 join_at3

/-- Whatever cells there were hold what they held. -/
structure Kept (W W' : World) : Prop where
  size : W.heap.size ≤ W'.heap.size
  cell : ∀ (b o : Nat) (v : Value), W.cell? ⟨b, o, none⟩ = some v → W'.cell? ⟨b, o, none⟩ = some v
theorem Kept.refl (W : World) : Kept W W := ⟨Nat.le_refl _, fun _ _ _ h => h⟩
theorem Kept.trans {X Y Z : World} (h : Kept X Y) (k : Kept Y Z) : Kept X Z := ⟨Nat.le_trans h.size k.size, fun b o v e => k.cell b o v (h.cell b o v e)⟩
theorem Kept.of_below {W W' : World} (h : Below W.heap.size W W') : Kept W W' :=
  ⟨h.size, fun b o _ e => (h.cell (p := ⟨b, o, none⟩) (World.block_lt_of_cell? _ _ e)).trans e⟩
theorem Kept.of_keeps {n : Nat} {W W' : World} (h : KeepsE NoB NoT n W W') : Kept W W' := by
  refine ⟨h.size, fun b o v e => ?_⟩
  obtain ⟨c, t, r, hh⟩ := isCells_of_cell e
  have h2 := h.same b _ hh rfl (fun k => k) (by rintro ⟨_, c', e', r', _, k⟩; exact k)
  exact (World.cell?_of_block (w := W) (a := ⟨b, o, none⟩) (h2.trans hh.symm)).trans e
theorem Kept.of_writes {n : Nat} {W W' : World} (h : WritesE NoB NoT n W W') : Kept W W' := .of_keeps h.keeps
theorem Kept.of_same {W W' : World} (h : SameCells W W') (hs : W.heap.size ≤ W'.heap.size) : Kept W W' := ⟨hs, fun _ _ _ e => h.cell e⟩
theorem RowAt'.kept {α : Type} {W W' : World} {k : Nat} {enc : α → List Value} {b off : Nat} {xs : List α} (h : RowAt' W k enc b off xs) (hb : Kept W W') : RowAt' W' k enc b off xs :=
  ⟨Nat.lt_of_lt_of_le h.1 hb.size, fun j x hx i v hv => hb.cell _ _ _ (h.2 j x hx i v hv)⟩
theorem At.kept {α : Type} {W W' : World} {k : Nat} {enc : α → List Value} {A : Option Addr} {xs : List α} (h : At W k enc A xs) (hb : Kept W W') : At W' k enc A xs := by
  rcases h with h | ⟨b, off, e, h⟩
  · exact .inl h
  · exact .inr ⟨b, off, e, h.kept hb⟩
theorem Sl.kept {α : Type} {W W' : World} {k : Nat} {enc : α → List Value} {v : Value} {xs : List α} (h : Sl W k enc v xs) (hb : Kept W W') : Sl W' k enc v xs := by
  obtain ⟨A, cap, e, h1, h2, h3⟩ := h
  exact ⟨A, cap, e, h1, h2, h3.kept hb⟩
theorem ExAt.kept {W W' : World} {A : Option Addr} {xs : List Ext'} (h : ExAt W A xs) (hb : Kept W W') : ExAt W' A xs := by
  obtain ⟨es, e, h1, h2⟩ := h
  exact ⟨es, e, h1.kept hb, fun y hy => (h2 y hy).kept hb⟩
theorem LayAt.kept {W W' : World} {p : Where} {L : Lay} (h : LayAt W p L) (hb : Kept W W') : LayAt W' p L :=
  ⟨h.secs.kept hb, h.sigs.kept hb, h.exits.kept hb, h.flanks.kept hb, h.l0, h.l1, h.l2, h.l3, h.kinds⟩
theorem Box.kept {W W' : World} {g : Nat} {L : Lay} {p : Where} (h : Box W g L p) (hb : Kept W W') : Box W' g L p := ⟨Nat.lt_of_lt_of_le h.1 hb.size, fun i v hv => hb.cell _ _ _ (h.2 i v hv)⟩
theorem Kinds.kept {W W' : World} (K : Kinds W) (h : Kept W W') : Kinds W' := ⟨fun o v e => h.cell _ _ _ (K.pnone o v e), fun o v e => h.cell _ _ _ (K.pkind o v e)⟩

/-- The ports that are joined, of the first i ports of a section; of the first n sections. -/
def jn (c : Sec) : Nat → List Prt
  | 0 => []
  | i + 1 => jn c i ++ (if 0 ≤ c.S i then [⟨c.S i, c.P i⟩] else [])
def sj (xs : List Sec) : Nat → List Prt
  | 0 => []
  | n + 1 => sj xs n ++ jn (xs.getD n default) 4
def exP (x : Ext') : Prt := ⟨x.s, x.p⟩
def portsL (L : Lay) : List Prt := sj L.secs L.secs.length ++ (L.sigs ++ L.exits.map exP)
theorem jn_pre (c : Sec) {i j : Nat} (h : i ≤ j) : jn c i <+: jn c j := by
  induction h with
  | refl => exact List.prefix_rfl
  | step _ ih => exact ih.trans (List.prefix_append _ _)
theorem sj_pre (xs : List Sec) {i j : Nat} (h : i ≤ j) : sj xs i <+: sj xs j := by
  induction h with
  | refl => exact List.prefix_rfl
  | step _ ih => exact ih.trans (List.prefix_append _ _)
theorem pre_secs {L : Lay} {n i : Nat} {c : Sec} (hn : n < L.secs.length) (hc : L.secs[n]? = some c) (hi : i ≤ 4) : sj L.secs n ++ jn c i <+: portsL L := by
  have h1 : sj L.secs n ++ jn c i <+: sj L.secs (n + 1) := by
    simp only [sj]
    have : L.secs.getD n default = c := by rw [List.getD_eq_getElem?_getD, hc]; rfl
    rw [this]
    exact (List.prefix_append_right_inj _).2 (jn_pre c hi)
  exact (h1.trans (sj_pre L.secs (by omega))).trans (List.prefix_append _ _)
theorem pre_sigs {L : Lay} {n : Nat} : sj L.secs L.secs.length ++ L.sigs.take n <+: portsL L := by
  unfold portsL
  exact (List.prefix_append_right_inj _).2 ((List.take_prefix _ _).trans (List.prefix_append _ _))
theorem pre_exits {L : Lay} {n : Nat} : sj L.secs L.secs.length ++ (L.sigs ++ (L.exits.take n).map exP) <+: portsL L := by
  unfold portsL
  exact (List.prefix_append_right_inj _).2 ((List.prefix_append_right_inj _).2 (by rw [List.map_take]; exact List.take_prefix _ _))
theorem take_more {α : Type} {xs : List α} {n : Nat} {x : α} (h : xs[n]? = some x) : xs.take (n + 1) = xs.take n ++ [x] := by
  obtain ⟨hn, e⟩ := List.getElem?_eq_some_iff.1 h
  rw [List.take_succ_eq_append_getElem hn, e]
theorem lt_of_pre {α : Type} {p q : List α} {x : α} (h : p ++ [x] <+: q) : p.length < q.length := by
  have := h.length_le
  simp at this
  omega

theorem ports_fn (L : Lay) (p : Where) (w : World) :
    Calls Tryz.prog 77 #[L.val p] w fun e w' => e = .returned (.func (.func 104) #[] #[.pointer (some ⟨w.heap.size, 0, none⟩)]) ∧ w' = w.alloc (.cells (L.cells p).toArray 29) := by
  unfold Lay.val Lay.cells
  go_enter Tryz.func77, Tryz.ntmps77
  go_wp2
  go_ret
  exact ⟨rfl, rfl⟩

set_option maxRecDepth 100000 in
set_option maxHeartbeats 16000000 in
theorem ports1_in (l g n₀ : Nat) (L : Lay) (p : Where) (J Jx : List Prt → World → Prop) (W : World) (hJ : AbidesFrom W.heap.size J)
    (hY : ∀ pre x W1, J pre W1 → pre.length < (portsL L).length → YieldAt Fence.wide 3 Tryz.prog l #[.agg #[.int .i64 (x : Prt).s, .int .i64 x.p]] W1 fun e W' =>
      (e = .returned (.bool true) ∧ J (pre ++ [x]) W' ∧ KeepsE NoB NoT n₀ W1 W') ∨ (e = .returned (.bool false) ∧ Jx (pre ++ [x]) W'))
    (hL : LayAt W p L) (hB : Box W g L p) (hJ0 : J [] W) :
    CallsIn Fence.wide 4 Tryz.prog 104 #[.func (.yield l) #[] #[], .pointer (some ⟨g, 0, none⟩)] W fun e W' => (∃ v, e = .returned v) ∧
      ((∃ ys, ys = portsL L ∧ J ys W') ∨ (∃ pre, (pre <+: portsL L) ∧ Jx pre W')) := by
  have hJg : ∀ s (X Y : World), W.heap.size ≤ X.heap.size → J s X → Below X.heap.size X Y → J s Y := fun s X Y _ hx hb => hJ s X Y none hx ⟨hb.os, hb.tape, hb.output, hb.size, fun k' hk' _ => hb.block k' hk'⟩ (fun r e => by cases e)
  have m0 : L.secs.length ≤ 9223372036854775807 := Nat.le_trans hL.l0.1 hL.l0.2
  have m1 : L.sigs.length ≤ 9223372036854775807 := Nat.le_trans hL.l1.1 hL.l1.2
  have m2 : L.exits.length ≤ 9223372036854775807 := Nat.le_trans hL.l2.1 hL.l2.2
  obtain ⟨a0, a1, a2, a3, p0, p1, p2, p3⟩ := p
  have HL := Lib.hid hL
  have HB := Lib.hid hB
  have HJ := Lib.hid hJg
  have HY := Lib.hid hY
  have c0 := hB.2 0 _ rfl
  have lg := hB.1
  clear hL hB hJg hJ hY
  refine callsIn_of_wp Tryz.func104 rfl trivial ?_ rfl
  simp only [Tryz.ntmps104, List.size_toArray, List.length_cons, List.length_nil, Nat.reduceAdd, Nat.reduceSub, Array.replicate_succ, Array.replicate_zero, List.push_toArray, List.append_toArray, List.nil_append, List.cons_append]
  gi_wp2_with fail
  gi_loopw [14] (fun c wr => ∃ n : Nat, n ≤ L.secs.length ∧ c = .int .i64 n ∧ J (sj L.secs n) wr ∧ Kept W wr) (fun c _ => L.secs.length - (intOf c).toNat)
  case atStart => exact ⟨0, Nat.zero_le _, rfl, hJ0, Kept.refl _⟩
  case round =>
    obtain ⟨n, hn, rfl, hJn, hK⟩ := hrel
    obtain ⟨wo, rfl⟩ : ∃ wo : World, wo = wr := ⟨_, rfl⟩
    have HJn := Lib.hid hJn
    have HK := Lib.hid hK
    clear hJn hK
    by_cases hlt : n < L.secs.length
    · obtain ⟨x, hx⟩ : ∃ x, L.secs[n]? = some x := ⟨L.secs[n], List.getElem?_eq_getElem hlt⟩
      obtain ⟨b, off, hAe, hrow⟩ := (HL.out.kept HK.out).secs.get hlt
      dsimp only at hAe
      subst hAe
      obtain ⟨k0, k1, k2, k3, k4, k5, k6, k7, k8, k9, k10⟩ := sec_cells hrow hx
      have lb := hrow.1
      have hpre := fun i (hi : i ≤ 4) => pre_secs hlt hx hi
      have HP := Lib.hid hpre
      have hdef : L.secs.getD n default = x := by rw [List.getD_eq_getElem?_getD, hx]; rfl
      have HD := Lib.hid hdef
      obtain ⟨k, s0, q0, s1, q1, s2, q2, s3, q3, cl0, cl1⟩ := x
      dsimp only at k0 k1 k2 k3 k4 k5 k6 k7 k8 k9 k10
      clear hrow hx hpre hdef
      gi_wp2_with fail
      obtain ⟨Wm, hWm⟩ : ∃ Wm, Wm = wo.alloc (.cells #[.int .u8 k, .int .i64 s0, .int .i64 q0, .int .i64 s1, .int .i64 q1, .int .i64 s2, .int .i64 q2, .int .i64 s3, .int .i64 q3, .int .i64 cl0, .int .i64 cl1] 73) := ⟨_, rfl⟩
      have hJm : Hid (J (sj L.secs n ++ jn ⟨k, s0, q0, s1, q1, s2, q2, s3, q3, cl0, cl1⟩ 0) Wm) := Lib.hid (by
        rw [hWm]
        simp only [jn, List.append_nil]
        exact HJ.out _ _ _ HK.out.size HJn.out bself)
      have hKm : Hid (Kept W Wm) := Lib.hid (by rw [hWm]; exact HK.out.trans (.of_below bself))
      rw [← hWm]
      clear hWm k0 k1 k2 k3 k4 k5 k6 k7 k8 k9 k10 lb
      gi_loopw [20] (fun c wi => ∃ i : Nat, i ≤ 4 ∧ c = .int .i64 i ∧ Hid (J (sj L.secs n ++ jn ⟨k, s0, q0, s1, q1, s2, q2, s3, q3, cl0, cl1⟩ i) wi) ∧ Hid (Kept W wi)) (fun c _ => 4 - (intOf c).toNat)
      case atStart => exact ⟨0, by omega, rfl, hJm, hKm⟩
      case round =>
        obtain ⟨i, hi, rfl, HJi, HKi⟩ := hrel
        clear hJm hKm
        have cs : i = 0 ∨ i = 1 ∨ i = 2 ∨ i = 3 ∨ i = 4 := by omega
        rcases cs with rfl | rfl | rfl | rfl | rfl
        · by_cases hs : 0 ≤ s0
          · have hd : decide (0 ≤ s0) = true := decide_eq_true hs
            obtain ⟨Wy, hWy⟩ : ∃ Wy, Wy = wr.alloc (.cells #[.int .i64 s0, .int .i64 q0] 49) := ⟨_, rfl⟩
            have By : Below wr.heap.size wr Wy := by rw [hWy]; exact bself
            have Jy := HJ.out _ _ Wy HKi.out.size HJi.out By
            have e : jn ⟨k, s0, q0, s1, q1, s2, q2, s3, q3, cl0, cl1⟩ 1 = jn ⟨k, s0, q0, s1, q1, s2, q2, s3, q3, cl0, cl1⟩ 0 ++ [⟨s0, q0⟩] := by
              rw [jn]
              exact congrArg _ (if_pos hs)
            have hp := HP.out 1 (by omega)
            rw [e, ← List.append_assoc] at hp
            obtain ⟨fn, tmps, assign, body, hyy, hR⟩ := HY.out _ ⟨s0, q0⟩ Wy Jy (lt_of_pre hp)
            have HE := Lib.hid (⟨e, hp, By⟩ : _ ∧ _ ∧ _)
            subst hWy
            clear e hp Jy By
            gi_wp2
            refine hR.mono ?_
            rintro e W3 (⟨rfl, hJ3, hk3⟩ | ⟨rfl, hJx3⟩)
            · have H3 := Lib.hid (⟨hJ3, (HKi.out.trans (.of_below HE.out.2.2)).trans (.of_keeps hk3)⟩ : _ ∧ _)
              clear hJ3 hk3
              gi_wp2
              go_roundw
              case rel => exact ⟨1, by omega, rfl, Lib.hid (by rw [HE.out.1, ← List.append_assoc]; exact H3.out.1), Lib.hid H3.out.2⟩
              case measure => simp [intOf]
            · gi_wp2
              refine bodyPost_ret (results_none rfl _ _ _) rfl ?_
              exact ⟨⟨_, rfl⟩, .inr ⟨_, HE.out.2.1, hJx3⟩⟩
          · have hd : decide (0 ≤ s0) = false := decide_eq_false hs
            have e : jn ⟨k, s0, q0, s1, q1, s2, q2, s3, q3, cl0, cl1⟩ 1 = jn ⟨k, s0, q0, s1, q1, s2, q2, s3, q3, cl0, cl1⟩ 0 := by
              rw [jn]
              exact (congrArg _ (if_neg hs)).trans (List.append_nil _)
            have HE := Lib.hid e
            clear e
            gi_wp2
            refine ⟨fun _ h => (by cases h), ?_⟩
            gi_wp2
            go_roundw
            case rel => exact ⟨1, by omega, rfl, Lib.hid (by rw [HE.out]; exact HJ.out _ _ _ HKi.out.size HJi.out bself), Lib.hid (HKi.out.trans (.of_below bself))⟩
            case measure => simp [intOf]
        · by_cases hs : 0 ≤ s1
          · have hd : decide (0 ≤ s1) = true := decide_eq_true hs
            obtain ⟨Wy, hWy⟩ : ∃ Wy, Wy = wr.alloc (.cells #[.int .i64 s1, .int .i64 q1] 49) := ⟨_, rfl⟩
            have By : Below wr.heap.size wr Wy := by rw [hWy]; exact bself
            have Jy := HJ.out _ _ Wy HKi.out.size HJi.out By
            have e : jn ⟨k, s0, q0, s1, q1, s2, q2, s3, q3, cl0, cl1⟩ 2 = jn ⟨k, s0, q0, s1, q1, s2, q2, s3, q3, cl0, cl1⟩ 1 ++ [⟨s1, q1⟩] := by
              rw [jn]
              exact congrArg _ (if_pos hs)
            have hp := HP.out 2 (by omega)
            rw [e, ← List.append_assoc] at hp
            obtain ⟨fn, tmps, assign, body, hyy, hR⟩ := HY.out _ ⟨s1, q1⟩ Wy Jy (lt_of_pre hp)
            have HE := Lib.hid (⟨e, hp, By⟩ : _ ∧ _ ∧ _)
            subst hWy
            clear e hp Jy By
            gi_wp2
            refine hR.mono ?_
            rintro e W3 (⟨rfl, hJ3, hk3⟩ | ⟨rfl, hJx3⟩)
            · have H3 := Lib.hid (⟨hJ3, (HKi.out.trans (.of_below HE.out.2.2)).trans (.of_keeps hk3)⟩ : _ ∧ _)
              clear hJ3 hk3
              gi_wp2
              go_roundw
              case rel => exact ⟨2, by omega, rfl, Lib.hid (by rw [HE.out.1, ← List.append_assoc]; exact H3.out.1), Lib.hid H3.out.2⟩
              case measure => simp [intOf]
            · gi_wp2
              refine bodyPost_ret (results_none rfl _ _ _) rfl ?_
              exact ⟨⟨_, rfl⟩, .inr ⟨_, HE.out.2.1, hJx3⟩⟩
          · have hd : decide (0 ≤ s1) = false := decide_eq_false hs
            have e : jn ⟨k, s0, q0, s1, q1, s2, q2, s3, q3, cl0, cl1⟩ 2 = jn ⟨k, s0, q0, s1, q1, s2, q2, s3, q3, cl0, cl1⟩ 1 := by
              rw [jn]
              exact (congrArg _ (if_neg hs)).trans (List.append_nil _)
            have HE := Lib.hid e
            clear e
            gi_wp2
            refine ⟨fun _ h => (by cases h), ?_⟩
            gi_wp2
            go_roundw
            case rel => exact ⟨2, by omega, rfl, Lib.hid (by rw [HE.out]; exact HJ.out _ _ _ HKi.out.size HJi.out bself), Lib.hid (HKi.out.trans (.of_below bself))⟩
            case measure => simp [intOf]
        · by_cases hs : 0 ≤ s2
          · have hd : decide (0 ≤ s2) = true := decide_eq_true hs
            obtain ⟨Wy, hWy⟩ : ∃ Wy, Wy = wr.alloc (.cells #[.int .i64 s2, .int .i64 q2] 49) := ⟨_, rfl⟩
            have By : Below wr.heap.size wr Wy := by rw [hWy]; exact bself
            have Jy := HJ.out _ _ Wy HKi.out.size HJi.out By
            have e : jn ⟨k, s0, q0, s1, q1, s2, q2, s3, q3, cl0, cl1⟩ 3 = jn ⟨k, s0, q0, s1, q1, s2, q2, s3, q3, cl0, cl1⟩ 2 ++ [⟨s2, q2⟩] := by
              rw [jn]
              exact congrArg _ (if_pos hs)
            have hp := HP.out 3 (by omega)
            rw [e, ← List.append_assoc] at hp
            obtain ⟨fn, tmps, assign, body, hyy, hR⟩ := HY.out _ ⟨s2, q2⟩ Wy Jy (lt_of_pre hp)
            have HE := Lib.hid (⟨e, hp, By⟩ : _ ∧ _ ∧ _)
            subst hWy
            clear e hp Jy By
            gi_wp2
            refine hR.mono ?_
            rintro e W3 (⟨rfl, hJ3, hk3⟩ | ⟨rfl, hJx3⟩)
            · have H3 := Lib.hid (⟨hJ3, (HKi.out.trans (.of_below HE.out.2.2)).trans (.of_keeps hk3)⟩ : _ ∧ _)
              clear hJ3 hk3
              gi_wp2
              go_roundw
              case rel => exact ⟨3, by omega, rfl, Lib.hid (by rw [HE.out.1, ← List.append_assoc]; exact H3.out.1), Lib.hid H3.out.2⟩
              case measure => simp [intOf]
            · gi_wp2
              refine bodyPost_ret (results_none rfl _ _ _) rfl ?_
              exact ⟨⟨_, rfl⟩, .inr ⟨_, HE.out.2.1, hJx3⟩⟩
          · have hd : decide (0 ≤ s2) = false := decide_eq_false hs
            have e : jn ⟨k, s0, q0, s1, q1, s2, q2, s3, q3, cl0, cl1⟩ 3 = jn ⟨k, s0, q0, s1, q1, s2, q2, s3, q3, cl0, cl1⟩ 2 := by
              rw [jn]
              exact (congrArg _ (if_neg hs)).trans (List.append_nil _)
            have HE := Lib.hid e
            clear e
            gi_wp2
            refine ⟨fun _ h => (by cases h), ?_⟩
            gi_wp2
            go_roundw
            case rel => exact ⟨3, by omega, rfl, Lib.hid (by rw [HE.out]; exact HJ.out _ _ _ HKi.out.size HJi.out bself), Lib.hid (HKi.out.trans (.of_below bself))⟩
            case measure => simp [intOf]
        · by_cases hs : 0 ≤ s3
          · have hd : decide (0 ≤ s3) = true := decide_eq_true hs
            obtain ⟨Wy, hWy⟩ : ∃ Wy, Wy = wr.alloc (.cells #[.int .i64 s3, .int .i64 q3] 49) := ⟨_, rfl⟩
            have By : Below wr.heap.size wr Wy := by rw [hWy]; exact bself
            have Jy := HJ.out _ _ Wy HKi.out.size HJi.out By
            have e : jn ⟨k, s0, q0, s1, q1, s2, q2, s3, q3, cl0, cl1⟩ 4 = jn ⟨k, s0, q0, s1, q1, s2, q2, s3, q3, cl0, cl1⟩ 3 ++ [⟨s3, q3⟩] := by
              rw [jn]
              exact congrArg _ (if_pos hs)
            have hp := HP.out 4 (by omega)
            rw [e, ← List.append_assoc] at hp
            obtain ⟨fn, tmps, assign, body, hyy, hR⟩ := HY.out _ ⟨s3, q3⟩ Wy Jy (lt_of_pre hp)
            have HE := Lib.hid (⟨e, hp, By⟩ : _ ∧ _ ∧ _)
            subst hWy
            clear e hp Jy By
            gi_wp2
            refine hR.mono ?_
            rintro e W3 (⟨rfl, hJ3, hk3⟩ | ⟨rfl, hJx3⟩)
            · have H3 := Lib.hid (⟨hJ3, (HKi.out.trans (.of_below HE.out.2.2)).trans (.of_keeps hk3)⟩ : _ ∧ _)
              clear hJ3 hk3
              gi_wp2
              go_roundw
              case rel => exact ⟨4, by omega, rfl, Lib.hid (by rw [HE.out.1, ← List.append_assoc]; exact H3.out.1), Lib.hid H3.out.2⟩
              case measure => simp [intOf]
            · gi_wp2
              refine bodyPost_ret (results_none rfl _ _ _) rfl ?_
              exact ⟨⟨_, rfl⟩, .inr ⟨_, HE.out.2.1, hJx3⟩⟩
          · have hd : decide (0 ≤ s3) = false := decide_eq_false hs
            have e : jn ⟨k, s0, q0, s1, q1, s2, q2, s3, q3, cl0, cl1⟩ 4 = jn ⟨k, s0, q0, s1, q1, s2, q2, s3, q3, cl0, cl1⟩ 3 := by
              rw [jn]
              exact (congrArg _ (if_neg hs)).trans (List.append_nil _)
            have HE := Lib.hid e
            clear e
            gi_wp2
            refine ⟨fun _ h => (by cases h), ?_⟩
            gi_wp2
            go_roundw
            case rel => exact ⟨4, by omega, rfl, Lib.hid (by rw [HE.out]; exact HJ.out _ _ _ HKi.out.size HJi.out bself), Lib.hid (HKi.out.trans (.of_below bself))⟩
            case measure => simp [intOf]
        · gi_wp2
          go_roundw
          case rel => exact ⟨n + 1, by omega, by go_num, by simp only [sj]; rw [HD.out]; exact HJi.out, HKi.out⟩
          case measure => simp [intOf]; omega
    · obtain rfl : n = L.secs.length := by omega
      have hB := HB.out.kept HK.out
      have lg' := hB.1
      have c1 := hB.2 1 _ rfl
      have c2 := hB.2 2 _ rfl
      clear hB
      gi_wp2_with fail
      gi_loopw [37] (fun c wr => ∃ n : Nat, n ≤ L.sigs.length ∧ c = .int .i64 n ∧ J (sj L.secs L.secs.length ++ L.sigs.take n) wr ∧ Kept W wr) (fun c _ => L.sigs.length - (intOf c).toNat)
      case atStart => exact ⟨0, Nat.zero_le _, rfl, by simpa using HJn.out, HK.out⟩
      case round =>
        obtain ⟨n, hn, rfl, hJn, hK⟩ := hrel
        clear c1 c2 HJn HK
        have HJn := Lib.hid hJn
        have HK := Lib.hid hK
        clear hJn hK
        by_cases hlt : n < L.sigs.length
        · obtain ⟨x, hx⟩ : ∃ x, L.sigs[n]? = some x := ⟨L.sigs[n], List.getElem?_eq_getElem hlt⟩
          obtain ⟨b, off, hAe, hrow⟩ := (HL.out.kept HK.out).sigs.get hlt
          dsimp only at hAe
          subst hAe
          have k0 : wr.cell? ⟨b, off + n * 2, none⟩ = some (.int .i64 x.s) := hrow.2 n x hx 0 _ rfl
          have k1 : wr.cell? ⟨b, off + n * 2 + 1, none⟩ = some (.int .i64 x.p) := hrow.2 n x hx 1 _ rfl
          have lb := hrow.1
          have e := take_more hx
          have hp := pre_sigs (L := L) (n := n + 1)
          rw [e, ← List.append_assoc] at hp
          obtain ⟨s, q⟩ := x
          dsimp only at k0 k1
          obtain ⟨Wy, hWy⟩ : ∃ Wy, Wy = wr.alloc (.cells #[.int .i64 s, .int .i64 q] 56) := ⟨_, rfl⟩
          have By : Below wr.heap.size wr Wy := by rw [hWy]; exact bself
          have Jy := HJ.out _ _ Wy HK.out.size HJn.out By
          obtain ⟨fn, tmps, assign, body, hyy, hR⟩ := HY.out _ ⟨s, q⟩ Wy Jy (lt_of_pre hp)
          have HE := Lib.hid (⟨e, hp, By⟩ : _ ∧ _ ∧ _)
          subst hWy
          clear e hp Jy By hrow hx
          gi_wp2
          refine hR.mono ?_
          rintro e W3 (⟨rfl, hJ3, hk3⟩ | ⟨rfl, hJx3⟩)
          · have H3 := Lib.hid (⟨hJ3, (HK.out.trans (.of_below HE.out.2.2)).trans (.of_keeps hk3)⟩ : _ ∧ _)
            clear hJ3 hk3
            gi_wp2
            go_roundw
            case rel => exact ⟨n + 1, by omega, by go_num, by rw [HE.out.1, ← List.append_assoc]; exact H3.out.1, H3.out.2⟩
            case measure => simp [intOf]; omega
          · gi_wp2
            refine bodyPost_ret (results_none rfl _ _ _) rfl ?_
            exact ⟨⟨_, rfl⟩, .inr ⟨_, HE.out.2.1, hJx3⟩⟩
        · obtain rfl : n = L.sigs.length := by omega
          have hB := HB.out.kept HK.out
          have lg'' := hB.1
          have c2 := hB.2 2 _ rfl
          clear hB
          gi_wp2_with fail
          gi_loopw [50] (fun c wr => ∃ n : Nat, n ≤ L.exits.length ∧ c = .int .i64 n ∧ J (sj L.secs L.secs.length ++ (L.sigs ++ (L.exits.take n).map exP)) wr ∧ Kept W wr) (fun c _ => L.exits.length - (intOf c).toNat)
          case atStart => exact ⟨0, Nat.zero_le _, rfl, by simpa using HJn.out, HK.out⟩
          case round =>
            obtain ⟨n, hn, rfl, hJn, hK⟩ := hrel
            clear c2 HJn HK
            have HJn := Lib.hid hJn
            have HK := Lib.hid hK
            clear hJn hK
            by_cases hlt : n < L.exits.length
            · obtain ⟨es, hes, hAt, hov⟩ := (HL.out.kept HK.out).exits
              have hlen : es.length = L.exits.length := by rw [← hes, List.length_map]
              obtain ⟨b, off, hAe, hrow⟩ := hAt.get (j := n) (by omega)
              dsimp only at hAe
              subst hAe
              obtain ⟨y, hy⟩ : ∃ y, es[n]? = some y := ⟨es[n]'(by omega), List.getElem?_eq_getElem (by omega)⟩
              have hx : L.exits[n]? = some y.1 := by rw [← hes, List.getElem?_map, hy]; rfl
              have k0 : wr.cell? ⟨b, off + n * 3, none⟩ = some (.int .i64 y.1.s) := hrow.2 n y hy 0 _ rfl
              have k1 : wr.cell? ⟨b, off + n * 3 + 1, none⟩ = some (.int .i64 y.1.p) := hrow.2 n y hy 1 _ rfl
              have k2 : wr.cell? ⟨b, off + n * 3 + 2, none⟩ = some y.2 := hrow.2 n y hy 2 _ rfl
              obtain ⟨vA, vc, ve, _, _, _⟩ := hov y (List.mem_of_getElem? hy)
              obtain ⟨m, hm⟩ : ∃ m, m = y.1.over.length := ⟨_, rfl⟩
              rw [ve, ← hm] at k2
              have lb := hrow.1
              have e := take_more hx
              have hp := pre_exits (L := L) (n := n + 1)
              have em : (L.exits.take (n + 1)).map exP = (L.exits.take n).map exP ++ [⟨y.1.s, y.1.p⟩] := by rw [e, List.map_append]; rfl
              rw [em, ← List.append_assoc, ← List.append_assoc] at hp
              obtain ⟨s, hs⟩ : ∃ s, s = y.1.s := ⟨_, rfl⟩
              obtain ⟨q, hq⟩ : ∃ q, q = y.1.p := ⟨_, rfl⟩
              rw [← hs] at k0
              rw [← hq] at k1
              rw [← hs, ← hq] at hp em
              obtain ⟨Wy, hWy⟩ : ∃ Wy, Wy = wr.alloc (.cells #[.int .i64 s, .int .i64 q, .slice vA m vc] 51) := ⟨_, rfl⟩
              have By : Below wr.heap.size wr Wy := by rw [hWy]; exact bself
              have Jy := HJ.out _ _ Wy HK.out.size HJn.out By
              rw [← List.append_assoc] at Jy
              obtain ⟨fn, tmps, assign, body, hyy, hR⟩ := HY.out _ ⟨s, q⟩ Wy Jy (lt_of_pre hp)
              have HE := Lib.hid (⟨em, hp, By⟩ : _ ∧ _ ∧ _)
              subst hWy
              clear e em hp Jy By hrow hx hy hes hAt hov hlen ve hm hs hq
              gi_wp2
              refine hR.mono ?_
              rintro e W3 (⟨rfl, hJ3, hk3⟩ | ⟨rfl, hJx3⟩)
              · have H3 := Lib.hid (⟨hJ3, (HK.out.trans (.of_below HE.out.2.2)).trans (.of_keeps hk3)⟩ : _ ∧ _)
                clear hJ3 hk3
                gi_wp2
                go_roundw
                case rel => exact ⟨n + 1, by omega, by go_num, by rw [HE.out.1, ← List.append_assoc, ← List.append_assoc]; exact H3.out.1, H3.out.2⟩
                case measure => simp [intOf]; omega
              · gi_wp2
                refine bodyPost_ret (results_none rfl _ _ _) rfl ?_
                exact ⟨⟨_, rfl⟩, .inr ⟨_, HE.out.2.1, hJx3⟩⟩
            · obtain rfl : n = L.exits.length := by omega
              gi_wp2
              go_end0
              exact ⟨⟨_, rfl⟩, .inl ⟨_, rfl, by simpa [portsL] using HJn.out⟩⟩
end Go.Proofs.YtpcojaoeahdgcaaGreatDoor

/-
  slices.Min, slices.Max at []int.
-/
namespace Go.Proofs.YtpcojaoeahdgcaaGreatDoor
open Go.RowKit Go.Shelf

def MinOf (zs : List Int) (w : World) (e : Ending) (w' : World) : Prop := ∃ m, e = .returned (.int .i64 m) ∧ m ∈ zs ∧ (∀ z ∈ zs, m ≤ z) ∧ w = w'
def MaxOf (zs : List Int) (w : World) (e : Ending) (w' : World) : Prop := ∃ m, e = .returned (.int .i64 m) ∧ m ∈ zs ∧ (∀ z ∈ zs, z ≤ m) ∧ w = w'
theorem more_min {zs : List Int} {n : Nat} {m z x : Int} (hz : zs[n]? = some z) (h1 : m ∈ zs) (h2 : ∀ (j : Nat) y, j < n → zs[j]? = some y → m ≤ y) (hx : x = m ∨ x = z) (hy : x ≤ m ∧ x ≤ z) : x ∈ zs ∧ ∀ (j : Nat) y, j < n + 1 → zs[j]? = some y → x ≤ y := by
  refine ⟨?_, fun j y hj hjy => ?_⟩
  · rcases hx with rfl | rfl
    · exact h1
    · exact List.mem_of_getElem? hz
  · by_cases e : j = n
    · subst e
      rw [hz] at hjy
      cases hjy
      omega
    · have := h2 j y (by omega) hjy
      omega
theorem more_max {zs : List Int} {n : Nat} {m z x : Int} (hz : zs[n]? = some z) (h1 : m ∈ zs) (h2 : ∀ (j : Nat) y, j < n → zs[j]? = some y → y ≤ m) (hx : x = m ∨ x = z) (hy : m ≤ x ∧ z ≤ x) : x ∈ zs ∧ ∀ (j : Nat) y, j < n + 1 → zs[j]? = some y → y ≤ x := by
  refine ⟨?_, fun j y hj hjy => ?_⟩
  · rcases hx with rfl | rfl
    · exact h1
    · exact List.mem_of_getElem? hz
  · by_cases e : j = n
    · subst e
      rw [hz] at hjy
      cases hjy
      omega
    · have := h2 j y (by omega) hjy
      omega

set_option maxRecDepth 100000 in
set_option maxHeartbeats 2000000 in
theorem min_any (b cap : Nat) (zs : List Int) (w : World) (hc : ∀ (j : Nat) (z : Int), zs[j]? = some z → w.cell? ⟨b, j, none⟩ = some (.int .i64 z)) (h1 : 0 < zs.length) (hm : zs.length ≤ 9223372036854775807) :
    Calls Tryz.prog 73 #[.slice (some ⟨b, 0, none⟩) zs.length cap] w (MinOf zs w) := by
  obtain ⟨len, hlen⟩ : ∃ len, len = zs.length := ⟨_, rfl⟩
  rw [← hlen] at hm h1 ⊢
  have HC := Lib.hid hc
  have HL := Lib.hid hlen
  obtain ⟨z0, hz0⟩ : ∃ z, zs[0]? = some z := ⟨zs[0]'(by omega), List.getElem?_eq_getElem _⟩
  have c0 := hc 0 z0 hz0
  have HZ := Lib.hid hz0
  clear hc hlen hz0
  have hd : decide ((len : Int) < 1) = false := decide_eq_false (by omega)
  have hd1 : ¬ (len : Int) < 1 := by omega
  have hd2 : 0 < len := h1
  go_enter Tryz.func73, Tryz.ntmps73
  go_wp2_with fail
  go_loop [3, 4] (fun s3 s4 => ∃ (n : Nat) (m : Int), 1 ≤ n ∧ n ≤ len ∧ s4 = .int .i64 n ∧ s3 = .int .i64 m ∧ Hid (m ∈ zs ∧ ∀ (j : Nat) z, j < n → zs[j]? = some z → m ≤ z)) (fun _ s4 => len - (intOf s4).toNat)
  case atStart =>
    refine ⟨1, z0, by omega, by omega, rfl, rfl, Lib.hid ⟨List.mem_of_getElem? HZ.out, fun j z hj hz => ?_⟩⟩
    obtain rfl : j = 0 := by omega
    rw [HZ.out] at hz
    cases hz
    omega
  case round =>
    obtain ⟨n, m, hn1, hn, rfl, rfl, HM⟩ := hrel
    clear c0
    by_cases hlt : n < len
    · obtain ⟨z, hz⟩ : ∃ z, zs[n]? = some z := ⟨zs[n]'(by rw [← HL.out]; exact hlt), List.getElem?_eq_getElem _⟩
      have c := HC.out n z hz
      have HZn := Lib.hid hz
      clear hz
      have cs : m ≤ z ∨ z < m := by omega
      rcases cs with h | h
      all_goals
        go_wp2
        go_round
        case rel =>
          refine ⟨n + 1, _, by omega, by omega, by go_num, rfl, Lib.hid ?_⟩
          refine more_min HZn.out HM.out.1 HM.out.2 ?_ ?_
          · first | exact .inl rfl | exact .inr rfl | (split <;> simp)
          · first | (split <;> omega) | omega
        case measure => simp [intOf]; omega
    · obtain rfl : n = len := by omega
      go_wp2
      go_ret
      refine ⟨m, rfl, HM.out.1, fun z hz => ?_, rfl⟩
      obtain ⟨j, hj, e⟩ := List.mem_iff_getElem.1 hz
      exact HM.out.2 j z (by rw [HL.out]; exact hj) (by rw [← e]; exact List.getElem?_eq_getElem hj)

set_option maxRecDepth 100000 in
set_option maxHeartbeats 2000000 in
theorem max_any (b cap : Nat) (zs : List Int) (w : World) (hc : ∀ (j : Nat) (z : Int), zs[j]? = some z → w.cell? ⟨b, j, none⟩ = some (.int .i64 z)) (h1 : 0 < zs.length) (hm : zs.length ≤ 9223372036854775807) :
    Calls Tryz.prog 74 #[.slice (some ⟨b, 0, none⟩) zs.length cap] w (MaxOf zs w) := by
  obtain ⟨len, hlen⟩ : ∃ len, len = zs.length := ⟨_, rfl⟩
  rw [← hlen] at hm h1 ⊢
  have HC := Lib.hid hc
  have HL := Lib.hid hlen
  obtain ⟨z0, hz0⟩ : ∃ z, zs[0]? = some z := ⟨zs[0]'(by omega), List.getElem?_eq_getElem _⟩
  have c0 := hc 0 z0 hz0
  have HZ := Lib.hid hz0
  clear hc hlen hz0
  have hd : decide ((len : Int) < 1) = false := decide_eq_false (by omega)
  have hd1 : ¬ (len : Int) < 1 := by omega
  have hd2 : 0 < len := h1
  go_enter Tryz.func74, Tryz.ntmps74
  go_wp2_with fail
  go_loop [3, 4] (fun s3 s4 => ∃ (n : Nat) (m : Int), 1 ≤ n ∧ n ≤ len ∧ s4 = .int .i64 n ∧ s3 = .int .i64 m ∧ Hid (m ∈ zs ∧ ∀ (j : Nat) z, j < n → zs[j]? = some z → z ≤ m)) (fun _ s4 => len - (intOf s4).toNat)
  case atStart =>
    refine ⟨1, z0, by omega, by omega, rfl, rfl, Lib.hid ⟨List.mem_of_getElem? HZ.out, fun j z hj hz => ?_⟩⟩
    obtain rfl : j = 0 := by omega
    rw [HZ.out] at hz
    cases hz
    omega
  case round =>
    obtain ⟨n, m, hn1, hn, rfl, rfl, HM⟩ := hrel
    clear c0
    by_cases hlt : n < len
    · obtain ⟨z, hz⟩ : ∃ z, zs[n]? = some z := ⟨zs[n]'(by rw [← HL.out]; exact hlt), List.getElem?_eq_getElem _⟩
      have c := HC.out n z hz
      have HZn := Lib.hid hz
      clear hz
      have cs : m ≤ z ∨ z < m := by omega
      rcases cs with h | h
      all_goals
        go_wp2
        go_round
        case rel =>
          refine ⟨n + 1, _, by omega, by omega, by go_num, rfl, Lib.hid ?_⟩
          refine more_max HZn.out HM.out.1 HM.out.2 ?_ ?_
          · first | exact .inl rfl | exact .inr rfl | (split <;> simp)
          · first | (split <;> omega) | omega
        case measure => simp [intOf]; omega
    · obtain rfl : n = len := by omega
      go_wp2
      go_ret
      refine ⟨m, rfl, HM.out.1, fun z hz => ?_, rfl⟩
      obtain ⟨j, hj, e⟩ := List.mem_iff_getElem.1 hz
      exact HM.out.2 j z (by rw [HL.out]; exact hj) (by rw [← e]; exact List.getElem?_eq_getElem hj)
end Go.Proofs.YtpcojaoeahdgcaaGreatDoor

/-
  layout.Right.
-/
namespace Go.Proofs.YtpcojaoeahdgcaaGreatDoor
open Go.RowKit Go.Shelf
attribute [local go_sem] Oper.semAt_some

def sizesT (L : Lay) : Bool := decide (L.secs.length ≤ 24) && decide (L.sigs.length ≤ 12) && decide (L.exits.length ≤ 12) && decide (L.flanks.length ≤ 16)
def Lay.times (L : Lay) : List Int := [L.t0, L.t1, L.t2, L.t3, L.t4, L.t5, L.t6]
def timesT (L : Lay) : Bool := L.times.all fun t => decide (1 ≤ t) && decide (t ≤ 1000)
def overT (L : Lay) (x : Ext') : Bool := decide (x.over.length ≤ 2) && x.over.all (fun s => stepB L s.s s.i s.o)
def portsT (L : Lay) : Bool := (portsL L).all (fun x => hasB L x.s x.p)
def rightL (L : Lay) : Bool := sizesT L && timesT L && L.secs.all rightT && L.flanks.all (flankT L) && portsT L && L.exits.all (overT L)
theorem any_not {α : Type} (f : α → Bool) (xs : List α) : xs.any (fun x => !f x) = !xs.all f := by
  induction xs with
  | nil => rfl
  | cons x xs ih => simp [ih]
theorem times_min {L : Lay} {m : Int} (h1 : m ∈ L.times) (h2 : ∀ z ∈ L.times, m ≤ z) {k : Int} (h3 : k ∈ L.times) (h4 : ∀ z ∈ L.times, z ≤ k) : timesT L = (decide (1 ≤ m) && decide (k ≤ 1000)) := by
  unfold timesT
  rw [Bool.eq_iff_iff]
  simp only [List.all_eq_true, Bool.and_eq_true, decide_eq_true_iff]
  constructor
  · intro h; exact ⟨(h m h1).1, (h k h3).2⟩
  · intro h z hz
    have := h2 z hz
    have := h4 z hz
    omega

theorem ports_stops (L : Lay) (p : Where) (g : Nat) (w : World) (hL : LayAt w p L) (hB : Box w g L p) :
    SeqStopsK Fence.wide 4 Tryz.prog 104 #[.pointer (some ⟨g, 0, none⟩)] (fun x : Prt => #[.agg #[.int .i64 x.s, .int .i64 x.p]]) (KeepsE NoB NoT w.heap.size) (fun ys => ys = portsL L) (fun pre => pre <+: portsL L) (portsL L).length w := by
  intro l J Jx W hW hJ _ hY hJ0
  exact ports1_in l g w.heap.size L p J Jx W hJ hY (hL.below hW) (hB.below hW) hJ0

/-- What Right's loop over the ports leaves. -/
def PI (L : Lay) (pre : List Prt) : Prop := ∀ x ∈ pre, hasB L x.s x.p = true
def PX (L : Lay) (c : Code) (pre : List Prt) : Prop := c = .goto 0 ∧ ∃ x ∈ pre, hasB L x.s x.p = false

set_option maxRecDepth 100000 in
set_option maxHeartbeats 16000000 in
theorem rightLay_any (L : Lay) (p : Where) (w : World) (hL : LayAt w p L) (K : Kinds w) :
    Calls Tryz.prog 55 #[L.val p] w fun e w' => e = .returned (.bool (rightL L)) ∧ Below w.heap.size w w' := by
  have hr : (sizesT L = true → timesT L = true → L.secs.all rightT = true → L.flanks.all (flankT L) = true → portsT L = true → rightL L = L.exits.all (overT L)) ∧
      (sizesT L = false → rightL L = false) ∧ (timesT L = false → rightL L = false) ∧ (L.secs.all rightT = false → rightL L = false) ∧ (L.flanks.all (flankT L) = false → rightL L = false) ∧ (portsT L = false → rightL L = false) := by
    unfold rightL
    refine ⟨fun h1 h2 h3 h4 h5 => by simp [h1, h2, h3, h4, h5], fun h => by simp [h], fun h => by simp [h], fun h => by simp [h], fun h => by simp [h], fun h => by simp [h]⟩
  generalize rightL L = r at hr ⊢
  have m0 : L.secs.length ≤ 9223372036854775807 := Nat.le_trans hL.l0.1 hL.l0.2
  have m1 : L.sigs.length ≤ 9223372036854775807 := Nat.le_trans hL.l1.1 hL.l1.2
  have m2 : L.exits.length ≤ 9223372036854775807 := Nat.le_trans hL.l2.1 hL.l2.2
  have m3 : L.flanks.length ≤ 9223372036854775807 := Nat.le_trans hL.l3.1 hL.l3.2
  obtain ⟨a0, a1, a2, a3, p0, p1, p2, p3⟩ := p
  have HR := Lib.hid hr
  have HL := Lib.hid hL
  have KH := Lib.hid K
  clear hr hL K
  refine calls_marked w.heap.size Tryz.func55 rfl ?_
  simp only [Tryz.ntmps55, List.size_toArray, List.length_cons, List.length_nil, Nat.reduceAdd, Nat.reduceSub, Array.replicate_succ, Array.replicate_zero, List.push_toArray, List.append_toArray, List.nil_append, List.cons_append]
  go_wp2_with fail
  refine wp_scope_fwd 0 rfl ?_
  go_upto_region 6 with fail
  obtain ⟨X, hX⟩ : ∃ X, X = ((w.alloc (.cells #[.slice a0 L.secs.length p0, .slice a1 L.sigs.length p1, .slice a2 L.exits.length p2, .slice a3 L.flanks.length p3, .int .i64 L.t0, .int .i64 L.t1, .int .i64 L.t2, .int .i64 L.t3, .int .i64 L.t4, .int .i64 L.t5, .int .i64 L.t6] 29)).alloc (.cells #[.int .i64 L.t0, .int .i64 L.t1, .int .i64 L.t2, .int .i64 L.t3, .int .i64 L.t4, .int .i64 L.t5, .int .i64 L.t6] 27)).alloc (.cells #[.int .i64 L.t0, .int .i64 L.t1, .int .i64 L.t2, .int .i64 L.t3, .int .i64 L.t4, .int .i64 L.t5, .int .i64 L.t6] 3) := ⟨_, rfl⟩
  have hB : Below w.heap.size w X := by rw [hX]; exact bchain (bchain bself bself) bself
  have hsz : X.heap.size = w.heap.size + 3 := by rw [hX]; simp
  have hBox : Box X w.heap.size L ⟨a0, a1, a2, a3, p0, p1, p2, p3⟩ := by
    refine ⟨by omega, fun i v hv => ?_⟩
    rw [hX]
    simpa [go_sem, Lay.cells] using hv
  have hT : ∀ (j : Nat) (z : Int), L.times[j]? = some z → X.cell? ⟨w.heap.size + 1 + 1, j, none⟩ = some (.int .i64 z) := by
    intro j z hz
    rw [hX]
    have hl : j < 7 := (List.getElem?_eq_some_iff.1 hz).1
    have : j = 0 ∨ j = 1 ∨ j = 2 ∨ j = 3 ∨ j = 4 ∨ j = 5 ∨ j = 6 := by omega
    rcases this with rfl | rfl | rfl | rfl | rfl | rfl | rfl <;> (cases hz; simp [go_sem])
  rw [← hX]
  have HBX := Lib.hid hB
  have HBo := Lib.hid hBox
  have HT := Lib.hid hT
  have lX : w.heap.size < X.heap.size := by omega
  have c0 : X.cell? ⟨w.heap.size, 0, none⟩ = some (.slice a0 L.secs.length p0) := hBox.2 0 _ rfl
  have c1 : X.cell? ⟨w.heap.size, 1, none⟩ = some (.slice a1 L.sigs.length p1) := hBox.2 1 _ rfl
  have c2 : X.cell? ⟨w.heap.size, 2, none⟩ = some (.slice a2 L.exits.length p2) := hBox.2 2 _ rfl
  have c3 : X.cell? ⟨w.heap.size, 3, none⟩ = some (.slice a3 L.flanks.length p3) := hBox.2 3 _ rfl
  clear hX hB hsz hBox hT
  by_cases h0 : 24 < L.secs.length ∨ 12 < L.sigs.length ∨ 12 < L.exits.length ∨ 16 < L.flanks.length
  · obtain rfl : r = false := HR.out.2.1 (by unfold sizesT; simp; omega)
    have h0' : (24 : Int) < L.secs.length ∨ (12 : Int) < L.sigs.length ∨ (12 : Int) < L.exits.length ∨ (16 : Int) < L.flanks.length := by omega
    clear h0
    go_wp2_with fail
    all_goals
      first
        | (exfalso; omega)
        | (
           refine wp_goto ?_
           refine ⟨rfl, ?_⟩
           go_wp2
           rw [Exit.noGoto_ret]
           exact ⟨⟨[], Marked.nil _ _⟩, fun w' hb hk => ⟨.bool false, by simp [results, Tryz.results55, go_sem], rfl, (HBX.out).trans hb⟩⟩)
  · have hs : sizesT L = true := by unfold sizesT; simp; omega
    have HS := Lib.hid hs
    have d0 : decide ((24 : Int) < (L.secs.length : Int)) = false := decide_eq_false (by omega)
    have d1 : decide ((12 : Int) < (L.sigs.length : Int)) = false := decide_eq_false (by omega)
    have d2 : decide ((12 : Int) < (L.exits.length : Int)) = false := decide_eq_false (by omega)
    have d3 : decide ((16 : Int) < (L.flanks.length : Int)) = false := decide_eq_false (by omega)
    clear h0 hs
    have hmin : Calls Tryz.prog 73 #[.slice (some ⟨w.heap.size + 1 + 1, 0, none⟩) 7 7] X (MinOf L.times X) := min_any (w.heap.size + 1 + 1) 7 L.times X HT.out (by simp [Lay.times]) (by simp [Lay.times])
    have hmax : Calls Tryz.prog 74 #[.slice (some ⟨w.heap.size + 1 + 1, 0, none⟩) 7 7] X (MaxOf L.times X) := max_any (w.heap.size + 1 + 1) 7 L.times X HT.out (by simp [Lay.times]) (by simp [Lay.times])
    have hcs : ∀ W, Below X.heap.size X W → Calls Tryz.prog 75 #[.slice a0 L.secs.length p0, .func (.func 68) #[] #[]] W fun e w' => e = .returned (.bool (L.secs.any (fun c => !rightT c))) ∧ Below W.heap.size W w' := fun W hW =>
      containsSection_any 68 #[] (enters_of Tryz.func68 (by kernel_rfl) rfl) (fun c => !rightT c) a0 p0 L.secs W (HL.out.below (bchain HBX.out hW)).secs HL.out.l0.1 HL.out.l0.2
        (fun W' c hc hb => by simpa using right1_any c (HL.out.kinds c hc).1 (HL.out.kinds c hc).2 W' (KH.out.below (bchain (bchain HBX.out hW) hb)))
    have hcf : ∀ W, Below X.heap.size X W → Calls Tryz.prog 76 #[.slice a3 L.flanks.length p3, .func (.func 71) #[] #[.pointer (some ⟨w.heap.size, 0, none⟩)]] W fun e w' => e = .returned (.bool (L.flanks.any (fun c => !flankT L c))) ∧ Below W.heap.size W w' := fun W hW =>
      containsFlank_any 71 #[.pointer (some ⟨w.heap.size, 0, none⟩)] (enters_of Tryz.func71 (by kernel_rfl) rfl) (fun c => !flankT L c) a3 p3 L.flanks W (HL.out.below (bchain HBX.out hW)).flanks HL.out.l3.1 HL.out.l3.2
        (fun W' c _ hb => right3_any L ⟨a0, a1, a2, a3, p0, p1, p2, p3⟩ c w.heap.size W' (HL.out.below (bchain (bchain HBX.out hW) hb)) (KH.out.below (bchain (bchain HBX.out hW) hb)) (HBo.out.below (bchain hW hb)))
    rw [any_not] at hcs hcf
    obtain ⟨q1, hq1⟩ : ∃ q, q = L.secs.all rightT := ⟨_, rfl⟩
    obtain ⟨q2, hq2⟩ : ∃ q, q = L.flanks.all (flankT L) := ⟨_, rfl⟩
    rw [← hq1] at hcs
    rw [← hq2] at hcf
    rw [← hq1, ← hq2] at HR
    have HMIN := Lib.hid hmin
    have HMAX := Lib.hid hmax
    have HCS := Lib.hid hcs
    have HCF := Lib.hid hcf
    clear hmin hmax hcs hcf hq1 hq2
    go_wp2_with fail
    (with_reducible refine HMIN.out.mono ?_)
    rintro e w1 ⟨m, rfl, hm1, hm2, rfl⟩
    have HM := Lib.hid (⟨hm1, hm2⟩ : _ ∧ _)
    clear hm1 hm2
    by_cases g1 : m < 1
    · obtain rfl : r = false := HR.out.2.2.1 (by
        unfold timesT
        rw [List.all_eq_false]
        exact ⟨m, HM.out.1, by simp; omega⟩)
      go_wp2_with fail
      refine wp_goto ?_
      refine ⟨rfl, ?_⟩
      go_wp2
      rw [Exit.noGoto_ret]
      exact ⟨⟨[], Marked.nil _ _⟩, fun w' hb hk => ⟨.bool false, by simp [results, Tryz.results55, go_sem], rfl, (HBX.out).trans hb⟩⟩
    · have e1 : decide (m < 1) = false := decide_eq_false g1
      go_wp2_with fail
      (with_reducible refine HMAX.out.mono ?_)
      rintro e w1 ⟨k, rfl, hk1, hk2, rfl⟩
      have HK := Lib.hid (⟨hk1, hk2⟩ : _ ∧ _)
      clear hk1 hk2
      by_cases g2 : 1000 < k
      · obtain rfl : r = false := HR.out.2.2.1 (by
          unfold timesT
          rw [List.all_eq_false]
          exact ⟨k, HK.out.1, by simp; omega⟩)
        have e2 : decide ((1000 : Int) < k) = true := decide_eq_true g2
        go_wp2_with fail
        refine wp_goto ?_
        refine ⟨rfl, ?_⟩
        go_wp2
        rw [Exit.noGoto_ret]
        exact ⟨⟨[], Marked.nil _ _⟩, fun w' hb hk => ⟨.bool false, by simp [results, Tryz.results55, go_sem], rfl, (HBX.out).trans hb⟩⟩
      · have e2 : decide ((1000 : Int) < k) = false := decide_eq_false g2
        have ht : timesT L = true := by
          rw [times_min HM.out.1 HM.out.2 HK.out.1 HK.out.2]
          simp
          omega
        have HTT := Lib.hid ht
        clear ht
        go_wp2_with fail
        (with_reducible refine (HCS.out _ (Below.refl _ _)).mono ?_)
        rintro e W1 ⟨rfl, b1⟩
        cases q1 with
        | false =>
          obtain rfl : r = false := HR.out.2.2.2.1 rfl
          have B1 := bchain HBX.out b1
          clear b1
          go_wp2_with fail
          refine wp_goto ?_
          refine ⟨rfl, ?_⟩
          go_wp2
          rw [Exit.noGoto_ret]
          exact ⟨⟨[], Marked.nil _ _⟩, fun w' hb hk => ⟨.bool false, by simp [results, Tryz.results55, go_sem], rfl, (B1).trans hb⟩⟩
        | true =>
          have HB1 := Lib.hid b1
          have lX1 : w.heap.size < W1.heap.size := Nat.lt_of_lt_of_le lX b1.size
          have x3 := (b1.cell (p := ⟨w.heap.size, 3, none⟩) lX).trans c3
          clear b1 c0 c1 c2 c3
          go_wp2_with fail
          (with_reducible refine (HCF.out _ HB1.out).mono ?_)
          rintro e W2 ⟨rfl, b2⟩
          have HB2 := Lib.hid (bchain HB1.out b2)
          have lX2 : w.heap.size < W2.heap.size := Nat.lt_of_lt_of_le lX1 b2.size
          clear b2 x3 HB1
          cases q2 with
          | false =>
            obtain rfl : r = false := HR.out.2.2.2.2.1 rfl
            have B1 := bchain HBX.out HB2.out
            go_wp2_with fail
            refine wp_goto ?_
            refine ⟨rfl, ?_⟩
            go_wp2
            rw [Exit.noGoto_ret]
            exact ⟨⟨[], Marked.nil _ _⟩, fun w' hb hk => ⟨.bool false, by simp [results, Tryz.results55, go_sem], rfl, (B1).trans hb⟩⟩
          | true =>
            have hbox2 := HBo.out.below HB2.out
            have c0 : W2.cell? ⟨w.heap.size, 0, none⟩ = some (.slice a0 L.secs.length p0) := hbox2.2 0 _ rfl
            have c1 : W2.cell? ⟨w.heap.size, 1, none⟩ = some (.slice a1 L.sigs.length p1) := hbox2.2 1 _ rfl
            have c2 : W2.cell? ⟨w.heap.size, 2, none⟩ = some (.slice a2 L.exits.length p2) := hbox2.2 2 _ rfl
            have c3 : W2.cell? ⟨w.heap.size, 3, none⟩ = some (.slice a3 L.flanks.length p3) := hbox2.2 3 _ rfl
            have c4 : W2.cell? ⟨w.heap.size, 4, none⟩ = some (.int .i64 L.t0) := hbox2.2 4 _ rfl
            have c5 : W2.cell? ⟨w.heap.size, 5, none⟩ = some (.int .i64 L.t1) := hbox2.2 5 _ rfl
            have c6 : W2.cell? ⟨w.heap.size, 6, none⟩ = some (.int .i64 L.t2) := hbox2.2 6 _ rfl
            have c7 : W2.cell? ⟨w.heap.size, 7, none⟩ = some (.int .i64 L.t3) := hbox2.2 7 _ rfl
            have c8 : W2.cell? ⟨w.heap.size, 8, none⟩ = some (.int .i64 L.t4) := hbox2.2 8 _ rfl
            have c9 : W2.cell? ⟨w.heap.size, 9, none⟩ = some (.int .i64 L.t5) := hbox2.2 9 _ rfl
            have c10 : W2.cell? ⟨w.heap.size, 10, none⟩ = some (.int .i64 L.t6) := hbox2.2 10 _ rfl
            have hpf := ports_fn L ⟨a0, a1, a2, a3, p0, p1, p2, p3⟩ W2
            unfold Lay.val at hpf
            have HPF := Lib.hid hpf
            clear hbox2 hpf
            go_wp2_with fail
            (with_reducible refine HPF.out.mono ?_)
            rintro e W3 ⟨rfl, rfl⟩
            go_wp2_with fail
            have hBV : Below w.heap.size w (W2.alloc (.cells (L.cells ⟨a0, a1, a2, a3, p0, p1, p2, p3⟩).toArray 29)) := bchain (bchain HBX.out HB2.out) bself
            have hbV : Box (W2.alloc (.cells (L.cells ⟨a0, a1, a2, a3, p0, p1, p2, p3⟩).toArray 29)) W2.heap.size L ⟨a0, a1, a2, a3, p0, p1, p2, p3⟩ := ⟨by simp, fun i v hv => by simpa [go_sem] using hv⟩
            have hbo : Box (W2.alloc (.cells (L.cells ⟨a0, a1, a2, a3, p0, p1, p2, p3⟩).toArray 29)) w.heap.size L ⟨a0, a1, a2, a3, p0, p1, p2, p3⟩ := HBo.out.below (bchain HB2.out bself)
            have hlV : W2.heap.size + 1 = (W2.alloc (.cells (L.cells ⟨a0, a1, a2, a3, p0, p1, p2, p3⟩).toArray 29)).heap.size := by simp
            generalize (W2.alloc (.cells (L.cells ⟨a0, a1, a2, a3, p0, p1, p2, p3⟩).toArray 29)) = V at hBV hbV hbo hlV ⊢
            have HBV := Lib.hid hBV
            have HBO := Lib.hid hbo
            have HLV := Lib.hid (HL.out.below hBV)
            have HKV := Lib.hid (KH.out.below hBV)
            have hlw : w.heap.size ≤ V.heap.size := hBV.size
            clear c0 c1 c2 c3 c4 c5 c6 c7 c8 c9 c10 HPF HB2
            refine wp_range_box (gf := 104) (lb := #[.pointer (some ⟨W2.heap.size, 0, none⟩)]) rfl (enters_of Tryz.func104 (by kernel_rfl) rfl) (fun x : Prt => x.enc) 8
              (ports_stops L ⟨a0, a1, a2, a3, p0, p1, p2, p3⟩ W2.heap.size _ HLV.out hbV) (fun _ => rfl) (PI L) (PX L) (fun _ h => (by cases h)) ?assign ?body ?done ?stop
            case assign =>
              intro l x W Kn hK
              gi_wp2
              refine hK _ _ bself ⟨W.heap.size, by first | rfl | simp [go_sem], by simp, fun i v hv => ?_⟩
              simpa [go_sem, Prt.enc] using hv
            case body =>
              rintro l pre x bx W hb hi lbx hcs hlen
              have k0 : W.cell? ⟨bx, 0, none⟩ = some (.int .i64 x.s) := hcs 0 _ rfl
              have k1 : W.cell? ⟨bx, 1, none⟩ = some (.int .i64 x.p) := hcs 1 _ rfl
              clear hcs
              have hbx := HBO.out.below hb
              have lg := hbx.1
              have c0 : W.cell? ⟨w.heap.size, 0, none⟩ = some (.slice a0 L.secs.length p0) := hbx.2 0 _ rfl
              have c1 : W.cell? ⟨w.heap.size, 1, none⟩ = some (.slice a1 L.sigs.length p1) := hbx.2 1 _ rfl
              have c2 : W.cell? ⟨w.heap.size, 2, none⟩ = some (.slice a2 L.exits.length p2) := hbx.2 2 _ rfl
              have c3 : W.cell? ⟨w.heap.size, 3, none⟩ = some (.slice a3 L.flanks.length p3) := hbx.2 3 _ rfl
              have c4 : W.cell? ⟨w.heap.size, 4, none⟩ = some (.int .i64 L.t0) := hbx.2 4 _ rfl
              have c5 : W.cell? ⟨w.heap.size, 5, none⟩ = some (.int .i64 L.t1) := hbx.2 5 _ rfl
              have c6 : W.cell? ⟨w.heap.size, 6, none⟩ = some (.int .i64 L.t2) := hbx.2 6 _ rfl
              have c7 : W.cell? ⟨w.heap.size, 7, none⟩ = some (.int .i64 L.t3) := hbx.2 7 _ rfl
              have c8 : W.cell? ⟨w.heap.size, 8, none⟩ = some (.int .i64 L.t4) := hbx.2 8 _ rfl
              have c9 : W.cell? ⟨w.heap.size, 9, none⟩ = some (.int .i64 L.t5) := hbx.2 9 _ rfl
              have c10 : W.cell? ⟨w.heap.size, 10, none⟩ = some (.int .i64 L.t6) := hbx.2 10 _ rfl
              have hat := at_any L ⟨a0, a1, a2, a3, p0, p1, p2, p3⟩ x.s x.p W (HLV.out.below hb) (HKV.out.below hb)
              have hh : hasB L x.s x.p = (atO L x.s x.p).isSome := rfl
              unfold Lay.val atV Sec.enc at hat
              obtain ⟨xs, xp⟩ := x
              dsimp only at k0 k1 hat hh
              generalize (atO L xs xp).getD zeroSec = z at hat
              generalize (atO L xs xp).isSome = y at hat hh
              have HAT := Lib.hid hat
              have HH := Lib.hid hh
              have HI := Lib.hid hi
              clear hbx hat hh hi
              gi_wp2_with fail
              refine ⟨trivial, (callsIn_wide.2 HAT.out).mono ?_⟩
              rintro e W4 ⟨rfl, b4⟩
              cases y with
              | true =>
                gi_wp2
                refine ⟨bchain b4 bself, fun t ht => ?_⟩
                rcases List.mem_append.1 ht with ht | ht
                · exact HI.out t ht
                · rw [List.mem_singleton.1 ht]; exact HH.out
              | false =>
                gi_wp2
                refine wpIn_goto ?_
                exact ⟨bchain b4 bself, rfl, ⟨xs, xp⟩, by simp, HH.out⟩
            case stop =>
              rintro D c pre W hD hS hw ⟨rfl, x, hx, hf⟩ hK
              obtain rfl : r = false := HR.out.2.2.2.2.2 (by
                unfold portsT
                rw [List.all_eq_false]
                exact ⟨x, hS.subset hx, by rw [hf]; simp⟩)
              have hB := bchain HBV.out hw
              refine wp_goto ?_
              refine ⟨rfl, ?_⟩
              dsimp only
              go_wp2
              try rw [Exit.noGoto_ret]
              refine ⟨⟨[D], ⟨rfl, by simp, ?held⟩⟩, fun w' hb hk => ⟨.bool false, by simp [results, Tryz.results55, go_sem], rfl, hB.trans hb⟩⟩
              case held =>
                rintro D' h
                simp only [List.mem_cons, List.not_mem_nil, or_false] at h
                subst h
                exact ⟨by omega, hK⟩
            case done =>
              rintro D ys W hD rfl hw hi hK
              have hpt : portsT L = true := by
                unfold portsT
                rw [List.all_eq_true]
                exact hi
              have HPT := Lib.hid hpt
              have HW := Lib.hid hw
              have HKD := Lib.hid hK
              have hbx := HBO.out.below hw
              have lg := hbx.1
              have c2 : W.cell? ⟨w.heap.size, 2, none⟩ = some (.slice a2 L.exits.length p2) := hbx.2 2 _ rfl
              clear hpt hw hi hK hbx
              dsimp only
              go_wp2_with fail
              go_loopg [88] L.exits.length (fun gg s88 wr => ∃ n : Nat, n ≤ L.exits.length ∧ L.exits.length - n ≤ gg ∧ s88 = .int .i64 n ∧ Hid (Below W.heap.size W wr) ∧ Hid (∀ (j : Nat), j < n → ∀ y, L.exits[j]? = some y → overT L y = true))
              case atStart => exact ⟨0, Nat.zero_le _, by omega, rfl, Lib.hid (Below.refl _ _), Lib.hid (fun j hj => absurd hj (Nat.not_lt_zero _))⟩
              case round =>
                obtain ⟨n, hn, hg, rfl, HBr, HJ⟩ := hrel
                clear c2
                have hBw := bchain HBV.out (bchain HW.out HBr.out)
                have lgr : w.heap.size < wr.heap.size := by have := hBw.size; have := hlw; have := HBr.out.size; omega
                have hKr : wr.heap[D]? = some (.deferred (some [])) := (HBr.out.block D (Array.getElem?_eq_some_iff.1 HKD.out).1).trans HKD.out
                have HKR := Lib.hid hKr
                have HBW := Lib.hid hBw
                clear hKr hBw
                by_cases hlt : n < L.exits.length
                · obtain ⟨es, hes, hAt, hov⟩ := (HL.out.below HBW.out).exits
                  have hlen : es.length = L.exits.length := by rw [← hes, List.length_map]
                  obtain ⟨b, off, hAe, hrow⟩ := hAt.get (j := n) (by omega)
                  dsimp only at hAe
                  subst hAe
                  obtain ⟨y, hy⟩ : ∃ y, es[n]? = some y := ⟨es[n]'(by omega), List.getElem?_eq_getElem (by omega)⟩
                  have hx : L.exits[n]? = some y.1 := by rw [← hes, List.getElem?_map, hy]; rfl
                  have k0 : wr.cell? ⟨b, off + n * 3, none⟩ = some (.int .i64 y.1.s) := hrow.2 n y hy 0 _ rfl
                  have k1 : wr.cell? ⟨b, off + n * 3 + 1, none⟩ = some (.int .i64 y.1.p) := hrow.2 n y hy 1 _ rfl
                  have k2 : wr.cell? ⟨b, off + n * 3 + 2, none⟩ = some y.2 := hrow.2 n y hy 2 _ rfl
                  obtain ⟨vA, vc, ve, hvl, hvm, hva⟩ := hov y (List.mem_of_getElem? hy)
                  have hover : overT L y.1 = (decide (y.1.over.length ≤ 2) && y.1.over.all (fun s => stepB L s.s s.i s.o)) := rfl
                  have hcst : ∀ W', Below wr.heap.size wr W' → Calls Tryz.prog 31 #[.slice vA y.1.over.length vc, .func (.func 70) #[] #[.pointer (some ⟨w.heap.size, 0, none⟩)]] W' fun e w' => e = .returned (.bool (y.1.over.any (fun s => !stepB L s.s s.i s.o))) ∧ Below W'.heap.size W' w' := fun W' hW' =>
                    containsStep_any 70 #[.pointer (some ⟨w.heap.size, 0, none⟩)] (enters_of Tryz.func70 (by kernel_rfl) rfl) (fun s => !stepB L s.s s.i s.o) vA vc y.1.over W' (hva.below hW') hvl hvm
                      (fun W'' s _ hb => right2_any L _ s.s s.i s.o w.heap.size W'' (HL.out.below (bchain (bchain HBW.out hW') hb)) (KH.out.below (bchain (bchain HBW.out hW') hb)) (HBO.out.below (bchain (bchain (bchain HW.out HBr.out) hW') hb)))
                  rw [any_not] at hcst
                  have hx1 : overT L y.1 = false → L.exits.all (overT L) = false := fun h => by rw [List.all_eq_false]; exact ⟨y.1, List.mem_of_getElem? hx, by rw [h]; simp⟩
                  have HX := Lib.hid (⟨hx, hx1⟩ : _ ∧ _)
                  rw [ve] at k2
                  obtain ⟨m, hm⟩ : ∃ m, m = y.1.over.length := ⟨_, rfl⟩
                  obtain ⟨ov, hov'⟩ : ∃ o, o = overT L y.1 := ⟨_, rfl⟩
                  obtain ⟨al, hal⟩ : ∃ o, o = y.1.over.all (fun s => stepB L s.s s.i s.o) := ⟨_, rfl⟩
                  rw [← hm] at k2
                  rw [← hm, ← hal] at hcst
                  rw [← hm, ← hal, ← hov'] at hover
                  rw [← hov'] at HX
                  have HOV := Lib.hid (⟨hover, hov'⟩ : _ ∧ _)
                  have HCST := Lib.hid hcst
                  have lb := hrow.1
                  have hm2 : m ≤ 9223372036854775807 := by
                    rw [hm]
                    exact Nat.le_trans hvl hvm
                  generalize y.1.s = es1 at k0
                  generalize y.1.p = ep1 at k1
                  clear hes hAt hov hlen hrow hy hx hx1 ve hvl hvm hva hcst hm hal hov' hover
                  by_cases g1 : 2 < m
                  · have hof : ov = false := by rw [HOV.out.1, decide_eq_false (by omega)]; rfl
                    obtain rfl : r = false := (HR.out.1 HS.out HTT.out (by simp) (by simp) HPT.out).trans (HX.out.2 hof)
                    have d1 : decide ((2 : Int) < (m : Int)) = true := decide_eq_true (by omega)
                    go_wp2_with fail
                    refine wp_goto ?_
                    refine ⟨rfl, ?_⟩
                    go_wp2
                    rw [Exit.noGoto_ret]
                    refine ⟨⟨[D], ⟨rfl, by simp, ?held⟩⟩, fun w' hb hk => ⟨.bool false, by simp [results, Tryz.results55, go_sem], rfl, (bchain HBW.out bself).trans hb⟩⟩
                    case held =>
                      rintro D' h
                      simp only [List.mem_cons, List.not_mem_nil, or_false] at h
                      subst h
                      exact ⟨by omega, (bself.block _ (Array.getElem?_eq_some_iff.1 HKR.out).1).trans HKR.out⟩
                  · have d1 : decide ((2 : Int) < (m : Int)) = false := decide_eq_false (by omega)
                    go_wp2_with fail
                    (with_reducible refine (HCST.out _ bself).mono ?_)
                    rintro e W5 ⟨rfl, b5⟩
                    have HB5 := Lib.hid (bnew b5)
                    clear b5
                    cases al with
                    | false =>
                      have hof : ov = false := by rw [HOV.out.1]; simp
                      obtain rfl : r = false := (HR.out.1 HS.out HTT.out (by simp) (by simp) HPT.out).trans (HX.out.2 hof)
                      go_wp2_with fail
                      refine wp_goto ?_
                      refine ⟨rfl, ?_⟩
                      go_wp2
                      rw [Exit.noGoto_ret]
                      refine ⟨⟨[D], ⟨rfl, by simp, ?held⟩⟩, fun w' hb hk => ⟨.bool false, by simp [results, Tryz.results55, go_sem], rfl, (bchain HBW.out HB5.out).trans hb⟩⟩
                      case held =>
                        rintro D' h
                        simp only [List.mem_cons, List.not_mem_nil, or_false] at h
                        subst h
                        exact ⟨by omega, (HB5.out.block _ (Array.getElem?_eq_some_iff.1 HKR.out).1).trans HKR.out⟩
                    | true =>
                      have hot : ov = true := by rw [HOV.out.1, decide_eq_true (by omega)]; rfl
                      go_wp2
                      go_roundg (L.exits.length - (n + 1))
                      case measure => omega
                      case rel =>
                        refine ⟨n + 1, by omega, by omega, by go_num, Lib.hid (bchain HBr.out HB5.out), Lib.hid (fun j hj z hz => ?_)⟩
                        by_cases e : j = n
                        · subst e
                          rw [HX.out.1] at hz
                          cases hz
                          rw [← HOV.out.2]
                          exact hot
                        · exact HJ.out j (by omega) z hz
                · obtain rfl : n = L.exits.length := by omega
                  have hall : L.exits.all (overT L) = true := by
                    rw [List.all_eq_true]
                    intro x hx
                    obtain ⟨j, hj, e⟩ := List.mem_iff_getElem.1 hx
                    exact HJ.out j hj x (by rw [← e]; exact List.getElem?_eq_getElem hj)
                  obtain rfl : r = true := (HR.out.1 HS.out HTT.out (by simp) (by simp) HPT.out).trans hall
                  go_wp2
                  rw [Exit.fwd_ret]
                  refine ⟨⟨[D], ⟨rfl, by simp, ?held⟩⟩, fun w' hb hk => ⟨.bool true, by simp [results, Tryz.results55, go_sem], rfl, HBW.out.trans hb⟩⟩
                  case held =>
                    rintro D' h
                    simp only [List.mem_cons, List.not_mem_nil, or_false] at h
                    subst h
                    exact ⟨by omega, HKR.out⟩
end Go.Proofs.YtpcojaoeahdgcaaGreatDoor

/-
  slices.Equal, slices.EqualFunc at the structs of a layout; layout.Same.
-/
namespace Go.Proofs.YtpcojaoeahdgcaaGreatDoor
open Go.RowKit Go.Shelf

theorem eq_of_all {α : Type} {xs ys : List α} (hl : xs.length = ys.length) (h : ∀ (j : Nat), j < xs.length → xs[j]? = ys[j]?) : xs = ys := by
  apply List.ext_getElem? 
  intro j
  by_cases hj : j < xs.length
  · exact h j hj
  · rw [List.getElem?_eq_none (by omega), List.getElem?_eq_none (by omega)]

set_option maxRecDepth 100000 in
set_option maxHeartbeats 4000000 in
theorem equalStep_any (A A' : Option Addr) (cap cap' : Nat) (xs ys : List Stp) (w : World) (hA : At w 3 Stp.enc A xs) (hA' : At w 3 Stp.enc A' ys) (hm : xs.length ≤ 9223372036854775807) :
    Calls Tryz.prog 39 #[.slice A xs.length cap, .slice A' ys.length cap'] w fun e w' => e = .returned (.bool (decide (xs = ys))) ∧ Below w.heap.size w w' := by
  by_cases hl : xs.length = ys.length
  · have hr : (xs = ys → decide (xs = ys) = true) ∧ (¬ xs = ys → decide (xs = ys) = false) := ⟨decide_eq_true, decide_eq_false⟩
    generalize decide (xs = ys) = r at hr ⊢
    have HX := Lib.hid hr
    obtain ⟨len, hlen⟩ : ∃ len, len = xs.length := ⟨_, rfl⟩
    rw [← hl]
    rw [← hlen] at hm ⊢
    have HLN := Lib.hid (⟨hlen, hlen.trans hl⟩ : _ ∧ _)
    have HA := Lib.hid hA
    have HA' := Lib.hid hA'
    clear hA hA' hlen hr hl
    go_enter Tryz.func39, Tryz.ntmps39
    go_wp2_with fail
    go_loopg [13] len (fun gg s13 wr => ∃ n : Nat, n ≤ len ∧ len - n ≤ gg ∧ s13 = .int .i64 n ∧ Hid (Below w.heap.size w wr) ∧ Hid (∀ (j : Nat), j < n → xs[j]? = ys[j]?))
    case atStart => exact ⟨0, Nat.zero_le _, by omega, rfl, Lib.hid (Below.refl _ w), Lib.hid (fun j hj => absurd hj (Nat.not_lt_zero _))⟩
    case round =>
      obtain ⟨n, hn, hg, rfl, HB, HJ⟩ := hrel
      by_cases hlt : n < len
      · obtain ⟨b, off, hAe, hrow⟩ := HA.out.get (by rw [← HLN.out.1]; exact hlt)
        subst hAe
        obtain ⟨b', off', hAe, hrow'⟩ := HA'.out.get (by rw [← HLN.out.2]; exact hlt)
        subst hAe
        obtain ⟨x, hx⟩ : ∃ x, xs[n]? = some x := ⟨xs[n]'(by rw [← HLN.out.1]; exact hlt), List.getElem?_eq_getElem _⟩
        obtain ⟨y, hy⟩ : ∃ y, ys[n]? = some y := ⟨ys[n]'(by rw [← HLN.out.2]; exact hlt), List.getElem?_eq_getElem _⟩
        have h0 := hrow.1
        have h0' := hrow'.1
        have c0 := (HB.out.cell (p := ⟨b, off + n * 3, none⟩) h0).trans (hrow.2 n x hx 0 _ rfl)
        have e0 := (HB.out.cell (p := ⟨b', off' + n * 3, none⟩) h0').trans (hrow'.2 n y hy 0 _ rfl)
        have c1 := (HB.out.cell (p := ⟨b, off + n * 3 + 1, none⟩) h0).trans (hrow.2 n x hx 1 _ rfl)
        have e1 := (HB.out.cell (p := ⟨b', off' + n * 3 + 1, none⟩) h0').trans (hrow'.2 n y hy 1 _ rfl)
        have c2 := (HB.out.cell (p := ⟨b, off + n * 3 + 2, none⟩) h0).trans (hrow.2 n x hx 2 _ rfl)
        have e2 := (HB.out.cell (p := ⟨b', off' + n * 3 + 2, none⟩) h0').trans (hrow'.2 n y hy 2 _ rfl)
        have lb := Nat.lt_of_lt_of_le h0 HB.out.size
        have lb' := Nat.lt_of_lt_of_le h0' HB.out.size
        have HXY := Lib.hid (⟨hx, hy⟩ : _ ∧ _)
        obtain ⟨xs, xi, xo⟩ := x
        obtain ⟨ys, yi, yo⟩ := y
        dsimp only at c0 e0 c1 e1 c2 e2
        clear hrow hrow' hx hy HA HA' h0 h0'
        by_cases h0 : xs = ys
        · subst h0
          by_cases h1 : xi = yi
          · subst h1
            by_cases h2 : xo = yo
            · subst h2
              go_wp2_with fail
              refine wp_region_ext (by kernel_rfl) (by kernel_rfl) fun hx => ?_
              repeat (go_big_quiet_step (fail))
              refine wpQuiet_nil ?_
              intro w5 b5
              go_wp2
              go_roundg (len - (n + 1))
              case measure => omega
              case rel =>
                refine ⟨n + 1, by omega, by omega, by go_num, Lib.hid (bchain HB.out b5), Lib.hid (fun j hj => ?_)⟩
                by_cases e : j = n
                · subst e
                  rw [HXY.out.1, HXY.out.2]
                · exact HJ.out j (by omega)
            · obtain rfl : r = false := HX.out.2 (fun e => by
                have h1 := HXY.out.1
                rw [e, HXY.out.2] at h1
                cases h1
                exact h2 rfl)
              go_wp2_with fail
              refine wp_region_ext (by kernel_rfl) (by kernel_rfl) fun hx => ?_
              repeat (go_big_quiet_step (fail))
              refine wpQuiet_nil ?_
              intro w5 b5
              go_wp2
              go_ret
              exact ⟨rfl, bchain HB.out b5⟩
          · obtain rfl : r = false := HX.out.2 (fun e => by
              have h1 := HXY.out.1
              rw [e, HXY.out.2] at h1
              cases h1
              exact h1 rfl)
            go_wp2_with fail
            refine wp_region_ext (by kernel_rfl) (by kernel_rfl) fun hx => ?_
            repeat (go_big_quiet_step (fail))
            refine wpQuiet_nil ?_
            intro w5 b5
            go_wp2
            go_ret
            exact ⟨rfl, bchain HB.out b5⟩
        · obtain rfl : r = false := HX.out.2 (fun e => by
            have h1 := HXY.out.1
            rw [e, HXY.out.2] at h1
            cases h1
            exact h0 rfl)
          go_wp2_with fail
          refine wp_region_ext (by kernel_rfl) (by kernel_rfl) fun hx => ?_
          repeat (go_big_quiet_step (fail))
          refine wpQuiet_nil ?_
          intro w5 b5
          go_wp2
          go_ret
          exact ⟨rfl, bchain HB.out b5⟩
      · obtain rfl : n = len := by omega
        obtain rfl : r = true := HX.out.1 (eq_of_all (HLN.out.1.symm.trans HLN.out.2) (fun j hj => HJ.out j (by rw [HLN.out.1]; exact hj)))
        go_wp2
        go_ret
        exact ⟨rfl, HB.out⟩
  · rw [decide_eq_false (fun e => hl (congrArg List.length e))]
    have hd : ¬ (xs.length : Int) = (ys.length : Int) := by omega
    have hd2 : ((xs.length : Int) == (ys.length : Int)) = false := by simp; omega
    clear hA hA'
    go_enter Tryz.func39, Tryz.ntmps39
    go_wp2
    go_ret
    exact ⟨rfl, Below.refl _ _⟩

/-- A comparison: whether f tells the same of both. -/
def PB2 {α β : Type} [DecidableEq β] (g : Nat) (lb : Array Value) (enc : α → List Value) (f : α → β) (xs ys : List α) (w : World) : Prop :=
  ∀ (W : World) (x y : α), x ∈ xs → y ∈ ys → Below w.heap.size w W → Calls Tryz.prog g (#[.agg (enc x).toArray, .agg (enc y).toArray] ++ lb) W fun e w' => e = .returned (.bool (decide (f x = f y))) ∧ Below W.heap.size W w'
theorem map_eq_of {α β : Type} {f : α → β} {xs ys : List α} (hl : xs.length = ys.length) (h : ∀ (j : Nat) x y, j < xs.length → xs[j]? = some x → ys[j]? = some y → f x = f y) : xs.map f = ys.map f := by
  refine eq_of_all (by simpa using hl) (fun j hj => ?_)
  rw [List.length_map] at hj
  have hj' : j < ys.length := by omega
  rw [List.getElem?_map, List.getElem?_map, List.getElem?_eq_getElem hj, List.getElem?_eq_getElem hj']
  exact congrArg some (h j _ _ hj (List.getElem?_eq_getElem hj) (List.getElem?_eq_getElem hj'))
theorem map_ne_of {α β : Type} {f : α → β} {xs ys : List α} {j : Nat} {x y : α} (hx : xs[j]? = some x) (hy : ys[j]? = some y) (h : ¬ f x = f y) : ¬ xs.map f = ys.map f := by
  intro e
  have := congrArg (fun l => l[j]?) e
  simp only [List.getElem?_map, hx, hy, Option.map_some, Option.some.injEq] at this
  exact h this

theorem stood_port : Tryz.prog.stoodInHeld 49 = false := by kernel_rfl
theorem info_port : ∃ i, Tryz.prog.info? 49 = some i := Option.isSome_iff_exists.1 (show (Tryz.prog.info? 49).isSome = true by kernel_rfl)
theorem cells_port : Tryz.prog.cellsOf 49 = 2 := by kernel_rfl
set_option maxRecDepth 100000 in
theorem eql_port (d : Nat) (x0 x1 y0 y1 : Int) (w : World) : (Op.equalIn (d + 2) 49 (.agg #[.int .i64 x0, .int .i64 x1]) (.agg #[.int .i64 y0, .int .i64 y1])).run Tryz.prog w = .ok (x0 == y0 && x1 == y1) w := by
  rw [run_equalIn_struct w (d + 1) 49 _ _ (by kernel_rfl) stood_port]
  by_cases h0 : x0 = y0 <;> by_cases h1 : x1 = y1 <;> simp [Op.eqFields, go_sem, Tryz.underlying49, h0, h1]
set_option maxRecDepth 100000 in
theorem eql_join (x0 x1 x2 x3 x4 x5 x6 x7 y0 y1 y2 y3 y4 y5 y6 y7 : Int) (w : World) : (Op.equalIn 10000 70 (.agg #[.int .i64 x0, .int .i64 x1, .int .i64 x2, .int .i64 x3, .int .i64 x4, .int .i64 x5, .int .i64 x6, .int .i64 x7]) (.agg #[.int .i64 y0, .int .i64 y1, .int .i64 y2, .int .i64 y3, .int .i64 y4, .int .i64 y5, .int .i64 y6, .int .i64 y7])).run Tryz.prog w = .ok ((x0 == y0 && x1 == y1) && ((x2 == y2 && x3 == y3) && ((x4 == y4 && x5 == y5) && (x6 == y6 && x7 == y7)))) w := by
  obtain ⟨i, hi⟩ := info_port
  have h := run_equalIn_array (P := Tryz.prog) (w := w) (9998 + 1) (t := 70) (e := 49) (n := 4) (i := i) #[.int .i64 x0, .int .i64 x1, .int .i64 x2, .int .i64 x3, .int .i64 x4, .int .i64 x5, .int .i64 x6, .int .i64 x7] #[.int .i64 y0, .int .i64 y1, .int .i64 y2, .int .i64 y3, .int .i64 y4, .int .i64 y5, .int .i64 y6, .int .i64 y7] Tryz.underlying70 hi
  refine h.trans ?_
  rw [cells_port]
  have e := fun a b c d w => eql_port 9997 a b c d w
  simp only [Nat.reduceAdd] at e ⊢
  simp [Op.eqItems, List.range, List.range.loop, go_sem, e]
  repeat' split
  all_goals simp_all
theorem cells_int : Tryz.prog.cellsOf 3 = 1 := by kernel_rfl
theorem info_int' : ∃ i, Tryz.prog.info? 3 = some i := Option.isSome_iff_exists.1 (show (Tryz.prog.info? 3).isSome = true by kernel_rfl)
set_option maxRecDepth 100000 in
theorem eql_class (x0 x1 y0 y1 : Int) (w : World) : (Op.equalIn 10000 71 (.agg #[.int .i64 x0, .int .i64 x1]) (.agg #[.int .i64 y0, .int .i64 y1])).run Tryz.prog w = .ok (x0 == y0 && x1 == y1) w := by
  obtain ⟨i, hi⟩ := info_int'
  have h := run_equalIn_array (P := Tryz.prog) (w := w) (9998 + 1) (t := 71) (e := 3) (n := 2) (i := i) #[.int .i64 x0, .int .i64 x1] #[.int .i64 y0, .int .i64 y1] Tryz.underlying71 hi
  refine h.trans ?_
  rw [cells_int]
  have e := fun a b w => run_equalIn_int (P := Tryz.prog) w 9998 3 .i64 .i64 a b Tryz.underlying3
  simp only [Nat.reduceAdd] at e ⊢
  simp [Op.eqItems, List.range, List.range.loop, go_sem, e]
  repeat' split
  all_goals simp_all
attribute [local go_sem] eql_join eql_class

end Go.Proofs.YtpcojaoeahdgcaaGreatDoor

/-
  layout.Same.
-/
namespace Go.Proofs.YtpcojaoeahdgcaaGreatDoor
open Go.RowKit Go.Shelf

def sameL (L M : Lay) : Bool := decide (L.times = M.times) && decide (L.secs = M.secs) && decide (L.sigs = M.sigs) && decide (L.flanks = M.flanks) && decide (L.exits = M.exits)

end Go.Proofs.YtpcojaoeahdgcaaGreatDoor

/-
  slices.Clone at the structs of a layout.
-/
namespace Go.Proofs.YtpcojaoeahdgcaaGreatDoor
open Go.RowKit Go.Shelf

theorem flat_get {α : Type} {enc : α → List Value} {k : Nat} (hk : ∀ x, (enc x).length = k) (h0 : 0 < k) : ∀ (xs : List α) (j : Nat), (xs.flatMap enc)[j]? = (xs[j / k]?).bind fun x => (enc x)[j % k]?
  | [], j => by simp
  | x :: xs, j => by
    rw [List.flatMap_cons]
    by_cases h : j < k
    · rw [List.getElem?_append_left (by rw [hk]; exact h), Nat.div_eq_of_lt h, Nat.mod_eq_of_lt h]
      rfl
    · rw [List.getElem?_append_right (by rw [hk]; omega), hk, flat_get hk h0 xs (j - k)]
      obtain ⟨i, rfl⟩ : ∃ i, j = i + k := ⟨j - k, by omega⟩
      rw [Nat.add_sub_cancel, Nat.add_div_right _ h0, Nat.add_mod_right]
      rfl
theorem flat_len {α : Type} {enc : α → List Value} {k : Nat} (hk : ∀ x, (enc x).length = k) (xs : List α) : (xs.flatMap enc).length = xs.length * k := by
  induction xs with
  | nil => simp
  | cons x xs ih => rw [List.flatMap_cons, List.length_append, hk, ih, List.length_cons, Nat.add_mul, Nat.one_mul, Nat.add_comm]
theorem add_at {b o j : Nat} : (⟨b, o, none⟩ : Addr).add j = ⟨b, o + j, none⟩ := by unfold Addr.add; split <;> simp_all
theorem flat_cells {α : Type} {enc : α → List Value} {k : Nat} (hk : ∀ x, (enc x).length = k) (h0 : 0 < k) {W : World} {b off : Nat} {xs : List α} (h : RowAt' W k enc b off xs) (j : Nat) (u : Value) (hu : (xs.flatMap enc)[j]? = some u) : W.cell? ((⟨b, off, none⟩ : Addr).add j) = some u := by
  rw [flat_get hk h0] at hu
  obtain ⟨x, hx, hv⟩ := Option.bind_eq_some_iff.1 hu
  rw [add_at]
  have := h.2 (j / k) x hx (j % k) u hv
  rwa [Nat.add_assoc, Nat.mul_comm, Nat.div_add_mod] at this
theorem at_of_row {α : Type} {enc : α → List Value} {k : Nat} (hk : ∀ x, (enc x).length = k) (h0 : 0 < k) {W : World} {B e : Nat} {v : Value} {xs : List α} (h : W.ownsRow B e k v xs.length (xs.flatMap enc)) : Sl W k enc v xs := by
  have hc := fun g hg => h.cells (g := g) hg
  rcases h.2 with ⟨rfl, hz⟩ | ⟨g, cap, cur, rfl, hb, hg, h1, h2, _, _⟩
  · exact ⟨none, 0, by rw [hz], by omega, by unfold maxLen; omega, .inl (List.eq_nil_of_length_eq_zero hz)⟩
  · refine ⟨_, cap, rfl, h1, h2, .inr ⟨g, 0, rfl, (Array.getElem?_eq_some_iff.1 hg).1, fun j x hx i u hu => ?_⟩⟩
    have hlt : i < k := by rw [← hk x]; exact (List.getElem?_eq_some_iff.1 hu).1
    have := hc g rfl (j * k + i) u (by
      rw [flat_get hk h0, show (j * k + i) / k = j by rw [Nat.mul_comm, Nat.mul_add_div h0, Nat.div_eq_of_lt hlt]; omega, hx, show (j * k + i) % k = i by rw [Nat.mul_comm, Nat.mul_add_mod]; exact Nat.mod_eq_of_lt hlt]
      exact hu)
    rw [add_at] at this
    rwa [Nat.add_assoc]
/-- A copy comes back, in a row of its own. -/
def CloneOf {α : Type} (e : TypeId) (k : Nat) (enc : α → List Value) (xs : List α) (w : World) (en : Ending) (w' : World) : Prop :=
  ∃ v, en = .returned v ∧ w'.ownsRow w.heap.size e k v xs.length (xs.flatMap enc) ∧ Below w.heap.size w w'

theorem info_Section : ∃ i z, Tryz.prog.info? 73 = some i ∧ i.zero = some z ∧ i.size = 11 ∧ z.cells.size = 11 ∧ i.bytes ≤ 100 := by
  have h : (Tryz.prog.info? 73).any (fun i => (match i.zero with | some z => decide (z.cells.size = 11) | none => false) && decide (i.size = 11) && decide (i.bytes ≤ 100)) = true := by kernel_rfl
  cases hi : Tryz.prog.info? 73 with
  | none => rw [hi] at h; cases h
  | some i =>
    rw [hi] at h
    simp only [Option.any_some, Bool.and_eq_true, decide_eq_true_iff] at h
    cases hz : i.zero with
    | none => rw [hz] at h; simp at h
    | some z =>
      rw [hz] at h
      simp at h
      exact ⟨i, z, rfl, hz, h.1.2, h.1.1, h.2⟩
theorem info_Signal : ∃ i z, Tryz.prog.info? 56 = some i ∧ i.zero = some z ∧ i.size = 2 ∧ z.cells.size = 2 ∧ i.bytes ≤ 100 := by
  have h : (Tryz.prog.info? 56).any (fun i => (match i.zero with | some z => decide (z.cells.size = 2) | none => false) && decide (i.size = 2) && decide (i.bytes ≤ 100)) = true := by kernel_rfl
  cases hi : Tryz.prog.info? 56 with
  | none => rw [hi] at h; cases h
  | some i =>
    rw [hi] at h
    simp only [Option.any_some, Bool.and_eq_true, decide_eq_true_iff] at h
    cases hz : i.zero with
    | none => rw [hz] at h; simp at h
    | some z =>
      rw [hz] at h
      simp at h
      exact ⟨i, z, rfl, hz, h.1.2, h.1.1, h.2⟩
theorem info_Flank : ∃ i z, Tryz.prog.info? 100 = some i ∧ i.zero = some z ∧ i.size = 4 ∧ z.cells.size = 4 ∧ i.bytes ≤ 100 := by
  have h : (Tryz.prog.info? 100).any (fun i => (match i.zero with | some z => decide (z.cells.size = 4) | none => false) && decide (i.size = 4) && decide (i.bytes ≤ 100)) = true := by kernel_rfl
  cases hi : Tryz.prog.info? 100 with
  | none => rw [hi] at h; cases h
  | some i =>
    rw [hi] at h
    simp only [Option.any_some, Bool.and_eq_true, decide_eq_true_iff] at h
    cases hz : i.zero with
    | none => rw [hz] at h; simp at h
    | some z =>
      rw [hz] at h
      simp at h
      exact ⟨i, z, rfl, hz, h.1.2, h.1.1, h.2⟩
theorem info_Exit : ∃ i z, Tryz.prog.info? 51 = some i ∧ i.zero = some z ∧ i.size = 3 ∧ z.cells.size = 3 ∧ i.bytes ≤ 100 := by
  have h : (Tryz.prog.info? 51).any (fun i => (match i.zero with | some z => decide (z.cells.size = 3) | none => false) && decide (i.size = 3) && decide (i.bytes ≤ 100)) = true := by kernel_rfl
  cases hi : Tryz.prog.info? 51 with
  | none => rw [hi] at h; cases h
  | some i =>
    rw [hi] at h
    simp only [Option.any_some, Bool.and_eq_true, decide_eq_true_iff] at h
    cases hz : i.zero with
    | none => rw [hz] at h; simp at h
    | some z =>
      rw [hz] at h
      simp at h
      exact ⟨i, z, rfl, hz, h.1.2, h.1.1, h.2⟩
theorem info_Step : ∃ i z, Tryz.prog.info? 47 = some i ∧ i.zero = some z ∧ i.size = 3 ∧ z.cells.size = 3 ∧ i.bytes ≤ 100 := by
  have h : (Tryz.prog.info? 47).any (fun i => (match i.zero with | some z => decide (z.cells.size = 3) | none => false) && decide (i.size = 3) && decide (i.bytes ≤ 100)) = true := by kernel_rfl
  cases hi : Tryz.prog.info? 47 with
  | none => rw [hi] at h; cases h
  | some i =>
    rw [hi] at h
    simp only [Option.any_some, Bool.and_eq_true, decide_eq_true_iff] at h
    cases hz : i.zero with
    | none => rw [hz] at h; simp at h
    | some z =>
      rw [hz] at h
      simp at h
      exact ⟨i, z, rfl, hz, h.1.2, h.1.1, h.2⟩
set_option maxRecDepth 100000 in
set_option maxHeartbeats 2000000 in
theorem cloneStep_any (A : Option Addr) (cap : Nat) (xs : List Stp) (w : World) (hA : At w 3 Stp.enc A xs) (hl : xs.length ≤ 1000) :
    Calls Tryz.prog 38 #[.slice A xs.length cap] w (CloneOf 47 3 Stp.enc xs w) := by
  obtain ⟨i0, z0, hi, hz, hs1, hs2, hs3⟩ := info_Step
  have hone : ∀ u ∈ xs.flatMap Stp.enc, u.oneCell' = true := by
    intro u hu
    obtain ⟨x, hx, hu⟩ := List.mem_flatMap.1 hu
    skip
    simp only [Stp.enc, List.mem_cons, List.not_mem_nil, or_false] at hu
    skip
    rcases hu with rfl | rfl | rfl <;> rfl
  have HO := Lib.hid hone
  have HA := Lib.hid hA
  have HL := Lib.hid hl
  have hnil := fun (W : World) (a : Option Addr) (n c : Nat) => Lib.run_equalIn_slice_nil (P := Tryz.prog) W 9999 30 47 a n c 0 0 Tryz.underlying30
  simp only [Nat.reduceAdd] at hnil
  have hnil2 := fun (W : World) (a : Option Addr) (n c : Nat) => Lib.run_eql_slice_nil (P := Tryz.prog) W 30 47 a n c 0 0 Tryz.underlying30
  cases A with
  | none =>
    obtain rfl : xs = [] := by
      rcases hA with h | ⟨b, off, h, _⟩
      · exact h
      · cases h
    clear hA hl hone hi hz hs1 hs2 hs3
    go_enter Tryz.func38, Tryz.ntmps38
    go_wp2
    go_ret
    exact ⟨_, rfl, World.ownsRow_nil _ _ _ _, Below.refl _ _⟩
  | some ad =>
    obtain ⟨len, hlen⟩ : ∃ len, len = xs.length := ⟨_, rfl⟩
    rw [← hlen]
    have HN := Lib.hid hlen
    have HI := Lib.hid (⟨hi, hz, hs1, hs2, hs3⟩ : _ ∧ _ ∧ _ ∧ _ ∧ _)
    clear hA hl hone hlen hi hz hs1 hs2 hs3
    go_enter Tryz.func38, Tryz.ntmps38
    go_wp2_with (at_builtin; refine wpList_append_own _ rfl _ _ 30 rfl w.heap.size 47 i0 z0 3 i0.bytes Tryz.underlying30 HI.out.1 HI.out.2.1 HI.out.2.2.1 rfl HI.out.2.2.2.1 (by decide) _ 0 [] rfl ?hown ad len cap (xs.flatMap Stp.enc) rfl ?c0 ?c1 ?c2 ?c3 ?c4 ?c5 ?_)
    case hown => exact ⟨rfl, .inr ⟨w.heap.size, 0, #[], rfl, Nat.le_refl _, World.alloc_heap_new _ _, Nat.le_refl _, by unfold maxLen; omega, by simp, by simp⟩⟩
    case c0 => rw [flat_len (enc := Stp.enc) (k := 3) (fun _ => rfl) xs, HN.out]
    case c1 =>
      intro j u hu
      rcases HA.out with h | ⟨b, off, h, hrow⟩
      · rw [h] at hu
        simp at hu
      · cases h
        have hx := flat_cells (enc := Stp.enc) (k := 3) (fun _ => rfl) (by decide) hrow j u hu
        rw [add_at] at hx ⊢
        exact ((bself (w := w)).cell (p := ⟨b, off + j, none⟩) hrow.1).trans hx
    case c2 => exact HO.out
    case c3 =>
      have := HL.out
      have := HN.out
      unfold maxLen
      omega
    case c4 =>
      have h1 : len ≤ 1000 := by rw [HN.out]; exact HL.out
      have h2 := Nat.mul_le_mul h1 HI.out.2.2.2.2
      rw [Nat.zero_add]
      omega
    case c5 => simp
    intro v' w1 hown' hgrow _
    have HG := Lib.hid (⟨hown', hgrow⟩ : _ ∧ _)
    clear hown' hgrow
    go_wp2
    go_ret
    exact ⟨v', rfl, by have h := HG.out.1; rw [HN.out] at h; exact h, (bself (w := w)).grown HG.out.2 (by simp) (fun k e => by cases e; exact Nat.le_refl _)⟩
end Go.Proofs.YtpcojaoeahdgcaaGreatDoor

/-
  route.in, out, Own, Same.
-/
namespace Go.Proofs.YtpcojaoeahdgcaaGreatDoor
open Go.RowKit Go.Shelf
attribute [local go_sem] Oper.semAt_some

/-- A path's value: its signal, its exit, where its steps lie. -/
def pathV (sg ex : Int) (A : Option Addr) (n cap : Nat) : Value := .agg #[.int .i64 sg, .int .i64 ex, .slice A n cap]

set_option maxRecDepth 100000 in
set_option maxHeartbeats 4000000 in
theorem rin_any (s i o : Int) (w : World) :
    Calls Tryz.prog 22 #[.agg #[.int .i64 s, .int .i64 i, .int .i64 o]] w fun e w' => e = .returned (.agg #[.int .i64 s, .int .i64 i]) ∧ Below w.heap.size w w' := by
  go_enter Tryz.func22, Tryz.ntmps22
  go_wp2
  refine bodyPost_ret (v := .agg #[.int .i64 s, .int .i64 i]) (by simp [results, Tryz.results22, go_sem]) rfl ⟨rfl, ?_⟩
  repeat refine Below.setCell ?_ (by dsimp only; omega) _
  exact bchain bself bself

set_option maxRecDepth 100000 in
set_option maxHeartbeats 4000000 in
theorem rout_any (s i o : Int) (w : World) :
    Calls Tryz.prog 23 #[.agg #[.int .i64 s, .int .i64 i, .int .i64 o]] w fun e w' => e = .returned (.agg #[.int .i64 s, .int .i64 o]) ∧ Below w.heap.size w w' := by
  go_enter Tryz.func23, Tryz.ntmps23
  go_wp2
  refine bodyPost_ret (v := .agg #[.int .i64 s, .int .i64 o]) (by simp [results, Tryz.results23, go_sem]) rfl ⟨rfl, ?_⟩
  repeat refine Below.setCell ?_ (by dsimp only; omega) _
  exact bchain bself bself

set_option maxRecDepth 100000 in
set_option maxHeartbeats 4000000 in
theorem routeSame_any (sg ex sg' ex' : Int) (A A' : Option Addr) (cap cap' : Nat) (xs ys : List Stp) (w : World) (hA : At w 3 Stp.enc A xs) (hA' : At w 3 Stp.enc A' ys) (hm : xs.length ≤ 9223372036854775807) :
    Calls Tryz.prog 16 #[.agg #[.int .i64 sg, .int .i64 ex, .slice A xs.length cap], .agg #[.int .i64 sg', .int .i64 ex', .slice A' ys.length cap']] w fun e w' => e = .returned (.bool (decide (sg = sg' ∧ ex = ex' ∧ xs = ys))) ∧ Below w.heap.size w w' := by
  have hB : Below w.heap.size w ((w.alloc (.cells #[.int .i64 sg, .int .i64 ex, .slice A xs.length cap] 32)).alloc (.cells #[.int .i64 sg', .int .i64 ex', .slice A' ys.length cap'] 32)) := bchain bself bself
  have hq := equalStep_any A A' cap cap' xs ys _ (hA.below hB) (hA'.below hB) hm
  have HB := Lib.hid hB
  clear hA hA' hB hm
  by_cases h0 : sg = sg'
  · subst h0
    by_cases h1 : ex = ex'
    · subst h1
      have e : decide (sg = sg ∧ ex = ex ∧ xs = ys) = decide (xs = ys) := by simp
      rw [e]
      generalize decide (xs = ys) = r at hq ⊢
      have HQ := Lib.hid hq
      clear hq e
      go_enter Tryz.func16, Tryz.ntmps16
      go_wp2_with fail
      (with_reducible refine HQ.out.mono ?_)
      rintro e w1 ⟨rfl, b1⟩
      have B1 := Lib.hid (bchain HB.out b1)
      clear b1
      go_wp2
      go_ret
      exact ⟨rfl, B1.out⟩
    · have d1 : (ex == ex') = false := by simpa using h1
      have e : decide (sg = sg ∧ ex = ex' ∧ xs = ys) = false := decide_eq_false fun h => h1 h.2.1
      rw [e]
      clear hq e h1
      go_enter Tryz.func16, Tryz.ntmps16
      go_wp2
      go_ret
      exact ⟨rfl, HB.out⟩
  · have d0 : (sg == sg') = false := by simpa using h0
    have e : decide (sg = sg' ∧ ex = ex' ∧ xs = ys) = false := decide_eq_false fun h => h0 h.1
    rw [e]
    clear hq e h0
    go_enter Tryz.func16, Tryz.ntmps16
    go_wp2
    go_ret
    exact ⟨rfl, HB.out⟩
end Go.Proofs.YtpcojaoeahdgcaaGreatDoor

/-
  Layouts, sections in variables.
-/
namespace Go.Proofs.YtpcojaoeahdgcaaGreatDoor
open Go.RowKit Go.Shelf

/-- A layout in a variable. -/
def BoxL (W : World) (n : Nat) (L : Lay) (p : Where) : Prop := n < W.heap.size ∧ ∀ (i : Nat) (v : Value), (L.cells p)[i]? = some v → W.cell? ⟨n, i, none⟩ = some v
theorem BoxL.below {W W' : World} {n : Nat} {L : Lay} {p : Where} (h : BoxL W n L p) (hb : Below W.heap.size W W') : BoxL W' n L p :=
  ⟨Nat.lt_of_lt_of_le h.1 hb.size, fun i v e => (hb.cell (p := ⟨n, i, none⟩) h.1).trans (h.2 i v e)⟩
theorem BoxL.make {W : World} {L : Lay} {p : Where} {n : Nat} (t : TypeId) (hn : n = W.heap.size) : BoxL (W.alloc (.cells (L.cells p).toArray t)) n L p :=
  ⟨by rw [hn]; simp, fun i v e => by rw [World.cell?_alloc_at _ _ _ _ hn]; simpa using e⟩

theorem BoxL.set {W : World} {n g o : Nat} {u : Value} {L : Lay} {p : Where} (h : BoxL W n L p) (hg : n ≠ g) : BoxL (W.setCell ⟨g, o, none⟩ u) n L p :=
  ⟨by simpa [World.setCell] using h.1, fun i v e => by rw [World.cell?_setCell_far _ _ _ _ (by simpa using hg.symm)]; exact h.2 i v e⟩
/-- A layout's variable, loaded whole. -/
theorem runLoad {dst : Option Tmp} {ty : TypeId} {pos : String} {after : Array Edge} {guard : Option (Nat × Bool)} {L : Lay} {p : Where} {n t : Nat} {ρ : Operand → Value} {W : World}
    (h : ρ (.tmp t) = .pointer (some ⟨n, 0, none⟩)) (hB : BoxL W n L p) : (execOp ρ ⟨dst, .load 29 (.tmp t), ty, pos, after, guard⟩).run Tryz.prog W = .ok (.value (L.val p)) W := by
  have c0 := hB.2 0 _ rfl
  have c1 := hB.2 1 _ rfl
  have c2 := hB.2 2 _ rfl
  have c3 := hB.2 3 _ rfl
  have c4 := hB.2 4 _ rfl
  have c5 := hB.2 5 _ rfl
  have c6 := hB.2 6 _ rfl
  have c7 := hB.2 7 _ rfl
  have c8 := hB.2 8 _ rfl
  have c9 := hB.2 9 _ rfl
  have c10 := hB.2 10 _ rfl
  simp [go_sem, h, c0, c1, c2, c3, c4, c5, c6, c7, c8, c9, c10, Lay.val]
/-- A section in a variable. -/
def BoxS (W : World) (g : Nat) (c : Sec) : Prop := g < W.heap.size ∧ ∀ (i : Nat) (v : Value), c.enc[i]? = some v → W.cell? ⟨g, i, none⟩ = some v
theorem BoxS.below {W W' : World} {g : Nat} {c : Sec} (h : BoxS W g c) (hb : Below W.heap.size W W') : BoxS W' g c :=
  ⟨Nat.lt_of_lt_of_le h.1 hb.size, fun i v e => (hb.cell (p := ⟨g, i, none⟩) h.1).trans (h.2 i v e)⟩
theorem BoxS.make (W : World) (c : Sec) : BoxS (W.alloc (.cells c.enc.toArray 73)) W.heap.size c :=
  ⟨by simp, fun i v e => by rw [World.cell?_alloc_at _ _ _ _ rfl]; simpa using e⟩
theorem BoxS.cells {W : World} {g : Nat} {c : Sec} (h : BoxS W g c) : W.cell? ⟨g, 0, none⟩ = some (.int .u8 c.k) ∧ W.cell? ⟨g, 1, none⟩ = some (.int .i64 c.s0) ∧ W.cell? ⟨g, 2, none⟩ = some (.int .i64 c.p0) ∧ W.cell? ⟨g, 3, none⟩ = some (.int .i64 c.s1) ∧ W.cell? ⟨g, 4, none⟩ = some (.int .i64 c.p1) ∧ W.cell? ⟨g, 5, none⟩ = some (.int .i64 c.s2) ∧ W.cell? ⟨g, 6, none⟩ = some (.int .i64 c.p2) ∧ W.cell? ⟨g, 7, none⟩ = some (.int .i64 c.s3) ∧ W.cell? ⟨g, 8, none⟩ = some (.int .i64 c.p3) ∧ W.cell? ⟨g, 9, none⟩ = some (.int .i64 c.c0) ∧ W.cell? ⟨g, 10, none⟩ = some (.int .i64 c.c1) :=
  ⟨h.2 0 _ rfl, h.2 1 _ rfl, h.2 2 _ rfl, h.2 3 _ rfl, h.2 4 _ rfl, h.2 5 _ rfl, h.2 6 _ rfl, h.2 7 _ rfl, h.2 8 _ rfl, h.2 9 _ rfl, h.2 10 _ rfl⟩
theorem BoxS.ports {W : World} {g : Nat} {c : Sec} (h : BoxS W g c) (m : Nat) (hm : m < 4) : W.cell? ⟨g, 1 + m * 2, none⟩ = some (.int .i64 (c.S m)) ∧ W.cell? ⟨g, 1 + m * 2 + 1, none⟩ = some (.int .i64 (c.P m)) := by
  obtain rfl | rfl | rfl | rfl : m = 0 ∨ m = 1 ∨ m = 2 ∨ m = 3 := by omega
  · exact ⟨h.2 1 _ rfl, h.2 2 _ rfl⟩
  · exact ⟨h.2 3 _ rfl, h.2 4 _ rfl⟩
  · exact ⟨h.2 5 _ rfl, h.2 6 _ rfl⟩
  · exact ⟨h.2 7 _ rfl, h.2 8 _ rfl⟩
theorem BoxS.classes {W : World} {g : Nat} {c : Sec} (h : BoxS W g c) (m : Nat) (hm : m < 2) : W.cell? ⟨g, 9 + m, none⟩ = some (.int .i64 (c.C m)) := by
  obtain rfl | rfl : m = 0 ∨ m = 1 := by omega
  · exact h.2 9 _ rfl
  · exact h.2 10 _ rfl
theorem BoxL.cells {W : World} {g : Nat} {L : Lay} {p : Where} (h : BoxL W g L p) : W.cell? ⟨g, 0, none⟩ = some (.slice p.a0 L.secs.length p.c0) ∧ W.cell? ⟨g, 1, none⟩ = some (.slice p.a1 L.sigs.length p.c1) ∧ W.cell? ⟨g, 2, none⟩ = some (.slice p.a2 L.exits.length p.c2) ∧ W.cell? ⟨g, 3, none⟩ = some (.slice p.a3 L.flanks.length p.c3) ∧ W.cell? ⟨g, 4, none⟩ = some (.int .i64 L.t0) ∧ W.cell? ⟨g, 5, none⟩ = some (.int .i64 L.t1) ∧ W.cell? ⟨g, 6, none⟩ = some (.int .i64 L.t2) ∧ W.cell? ⟨g, 7, none⟩ = some (.int .i64 L.t3) ∧ W.cell? ⟨g, 8, none⟩ = some (.int .i64 L.t4) ∧ W.cell? ⟨g, 9, none⟩ = some (.int .i64 L.t5) ∧ W.cell? ⟨g, 10, none⟩ = some (.int .i64 L.t6) :=
  ⟨h.2 0 _ rfl, h.2 1 _ rfl, h.2 2 _ rfl, h.2 3 _ rfl, h.2 4 _ rfl, h.2 5 _ rfl, h.2 6 _ rfl, h.2 7 _ rfl, h.2 8 _ rfl, h.2 9 _ rfl, h.2 10 _ rfl⟩
end Go.Proofs.YtpcojaoeahdgcaaGreatDoor

/-
  Equality of sections: their arrays, within a struct.
-/
namespace Go.Proofs.YtpcojaoeahdgcaaGreatDoor
open Go.RowKit Go.Shelf

theorem stoodE_port : Tryz.prog.stoodInHeld 49 = false := by kernel_rfl
theorem infoE_port : ∃ i, Tryz.prog.info? 49 = some i := Option.isSome_iff_exists.1 (show (Tryz.prog.info? 49).isSome = true by kernel_rfl)
theorem cellsE_port : Tryz.prog.cellsOf 49 = 2 := by kernel_rfl
set_option maxRecDepth 100000 in
theorem eqlE_port (d : Nat) (x0 x1 y0 y1 : Int) (w : World) : (Op.equalIn (d + 2) 49 (.agg #[.int .i64 x0, .int .i64 x1]) (.agg #[.int .i64 y0, .int .i64 y1])).run Tryz.prog w = .ok (x0 == y0 && x1 == y1) w := by
  rw [run_equalIn_struct w (d + 1) 49 _ _ (by kernel_rfl) stoodE_port]
  by_cases h0 : x0 = y0 <;> by_cases h1 : x1 = y1 <;> simp [Op.eqFields, go_sem, Tryz.underlying49, h0, h1]
theorem cellsE_int : Tryz.prog.cellsOf 3 = 1 := by kernel_rfl
theorem infoE_int : ∃ i, Tryz.prog.info? 3 = some i := Option.isSome_iff_exists.1 (show (Tryz.prog.info? 3).isSome = true by kernel_rfl)
set_option maxRecDepth 100000 in
theorem eql_join9 (x0 x1 x2 x3 x4 x5 x6 x7 y0 y1 y2 y3 y4 y5 y6 y7 : Int) (w : World) : (Op.equalIn 9999 70 (.agg #[.int .i64 x0, .int .i64 x1, .int .i64 x2, .int .i64 x3, .int .i64 x4, .int .i64 x5, .int .i64 x6, .int .i64 x7]) (.agg #[.int .i64 y0, .int .i64 y1, .int .i64 y2, .int .i64 y3, .int .i64 y4, .int .i64 y5, .int .i64 y6, .int .i64 y7])).run Tryz.prog w =
    .ok (x0 == y0 && x1 == y1 && (x2 == y2 && x3 == y3) && (x4 == y4 && x5 == y5) && (x6 == y6 && x7 == y7)) w := by
  obtain ⟨i, hi⟩ := infoE_port
  have h := run_equalIn_array (P := Tryz.prog) (w := w) (9997 + 1) (t := 70) (e := 49) (n := 4) (i := i) #[.int .i64 x0, .int .i64 x1, .int .i64 x2, .int .i64 x3, .int .i64 x4, .int .i64 x5, .int .i64 x6, .int .i64 x7] #[.int .i64 y0, .int .i64 y1, .int .i64 y2, .int .i64 y3, .int .i64 y4, .int .i64 y5, .int .i64 y6, .int .i64 y7] Tryz.underlying70 hi
  refine h.trans ?_
  rw [cellsE_port]
  have e := fun a b c d w => eqlE_port 9996 a b c d w
  simp only [Nat.reduceAdd] at e ⊢
  simp [Op.eqItems, List.range, List.range.loop, go_sem, e]
  repeat' split
  all_goals simp_all
set_option maxRecDepth 100000 in
theorem eql_class9 (x0 x1 y0 y1 : Int) (w : World) : (Op.equalIn 9999 71 (.agg #[.int .i64 x0, .int .i64 x1]) (.agg #[.int .i64 y0, .int .i64 y1])).run Tryz.prog w = .ok (x0 == y0 && x1 == y1) w := by
  obtain ⟨i, hi⟩ := infoE_int
  have h := run_equalIn_array (P := Tryz.prog) (w := w) (9997 + 1) (t := 71) (e := 3) (n := 2) (i := i) #[.int .i64 x0, .int .i64 x1] #[.int .i64 y0, .int .i64 y1] Tryz.underlying71 hi
  refine h.trans ?_
  rw [cellsE_int]
  have e := fun a b w => run_equalIn_int (P := Tryz.prog) w 9997 3 .i64 .i64 a b Tryz.underlying3
  simp only [Nat.reduceAdd] at e ⊢
  simp [Op.eqItems, List.range, List.range.loop, go_sem, e]
  repeat' split
  all_goals simp_all
end Go.Proofs.YtpcojaoeahdgcaaGreatDoor

/-
  Equality of the structs of a layout, as one test each.
-/
namespace Go.Proofs.YtpcojaoeahdgcaaGreatDoor
open Go.RowKit Go.Shelf

attribute [local go_sem] eql_join9 eql_class9
set_option maxRecDepth 100000 in
theorem eqQ_port (x y : Prt) (w : World) : (Op.equalIn 10000 49 (.agg #[.int .i64 x.s, .int .i64 x.p]) (.agg #[.int .i64 y.s, .int .i64 y.p])).run Tryz.prog w = .ok (decide (x = y)) w := by
  obtain ⟨x0, x1⟩ := x
  obtain ⟨y0, y1⟩ := y
  rw [run_equalIn_struct w 9999 49 _ _ (by kernel_rfl) stoodE_port]
  by_cases h0 : x0 = y0 <;> by_cases h1 : x1 = y1 <;> simp [Op.eqFields, go_sem, Tryz.underlying49, h0, h1]
theorem stoodE_signal : Tryz.prog.stoodInHeld 56 = false := by kernel_rfl
theorem stoodE_step : Tryz.prog.stoodInHeld 47 = false := by kernel_rfl
theorem stoodE_flank : Tryz.prog.stoodInHeld 100 = false := by kernel_rfl
theorem stoodE_sec : Tryz.prog.stoodInHeld 73 = false := by kernel_rfl
set_option maxRecDepth 100000 in
theorem eqQ_signal (x y : Prt) (w : World) : (Op.equalIn 10000 56 (.agg #[.int .i64 x.s, .int .i64 x.p]) (.agg #[.int .i64 y.s, .int .i64 y.p])).run Tryz.prog w = .ok (decide (x = y)) w := by
  obtain ⟨x0, x1⟩ := x
  obtain ⟨y0, y1⟩ := y
  rw [run_equalIn_struct w 9999 56 _ _ (by kernel_rfl) stoodE_signal]
  by_cases h0 : x0 = y0 <;> by_cases h1 : x1 = y1 <;> simp [Op.eqFields, go_sem, Tryz.underlying56, Tryz.underlying49, h0, h1]
set_option maxRecDepth 100000 in
theorem eqQ_step (x y : Stp) (w : World) : (Op.equalIn 10000 47 (.agg #[.int .i64 x.s, .int .i64 x.i, .int .i64 x.o]) (.agg #[.int .i64 y.s, .int .i64 y.i, .int .i64 y.o])).run Tryz.prog w = .ok (decide (x = y)) w := by
  obtain ⟨x0, x1, x2⟩ := x
  obtain ⟨y0, y1, y2⟩ := y
  rw [run_equalIn_struct w 9999 47 _ _ (by kernel_rfl) stoodE_step]
  by_cases h0 : x0 = y0 <;> by_cases h1 : x1 = y1 <;> by_cases h2 : x2 = y2 <;> simp [Op.eqFields, go_sem, Tryz.underlying47, h0, h1, h2]
set_option maxRecDepth 100000 in
theorem eqQ_flank (x y : Flk) (w : World) : (Op.equalIn 10000 100 (.agg #[.int .i64 x.s, .int .i64 x.way, .int .i64 x.pt, .int .i64 x.pos]) (.agg #[.int .i64 y.s, .int .i64 y.way, .int .i64 y.pt, .int .i64 y.pos])).run Tryz.prog w = .ok (decide (x = y)) w := by
  obtain ⟨x0, x1, x2, x3⟩ := x
  obtain ⟨y0, y1, y2, y3⟩ := y
  rw [run_equalIn_struct w 9999 100 _ _ (by kernel_rfl) stoodE_flank]
  by_cases h0 : x0 = y0 <;> by_cases h1 : x1 = y1 <;> by_cases h2 : x2 = y2 <;> by_cases h3 : x3 = y3 <;> simp [Op.eqFields, go_sem, Tryz.underlying100, h0, h1, h2, h3]
set_option maxRecDepth 100000 in
theorem eqQ_sec (x y : Sec) (w : World) : (Op.equalIn 10000 73 (.agg #[.int .u8 x.k, .int .i64 x.s0, .int .i64 x.p0, .int .i64 x.s1, .int .i64 x.p1, .int .i64 x.s2, .int .i64 x.p2, .int .i64 x.s3, .int .i64 x.p3, .int .i64 x.c0, .int .i64 x.c1]) (.agg #[.int .u8 y.k, .int .i64 y.s0, .int .i64 y.p0, .int .i64 y.s1, .int .i64 y.p1, .int .i64 y.s2, .int .i64 y.p2, .int .i64 y.s3, .int .i64 y.p3, .int .i64 y.c0, .int .i64 y.c1])).run Tryz.prog w = .ok (decide (x = y)) w := by
  obtain ⟨xk, a0, a1, a2, a3, a4, a5, a6, a7, a8, a9⟩ := x
  obtain ⟨yk, b0, b1, b2, b3, b4, b5, b6, b7, b8, b9⟩ := y
  rw [run_equalIn_struct w 9999 73 _ _ (by kernel_rfl) stoodE_sec]
  by_cases h0 : xk = yk
  · by_cases h1 : (a0 = b0 ∧ a1 = b1) ∧ (a2 = b2 ∧ a3 = b3) ∧ (a4 = b4 ∧ a5 = b5) ∧ (a6 = b6 ∧ a7 = b7)
    · obtain ⟨⟨rfl, rfl⟩, ⟨rfl, rfl⟩, ⟨rfl, rfl⟩, ⟨rfl, rfl⟩⟩ := h1
      by_cases h2 : a8 = b8 <;> by_cases h3 : a9 = b9 <;> simp [Op.eqFields, go_sem, Tryz.underlying73, h0, h2, h3]
    · have e : (a0 == b0 && a1 == b1 && (a2 == b2 && a3 == b3) && (a4 == b4 && a5 == b5) && (a6 == b6 && a7 == b7)) = false := by
        rw [Bool.eq_false_iff]
        simp only [ne_eq, Bool.and_eq_true, beq_iff_eq]
        omega
      have d : ¬ ((⟨xk, a0, a1, a2, a3, a4, a5, a6, a7, a8, a9⟩ : Sec) = ⟨yk, b0, b1, b2, b3, b4, b5, b6, b7, b8, b9⟩) := by
        simp only [Sec.mk.injEq]
        omega
      rw [decide_eq_false d]
      simp [Op.eqFields, go_sem, Tryz.underlying73, h0, -Bool.and_eq_true, e]
      try (simp only [Bool.and_eq_true, beq_iff_eq] at *; omega)
  · simp [Op.eqFields, go_sem, Tryz.underlying73, h0]
end Go.Proofs.YtpcojaoeahdgcaaGreatDoor

/-
  join.Has, Beyond; lockbarref07.none, Has, Beyond.
-/
namespace Go.Proofs.YtpcojaoeahdgcaaGreatDoor
open Go.RowKit Go.Shelf
attribute [local go_sem] Oper.semAt_some

/-- What join.end holds. -/
structure JEnd (W : World) : Prop where
  c0 : W.cell? ⟨0, 0, none⟩ = some (.int .i64 (-1))
  c1 : W.cell? ⟨0, 1, none⟩ = some (.int .i64 0)
theorem JEnd.lt {W : World} (h : JEnd W) : 0 < W.heap.size := World.block_lt_of_cell? _ _ h.c0
theorem JEnd.below {W W' : World} (h : JEnd W) (hb : Below W.heap.size W W') : JEnd W' :=
  ⟨(hb.cell (p := ⟨0, 0, none⟩) h.lt).trans h.c0, (hb.cell (p := ⟨0, 1, none⟩) h.lt).trans h.c1⟩

/-- What lies beyond a port. -/
def endP : Prt := ⟨-1, 0⟩
def beyL (L : Lay) (s q : Int) : Prt := match atO L s q with
  | some c => ⟨c.S q.toNat, c.P q.toNat⟩
  | none => endP
theorem has_cases (L : Lay) (s q : Int) : (s < 0 ∧ hasB L s q = false ∧ beyL L s q = endP) ∨ (0 ≤ s ∧ L.secs.length ≤ s ∧ hasB L s q = false ∧ beyL L s q = endP) ∨ ∃ (n : Nat) (c : Sec), s = (n : Int) ∧ n < L.secs.length ∧ L.secs[n]? = some c ∧ c ∈ L.secs ∧ ((q < 0 ∧ hasB L s q = false ∧ beyL L s q = endP) ∨ (0 ≤ q ∧ hasB L s q = decide (q < kPorts c.k) ∧ (q < kPorts c.k → beyL L s q = ⟨c.S q.toNat, c.P q.toNat⟩) ∧ (kPorts c.k ≤ q → beyL L s q = endP))) := by
  by_cases h0 : s < 0
  · refine .inl ⟨h0, ?_⟩
    unfold hasB beyL atO
    rw [secAt_none (by omega)]
    exact ⟨rfl, rfl⟩
  by_cases h1 : (L.secs.length : Int) ≤ s
  · refine .inr (.inl ⟨by omega, h1, ?_⟩)
    unfold hasB beyL atO
    rw [secAt_none (by omega)]
    exact ⟨rfl, rfl⟩
  obtain ⟨n, c, e, hn, hc, hs, hm⟩ := secAt_some (L := L) (s := s) ⟨by omega, by omega⟩
  refine .inr (.inr ⟨n, c, e, hn, hc, hm, ?_⟩)
  unfold hasB beyL atO
  rw [hs, Option.bind_some]
  by_cases h2 : q < 0
  · exact .inl ⟨h2, by rw [if_neg (by omega)]; exact ⟨rfl, rfl⟩⟩
  · refine .inr ⟨by omega, ?_⟩
    by_cases h3 : q < kPorts c.k
    · rw [if_pos ⟨by omega, h3⟩]
      exact ⟨(decide_eq_true h3).symm, fun _ => rfl, fun h => by omega⟩
    · rw [if_neg (fun h => h3 h.2)]
      exact ⟨(decide_eq_false h3).symm, fun h => absurd h h3, fun _ => rfl⟩

set_option maxRecDepth 100000 in
set_option maxHeartbeats 4000000 in
theorem hasJ_any (L : Lay) (p : Where) (s q : Int) (w : World) (hL : LayAt w p L) (K : Kinds w) :
    Calls Tryz.prog 51 #[L.val p, .agg #[.int .i64 s, .int .i64 q]] w fun e w' => e = .returned (.bool (hasB L s q)) ∧ Below w.heap.size w w' := by
  rcases has_cases L s q with ⟨h, e, _⟩ | ⟨h, h1, e, _⟩ | ⟨n, c, rfl, hn, hc, hm, h2⟩
  · rw [e]
    have hd : decide (0 ≤ s) = false := decide_eq_false (by omega)
    clear h e hL
    unfold Lay.val
    go_enter Tryz.func51, Tryz.ntmps51
    go_wp2_with fail
    refine wp_region_ext (by kernel_rfl) (by kernel_rfl) fun hx => ?_
    repeat (go_big_quiet_step (fail))
    refine wpQuiet_nil ?_
    intro w5 b5
    go_wp2
    go_ret
    exact ⟨rfl, bchain (bchain bself bself) b5⟩
  · rw [e]
    have hd : decide (0 ≤ s) = true := decide_eq_true (by omega)
    have hd2 : decide (s < L.secs.length) = false := decide_eq_false (by omega)
    clear h h1 e hL
    unfold Lay.val
    go_enter Tryz.func51, Tryz.ntmps51
    go_wp2_with fail
    refine wp_region_ext (by kernel_rfl) (by kernel_rfl) fun hx => ?_
    repeat (go_big_quiet_step (fail))
    refine wpQuiet_nil ?_
    intro w5 b5
    go_wp2
    go_ret
    exact ⟨rfl, bchain (bchain bself bself) b5⟩
  obtain ⟨a0, a1, a2, a3, p0, p1, p2, p3⟩ := p
  obtain ⟨b, off, e0, hrow⟩ := hL.secs.get hn
  dsimp only at e0
  subst e0
  have l0 := hrow.1
  have l1 : b < w.heap.size + 1 := by omega
  have l2 : b < w.heap.size + 1 + 1 := by omega
  obtain ⟨k0, k1, k2, k3, k4, k5, k6, k7, k8, k9, k10⟩ := sec_cells hrow hc
  have hk := hL.kinds c hm
  have hp := fun w1 (K1 : Kinds w1) => ports_any c.k hk.1 hk.2 w1 K1
  obtain ⟨np, hnp⟩ : ∃ np, np = kPorts c.k := ⟨_, rfl⟩
  rw [← hnp] at hp h2
  have HP := Lib.hid hp
  have KH := Lib.hid K
  have hB : Below w.heap.size w ((w.alloc (.cells #[.slice (some ⟨b, off, none⟩) L.secs.length p0, .slice a1 L.sigs.length p1, .slice a2 L.exits.length p2, .slice a3 L.flanks.length p3, .int .i64 L.t0, .int .i64 L.t1, .int .i64 L.t2, .int .i64 L.t3, .int .i64 L.t4, .int .i64 L.t5, .int .i64 L.t6] 29)).alloc (.cells #[.int .i64 n, .int .i64 q] 49)) := bchain bself bself
  have HB := Lib.hid hB
  have hln : n < L.secs.length := hn
  have dn : decide (n < L.secs.length) = true := decide_eq_true hn
  clear hp hc hk hnp hrow hL hm hB K
  unfold Lay.val
  rcases h2 with ⟨h2, e, _⟩ | ⟨h2, e, _⟩
  · rw [e]
    have hd : decide (0 ≤ q) = false := decide_eq_false (by omega)
    clear h2 e
    go_enter Tryz.func51, Tryz.ntmps51
    go_wp2_with fail
    refine wp_region_ext (by kernel_rfl) (by kernel_rfl) fun hx => ?_
    repeat (go_big_quiet_step (fail))
    refine wpQuiet_nil ?_
    intro w5 b5
    go_wp2
    go_ret
    exact ⟨rfl, bchain (bchain bself bself) b5⟩
  · rw [e]
    have hd : decide (0 ≤ q) = true := decide_eq_true (by omega)
    clear h2 e
    go_enter Tryz.func51, Tryz.ntmps51
    go_wp2_with fail
    refine wp_region_ext (by kernel_rfl) (by kernel_rfl) fun hx => ?_
    repeat (go_big_quiet_step ((go_at_call 64; exact Calls.ext (HP.out _ (KH.out.below (bchain HB.out (Ext.below _)))))))
    refine wpQuiet_nil ?_
    intro w5 b5
    go_wp2
    go_ret
    exact ⟨rfl, bchain (bchain bself bself) b5⟩

set_option maxRecDepth 100000 in
set_option maxHeartbeats 4000000 in
theorem rHas_any (L : Lay) (p : Where) (s q : Int) (w : World) (hL : LayAt w p L) :
    Calls Tryz.prog 53 #[L.val p, .agg #[.int .i64 s, .int .i64 q]] w fun e w' => e = .returned (.bool (hasB L s q)) ∧ Below w.heap.size w w' := by
  rcases has_cases L s q with ⟨h, e, _⟩ | ⟨h, h1, e, _⟩ | ⟨n, c, rfl, hn, hc, hm, h2⟩
  · rw [e]
    have hd : decide (0 ≤ s) = false := decide_eq_false (by omega)
    clear h e hL
    unfold Lay.val
    go_enter Tryz.func53, Tryz.ntmps53
    go_wp2_with fail
    refine wp_region_ext (by kernel_rfl) (by kernel_rfl) fun hx => ?_
    repeat (go_big_quiet_step (fail))
    refine wpQuiet_nil ?_
    intro w5 b5
    go_wp2
    go_ret
    exact ⟨rfl, bchain (bchain bself bself) b5⟩
  · rw [e]
    have hd : decide (0 ≤ s) = true := decide_eq_true (by omega)
    have hd2 : decide (s < L.secs.length) = false := decide_eq_false (by omega)
    clear h h1 e hL
    unfold Lay.val
    go_enter Tryz.func53, Tryz.ntmps53
    go_wp2_with fail
    refine wp_region_ext (by kernel_rfl) (by kernel_rfl) fun hx => ?_
    repeat (go_big_quiet_step (fail))
    refine wpQuiet_nil ?_
    intro w5 b5
    go_wp2
    go_ret
    exact ⟨rfl, bchain (bchain bself bself) b5⟩
  obtain ⟨a0, a1, a2, a3, p0, p1, p2, p3⟩ := p
  obtain ⟨b, off, e0, hrow⟩ := hL.secs.get hn
  dsimp only at e0
  subst e0
  have l0 := hrow.1
  have l1 : b < w.heap.size + 1 := by omega
  have l2 : b < w.heap.size + 1 + 1 := by omega
  obtain ⟨k0, k1, k2, k3, k4, k5, k6, k7, k8, k9, k10⟩ := sec_cells hrow hc
  have hk := hL.kinds c hm
  have hp := fun w1 => rPorts_any c.k w1
  obtain ⟨np, hnp⟩ : ∃ np, np = kPorts c.k := ⟨_, rfl⟩
  rw [← hnp] at hp h2
  have HP := Lib.hid hp

  have hB : Below w.heap.size w ((w.alloc (.cells #[.slice (some ⟨b, off, none⟩) L.secs.length p0, .slice a1 L.sigs.length p1, .slice a2 L.exits.length p2, .slice a3 L.flanks.length p3, .int .i64 L.t0, .int .i64 L.t1, .int .i64 L.t2, .int .i64 L.t3, .int .i64 L.t4, .int .i64 L.t5, .int .i64 L.t6] 29)).alloc (.cells #[.int .i64 n, .int .i64 q] 49)) := bchain bself bself
  have HB := Lib.hid hB
  have hln : n < L.secs.length := hn
  have dn : decide (n < L.secs.length) = true := decide_eq_true hn
  clear hp hc hk hnp hrow hL hm hB
  unfold Lay.val
  rcases h2 with ⟨h2, e, _⟩ | ⟨h2, e, _⟩
  · rw [e]
    have hd : decide (0 ≤ q) = false := decide_eq_false (by omega)
    clear h2 e
    go_enter Tryz.func53, Tryz.ntmps53
    go_wp2_with fail
    refine wp_region_ext (by kernel_rfl) (by kernel_rfl) fun hx => ?_
    repeat (go_big_quiet_step (fail))
    refine wpQuiet_nil ?_
    intro w5 b5
    go_wp2
    go_ret
    exact ⟨rfl, bchain (bchain bself bself) b5⟩
  · rw [e]
    have hd : decide (0 ≤ q) = true := decide_eq_true (by omega)
    clear h2 e
    go_enter Tryz.func53, Tryz.ntmps53
    go_wp2_with fail
    refine wp_region_ext (by kernel_rfl) (by kernel_rfl) fun hx => ?_
    repeat (go_big_quiet_step ((go_at_call 67; exact Calls.ext (HP.out _))))
    refine wpQuiet_nil ?_
    intro w5 b5
    go_wp2
    go_ret
    exact ⟨rfl, bchain (bchain bself bself) b5⟩

theorem sec_port_cells {W : World} {b off n : Nat} {xs : List Sec} {c : Sec} (h : RowAt' W 11 Sec.enc b off xs) (hc : xs[n]? = some c) (m : Nat) (hm : m < 4) :
    W.cell? ⟨b, off + n * 11 + 1 + m * 2, none⟩ = some (.int .i64 (c.S m)) ∧ W.cell? ⟨b, off + n * 11 + 1 + m * 2 + 1, none⟩ = some (.int .i64 (c.P m)) := by
  obtain ⟨k0, k1, k2, k3, k4, k5, k6, k7, k8, k9, k10⟩ := sec_cells h hc
  obtain rfl | rfl | rfl | rfl : m = 0 ∨ m = 1 ∨ m = 2 ∨ m = 3 := by omega
  · exact ⟨k1, k2⟩
  · exact ⟨k3, k4⟩
  · exact ⟨k5, k6⟩
  · exact ⟨k7, k8⟩
theorem kPorts_le (k : Int) : kPorts k ≤ 4 := by
  rcases kCases k with ⟨_, h, _⟩ | ⟨_, h, _⟩ | ⟨_, h, _⟩ | ⟨_, _, _, h, _⟩ <;> omega
theorem bey_cases (L : Lay) (s q : Int) : (hasB L s q = false ∧ beyL L s q = endP) ∨ ∃ (n m : Nat) (c : Sec), s = (n : Int) ∧ q = (m : Int) ∧ n < L.secs.length ∧ L.secs[n]? = some c ∧ c ∈ L.secs ∧ m < 4 ∧ (m : Int) < kPorts c.k ∧ hasB L s q = true ∧ beyL L s q = ⟨c.S m, c.P m⟩ := by
  rcases has_cases L s q with ⟨_, e, f⟩ | ⟨_, _, e, f⟩ | ⟨n, c, rfl, hn, hc, hm, ⟨_, e, f⟩ | ⟨h2, e, f, g⟩⟩
  · exact .inl ⟨e, f⟩
  · exact .inl ⟨e, f⟩
  · exact .inl ⟨e, f⟩
  · by_cases h : q < kPorts c.k
    · have := kPorts_le c.k
      obtain ⟨m, rfl⟩ : ∃ m : Nat, q = (m : Int) := ⟨q.toNat, by omega⟩
      exact .inr ⟨n, m, c, rfl, rfl, hn, hc, hm, by omega, h, e.trans (decide_eq_true h), f h⟩
    · exact .inl ⟨e.trans (decide_eq_false h), g (by omega)⟩

set_option maxRecDepth 100000 in
theorem rNone_any (w : World) : Calls Tryz.prog 54 #[] w fun e w' => e = .returned (.agg #[.int .i64 (-1), .int .i64 0]) ∧ Below w.heap.size w w' := by
  go_enter Tryz.func54, Tryz.ntmps54
  go_wp2
  refine bodyPost_ret (v := .agg #[.int .i64 (-1), .int .i64 0]) (by simp [results, Tryz.results54, go_sem]) rfl ⟨rfl, ?_⟩
  repeat refine Below.setCell ?_ (by dsimp only; omega) _
  exact bself

set_option maxRecDepth 100000 in
set_option maxHeartbeats 4000000 in
theorem beyJ_any (L : Lay) (P : Where) (s q : Int) (w : World) (hL : LayAt w P L) (K : Kinds w) (E : JEnd w) :
    Calls Tryz.prog 34 #[L.val P, .agg #[.int .i64 s, .int .i64 q]] w fun e w' => e = .returned (.agg #[.int .i64 (beyL L s q).s, .int .i64 (beyL L s q).p]) ∧ Below w.heap.size w w' := by
  have hh := hasJ_any L P s q (((w.alloc (.cells (L.cells P).toArray 29)).alloc (.cells #[.int .i64 s, .int .i64 q] 49)).alloc (.cells #[.int .i64 0, .int .i64 0] 49)) (hL.below (bchain (bchain bself bself) bself)) (K.below (bchain (bchain bself bself) bself))
  rcases bey_cases L s q with ⟨e, f⟩ | ⟨n, m, c, rfl, rfl, hn, hc0, hcm, hm, hmk, e, f⟩
  · rw [e] at hh
    rw [f]
    unfold endP
    dsimp only
    clear e f hL
    unfold Lay.cells at hh
    unfold Lay.val at hh ⊢
    have HH := Lib.hid hh
    clear hh
    go_enter Tryz.func34, Tryz.ntmps34
    go_wp2_with fail
    (with_reducible refine HH.out.mono ?_)
    rintro e w1 ⟨rfl, b1⟩
    obtain ⟨hc, hf, hz⟩ := bcell b1
    have z0 : w.heap.size < w1.heap.size := hz _ (by simp <;> omega)
    have z1 : w.heap.size + 1 < w1.heap.size := hz _ (by simp <;> omega)
    have z2 : w.heap.size + 1 + 1 < w1.heap.size := hz _ (by simp <;> omega)
    have HB := Lib.hid (bchain (bchain (bchain (bself (w := w) (o := _)) bself) bself) b1)
    have e0 := E.c0
    have e1 := E.c1
    have el := E.lt
    have el1 : 0 < w.heap.size + 1 := by omega
    have el2 : 0 < w.heap.size + 1 + 1 := by omega
    have el3 : 0 < w.heap.size + 1 + 1 + 1 := by omega
    clear hz b1
    go_wp2
    refine bodyPost_ret (v := .agg #[.int .i64 (-1), .int .i64 0]) (by simp [results, Tryz.results34, go_sem, *]) rfl ⟨rfl, ?_⟩
    repeat refine Below.setCell ?_ (by dsimp only; omega) _
    exact HB.out
  · rw [e] at hh
    rw [f]
    obtain ⟨a0, a1, a2, a3, p0, p1, p2, p3⟩ := P
    obtain ⟨b, off, e0, hrow⟩ := hL.secs.get hn
    dsimp only at e0
    subst e0
    have l0 := hrow.1
    have l1 : b < w.heap.size + 1 := by omega
    have l2 : b < w.heap.size + 1 + 1 := by omega
    have l3 : b < w.heap.size + 1 + 1 + 1 := by omega
    obtain ⟨j0, j1⟩ := sec_port_cells hrow hc0 m hm
    dsimp only
    generalize c.S m = cs at j0 ⊢
    generalize c.P m = cp at j1 ⊢
    have hln : n < L.secs.length := hn
    clear e f hc0 hcm hmk hrow hL hn
    unfold Lay.cells at hh
    unfold Lay.val at hh ⊢
    have HH := Lib.hid hh
    clear hh
    go_enter Tryz.func34, Tryz.ntmps34
    go_wp2_with fail
    (with_reducible refine HH.out.mono ?_)
    rintro e w1 ⟨rfl, b1⟩
    obtain ⟨hc, hf, hz⟩ := bcell b1
    have z0 : w.heap.size < w1.heap.size := hz _ (by simp <;> omega)
    have z1 : w.heap.size + 1 < w1.heap.size := hz _ (by simp <;> omega)
    have z2 : w.heap.size + 1 + 1 < w1.heap.size := hz _ (by simp <;> omega)
    have HB := Lib.hid (bchain (bchain (bchain (bself (w := w) (o := _)) bself) bself) b1)
    have zb : b < w1.heap.size := hz _ (by simp <;> omega)
    clear hz b1
    go_wp2
    go_region
    go_wp2
    refine bodyPost_ret (v := .agg #[.int .i64 cs, .int .i64 cp]) (by simp [results, Tryz.results34, go_sem, *]) rfl ⟨rfl, ?_⟩
    refine Below.drew ?_
    repeat refine Below.setCell ?_ (by dsimp only; omega) _
    exact HB.out

set_option maxRecDepth 100000 in
set_option maxHeartbeats 4000000 in
theorem rBey_any (L : Lay) (P : Where) (s q : Int) (w : World) (hL : LayAt w P L) :
    Calls Tryz.prog 36 #[L.val P, .agg #[.int .i64 s, .int .i64 q]] w fun e w' => e = .returned (.agg #[.int .i64 (beyL L s q).s, .int .i64 (beyL L s q).p]) ∧ Below w.heap.size w w' := by
  have hh := rHas_any L P s q (((w.alloc (.cells (L.cells P).toArray 29)).alloc (.cells #[.int .i64 s, .int .i64 q] 49)).alloc (.cells #[.int .i64 0, .int .i64 0] 49)) (hL.below (bchain (bchain bself bself) bself))
  rcases bey_cases L s q with ⟨e, f⟩ | ⟨n, m, c, rfl, rfl, hn, hc0, hcm, hm, hmk, e, f⟩
  · rw [e] at hh
    rw [f]
    unfold endP
    dsimp only
    clear e f hL
    unfold Lay.cells at hh
    unfold Lay.val at hh ⊢
    have HH := Lib.hid hh
    clear hh
    go_enter Tryz.func36, Tryz.ntmps36
    go_wp2_with fail
    (with_reducible refine HH.out.mono ?_)
    rintro e w1 ⟨rfl, b1⟩
    obtain ⟨hc, hf, hz⟩ := bcell b1
    have z0 : w.heap.size < w1.heap.size := hz _ (by simp <;> omega)
    have z1 : w.heap.size + 1 < w1.heap.size := hz _ (by simp <;> omega)
    have z2 : w.heap.size + 1 + 1 < w1.heap.size := hz _ (by simp <;> omega)
    have HB := Lib.hid (bchain (bchain (bchain (bself (w := w) (o := _)) bself) bself) b1)
    
    clear hz b1
    go_wp2_with fail
    (with_reducible refine (rNone_any _).mono ?_)
    rintro e w2 ⟨rfl, b2⟩
    obtain ⟨hc2, hf2, hz2⟩ := bcell b2
    have y2 : w.heap.size + 1 + 1 < w2.heap.size := hz2 _ z2
    have HB := Lib.hid (bchain HB.out b2)
    clear b2 hz2
    go_wp2
    refine bodyPost_ret (v := .agg #[.int .i64 (-1), .int .i64 0]) (by simp [results, Tryz.results36, go_sem, *]) rfl ⟨rfl, ?_⟩
    repeat refine Below.setCell ?_ (by dsimp only; omega) _
    exact HB.out
  · rw [e] at hh
    rw [f]
    obtain ⟨a0, a1, a2, a3, p0, p1, p2, p3⟩ := P
    obtain ⟨b, off, e0, hrow⟩ := hL.secs.get hn
    dsimp only at e0
    subst e0
    have l0 := hrow.1
    have l1 : b < w.heap.size + 1 := by omega
    have l2 : b < w.heap.size + 1 + 1 := by omega
    have l3 : b < w.heap.size + 1 + 1 + 1 := by omega
    obtain ⟨j0, j1⟩ := sec_port_cells hrow hc0 m hm
    dsimp only
    generalize c.S m = cs at j0 ⊢
    generalize c.P m = cp at j1 ⊢
    have hln : n < L.secs.length := hn
    clear e f hc0 hcm hmk hrow hL hn
    unfold Lay.cells at hh
    unfold Lay.val at hh ⊢
    have HH := Lib.hid hh
    clear hh
    go_enter Tryz.func36, Tryz.ntmps36
    go_wp2_with fail
    (with_reducible refine HH.out.mono ?_)
    rintro e w1 ⟨rfl, b1⟩
    obtain ⟨hc, hf, hz⟩ := bcell b1
    have z0 : w.heap.size < w1.heap.size := hz _ (by simp <;> omega)
    have z1 : w.heap.size + 1 < w1.heap.size := hz _ (by simp <;> omega)
    have z2 : w.heap.size + 1 + 1 < w1.heap.size := hz _ (by simp <;> omega)
    have HB := Lib.hid (bchain (bchain (bchain (bself (w := w) (o := _)) bself) bself) b1)
    have zb : b < w1.heap.size := hz _ (by simp <;> omega)
    clear hz b1
    go_wp2
    go_region
    go_wp2
    refine bodyPost_ret (v := .agg #[.int .i64 cs, .int .i64 cp]) (by simp [results, Tryz.results36, go_sem, *]) rfl ⟨rfl, ?_⟩
    refine Below.drew ?_
    repeat refine Below.setCell ?_ (by dsimp only; omega) _
    exact HB.out
end Go.Proofs.YtpcojaoeahdgcaaGreatDoor

/-
  A region whose last operations wait for all the others: the others go in whatever order, under a condition S of their own; then the last ones in the order of the text.
-/
namespace Go.Proofs.YtpcojaoeahdgcaaGreatDoor

section
variable {P : Program} {ops : Array Oper} {Q : Exit → Act → World → Prop} {md : Region.Mode}

theorem wpAny_more : ∀ (f : Nat) (listed : Array Bool) (a : Act) (w : World), wpAny P md ops Q f listed a w → wpAny P md ops Q (f + 1) listed a w
  | 0, _, _, _, h => ⟨fun _ => h.2, fun i hi => by rw [h.1] at hi; cases hi⟩
  | f + 1, _, _, _, h => ⟨h.1, fun i hi => wpOp_mono (fun a' w' h' => wpAny_more f _ a' w' h') (h.2 i hi)⟩
theorem wpAny_pad (f : Nat) (listed : Array Bool) (a : Act) (w : World) (h : wpAny P md ops Q f listed a w) : ∀ d : Nat, wpAny P md ops Q (d + f) listed a w
  | 0 => by rw [Nat.zero_add]; exact h
  | d + 1 => by rw [show d + 1 + f = d + f + 1 by omega]; exact wpAny_more _ _ _ _ (wpAny_pad f listed a w h d)

/-- The post of the head: at its end the tail goes. -/
def headPost (P : Program) (ops : Array Oper) (tl : List Oper) (Q : Exit → Act → World → Prop) : Exit → Act → World → Prop
  | .normal, a, w => wpList P ops Q tl a w
  | e, a, w => Q e a w

/-- The head's operations wait for earlier ones, and are guarded by the head's. -/
def headB (md : Region.Mode) (ops : Array Oper) (n : Nat) : Bool :=
  (List.range n).all fun i => match ops[i]? with
    | none => false
    | some o => o.after.all (fun e => !Region.binds md e || decide (e.on < i)) && (match o.guard with | none => true | some (j, _) => decide (j < n))
theorem headB_spec {n i : Nat} (h : headB md ops n = true) (hi : i < n) : ∃ o, ops[i]? = some o ∧ (∀ e ∈ o.after, Region.binds md e = true → e.on < i) ∧ (∀ j b, o.guard = some (j, b) → j < n) := by
  have h1 := List.all_eq_true.1 h i (List.mem_range.2 hi)
  revert h1
  cases ho : ops[i]? with
  | none => intro h1; cases h1
  | some o =>
    intro h1
    simp only [Bool.and_eq_true] at h1
    refine ⟨o, rfl, fun e he hb => ?_, fun j b hg => ?_⟩
    · have h2 := Array.all_eq_true'.1 h1.1 e he
      simpa [hb] using h2
    · have h2 := h1.2
      rw [hg] at h2
      simpa using h2

theorem oper_wp_post {o : Oper} {a : Act} {w : World} {K : Act → World → Prop} {tl : List Oper} (h : o.wp P a w K (headPost P ops tl Q)) : o.wp P a w K Q := by
  unfold Oper.wp at *
  generalize (execOp a.eval o).run P w = r at *
  cases r with
  | ok n w' =>
    cases n <;> simp only [Oper.upon] at h ⊢ <;>
      first
        | exact h
        | exact Calls.mono h (fun e w'' he => by cases e <;> exact he)
  | halt x w' => cases x <;> simp only [Oper.upon] at h ⊢ <;> exact h
theorem letsOut_post {tl : List Oper} (h : LetsOut (headPost P ops tl Q)) : LetsOut Q := h

theorem wpOp_head {hd tl : List Oper} {i : Nat} {K K' : Act → World → Prop} {a : Act} {w : World} (hB : headB md (hd ++ tl).toArray hd.length = true) (hi : i < hd.length) (hK : ∀ a w, K a w → K' a w)
    (h : wpOp P hd.toArray (headPost P (hd ++ tl).toArray tl Q) i K a w) : wpOp P (hd ++ tl).toArray Q i K' a w := by
  obtain ⟨o, ho, _, hg⟩ := headB_spec hB hi
  have ho' : hd.toArray[i]? = some o := by
    simpa [List.getElem?_append_left hi] using ho
  refine wpOp_mono hK ?_
  unfold wpOp at *
  simp only [ho] at ⊢
  simp only [ho'] at h
  have hw : Region.wanted o (yielded (hd ++ tl).toArray a.tmps) = Region.wanted o (yielded hd.toArray a.tmps) := by
    unfold Region.wanted
    cases hgo : o.guard with
    | none => rfl
    | some p =>
      obtain ⟨j, b⟩ := p
      have hj := hg j b hgo
      have e : (hd ++ tl).toArray[j]? = hd.toArray[j]? := by simp [List.getElem?_append_left hj]
      simp only [yielded, e]
  rw [hw]
  split
  · rename_i hw
    simp only [hw, if_true] at h
    exact h.imp oper_wp_post (fun h => ⟨h.1, letsOut_post h.2⟩)
  · rename_i hw
    simp only [hw] at h
    exact h

theorem getD_of {xs ys : Array Bool} {i : Nat} {d : Bool} (h : xs[i]? = ys[i]?) : xs.getD i d = ys.getD i d := by
  simp only [Array.getD_eq_getD_getElem?, h]

theorem ready_head {hd tl : List Oper} {lh listed : Array Bool} {i : Nat} (hB : headB md (hd ++ tl).toArray hd.length = true) (hi : i < hd.length)
    (hr : ∀ j, j < hd.length → lh[j]? = listed[j]?) : i ∈ Region.ready md (hd ++ tl).toArray listed ↔ i ∈ Region.ready md hd.toArray lh := by
  obtain ⟨o, ho, he, _⟩ := headB_spec hB hi
  have ho' : hd.toArray[i]? = some o := by
    simpa [List.getElem?_append_left hi] using ho
  rw [mem_ready, mem_ready, getD_of (hr i hi)]
  constructor
  · rintro ⟨h1, o1, h2, h3⟩
    obtain rfl : o1 = o := Option.some.inj (h2.symm.trans ho)
    exact ⟨h1, o1, ho', fun e h4 hb => (getD_of (hr e.on (by have := he e h4 hb; omega))).trans (h3 e h4 hb)⟩
  · rintro ⟨h1, o1, h2, h3⟩
    obtain rfl : o1 = o := Option.some.inj (h2.symm.trans ho')
    exact ⟨h1, o1, ho, fun e h4 hb => (getD_of (hr e.on (by have := he e h4 hb; omega))).symm.trans (h3 e h4 hb)⟩

/-- Some operation of the head is left: then one may come up. -/
theorem ready_some {n : Nat} {listed : Array Bool} (hB : headB md ops n = true) (hn : n ≤ listed.size) : ∀ (i : Nat), i < n → listed.getD i true = false → ∃ j, j < n ∧ j ∈ Region.ready md ops listed := by
  intro i
  induction i using Nat.strongRecOn with
  | _ i ih =>
    intro hi hu
    obtain ⟨o, ho, he, _⟩ := headB_spec hB hi
    by_cases h : ∀ e ∈ o.after, Region.binds md e = true → listed.getD e.on false = true
    · exact ⟨i, hi, mem_ready.2 ⟨hu, o, ho, h⟩⟩
    · simp only [Classical.not_forall] at h
      obtain ⟨e, he1, hb, h⟩ := h
      have hlt := he e he1 hb
      exact ih e.on hlt (by omega) (getD_in (by omega) (by simpa using h))

/-- The head, then the tail. -/
theorem wpAny_split {hd tl : List Oper} (hB : headB md (hd ++ tl).toArray hd.length = true) (hs : Region.sinkB md (hd ++ tl).toArray hd.length = true) (hc : Region.chainB md (hd ++ tl).toArray hd.length = true) (ht : 0 < tl.length)
    (hq : Region.seqB md (hd ++ tl).toArray tl.length hd.length (List.replicate hd.length true ++ List.replicate tl.length false).toArray = true) :
    ∀ (f : Nat) (lh listed : Array Bool) (a : Act) (w : World), HeadInv md (hd ++ tl).toArray hd.length listed → (∀ j, j < hd.length → lh[j]? = listed[j]?) →
      wpAny P md hd.toArray (headPost P (hd ++ tl).toArray tl Q) f lh a w → wpAny P md (hd ++ tl).toArray Q (f + tl.length) listed a w := by
  have hsz : (hd ++ tl).toArray.size = hd.length + tl.length := by simp
  have done : ∀ (f : Nat) (lh listed : Array Bool) (a : Act) (w : World), HeadInv md (hd ++ tl).toArray hd.length listed → (∀ j, j < hd.length → lh[j]? = listed[j]?) → Region.ready md hd.toArray lh = [] →
      wpList P (hd ++ tl).toArray Q tl a w → wpAny P md (hd ++ tl).toArray Q (f + tl.length) listed a w := by
    intro f lh listed a w inv hr h0 h
    have hall : ∀ i, i < hd.length → listed.getD i true = true := fun i hi => by
      cases hx : listed.getD i true with
      | true => rfl
      | false =>
        obtain ⟨j, hj, hjr⟩ := ready_some hB (by rw [inv.size, hsz]; omega) i hi hx
        have := (ready_head hB hj hr).1 hjr
        rw [h0] at this
        cases this
    have hl : listed = (List.replicate hd.length true ++ List.replicate tl.length false).toArray := by
      apply Array.ext
      · simp [inv.size]
      · intro i h1 h2
        rcases Nat.lt_or_ge i hd.length with hi | hi
        · have := hall i hi
          rw [Array.getD_eq_getD_getElem?, Array.getElem?_eq_getElem h1] at this
          simpa [List.getElem_append, hi] using this
        · have hi' : i < hd.length + tl.length := by rw [inv.size, hsz] at h1; exact h1
          have := inv.tail i hi (by rw [hsz]; exact hi')
          rw [Array.getD_eq_getD_getElem?, Array.getElem?_eq_getElem h1] at this
          simpa [List.getElem_append, Nat.not_lt.2 hi] using this
    refine wpAny_pad _ _ _ _ ?_ f
    refine wpAny_of_seq tl hd.length listed a w (fun j => by rw [List.getElem?_toArray, List.getElem?_append_right (Nat.le_add_right _ _), Nat.add_sub_cancel_left]) ?_ h
    rw [hl]
    exact hq
  intro f
  induction f with
  | zero => exact fun lh listed a w inv hr h => done 0 lh listed a w inv hr h.1 h.2
  | succ f ih =>
    intro lh listed a w inv hr h
    by_cases h0 : Region.ready md hd.toArray lh = []
    · exact done (f + 1) lh listed a w inv hr h0 (h.1 h0)
    · obtain ⟨i0, hi0⟩ := List.exists_mem_of_ne_nil _ h0
      have hlt0 : i0 < hd.length := by
        obtain ⟨_, o, ho, _⟩ := mem_ready.1 hi0
        simpa using (Array.getElem?_eq_some_iff.1 ho).1
      have hu0 : listed.getD i0 true = false := (getD_of (hr i0 hlt0)).symm.trans (mem_ready.1 hi0).1
      rw [show f + 1 + tl.length = f + tl.length + 1 by omega]
      refine ⟨fun h1 => ?_, fun i hi => ?_⟩
      · have := (ready_head hB hlt0 hr).2 hi0
        rw [h1] at this
        cases this
      · have hin : i < hd.length := by
          rcases Nat.lt_or_ge i hd.length with h | h
          · exact h
          · exact absurd hi (tail_waits hs hc (by rw [hsz]; omega) inv _ i0 rfl hlt0 hu0 i h)
        refine wpOp_head hB hin (fun a' w' h' => ih _ _ a' w' (inv.set hi hin) (fun j hj => ?_) h') (h.2 i ((ready_head hB hin hr).1 hi))
        have hs1 : lh.size = lh.size := rfl
        by_cases hij : i = j
        · subst hij
          have e := hr i hin
          have hlt : i < listed.size := by rw [inv.size, hsz]; omega
          have hlt' : i < lh.size := by
            rcases Nat.lt_or_ge i lh.size with h | h
            · exact h
            · rw [Array.getElem?_eq_none h, Array.getElem?_eq_getElem hlt] at e
              cases e
          simp [hlt, hlt']
        · rw [Array.getElem?_setIfInBounds_ne hij, Array.getElem?_setIfInBounds_ne hij]
          exact hr j hj

/-- A region that draws: its first n operations in whatever order, under S; then the others, which wait for them, in the text's order. -/
theorem wp_region_head {id : Nat} {a : Act} {w : World} {l : List Oper} (n : Nat) (S : World → Prop) (hm : P.follows .mixedOrders = true) (hn : decide (n < l.length) = true)
    (hB : headB .any (l.take n ++ l.drop n).toArray (l.take n).length = true) (hs : Region.sinkB .any (l.take n ++ l.drop n).toArray (l.take n).length = true) (hc : Region.chainB .any (l.take n ++ l.drop n).toArray (l.take n).length = true)
    (hq : Region.seqB .any (l.take n ++ l.drop n).toArray (l.drop n).length (l.take n).length (List.replicate (l.take n).length true ++ List.replicate (l.drop n).length false).toArray = true)
    (hS : S w.drew) (h : S w.drew → wpAnyH P .any (l.take n).toArray (headPost P l.toArray (l.drop n) Q) S n (Array.replicate n false) a w.drew) : (Code.region id l.toArray true).wp P Q a w := by
  have hn' : n < l.length := by simpa using hn
  have e : l.take n ++ l.drop n = l := List.take_append_drop n l
  refine wp_region_any hm ?_
  have H := wpAny_split (P := P) (Q := Q) hB hs hc (by simp; omega) hq n (Array.replicate n false) (Array.replicate l.toArray.size false) a w.drew
    ⟨by rw [e]; simp, fun j oj _ hl => (by rw [getD_replicate_false] at hl; cases hl), fun t _ ht => getD_in (by rw [e] at ht; simpa using ht) (getD_replicate_false _ _)⟩
    (fun j hj => by
      have : j < n := by simp at hj; omega
      simp [this, show j < l.length by omega])
    (by rw [e]; exact wpAny_of_held _ _ _ _ (h hS))
  have hl : n + (l.drop n).length = l.toArray.size := by simp; omega
  rw [hl, e] at H
  exact H
end
end Go.Proofs.YtpcojaoeahdgcaaGreatDoor

/-
  A region that draws its order, told by relations: each operation, whenever it comes up behind those for which it waits, leaves a value that meets a relation of its own, which no later operation breaks; so at the end all relations hold, whatever the order was.
-/
namespace Go.Proofs.YtpcojaoeahdgcaaGreatDoor
open Go.RowKit

/-- What is known of an operation's value. -/
abbrev Rel := Value → World → Prop
/-- A temporary at which an operation looks: written by which of the operations ahead (0: the one just ahead), or by none yet. -/
abbrev Look := Nat × Option Nat
/-- What one operation looks at; its guard's temporary. -/
abbrev Looks := List Look × Option (Nat × Bool)

section
variable (P : Program) (C : World → Prop) (St : World → World → Prop) (a0 : Act)

/-- What an operand that is no temporary holds. -/
structure Consts (ρ : Operand → Value) : Prop where
  const : ∀ v, ρ (.const v) = v
  global : ∀ g, ρ (.global g) = .pointer (some ⟨g, 0, none⟩)
  func : ∀ f, ρ (.func f) = .func (.func f) #[] #[]

def seen (known : List Rel) (ρ : Operand → Value) (w : World) : List Look → Prop → Prop
  | [], G => G
  | (t, some d) :: r, G => (known.getD d fun _ _ => True) (ρ (.tmp t)) w → seen known ρ w r G
  | (t, none) :: r, G => ρ (.tmp t) = a0.eval (.tmp t) → seen known ρ w r G

def relUpon (w : World) (T : Rel) : Result Next → Prop
  | .ok (.value v) w' => C w' ∧ St w w' ∧ T v w'
  | .ok .skip w' => C w' ∧ St w w' ∧ T undef w'
  | .ok (.enter f args) w' => Calls P f args w' fun e w'' => ∃ v, e = .returned v ∧ C w'' ∧ St w w'' ∧ T v w''
  | _ => False

def obOp (o : Oper) (gd : Option (Nat × Bool)) (T : Rel) (ρ : Operand → Value) (w : World) : Prop :=
  match gd with
  | none => relUpon P C St w T ((execOp ρ o).run P w)
  | some (t, b) => (ρ (.tmp t) = .bool b → relUpon P C St w T ((execOp ρ o).run P w)) ∧ (ρ (.tmp t) ≠ .bool b → T undef w)

/-- What is owed of the operations, in the order of the text. -/
def obFrom (fin : List Rel → Prop) : List Oper → List Looks → List Rel → Prop
  | [], _, known => fin known
  | o :: os, ls :: lss, known => ∃ T : Rel, (∀ v w w', T v w → St w w' → T v w') ∧ (∀ ρ w, Consts ρ → C w → seen a0 known ρ w ls.1 (obOp P C St o ls.2 T ρ w)) ∧ obFrom fin os lss (T :: known)
  | _ :: _, [], _ => False
end

/-! ### The Bool -/
def waitsB (ops : Array Oper) (i j : Nat) : Bool := match ops[i]? with
  | some o => o.after.any fun e => Region.binds .any e && e.on == j
  | none => false
def writesB (ops : Array Oper) (j t : Nat) : Bool := match ops[j]? with
  | some o => o.dst == some t
  | none => false
def lookB (ops : Array Oper) (i : Nat) : Look → Bool
  | (t, some d) => decide (d < i) && writesB ops (i - 1 - d) t && waitsB ops i (i - 1 - d)
  | (t, none) => (List.range ops.size).all fun j => !writesB ops j t || j == i || waitsB ops j i
def guardB (ops : Array Oper) (o : Oper) : Option (Nat × Bool) → Bool
  | none => o.guard.isNone
  | some (t, b) => match o.guard with
    | some (g, b') => writesB ops g t && b' == b
    | none => false
def opB (ops : Array Oper) (N i : Nat) (o : Oper) (ls : Looks) : Bool :=
  (match o.op with | .select .. => false | _ => true) &&
  (match o.dst with | some d => decide (d < N) && (List.range ops.size).all (fun j => j == i || !writesB ops j d) | none => true) &&
  (o.op.operands.all fun x => match x with | .tmp t => ls.1.any (fun l => l.1 == t) | _ => true) &&
  ls.1.all (lookB ops i) && guardB ops o ls.2 && o.after.all (fun e => !Region.binds .any e || decide (e.on < i))
def relB (ops : Array Oper) (N : Nat) (lss : List Looks) : Bool :=
  (List.range ops.size).all fun i => match ops[i]?, lss[i]? with
    | some o, some ls => opB ops N i o ls
    | _, _ => false

section
variable {P : Program} {ops : Array Oper} {C : World → Prop} {St : World → World → Prop} {a0 : Act}

theorem seen_elim {known : List Rel} {ρ : Operand → Value} {w : World} {G : Prop} : ∀ {ls : List Look}, seen a0 known ρ w ls G → (∀ t d, (t, some d) ∈ ls → (known.getD d fun _ _ => True) (ρ (.tmp t)) w) → (∀ t, (t, none) ∈ ls → ρ (.tmp t) = a0.eval (.tmp t)) → G
  | [], h, _, _ => h
  | (t, some d) :: _, h, h1, h2 => seen_elim (h (h1 t d (List.mem_cons_self ..))) (fun t' d' hm => h1 t' d' (List.mem_cons_of_mem _ hm)) (fun t' hm => h2 t' (List.mem_cons_of_mem _ hm))
  | (t, none) :: _, h, h1, h2 => seen_elim (h (h2 t (List.mem_cons_self ..))) (fun t' d' hm => h1 t' d' (List.mem_cons_of_mem _ hm)) (fun t' hm => h2 t' (List.mem_cons_of_mem _ hm))

/-- The relations of all, and what is owed of each. -/
theorem ob_all {fin : List Rel → Prop} : ∀ (os : List Oper) (lss : List Looks) (known : List Rel), obFrom P C St a0 fin os lss known →
    ∃ R : List Rel, R.length = os.length ∧ fin (R.reverse ++ known) ∧ ∀ i o ls, os[i]? = some o → lss[i]? = some ls →
      (∀ v w w', (R.getD i fun _ _ => True) v w → St w w' → (R.getD i fun _ _ => True) v w') ∧
      ∀ ρ w, Consts ρ → C w → seen a0 ((R.take i).reverse ++ known) ρ w ls.1 (obOp P C St o ls.2 (R.getD i fun _ _ => True) ρ w)
  | [], _, known, h => ⟨[], rfl, h, fun i o ls ho _ => by simp at ho⟩
  | o :: os, [], known, h => h.elim
  | o :: os, ls :: lss, known, h => by
    obtain ⟨T, hT, hob, hr⟩ := h
    obtain ⟨R, hl, hf, hall⟩ := ob_all os lss (T :: known) hr
    refine ⟨T :: R, by simp [hl], by simpa using hf, fun i o' ls' ho hls => ?_⟩
    cases i with
    | zero =>
      simp only [List.getElem?_cons_zero, Option.some.injEq] at ho hls
      subst ho hls
      exact ⟨hT, hob⟩
    | succ i =>
      simp only [List.getElem?_cons_succ] at ho hls
      have := hall i o' ls' ho hls
      simpa using this

structure RInv (ops : Array Oper) (C : World → Prop) (a0 : Act) (R : List Rel) (listed : Array Bool) (a : Act) (w : World) : Prop where
  cls : C w
  defers : a.defers = a0.defers
  size : a.tmps.size = a0.tmps.size
  lsize : listed.size = ops.size
  facts : ∀ j o t, ops[j]? = some o → o.dst = some t → listed.getD j false = true → (R.getD j fun _ _ => True) (a.eval (.tmp t)) w
  olds : ∀ t, (∀ j, writesB ops j t = true → listed.getD j false = false) → a.eval (.tmp t) = a0.eval (.tmp t)
  down : ∀ j k, listed.getD j false = true → waitsB ops j k = true → listed.getD k false = true

theorem writesB_spec {j t : Nat} (h : writesB ops j t = true) : ∃ o, ops[j]? = some o ∧ o.dst = some t := by
  unfold writesB at h
  cases ho : ops[j]? with
  | none => simp [ho] at h
  | some o => simp only [ho] at h; exact ⟨o, rfl, by simpa using h⟩
theorem writesB_of {j t : Nat} {o : Oper} (ho : ops[j]? = some o) (hd : o.dst = some t) : writesB ops j t = true := by
  unfold writesB; simp [ho, hd]
theorem waitsB_spec {i j : Nat} (h : waitsB ops i j = true) : ∃ o, ops[i]? = some o ∧ ∃ e ∈ o.after, Region.binds .any e = true ∧ e.on = j := by
  unfold waitsB at h
  cases ho : ops[i]? with
  | none => simp [ho] at h
  | some o =>
    simp only [ho, Array.any_eq_true'] at h
    obtain ⟨e, he, hb⟩ := h
    simp only [Bool.and_eq_true, beq_iff_eq] at hb
    exact ⟨o, rfl, e, he, hb⟩

theorem eval_put_ne {a : Act} {d t : Nat} {v : Value} (h : d ≠ t) : (a.put (some d) v).eval (.tmp t) = a.eval (.tmp t) := by
  simp [Act.eval, Act.put, Array.getElem?_setIfInBounds_ne h]
theorem eval_put_eq {a : Act} {d : Nat} {v : Value} (h : d < a.tmps.size) : (a.put (some d) v).eval (.tmp d) = v := by
  simp [Act.eval, Act.put, h]

theorem wanted_of_guard {N : Nat} {o : Oper} {ls : Looks} {a : Act} (hsz : a.tmps.size = N) (hN : ∀ j t, writesB ops j t = true → t < N) (h : guardB ops o ls.2 = true) :
    match ls.2 with
    | none => Region.wanted o (yielded ops a.tmps) = true
    | some (t, b) => (Region.wanted o (yielded ops a.tmps) = true ↔ a.eval (.tmp t) = .bool b) := by
  obtain ⟨l1, gd⟩ := ls
  cases gd with
  | none =>
    simp only [guardB, Option.isNone_iff_eq_none] at h
    simp [Region.wanted, h]
  | some p =>
    obtain ⟨t, b⟩ := p
    simp only [guardB] at h
    cases hg : o.guard with
    | none => simp [hg] at h
    | some q =>
      obtain ⟨g, b'⟩ := q
      simp only [hg, Bool.and_eq_true, beq_iff_eq] at h
      obtain ⟨h1, rfl⟩ := h
      obtain ⟨og, ho, hd⟩ := writesB_spec h1
      have ht : t < a.tmps.size := by rw [hsz]; exact hN _ _ h1
      have e : a.tmps[t]? = some (a.eval (.tmp t)) := by simp [Act.eval, ht]
      dsimp only
      simp only [Region.wanted, hg, yielded, ho, Option.bind_some, hd, e]
      cases hv : a.eval (.tmp t) <;> simp

theorem wp_of_relUpon {Q : Exit → Act → World → Prop} {o : Oper} {a : Act} {w : World} {T : Rel} {K : Act → World → Prop} (h : relUpon P C St w T ((execOp a.eval o).run P w))
    (hK : ∀ v w', C w' → St w w' → T v w' → K (a.put o.dst v) w') : o.wp P a w K Q := by
  unfold Oper.wp
  generalize (execOp a.eval o).run P w = r at *
  cases r with
  | ok n w' =>
    cases n <;> simp only [relUpon] at h <;> simp only [Oper.upon]
    case value u => exact hK _ _ h.1 h.2.1 h.2.2
    case skip => exact hK _ _ h.1 h.2.1 h.2.2
    case enter f args => exact Calls.mono h fun e w'' ⟨v, he, h1, h2, h3⟩ => by subst he; exact hK _ _ h1 h2 h3
  | halt x w' => simp only [relUpon] at h

theorem relB_spec {N : Nat} {lss : List Looks} (h : relB ops N lss = true) {i : Nat} {o : Oper} (ho : ops[i]? = some o) : ∃ ls, lss[i]? = some ls ∧ opB ops N i o ls = true := by
  have h1 := List.all_eq_true.1 h i (List.mem_range.2 (Array.getElem?_eq_some_iff.1 ho).1)
  simp only [ho] at h1
  cases hl : lss[i]? with
  | none => simp [hl] at h1
  | some ls => simp only [hl] at h1; exact ⟨ls, rfl, h1⟩

theorem rel_ready_some {N : Nat} {lss : List Looks} (hB : relB ops N lss = true) {listed : Array Bool} (hl : listed.size = ops.size) : ∀ (i : Nat), i < ops.size → listed.getD i true = false → ∃ j, j ∈ Region.ready .any ops listed := by
  intro i
  induction i using Nat.strongRecOn with
  | _ i ih =>
    intro hi hu
    obtain ⟨o, ho⟩ : ∃ o, ops[i]? = some o := ⟨_, Array.getElem?_eq_getElem hi⟩
    obtain ⟨ls, hls, hop⟩ := relB_spec hB ho
    simp only [opB, Bool.and_eq_true] at hop
    by_cases h : ∀ e ∈ o.after, Region.binds .any e = true → listed.getD e.on false = true
    · exact ⟨i, mem_ready.2 ⟨hu, o, ho, h⟩⟩
    · simp only [Classical.not_forall] at h
      obtain ⟨e, he1, hb, h⟩ := h
      have h2 := Array.all_eq_true'.1 hop.2 e he1
      have hlt : e.on < i := by simpa [hb] using h2
      refine ih e.on hlt (by omega) ?_
      have hlt' : e.on < listed.size := by omega
      simp only [Array.getD_eq_getD_getElem?, Array.getElem?_eq_getElem hlt', Option.getD_some] at h ⊢
      simpa using h

theorem rel_any {Q : Exit → Act → World → Prop} {N : Nat} {lss : List Looks} {R : List Rel} (hB : relB ops N lss = true) (hN : a0.tmps.size = N)
    (hob : ∀ i o ls, ops[i]? = some o → lss[i]? = some ls →
      (∀ v w w', (R.getD i fun _ _ => True) v w → St w w' → (R.getD i fun _ _ => True) v w') ∧
      ∀ ρ w, Consts ρ → C w → seen a0 (R.take i).reverse ρ w ls.1 (obOp P C St o ls.2 (R.getD i fun _ _ => True) ρ w))
    (hR : R.length = ops.size) (hrefl : ∀ w, St w w)
    (hfin : ∀ a w, RInv ops C a0 R (Array.replicate ops.size true) a w → Q .normal a w) :
    ∀ (fuel : Nat) (listed : Array Bool) (a : Act) (w : World), listed.count false ≤ fuel → RInv ops C a0 R listed a w → wpAny P .any ops Q fuel listed a w := by
  have hNw : ∀ j t, writesB ops j t = true → t < N := fun j t h => by
    obtain ⟨o, ho, hd⟩ := writesB_spec h
    obtain ⟨ls, _, hop⟩ := relB_spec hB ho
    simp only [opB, hd, Bool.and_eq_true, decide_eq_true_eq] at hop
    exact hop.1.1.1.1.2.1
  have huniq : ∀ i j t, writesB ops i t = true → writesB ops j t = true → j = i := fun i j t h h' => by
    obtain ⟨o, ho, hd⟩ := writesB_spec h
    obtain ⟨ls, _, hop⟩ := relB_spec hB ho
    simp only [opB, hd, Bool.and_eq_true] at hop
    obtain ⟨oj, hoj, _⟩ := writesB_spec h'
    have := List.all_eq_true.1 hop.1.1.1.1.2.2 j (List.mem_range.2 (Array.getElem?_eq_some_iff.1 hoj).1)
    simpa [h'] using this
  have done : ∀ (listed : Array Bool) (a : Act) (w : World), RInv ops C a0 R listed a w → Region.ready .any ops listed = [] → Q .normal a w := by
    intro listed a w inv hr
    have hall : ∀ i, i < ops.size → listed.getD i true = true := fun i hi => by
      cases hx : listed.getD i true with
      | true => rfl
      | false =>
        obtain ⟨j, hj⟩ := rel_ready_some hB inv.lsize i hi hx
        rw [hr] at hj
        cases hj
    have e : listed = Array.replicate ops.size true := by
      apply Array.ext
      · simp [inv.lsize]
      · intro i h1 h2
        have := hall i (by rw [← inv.lsize]; exact h1)
        simp only [Array.getD_eq_getD_getElem?, Array.getElem?_eq_getElem h1, Option.getD_some] at this
        simpa using this
    rw [e] at inv
    exact hfin a w inv
  intro fuel
  induction fuel with
  | zero =>
    intro listed a w hc inv
    have hr : Region.ready .any ops listed = [] := by
      refine List.eq_nil_iff_forall_not_mem.2 fun i hi => ?_
      obtain ⟨hu, o, ho, _⟩ := mem_ready.1 hi
      have hlt : i < listed.size := by rw [inv.lsize]; exact (Array.getElem?_eq_some_iff.1 ho).1
      have hf : false ∈ listed := by
        simp only [Array.getD_eq_getD_getElem?, Array.getElem?_eq_getElem hlt, Option.getD_some] at hu
        exact Array.mem_of_getElem hu
      have := Array.count_pos_iff.2 hf
      omega
    exact ⟨hr, done listed a w inv hr⟩
  | succ fuel ih =>
    intro listed a w hc inv
    refine ⟨done listed a w inv, fun i hi => ?_⟩
    obtain ⟨hu, o, ho, hpre⟩ := mem_ready.1 hi
    have hi' : i < ops.size := (Array.getElem?_eq_some_iff.1 ho).1
    have hlt : i < listed.size := by rw [inv.lsize]; exact hi'
    have huf : listed[i] = false := by simpa [Array.getD_eq_getD_getElem?, Array.getElem?_eq_getElem hlt] using hu
    have huF : listed.getD i false = false := by simp [Array.getD_eq_getD_getElem?, Array.getElem?_eq_getElem hlt, huf]
    obtain ⟨ls, hls, hop⟩ := relB_spec hB ho
    simp only [opB, Bool.and_eq_true] at hop
    obtain ⟨⟨⟨⟨⟨_, hdst⟩, hopd⟩, hlook⟩, hguard⟩, hafter⟩ := hop
    obtain ⟨hst, hobi⟩ := hob i o ls ho hls
    have hobi := hobi a.eval w ⟨fun _ => rfl, fun _ => rfl, fun _ => rfl⟩ inv.cls
    have hwait : ∀ j, waitsB ops i j = true → listed.getD j false = true := fun j hw => by
      obtain ⟨o', ho', e, he, hb, rfl⟩ := waitsB_spec hw
      obtain rfl : o' = o := Option.some.inj (ho'.symm.trans ho)
      exact hpre e he hb
    have hG : obOp P C St o ls.2 (R.getD i fun _ _ => True) a.eval w := by
      refine seen_elim hobi (fun t d hm => ?_) (fun t hm => ?_)
      · have := List.all_eq_true.1 hlook _ hm
        simp only [lookB, Bool.and_eq_true, decide_eq_true_eq] at this
        obtain ⟨⟨hd, hw⟩, hwt⟩ := this
        obtain ⟨oj, hoj, hdj⟩ := writesB_spec hw
        have hf := inv.facts (i - 1 - d) oj t hoj hdj (hwait _ hwt)
        have hRi : i ≤ R.length := by omega
        have e : (R.take i).reverse.getD d (fun _ _ => True) = R.getD (i - 1 - d) (fun _ _ => True) := by
          simp only [List.getD_eq_getElem?_getD]
          rw [List.getElem?_reverse (by simp; omega)]
          simp only [List.length_take, Nat.min_eq_left hRi]
          rw [List.getElem?_take_of_lt (by omega)]
        rw [e]
        exact hf
      · have := List.all_eq_true.1 hlook _ hm
        simp only [lookB] at this
        refine inv.olds t fun j hw => ?_
        obtain ⟨oj, hoj, _⟩ := writesB_spec hw
        have := List.all_eq_true.1 this j (List.mem_range.2 (Array.getElem?_eq_some_iff.1 hoj).1)
        simp only [hw, Bool.not_true, Bool.false_or, Bool.or_eq_true, beq_iff_eq] at this
        rcases this with rfl | hwt
        · exact huF
        · cases hx : listed.getD j false with
          | false => rfl
          | true =>
            have := inv.down j i hx hwt
            rw [huF] at this
            cases this
    have hnext : ∀ v w', C w' → St w w' → (R.getD i fun _ _ => True) v w' → RInv ops C a0 R (listed.setIfInBounds i true) (a.put o.dst v) w' := by
      intro v w' hC hSt hT
      have hg : ∀ j, j ≠ i → (listed.setIfInBounds i true).getD j false = listed.getD j false := fun j hj => getD_set_ne false (Ne.symm hj)
      have hgi : (listed.setIfInBounds i true).getD i false = true := by simp [hlt]
      refine ⟨hC, ?_, ?_, by simp [inv.lsize], fun j oj t hoj hdj hl => ?_, fun t ht => ?_, fun j k hj hw => ?_⟩
      · rw [← inv.defers]; cases o.dst <;> rfl
      · rw [← inv.size]; cases o.dst <;> simp [Act.put]
      · by_cases hji : j = i
        · subst hji
          obtain rfl : oj = o := Option.some.inj (hoj.symm.trans ho)
          rw [hdj, eval_put_eq (by rw [inv.size, hN]; exact hNw _ _ (writesB_of hoj hdj))]
          exact hT
        · rw [hg j hji] at hl
          have e : (a.put o.dst v).eval (.tmp t) = a.eval (.tmp t) := by
            cases hd : o.dst with
            | none => rfl
            | some d =>
              refine eval_put_ne fun he => ?_
              subst he
              exact hji (huniq _ _ _ (writesB_of ho hd) (writesB_of hoj hdj))
          rw [e]
          obtain ⟨lsj, hlsj, _⟩ := relB_spec hB hoj
          exact (hob j oj lsj hoj hlsj).1 _ _ _ (inv.facts j oj t hoj hdj hl) hSt
      · have hne : ¬ writesB ops i t = true := fun hw => by
          have := ht i hw
          rw [hgi] at this
          cases this
        have e : (a.put o.dst v).eval (.tmp t) = a.eval (.tmp t) := by
          cases hd : o.dst with
          | none => rfl
          | some d =>
            refine eval_put_ne fun he => ?_
            subst he
            exact hne (writesB_of ho hd)
        rw [e]
        refine inv.olds t fun j hw => ?_
        by_cases hji : j = i
        · subst hji; exact absurd hw hne
        · rw [← hg j hji]; exact ht j hw
      · by_cases hki : k = i
        · subst hki; exact hgi
        · rw [hg k hki]
          by_cases hji : j = i
          · subst hji; exact hwait k hw
          · rw [hg j hji] at hj; exact inv.down j k hj hw
    have hcount : (listed.setIfInBounds i true).count false ≤ fuel := by
      have hf : false ∈ listed := Array.mem_of_getElem huf
      have h1 := Array.count_pos_iff.2 hf
      rw [Array.setIfInBounds_def, dif_pos hlt, Array.count_set]
      simp only [huf, beq_self_eq_true, if_true]
      have : (true == false) = false := rfl
      simp only [this, Bool.false_eq_true, if_false]
      omega
    have hwant := wanted_of_guard (a := a) (ls := ls) (by rw [inv.size]; exact hN) hNw hguard
    unfold wpOp
    simp only [ho]
    obtain ⟨l1, gd⟩ := ls
    cases gd with
    | none =>
      dsimp only at hwant
      rw [if_pos hwant]
      exact .inl (wp_of_relUpon hG fun v w' h1 h2 h3 => ih _ _ _ hcount (hnext v w' h1 h2 h3))
    | some p =>
      obtain ⟨t, b⟩ := p
      dsimp only at hwant
      dsimp only [obOp] at hG
      by_cases hv : a.eval (.tmp t) = .bool b
      · rw [if_pos (hwant.2 hv)]
        exact .inl (wp_of_relUpon (hG.1 hv) fun v w' h1 h2 h3 => ih _ _ _ hcount (hnext v w' h1 h2 h3))
      · rw [if_neg (fun h => hv (hwant.1 h))]
        exact ih _ _ _ hcount (hnext undef w inv.cls (hrefl w) (hG.2 hv))

def writeAll : List Oper → (Nat → Value) → Array Value → Array Value
  | [], _, t => t
  | o :: os, vs, t => match o.dst with
    | some d => writeAll os vs (t.setIfInBounds d (vs d))
    | none => writeAll os vs t
theorem writeAll_none {vs : Nat → Value} {s : Nat} : ∀ (os : List Oper) (t : Array Value), (∀ o ∈ os, o.dst ≠ some s) → (writeAll os vs t)[s]? = t[s]?
  | [], _, _ => rfl
  | o :: os, t, h => by
    have ih := fun t => writeAll_none (vs := vs) os t fun o' ho' => h o' (List.mem_cons_of_mem _ ho')
    unfold writeAll
    cases hd : o.dst with
    | none => exact ih t
    | some d =>
      dsimp only
      rw [ih]
      exact Array.getElem?_setIfInBounds_ne fun e => h o (List.mem_cons_self ..) (by rw [hd, e])
theorem writeAll_some {vs : Nat → Value} {s : Nat} : ∀ (os : List Oper) (t : Array Value), s < t.size → (t[s]? = some (vs s) ∨ ∃ o ∈ os, o.dst = some s) → (writeAll os vs t)[s]? = some (vs s)
  | [], _, _, h => by
    rcases h with h | ⟨o, ho, _⟩
    · exact h
    · cases ho
  | o :: os, t, hs, h => by
    unfold writeAll
    cases hd : o.dst with
    | none =>
      refine writeAll_some os t hs (h.imp id ?_)
      rintro ⟨o', ho', he⟩
      rcases List.mem_cons.1 ho' with rfl | ho'
      · rw [hd] at he; cases he
      · exact ⟨o', ho', he⟩
    | some d =>
      dsimp only
      refine writeAll_some os _ (by simpa using hs) ?_
      by_cases hds : d = s
      · subst hds
        exact .inl (by simp [hs])
      · rw [Array.getElem?_setIfInBounds_ne hds]
        refine h.imp id ?_
        rintro ⟨o', ho', he⟩
        rcases List.mem_cons.1 ho' with rfl | ho'
        · rw [hd] at he; exact absurd (Option.some.inj he) hds
        · exact ⟨o', ho', he⟩
theorem writeAll_size {vs : Nat → Value} : ∀ (os : List Oper) (t : Array Value), (writeAll os vs t).size = t.size
  | [], _ => rfl
  | o :: os, t => by
    unfold writeAll
    cases o.dst with
    | none => exact writeAll_size os t
    | some d => dsimp only; rw [writeAll_size os]; simp

def endSeen (K : List Rel) (vs : Nat → Value) (w : World) : List (Nat × Nat) → Prop → Prop
  | [], G => G
  | (d, t) :: r, G => (K.getD d fun _ _ => True) (vs t) w → endSeen K vs w r G
theorem endSeen_intro {K : List Rel} {vs : Nat → Value} {w : World} {G : Prop} : ∀ {es : List (Nat × Nat)}, endSeen K vs w es G → (∀ d t, (d, t) ∈ es → (K.getD d fun _ _ => True) (vs t) w) → G
  | [], h, _ => h
  | (d, t) :: _, h, h1 => endSeen_intro (h (h1 d t (List.mem_cons_self ..))) (fun d' t' hm => h1 d' t' (List.mem_cons_of_mem _ hm))
end

/-- **A region that draws its order, told by relations.** lss: what each operation looks at; es: what is wanted at the end: (counted backwards from the last operation, its temporary). -/
theorem wp_region_rel {P : Program} {id : Nat} {Q : Exit → Act → World → Prop} {a : Act} {w : World} {l : List Oper} (C : World → Prop) (St : World → World → Prop) (lss : List Looks) (es : List (Nat × Nat)) (hm : P.follows .mixedOrders = true)
    (hB : (relB l.toArray a.tmps.size lss && es.all fun e => decide (e.1 < l.length) && writesB l.toArray (l.length - 1 - e.1) e.2) = true) (hrefl : ∀ w, St w w) (hC : C w.drew)
    (h : obFrom P C St a (fun K => ∀ (vs : Nat → Value) (w' : World), C w' → endSeen K vs w' es (Q .normal ⟨writeAll l vs a.tmps, a.defers⟩ w')) l lss []) : (Code.region id l.toArray true).wp P Q a w := by
  simp only [Bool.and_eq_true] at hB
  obtain ⟨R, hl, hf, hall⟩ := ob_all l lss [] h
  simp only [List.append_nil] at hf hall
  refine wp_region_any hm (rel_any (N := a.tmps.size) (lss := lss) (R := R) hB.1 rfl (fun i o ls ho hls => hall i o ls (by simpa using ho) hls) (by simpa using hl) hrefl ?_ _ _ _ _ ?_ ?_)
  · intro a' w' inv
    have hk := hf (fun t => a'.eval (.tmp t)) w' inv.cls
    have hq := endSeen_intro hk fun d t hm => by
      have := List.all_eq_true.1 hB.2 _ hm
      simp only [Bool.and_eq_true, decide_eq_true_eq] at this
      obtain ⟨o, ho, hd⟩ := writesB_spec this.2
      have hf := inv.facts _ o t ho hd (by
        have := (Array.getElem?_eq_some_iff.1 ho).1
        simp only [Array.getD_eq_getD_getElem?]
        rw [Array.getElem?_replicate, if_pos this]
        rfl)
      have e : R.reverse.getD d (fun _ _ => True) = R.getD (l.length - 1 - d) (fun _ _ => True) := by
        simp only [List.getD_eq_getElem?_getD]
        rw [List.getElem?_reverse (by omega), hl]
      rw [e]
      exact hf
    have e : (⟨writeAll l (fun t => a'.eval (.tmp t)) a.tmps, a.defers⟩ : Act) = a' := by
      obtain ⟨t', d'⟩ := a'
      have h1 := inv.size
      have h2 := inv.defers
      dsimp only at h1 h2 ⊢
      congr 1
      · apply Array.ext
        · rw [writeAll_size, h1]
        · intro s hs1 hs2
          apply Option.some.inj
          rw [← Array.getElem?_eq_getElem hs1, ← Array.getElem?_eq_getElem hs2]
          have hsa : s < a.tmps.size := by rw [← h1]; exact hs2
          have ev : (⟨t', d'⟩ : Act).eval (.tmp s) = t'[s] := by simp [Act.eval, hs2]
          by_cases hx : ∃ o ∈ l, o.dst = some s
          · rw [writeAll_some l _ hsa (.inr hx), ev, Array.getElem?_eq_getElem hs2]
          · rw [writeAll_none l _ (fun o ho he => hx ⟨o, ho, he⟩)]
            have := inv.olds s (fun j hw => by
              obtain ⟨o, ho, hd⟩ := writesB_spec hw
              exact absurd ⟨o, List.mem_of_getElem? (by simpa using ho), hd⟩ hx)
            rw [ev] at this
            rw [Array.getElem?_eq_getElem hs2, this]
            simp [Act.eval, hsa]
      · exact h2.symm
    rw [e] at hq
    exact hq
  · simp
  · refine ⟨hC, rfl, rfl, by simp, fun j o t _ _ hj => ?_, fun _ _ => rfl, fun j k hj => ?_⟩
    · rw [Array.getD_eq_getD_getElem?, Array.getElem?_replicate] at hj
      split at hj <;> simp at hj
    · rw [Array.getD_eq_getD_getElem?, Array.getElem?_replicate] at hj
      split at hj <;> simp at hj

/-! The worlds beyond U; what no later operation breaks: what a call lays anew. -/
def ClB (U W : World) : Prop := Below U.heap.size U W
def StB (W W' : World) : Prop := Below W.heap.size W W'
theorem ClB.step {U W W' : World} (h : ClB U W) (k : StB W W') : ClB U W' := bchain h k
/-- An operation of one value. -/
theorem ob_det {P : Program} {C : World → Prop} {St : World → World → Prop} {a0 : Act} {fin : List Rel → Prop} {o : Oper} {os : List Oper} {ls : Looks} {lss : List Looks} {known : List Rel} {c : Value}
    (h : ∀ ρ w, Consts ρ → C w → seen a0 known ρ w ls.1 (obOp P C St o ls.2 (fun v _ => v = c) ρ w)) (k : obFrom P C St a0 fin os lss ((fun v _ => v = c) :: known)) : obFrom P C St a0 fin (o :: os) (ls :: lss) known :=
  ⟨_, fun _ _ _ h _ => h, h, k⟩
theorem rel_value {P : Program} {U W : World} {c : Value} {r : Result Next} (h : r = .ok (.value c) W) (hC : ClB U W) : relUpon P (ClB U) StB W (fun v _ => v = c) r := by
  rw [h]; exact ⟨hC, Below.refl _ _, rfl⟩
theorem rel_call {P : Program} {U W : World} {c : Value} {r : Result Next} {f : FuncId} {args : Array Value} (h : r = .ok (.enter f args) W) (hC : ClB U W) (hc : Calls P f args W fun e w' => e = .returned c ∧ Below W.heap.size W w') : relUpon P (ClB U) StB W (fun v _ => v = c) r := by
  rw [h]; exact hc.mono fun e w' ⟨he, hb⟩ => ⟨c, he, hC.step hb, hb, rfl⟩
theorem rel_enter {P : Program} {U W : World} {T : Rel} {r : Result Next} {f : FuncId} {args : Array Value} (h : r = .ok (.enter f args) W) (hc : Calls P f args W fun e w' => ∃ v, e = .returned v ∧ ClB U w' ∧ StB W w' ∧ T v w') : relUpon P (ClB U) StB W T r := by
  rw [h]; exact hc
/-- The law at the worlds beyond the one at hand. -/
theorem wp_region_rel_below {P : Program} {id : Nat} {Q : Exit → Act → World → Prop} {a : Act} {w : World} {l : List Oper} (lss : List Looks) (es : List (Nat × Nat)) (hm : P.follows .mixedOrders = true)
    (hB : (relB l.toArray a.tmps.size lss && es.all fun e => decide (e.1 < l.length) && writesB l.toArray (l.length - 1 - e.1) e.2) = true)
    (h : obFrom P (ClB w) StB a (fun K => ∀ (vs : Nat → Value) (w' : World), ClB w w' → endSeen K vs w' es (Q .normal ⟨writeAll l vs a.tmps, a.defers⟩ w')) l lss []) : (Code.region id l.toArray true).wp P Q a w :=
  wp_region_rel (ClB w) StB lss es hm hB (fun _ => Below.refl _ _) ((Below.refl _ _).drew) h

end Go.Proofs.YtpcojaoeahdgcaaGreatDoor

/-
  XRel inside a round of a loop over a function.
-/
namespace Go.Proofs.YtpcojaoeahdgcaaGreatDoor
open Go.RowKit

/-- No bound at all: outside of rounds, or in one. -/
def Wide (F : Fence) : Prop := F = Fence.wide ∨ ∃ l, F = Fence.wide.inRound l
theorem Wide.fn {F : Fence} (h : Wide F) (f : FuncId) : F.fn f := by
  rcases h with rfl | ⟨l, rfl⟩ <;> trivial
theorem Wide.depth {F : Fence} (h : Wide F) : F.depth = none := by
  rcases h with rfl | ⟨l, rfl⟩ <;> rfl
theorem Wide.calls {F : Fence} {n : Nat} {P : Program} {f : FuncId} {args : Array Value} {w : World} {R : Ending → World → Prop} (h : Wide F) (hc : Calls P f args w R) : CallsIn F n P f args w R := by
  rcases h with rfl | ⟨l, rfl⟩
  · exact callsIn_wide.2 hc
  · exact (callsIn_wide.2 hc).inRound l
def noDefer (o : Oper) : Bool := match o.op with
  | .defer _ => false
  | _ => true
section
variable {P : Program} {C : World → Prop} {St : World → World → Prop} {a0 : Act} {ops : Array Oper}

theorem wpIn_of_relUpon {F : Fence} {n : Nat} (hF : Wide F) {Q : Exit → Act → World → Prop} {o : Oper} {a : Act} {w : World} {T : Rel} {K : Act → World → Prop} (hnd : noDefer o = true) (h : relUpon P C St w T ((execOp a.eval o).run P w))
    (hK : ∀ v w', C w' → St w w' → T v w' → K (a.put o.dst v) w') : o.wpIn F n P a w K Q := by
  unfold Oper.wpIn
  refine ⟨fun _ _ => hF.fn _, ?_⟩
  rw [Oper.semAt_eq _ _ _ (fun c hc => by unfold noDefer at hnd; rw [hc] at hnd; cases hnd)]
  generalize (execOp a.eval o).run P w = r at *
  cases r with
  | ok x w' =>
    cases x <;> simp only [relUpon] at h <;> simp only [Oper.uponIn]
    case value u => exact hK _ _ h.1 h.2.1 h.2.2
    case skip => exact hK _ _ h.1 h.2.1 h.2.2
    case enter f args => exact ⟨fun h' => (by rw [hF.depth] at h'; cases h'), CallsIn.mono (hF.calls h) fun e w'' ⟨v, he, h1, h2, h3⟩ => by subst he; exact hK _ _ h1 h2 h3⟩
  | halt x w' => simp only [relUpon] at h

theorem rel_anyIn {F : Fence} {n : Nat} (hF : Wide F) (hnd : ∀ (i : Nat) (o : Oper), ops[i]? = some o → noDefer o = true) {Q : Exit → Act → World → Prop} {N : Nat} {lss : List Looks} {R : List Rel} (hB : relB ops N lss = true) (hN : a0.tmps.size = N)
    (hob : ∀ i o ls, ops[i]? = some o → lss[i]? = some ls →
      (∀ v w w', (R.getD i fun _ _ => True) v w → St w w' → (R.getD i fun _ _ => True) v w') ∧
      ∀ ρ w, Consts ρ → C w → seen a0 (R.take i).reverse ρ w ls.1 (obOp P C St o ls.2 (R.getD i fun _ _ => True) ρ w))
    (hR : R.length = ops.size) (hrefl : ∀ w, St w w)
    (hfin : ∀ a w, RInv ops C a0 R (Array.replicate ops.size true) a w → Q .normal a w) :
    ∀ (fuel : Nat) (listed : Array Bool) (a : Act) (w : World), listed.count false ≤ fuel → RInv ops C a0 R listed a w → wpAnyIn F n P .any ops Q fuel listed a w := by
  have hNw : ∀ j t, writesB ops j t = true → t < N := fun j t h => by
    obtain ⟨o, ho, hd⟩ := writesB_spec h
    obtain ⟨ls, _, hop⟩ := relB_spec hB ho
    simp only [opB, hd, Bool.and_eq_true, decide_eq_true_eq] at hop
    exact hop.1.1.1.1.2.1
  have huniq : ∀ i j t, writesB ops i t = true → writesB ops j t = true → j = i := fun i j t h h' => by
    obtain ⟨o, ho, hd⟩ := writesB_spec h
    obtain ⟨ls, _, hop⟩ := relB_spec hB ho
    simp only [opB, hd, Bool.and_eq_true] at hop
    obtain ⟨oj, hoj, _⟩ := writesB_spec h'
    have := List.all_eq_true.1 hop.1.1.1.1.2.2 j (List.mem_range.2 (Array.getElem?_eq_some_iff.1 hoj).1)
    simpa [h'] using this
  have done : ∀ (listed : Array Bool) (a : Act) (w : World), RInv ops C a0 R listed a w → Region.ready .any ops listed = [] → Q .normal a w := by
    intro listed a w inv hr
    have hall : ∀ i, i < ops.size → listed.getD i true = true := fun i hi => by
      cases hx : listed.getD i true with
      | true => rfl
      | false =>
        obtain ⟨j, hj⟩ := rel_ready_some hB inv.lsize i hi hx
        rw [hr] at hj
        cases hj
    have e : listed = Array.replicate ops.size true := by
      apply Array.ext
      · simp [inv.lsize]
      · intro i h1 h2
        have := hall i (by rw [← inv.lsize]; exact h1)
        simp only [Array.getD_eq_getD_getElem?, Array.getElem?_eq_getElem h1, Option.getD_some] at this
        simpa using this
    rw [e] at inv
    exact hfin a w inv
  intro fuel
  induction fuel with
  | zero =>
    intro listed a w hc inv
    have hr : Region.ready .any ops listed = [] := by
      refine List.eq_nil_iff_forall_not_mem.2 fun i hi => ?_
      obtain ⟨hu, o, ho, _⟩ := mem_ready.1 hi
      have hlt : i < listed.size := by rw [inv.lsize]; exact (Array.getElem?_eq_some_iff.1 ho).1
      have hf : false ∈ listed := by
        simp only [Array.getD_eq_getD_getElem?, Array.getElem?_eq_getElem hlt, Option.getD_some] at hu
        exact Array.mem_of_getElem hu
      have := Array.count_pos_iff.2 hf
      omega
    exact ⟨hr, done listed a w inv hr⟩
  | succ fuel ih =>
    intro listed a w hc inv
    refine ⟨done listed a w inv, fun i hi => ?_⟩
    obtain ⟨hu, o, ho, hpre⟩ := mem_ready.1 hi
    have hi' : i < ops.size := (Array.getElem?_eq_some_iff.1 ho).1
    have hlt : i < listed.size := by rw [inv.lsize]; exact hi'
    have huf : listed[i] = false := by simpa [Array.getD_eq_getD_getElem?, Array.getElem?_eq_getElem hlt] using hu
    have huF : listed.getD i false = false := by simp [Array.getD_eq_getD_getElem?, Array.getElem?_eq_getElem hlt, huf]
    obtain ⟨ls, hls, hop⟩ := relB_spec hB ho
    simp only [opB, Bool.and_eq_true] at hop
    obtain ⟨⟨⟨⟨⟨_, hdst⟩, hopd⟩, hlook⟩, hguard⟩, hafter⟩ := hop
    obtain ⟨hst, hobi⟩ := hob i o ls ho hls
    have hobi := hobi a.eval w ⟨fun _ => rfl, fun _ => rfl, fun _ => rfl⟩ inv.cls
    have hwait : ∀ j, waitsB ops i j = true → listed.getD j false = true := fun j hw => by
      obtain ⟨o', ho', e, he, hb, rfl⟩ := waitsB_spec hw
      obtain rfl : o' = o := Option.some.inj (ho'.symm.trans ho)
      exact hpre e he hb
    have hG : obOp P C St o ls.2 (R.getD i fun _ _ => True) a.eval w := by
      refine seen_elim hobi (fun t d hm => ?_) (fun t hm => ?_)
      · have := List.all_eq_true.1 hlook _ hm
        simp only [lookB, Bool.and_eq_true, decide_eq_true_eq] at this
        obtain ⟨⟨hd, hw⟩, hwt⟩ := this
        obtain ⟨oj, hoj, hdj⟩ := writesB_spec hw
        have hf := inv.facts (i - 1 - d) oj t hoj hdj (hwait _ hwt)
        have hRi : i ≤ R.length := by omega
        have e : (R.take i).reverse.getD d (fun _ _ => True) = R.getD (i - 1 - d) (fun _ _ => True) := by
          simp only [List.getD_eq_getElem?_getD]
          rw [List.getElem?_reverse (by simp; omega)]
          simp only [List.length_take, Nat.min_eq_left hRi]
          rw [List.getElem?_take_of_lt (by omega)]
        rw [e]
        exact hf
      · have := List.all_eq_true.1 hlook _ hm
        simp only [lookB] at this
        refine inv.olds t fun j hw => ?_
        obtain ⟨oj, hoj, _⟩ := writesB_spec hw
        have := List.all_eq_true.1 this j (List.mem_range.2 (Array.getElem?_eq_some_iff.1 hoj).1)
        simp only [hw, Bool.not_true, Bool.false_or, Bool.or_eq_true, beq_iff_eq] at this
        rcases this with rfl | hwt
        · exact huF
        · cases hx : listed.getD j false with
          | false => rfl
          | true =>
            have := inv.down j i hx hwt
            rw [huF] at this
            cases this
    have hnext : ∀ v w', C w' → St w w' → (R.getD i fun _ _ => True) v w' → RInv ops C a0 R (listed.setIfInBounds i true) (a.put o.dst v) w' := by
      intro v w' hC hSt hT
      have hg : ∀ j, j ≠ i → (listed.setIfInBounds i true).getD j false = listed.getD j false := fun j hj => getD_set_ne false (Ne.symm hj)
      have hgi : (listed.setIfInBounds i true).getD i false = true := by simp [hlt]
      refine ⟨hC, ?_, ?_, by simp [inv.lsize], fun j oj t hoj hdj hl => ?_, fun t ht => ?_, fun j k hj hw => ?_⟩
      · rw [← inv.defers]; cases o.dst <;> rfl
      · rw [← inv.size]; cases o.dst <;> simp [Act.put]
      · by_cases hji : j = i
        · subst hji
          obtain rfl : oj = o := Option.some.inj (hoj.symm.trans ho)
          rw [hdj, eval_put_eq (by rw [inv.size, hN]; exact hNw _ _ (writesB_of hoj hdj))]
          exact hT
        · rw [hg j hji] at hl
          have e : (a.put o.dst v).eval (.tmp t) = a.eval (.tmp t) := by
            cases hd : o.dst with
            | none => rfl
            | some d =>
              refine eval_put_ne fun he => ?_
              subst he
              exact hji (huniq _ _ _ (writesB_of ho hd) (writesB_of hoj hdj))
          rw [e]
          obtain ⟨lsj, hlsj, _⟩ := relB_spec hB hoj
          exact (hob j oj lsj hoj hlsj).1 _ _ _ (inv.facts j oj t hoj hdj hl) hSt
      · have hne : ¬ writesB ops i t = true := fun hw => by
          have := ht i hw
          rw [hgi] at this
          cases this
        have e : (a.put o.dst v).eval (.tmp t) = a.eval (.tmp t) := by
          cases hd : o.dst with
          | none => rfl
          | some d =>
            refine eval_put_ne fun he => ?_
            subst he
            exact hne (writesB_of ho hd)
        rw [e]
        refine inv.olds t fun j hw => ?_
        by_cases hji : j = i
        · subst hji; exact absurd hw hne
        · rw [← hg j hji]; exact ht j hw
      · by_cases hki : k = i
        · subst hki; exact hgi
        · rw [hg k hki]
          by_cases hji : j = i
          · subst hji; exact hwait k hw
          · rw [hg j hji] at hj; exact inv.down j k hj hw
    have hcount : (listed.setIfInBounds i true).count false ≤ fuel := by
      have hf : false ∈ listed := Array.mem_of_getElem huf
      have h1 := Array.count_pos_iff.2 hf
      rw [Array.setIfInBounds_def, dif_pos hlt, Array.count_set]
      simp only [huf, beq_self_eq_true, if_true]
      have : (true == false) = false := rfl
      simp only [this, Bool.false_eq_true, if_false]
      omega
    have hwant := wanted_of_guard (a := a) (ls := ls) (by rw [inv.size]; exact hN) hNw hguard
    unfold wpOpIn
    simp only [ho]
    obtain ⟨l1, gd⟩ := ls
    cases gd with
    | none =>
      dsimp only at hwant
      rw [if_pos hwant]
      exact (wpIn_of_relUpon hF (hnd i o ho) hG fun v w' h1 h2 h3 => ih _ _ _ hcount (hnext v w' h1 h2 h3))
    | some p =>
      obtain ⟨t, b⟩ := p
      dsimp only at hwant
      dsimp only [obOp] at hG
      by_cases hv : a.eval (.tmp t) = .bool b
      · rw [if_pos (hwant.2 hv)]
        exact (wpIn_of_relUpon hF (hnd i o ho) (hG.1 hv) fun v w' h1 h2 h3 => ih _ _ _ hcount (hnext v w' h1 h2 h3))
      · rw [if_neg (fun h => hv (hwant.1 h))]
        exact ⟨fun _ _ => hF.fn _, ih _ _ _ hcount (hnext undef w inv.cls (hrefl w) (hG.2 hv))⟩
end

/-- **A region that draws its order, told by relations.** lss: what each operation looks at; es: what is wanted at the end: (counted backwards from the last operation, its temporary). -/
theorem wpAnyIn_rel {F : Fence} {n : Nat} (hF : Wide F) {P : Program} {Q : Exit → Act → World → Prop} {a : Act} {w : World} {l : List Oper} (C : World → Prop) (St : World → World → Prop) (lss : List Looks) (es : List (Nat × Nat)) 
    (hB : (relB l.toArray a.tmps.size lss && es.all fun e => decide (e.1 < l.length) && writesB l.toArray (l.length - 1 - e.1) e.2) = true) (hrefl : ∀ w, St w w) (hC : C w.drew) (hnd : (l.all noDefer) = true)
    (h : obFrom P C St a (fun K => ∀ (vs : Nat → Value) (w' : World), C w' → endSeen K vs w' es (Q .normal ⟨writeAll l vs a.tmps, a.defers⟩ w')) l lss []) : wpAnyIn F n P .any l.toArray Q l.toArray.size (Array.replicate l.toArray.size false) a w.drew := by
  simp only [Bool.and_eq_true] at hB
  obtain ⟨R, hl, hf, hall⟩ := ob_all l lss [] h
  simp only [List.append_nil] at hf hall
  refine (rel_anyIn hF (fun i o ho => List.all_eq_true.1 hnd o (List.mem_of_getElem? (by simpa using ho))) (N := a.tmps.size) (lss := lss) (R := R) hB.1 rfl (fun i o ls ho hls => hall i o ls (by simpa using ho) hls) (by simpa using hl) hrefl ?_ _ _ _ _ ?_ ?_)
  · intro a' w' inv
    have hk := hf (fun t => a'.eval (.tmp t)) w' inv.cls
    have hq := endSeen_intro hk fun d t hm => by
      have := List.all_eq_true.1 hB.2 _ hm
      simp only [Bool.and_eq_true, decide_eq_true_eq] at this
      obtain ⟨o, ho, hd⟩ := writesB_spec this.2
      have hf := inv.facts _ o t ho hd (by
        have := (Array.getElem?_eq_some_iff.1 ho).1
        simp only [Array.getD_eq_getD_getElem?]
        rw [Array.getElem?_replicate, if_pos this]
        rfl)
      have e : R.reverse.getD d (fun _ _ => True) = R.getD (l.length - 1 - d) (fun _ _ => True) := by
        simp only [List.getD_eq_getElem?_getD]
        rw [List.getElem?_reverse (by omega), hl]
      rw [e]
      exact hf
    have e : (⟨writeAll l (fun t => a'.eval (.tmp t)) a.tmps, a.defers⟩ : Act) = a' := by
      obtain ⟨t', d'⟩ := a'
      have h1 := inv.size
      have h2 := inv.defers
      dsimp only at h1 h2 ⊢
      congr 1
      · apply Array.ext
        · rw [writeAll_size, h1]
        · intro s hs1 hs2
          apply Option.some.inj
          rw [← Array.getElem?_eq_getElem hs1, ← Array.getElem?_eq_getElem hs2]
          have hsa : s < a.tmps.size := by rw [← h1]; exact hs2
          have ev : (⟨t', d'⟩ : Act).eval (.tmp s) = t'[s] := by simp [Act.eval, hs2]
          by_cases hx : ∃ o ∈ l, o.dst = some s
          · rw [writeAll_some l _ hsa (.inr hx), ev, Array.getElem?_eq_getElem hs2]
          · rw [writeAll_none l _ (fun o ho he => hx ⟨o, ho, he⟩)]
            have := inv.olds s (fun j hw => by
              obtain ⟨o, ho, hd⟩ := writesB_spec hw
              exact absurd ⟨o, List.mem_of_getElem? (by simpa using ho), hd⟩ hx)
            rw [ev] at this
            rw [Array.getElem?_eq_getElem hs2, this]
            simp [Act.eval, hsa]
      · exact h2.symm
    rw [e] at hq
    exact hq
  · simp
  · refine ⟨hC, rfl, rfl, by simp, fun j o t _ _ hj => ?_, fun _ _ => rfl, fun j k hj => ?_⟩
    · rw [Array.getD_eq_getD_getElem?, Array.getElem?_replicate] at hj
      split at hj <;> simp at hj
    · rw [Array.getD_eq_getD_getElem?, Array.getElem?_replicate] at hj
      split at hj <;> simp at hj



/-- A drawn region inside a fence. -/
theorem wpIn_region_rel_below {F : Fence} {n : Nat} (hF : Wide F) {P : Program} {id : Nat} {Q : Exit → Act → World → Prop} {a : Act} {w : World} {l : List Oper} (lss : List Looks) (es : List (Nat × Nat)) (hm : P.follows .mixedOrders = true) (hnd : (l.all noDefer) = true)
    (hB : (relB l.toArray a.tmps.size lss && es.all fun e => decide (e.1 < l.length) && writesB l.toArray (l.length - 1 - e.1) e.2) = true)
    (h : obFrom P (ClB w) StB a (fun K => ∀ (vs : Nat → Value) (w' : World), ClB w w' → endSeen K vs w' es (Q .normal ⟨writeAll l vs a.tmps, a.defers⟩ w')) l lss []) : (Code.region id l.toArray true).wpIn F n P Q a w :=
  wpIn_region_any hm (wpAnyIn_rel hF (ClB w) StB lss es hB (fun _ => Below.refl _ _) ((Below.refl _ _).drew) hnd h)
end Go.Proofs.YtpcojaoeahdgcaaGreatDoor

/-
  A drawn region inside a fence: its first operations in whatever order, told by relations; then the others, which wait for them, in the order of the text.
-/
namespace Go.Proofs.YtpcojaoeahdgcaaGreatDoor
open Go.RowKit

section
variable {F : Fence} {N : Nat} {P : Program} {ops : Array Oper} {Q : Exit → Act → World → Prop} {md : Region.Mode}
theorem wpAnyIn_more : ∀ (f : Nat) (listed : Array Bool) (a : Act) (w : World), wpAnyIn F N P md ops Q f listed a w → wpAnyIn F N P md ops Q (f + 1) listed a w
  | 0, _, _, _, h => ⟨fun _ => h.2, fun i hi => by rw [h.1] at hi; cases hi⟩
  | f + 1, _, _, _, h => ⟨h.1, fun i hi => wpOpIn_mono (fun a' w' h' => wpAnyIn_more f _ a' w' h') (h.2 i hi)⟩
theorem wpAnyIn_pad (f : Nat) (listed : Array Bool) (a : Act) (w : World) (h : wpAnyIn F N P md ops Q f listed a w) : ∀ d : Nat, wpAnyIn F N P md ops Q (d + f) listed a w
  | 0 => by rw [Nat.zero_add]; exact h
  | d + 1 => by rw [show d + 1 + f = d + f + 1 by omega]; exact wpAnyIn_more _ _ _ _ (wpAnyIn_pad f listed a w h d)

/-- The post of the head: at its end the tail goes. -/
def headPostIn (F : Fence) (N : Nat) (P : Program) (ops : Array Oper) (tl : List Oper) (Q : Exit → Act → World → Prop) : Exit → Act → World → Prop
  | .normal, a, w => wpListIn F N P ops Q tl a w
  | e, a, w => Q e a w
theorem oper_wpIn_post {o : Oper} {a : Act} {w : World} {K : Act → World → Prop} {tl : List Oper} (h : o.wpIn F N P a w K (headPostIn F N P ops tl Q)) : o.wpIn F N P a w K Q := by
  unfold Oper.wpIn at *
  refine ⟨h.1, ?_⟩
  have h := h.2
  generalize (o.semAt F.round a.eval).run P w = r at *
  cases r with
  | ok n w' =>
    cases n <;> simp only [Oper.uponIn] at h ⊢ <;>
      first
        | exact h
        | exact ⟨h.1, CallsIn.mono h.2 (fun e w'' he => by cases e <;> exact he)⟩
        | exact ⟨h.1, RoundIn.mono h.2 (fun e w'' he => by cases e <;> exact he)⟩
  | halt x w' => cases x <;> simp only [Oper.uponIn] at h ⊢ <;> exact h
theorem wpAnyIn_of_seq {Q' : Exit → Act → World → Prop} : ∀ (l : List Oper) (k : Nat) (listed : Array Bool) (a : Act) (w : World), (∀ j, l[j]? = ops[k + j]?) →
    Region.seqB md ops l.length k listed = true → wpListIn F N P ops Q' l a w → wpAnyIn F N P md ops Q' l.length listed a w
  | [], _, _, _, _, _, hB, h => ⟨by simpa [Region.seqB] using hB, h⟩
  | o :: l, k, listed, a, w, hl, hB, h => by
    have h0 : ops[k]? = some o := by simpa using (hl 0).symm
    simp only [List.length_cons, Region.seqB, Bool.and_eq_true, decide_eq_true_eq] at hB
    refine ⟨fun h1 => (by rw [hB.1] at h1; cases h1), fun i hi => ?_⟩
    rw [hB.1] at hi
    have hik : i = k := by simpa using hi
    subst hik
    have hw : wpOpIn F N P ops Q' i (wpListIn F N P ops Q' l) a w := by unfold wpOpIn; simp only [h0]; exact h
    exact wpOpIn_mono (fun a' w' h' => wpAnyIn_of_seq l (i + 1) _ a' w' (fun j => by have := hl (j + 1); simpa [Nat.add_assoc, Nat.add_comm 1 j] using this) hB.2 h') hw
theorem wpOpIn_head {hd tl : List Oper} {i : Nat} {K K' : Act → World → Prop} {a : Act} {w : World} (hB : headB md (hd ++ tl).toArray hd.length = true) (hi : i < hd.length) (hK : ∀ a w, K a w → K' a w)
    (h : wpOpIn F N P hd.toArray (headPostIn F N P (hd ++ tl).toArray tl Q) i K a w) : wpOpIn F N P (hd ++ tl).toArray Q i K' a w := by
  obtain ⟨o, ho, _, hg⟩ := headB_spec hB hi
  have ho' : hd.toArray[i]? = some o := by
    simpa [List.getElem?_append_left hi] using ho
  refine wpOpIn_mono hK ?_
  unfold wpOpIn at *
  simp only [ho] at ⊢
  simp only [ho'] at h
  have hw : Region.wanted o (yielded (hd ++ tl).toArray a.tmps) = Region.wanted o (yielded hd.toArray a.tmps) := by
    unfold Region.wanted
    cases hgo : o.guard with
    | none => rfl
    | some p =>
      obtain ⟨j, b⟩ := p
      have hj := hg j b hgo
      have e : (hd ++ tl).toArray[j]? = hd.toArray[j]? := by simp [List.getElem?_append_left hj]
      simp only [yielded, e]
  rw [hw]
  split
  · rename_i hw
    simp only [hw, if_true] at h
    exact oper_wpIn_post h
  · rename_i hw
    simp only [hw] at h
    exact h

theorem wpAnyIn_split {hd tl : List Oper} (hB : headB md (hd ++ tl).toArray hd.length = true) (hs : Region.sinkB md (hd ++ tl).toArray hd.length = true) (hc : Region.chainB md (hd ++ tl).toArray hd.length = true) (ht : 0 < tl.length)
    (hq : Region.seqB md (hd ++ tl).toArray tl.length hd.length (List.replicate hd.length true ++ List.replicate tl.length false).toArray = true) :
    ∀ (f : Nat) (lh listed : Array Bool) (a : Act) (w : World), HeadInv md (hd ++ tl).toArray hd.length listed → (∀ j, j < hd.length → lh[j]? = listed[j]?) →
      wpAnyIn F N P md hd.toArray (headPostIn F N P (hd ++ tl).toArray tl Q) f lh a w → wpAnyIn F N P md (hd ++ tl).toArray Q (f + tl.length) listed a w := by
  have hsz : (hd ++ tl).toArray.size = hd.length + tl.length := by simp
  have done : ∀ (f : Nat) (lh listed : Array Bool) (a : Act) (w : World), HeadInv md (hd ++ tl).toArray hd.length listed → (∀ j, j < hd.length → lh[j]? = listed[j]?) → Region.ready md hd.toArray lh = [] →
      wpListIn F N P (hd ++ tl).toArray Q tl a w → wpAnyIn F N P md (hd ++ tl).toArray Q (f + tl.length) listed a w := by
    intro f lh listed a w inv hr h0 h
    have hall : ∀ i, i < hd.length → listed.getD i true = true := fun i hi => by
      cases hx : listed.getD i true with
      | true => rfl
      | false =>
        obtain ⟨j, hj, hjr⟩ := ready_some hB (by rw [inv.size, hsz]; omega) i hi hx
        have := (ready_head hB hj hr).1 hjr
        rw [h0] at this
        cases this
    have hl : listed = (List.replicate hd.length true ++ List.replicate tl.length false).toArray := by
      apply Array.ext
      · simp [inv.size]
      · intro i h1 h2
        rcases Nat.lt_or_ge i hd.length with hi | hi
        · have := hall i hi
          rw [Array.getD_eq_getD_getElem?, Array.getElem?_eq_getElem h1] at this
          simpa [List.getElem_append, hi] using this
        · have hi' : i < hd.length + tl.length := by rw [inv.size, hsz] at h1; exact h1
          have := inv.tail i hi (by rw [hsz]; exact hi')
          rw [Array.getD_eq_getD_getElem?, Array.getElem?_eq_getElem h1] at this
          simpa [List.getElem_append, Nat.not_lt.2 hi] using this
    refine wpAnyIn_pad _ _ _ _ ?_ f
    refine wpAnyIn_of_seq tl hd.length listed a w (fun j => by rw [List.getElem?_toArray, List.getElem?_append_right (Nat.le_add_right _ _), Nat.add_sub_cancel_left]) ?_ h
    rw [hl]
    exact hq
  intro f
  induction f with
  | zero => exact fun lh listed a w inv hr h => done 0 lh listed a w inv hr h.1 h.2
  | succ f ih =>
    intro lh listed a w inv hr h
    by_cases h0 : Region.ready md hd.toArray lh = []
    · exact done (f + 1) lh listed a w inv hr h0 (h.1 h0)
    · obtain ⟨i0, hi0⟩ := List.exists_mem_of_ne_nil _ h0
      have hlt0 : i0 < hd.length := by
        obtain ⟨_, o, ho, _⟩ := mem_ready.1 hi0
        simpa using (Array.getElem?_eq_some_iff.1 ho).1
      have hu0 : listed.getD i0 true = false := (getD_of (hr i0 hlt0)).symm.trans (mem_ready.1 hi0).1
      rw [show f + 1 + tl.length = f + tl.length + 1 by omega]
      refine ⟨fun h1 => ?_, fun i hi => ?_⟩
      · have := (ready_head hB hlt0 hr).2 hi0
        rw [h1] at this
        cases this
      · have hin : i < hd.length := by
          rcases Nat.lt_or_ge i hd.length with h | h
          · exact h
          · exact absurd hi (tail_waits hs hc (by rw [hsz]; omega) inv _ i0 rfl hlt0 hu0 i h)
        refine wpOpIn_head hB hin (fun a' w' h' => ih _ _ a' w' (inv.set hi hin) (fun j hj => ?_) h') (h.2 i ((ready_head hB hin hr).1 hi))
        have hs1 : lh.size = lh.size := rfl
        by_cases hij : i = j
        · subst hij
          have e := hr i hin
          have hlt : i < listed.size := by rw [inv.size, hsz]; omega
          have hlt' : i < lh.size := by
            rcases Nat.lt_or_ge i lh.size with h | h
            · exact h
            · rw [Array.getElem?_eq_none h, Array.getElem?_eq_getElem hlt] at e
              cases e
          simp [hlt, hlt']
        · rw [Array.getElem?_setIfInBounds_ne hij, Array.getElem?_setIfInBounds_ne hij]
          exact hr j hj

/-- A drawn region inside a fence: its first m operations in whatever order, told by relations; then the others, which wait for them, in the order of the text. -/
theorem wpIn_region_rel_head (hF : Wide F) {id : Nat} {a : Act} {w : World} {l : List Oper} (m : Nat) (lss : List Looks) (es : List (Nat × Nat)) (hm : P.follows .mixedOrders = true) (hnd : ((l.take m).all noDefer) = true) (hn : decide (m < l.length) = true)
    (hB : (relB (l.take m).toArray a.tmps.size lss && es.all fun e => decide (e.1 < (l.take m).length) && writesB (l.take m).toArray ((l.take m).length - 1 - e.1) e.2) = true)
    (hH : headB .any (l.take m ++ l.drop m).toArray (l.take m).length = true) (hs : Region.sinkB .any (l.take m ++ l.drop m).toArray (l.take m).length = true) (hc : Region.chainB .any (l.take m ++ l.drop m).toArray (l.take m).length = true)
    (hq : Region.seqB .any (l.take m ++ l.drop m).toArray (l.drop m).length (l.take m).length (List.replicate (l.take m).length true ++ List.replicate (l.drop m).length false).toArray = true)
    (h : obFrom P (ClB w) StB a (fun K => ∀ (vs : Nat → Value) (w' : World), ClB w w' → endSeen K vs w' es (wpListIn F N P l.toArray Q (l.drop m) ⟨writeAll (l.take m) vs a.tmps, a.defers⟩ w')) (l.take m) lss []) : (Code.region id l.toArray true).wpIn F N P Q a w := by
  have hn' : m < l.length := by simpa using hn
  have e : l.take m ++ l.drop m = l := List.take_append_drop m l
  refine wpIn_region_any hm ?_
  have H := wpAnyIn_split (F := F) (N := N) (P := P) (Q := Q) hH hs hc (by simp; omega) hq (l.take m).toArray.size (Array.replicate (l.take m).toArray.size false) (Array.replicate l.toArray.size false) a w.drew
    ⟨by rw [e]; simp, fun j oj _ hl => (by rw [getD_replicate_false] at hl; cases hl), fun t _ ht => getD_in (by rw [e] at ht; simpa using ht) (getD_replicate_false _ _)⟩
    (fun j hj => by
      have hj2 : j < (l.take m).toArray.size := by simpa using hj
      have hj3 : j < l.toArray.size := by simp at hj2 ⊢; omega
      rw [Array.getElem?_replicate, Array.getElem?_replicate, if_pos hj2, if_pos hj3])
    (by rw [e]; exact wpAnyIn_rel hF (Q := headPostIn F N P l.toArray (l.drop m) Q) (ClB w) StB lss es hB (fun _ => Below.refl _ _) ((Below.refl _ _).drew) hnd h)
  have hl : (l.take m).toArray.size + (l.drop m).length = l.toArray.size := by simp; omega
  rw [hl, e] at H
  exact H
end
end Go.Proofs.YtpcojaoeahdgcaaGreatDoor
