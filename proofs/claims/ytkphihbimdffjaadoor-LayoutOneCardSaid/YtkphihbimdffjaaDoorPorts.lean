/-
  layout.ports: the iterator over all ports that a layout names.
-/
import Derived.Test.YtkphihbimdffjaaDoorLay5
import Derived.Test.YtkphihbimdffjaaDoorRangeK
namespace Go.Proofs.YtkphihbimdffjaaDoor
open Go.RowKit Go.Shelf
attribute [local go_sem] Oper.semAt_some join_at0 join_at1 join_at2 join_at3

/-- Whatever cells there were hold what they held. -/
structure Kept (W W' : World) : Prop where
  size : W.heap.size ≤ W'.heap.size
  cell : ∀ (b o : Nat) (v : Value), W.cell? ⟨b, o, none⟩ = some v → W'.cell? ⟨b, o, none⟩ = some v
theorem Kept.refl (W : World) : Kept W W := ⟨Nat.le_refl _, fun _ _ _ h => h⟩
theorem Kept.trans {X Y Z : World} (h : Kept X Y) (k : Kept Y Z) : Kept X Z := ⟨Nat.le_trans h.size k.size, fun b o v e => k.cell b o v (h.cell b o v e)⟩
theorem Kept.of_below {W W' : World} (h : Below W.heap.size W W') : Kept W W' :=
  ⟨h.size, fun b o _ e => (h.cell (p := ⟨b, o, none⟩) (World.block_lt_of_cell? _ _ e)).trans e⟩
theorem Kept.of_keeps {n : Nat} {W W' : World} (h : KeepsE NoB NoT n W W') : Kept W W' := by
  refine ⟨h.size, fun b o v e => ?_⟩
  obtain ⟨c, t, r, hh⟩ := isCells_of_cell e
  have h2 := h.same b _ hh rfl (fun k => k) (by rintro ⟨_, c', e', r', _, k⟩; exact k)
  exact (World.cell?_of_block (w := W) (a := ⟨b, o, none⟩) (h2.trans hh.symm)).trans e
theorem Kept.of_writes {n : Nat} {W W' : World} (h : WritesE NoB NoT n W W') : Kept W W' := .of_keeps h.keeps
theorem Kept.of_same {W W' : World} (h : SameCells W W') (hs : W.heap.size ≤ W'.heap.size) : Kept W W' := ⟨hs, fun _ _ _ e => h.cell e⟩
theorem RowAt'.kept {α : Type} {W W' : World} {k : Nat} {enc : α → List Value} {b off : Nat} {xs : List α} (h : RowAt' W k enc b off xs) (hb : Kept W W') : RowAt' W' k enc b off xs :=
  ⟨Nat.lt_of_lt_of_le h.1 hb.size, fun j x hx i v hv => hb.cell _ _ _ (h.2 j x hx i v hv)⟩
theorem At.kept {α : Type} {W W' : World} {k : Nat} {enc : α → List Value} {A : Option Addr} {xs : List α} (h : At W k enc A xs) (hb : Kept W W') : At W' k enc A xs := by
  rcases h with h | ⟨b, off, e, h⟩
  · exact .inl h
  · exact .inr ⟨b, off, e, h.kept hb⟩
theorem Sl.kept {α : Type} {W W' : World} {k : Nat} {enc : α → List Value} {v : Value} {xs : List α} (h : Sl W k enc v xs) (hb : Kept W W') : Sl W' k enc v xs := by
  obtain ⟨A, cap, e, h1, h2, h3⟩ := h
  exact ⟨A, cap, e, h1, h2, h3.kept hb⟩
theorem ExAt.kept {W W' : World} {A : Option Addr} {xs : List Ext'} (h : ExAt W A xs) (hb : Kept W W') : ExAt W' A xs := by
  obtain ⟨es, e, h1, h2⟩ := h
  exact ⟨es, e, h1.kept hb, fun y hy => (h2 y hy).kept hb⟩
theorem LayAt.kept {W W' : World} {p : Where} {L : Lay} (h : LayAt W p L) (hb : Kept W W') : LayAt W' p L :=
  ⟨h.secs.kept hb, h.sigs.kept hb, h.exits.kept hb, h.flanks.kept hb, h.l0, h.l1, h.l2, h.l3, h.kinds⟩
theorem Box.kept {W W' : World} {g : Nat} {L : Lay} {p : Where} (h : Box W g L p) (hb : Kept W W') : Box W' g L p := ⟨Nat.lt_of_lt_of_le h.1 hb.size, fun i v hv => hb.cell _ _ _ (h.2 i v hv)⟩
theorem Kinds.kept {W W' : World} (K : Kinds W) (h : Kept W W') : Kinds W' := ⟨fun o v e => h.cell _ _ _ (K.pnone o v e), fun o v e => h.cell _ _ _ (K.pkind o v e)⟩

/-- The ports that are joined, of the first i ports of a section; of the first n sections. -/
def jn (c : Sec) : Nat → List Prt
  | 0 => []
  | i + 1 => jn c i ++ (if 0 ≤ c.S i then [⟨c.S i, c.P i⟩] else [])
def sj (xs : List Sec) : Nat → List Prt
  | 0 => []
  | n + 1 => sj xs n ++ jn (xs.getD n default) 4
def exP (x : Ext') : Prt := ⟨x.s, x.p⟩
def portsL (L : Lay) : List Prt := sj L.secs L.secs.length ++ (L.sigs ++ L.exits.map exP)
theorem jn_pre (c : Sec) {i j : Nat} (h : i ≤ j) : jn c i <+: jn c j := by
  induction h with
  | refl => exact List.prefix_rfl
  | step _ ih => exact ih.trans (List.prefix_append _ _)
theorem sj_pre (xs : List Sec) {i j : Nat} (h : i ≤ j) : sj xs i <+: sj xs j := by
  induction h with
  | refl => exact List.prefix_rfl
  | step _ ih => exact ih.trans (List.prefix_append _ _)
theorem pre_secs {L : Lay} {n i : Nat} {c : Sec} (hn : n < L.secs.length) (hc : L.secs[n]? = some c) (hi : i ≤ 4) : sj L.secs n ++ jn c i <+: portsL L := by
  have h1 : sj L.secs n ++ jn c i <+: sj L.secs (n + 1) := by
    simp only [sj]
    have : L.secs.getD n default = c := by rw [List.getD_eq_getElem?_getD, hc]; rfl
    rw [this]
    exact (List.prefix_append_right_inj _).2 (jn_pre c hi)
  exact (h1.trans (sj_pre L.secs (by omega))).trans (List.prefix_append _ _)
theorem pre_sigs {L : Lay} {n : Nat} : sj L.secs L.secs.length ++ L.sigs.take n <+: portsL L := by
  unfold portsL
  exact (List.prefix_append_right_inj _).2 ((List.take_prefix _ _).trans (List.prefix_append _ _))
theorem pre_exits {L : Lay} {n : Nat} : sj L.secs L.secs.length ++ (L.sigs ++ (L.exits.take n).map exP) <+: portsL L := by
  unfold portsL
  exact (List.prefix_append_right_inj _).2 ((List.prefix_append_right_inj _).2 (by rw [List.map_take]; exact List.take_prefix _ _))
theorem take_more {α : Type} {xs : List α} {n : Nat} {x : α} (h : xs[n]? = some x) : xs.take (n + 1) = xs.take n ++ [x] := by
  obtain ⟨hn, e⟩ := List.getElem?_eq_some_iff.1 h
  rw [List.take_succ_eq_append_getElem hn, e]
theorem lt_of_pre {α : Type} {p q : List α} {x : α} (h : p ++ [x] <+: q) : p.length < q.length := by
  have := h.length_le
  simp at this
  omega

theorem ports_fn (L : Lay) (p : Where) (w : World) :
    Calls Tryd.prog 43 #[L.val p] w fun e w' => e = .returned (.func (.func 70) #[] #[.pointer (some ⟨w.heap.size, 0, none⟩)]) ∧ w' = w.alloc (.cells (L.cells p).toArray 29) := by
  unfold Lay.val Lay.cells
  go_enter Tryd.func43, Tryd.ntmps43
  go_wp2
  go_ret
  exact ⟨rfl, rfl⟩

set_option maxRecDepth 100000 in
set_option maxHeartbeats 16000000 in
theorem ports1_in (l g n₀ : Nat) (L : Lay) (p : Where) (J Jx : List Prt → World → Prop) (W : World) (hJ : AbidesFrom W.heap.size J)
    (hY : ∀ pre x W1, J pre W1 → pre.length < (portsL L).length → YieldAt Fence.wide 3 Tryd.prog l #[.agg #[.int .i64 (x : Prt).s, .int .i64 x.p]] W1 fun e W' =>
      (e = .returned (.bool true) ∧ J (pre ++ [x]) W' ∧ KeepsE NoB NoT n₀ W1 W') ∨ (e = .returned (.bool false) ∧ Jx (pre ++ [x]) W'))
    (hL : LayAt W p L) (hB : Box W g L p) (hJ0 : J [] W) :
    CallsIn Fence.wide 4 Tryd.prog 70 #[.func (.yield l) #[] #[], .pointer (some ⟨g, 0, none⟩)] W fun e W' => (∃ v, e = .returned v) ∧
      ((∃ ys, ys = portsL L ∧ J ys W') ∨ (∃ pre, (pre <+: portsL L) ∧ Jx pre W')) := by
  have hJg : ∀ s (X Y : World), W.heap.size ≤ X.heap.size → J s X → Below X.heap.size X Y → J s Y := fun s X Y _ hx hb => hJ s X Y none hx ⟨hb.os, hb.tape, hb.output, hb.size, fun k' hk' _ => hb.block k' hk'⟩ (fun r e => by cases e)
  have m0 : L.secs.length ≤ 9223372036854775807 := Nat.le_trans hL.l0.1 hL.l0.2
  have m1 : L.sigs.length ≤ 9223372036854775807 := Nat.le_trans hL.l1.1 hL.l1.2
  have m2 : L.exits.length ≤ 9223372036854775807 := Nat.le_trans hL.l2.1 hL.l2.2
  obtain ⟨a0, a1, a2, a3, p0, p1, p2, p3⟩ := p
  have HL := Lib.hid hL
  have HB := Lib.hid hB
  have HJ := Lib.hid hJg
  have HY := Lib.hid hY
  have c0 := hB.2 0 _ rfl
  have lg := hB.1
  clear hL hB hJg hJ hY
  refine callsIn_of_wp Tryd.func70 rfl trivial ?_ rfl
  simp only [Tryd.ntmps70, List.size_toArray, List.length_cons, List.length_nil, Nat.reduceAdd, Nat.reduceSub, Array.replicate_succ, Array.replicate_zero, List.push_toArray, List.append_toArray, List.nil_append, List.cons_append]
  gi_wp2_with fail
  gi_loopw [14] (fun c wr => ∃ n : Nat, n ≤ L.secs.length ∧ c = .int .i64 n ∧ J (sj L.secs n) wr ∧ Kept W wr) (fun c _ => L.secs.length - (intOf c).toNat)
  case atStart => exact ⟨0, Nat.zero_le _, rfl, hJ0, Kept.refl _⟩
  case round =>
    obtain ⟨n, hn, rfl, hJn, hK⟩ := hrel
    obtain ⟨wo, rfl⟩ : ∃ wo : World, wo = wr := ⟨_, rfl⟩
    have HJn := Lib.hid hJn
    have HK := Lib.hid hK
    clear hJn hK
    by_cases hlt : n < L.secs.length
    · obtain ⟨x, hx⟩ : ∃ x, L.secs[n]? = some x := ⟨L.secs[n], List.getElem?_eq_getElem hlt⟩
      obtain ⟨b, off, hAe, hrow⟩ := (HL.out.kept HK.out).secs.get hlt
      dsimp only at hAe
      subst hAe
      obtain ⟨k0, k1, k2, k3, k4, k5, k6, k7, k8, k9, k10⟩ := sec_cells hrow hx
      have lb := hrow.1
      have hpre := fun i (hi : i ≤ 4) => pre_secs hlt hx hi
      have HP := Lib.hid hpre
      have hdef : L.secs.getD n default = x := by rw [List.getD_eq_getElem?_getD, hx]; rfl
      have HD := Lib.hid hdef
      obtain ⟨k, s0, q0, s1, q1, s2, q2, s3, q3, cl0, cl1⟩ := x
      dsimp only at k0 k1 k2 k3 k4 k5 k6 k7 k8 k9 k10
      clear hrow hx hpre hdef
      gi_wp2_with fail
      obtain ⟨Wm, hWm⟩ : ∃ Wm, Wm = wo.alloc (.cells #[.int .u8 k, .int .i64 s0, .int .i64 q0, .int .i64 s1, .int .i64 q1, .int .i64 s2, .int .i64 q2, .int .i64 s3, .int .i64 q3, .int .i64 cl0, .int .i64 cl1] 39) := ⟨_, rfl⟩
      have hJm : Hid (J (sj L.secs n ++ jn ⟨k, s0, q0, s1, q1, s2, q2, s3, q3, cl0, cl1⟩ 0) Wm) := Lib.hid (by
        rw [hWm]
        simp only [jn, List.append_nil]
        exact HJ.out _ _ _ HK.out.size HJn.out bself)
      have hKm : Hid (Kept W Wm) := Lib.hid (by rw [hWm]; exact HK.out.trans (.of_below bself))
      rw [← hWm]
      clear hWm k0 k1 k2 k3 k4 k5 k6 k7 k8 k9 k10 lb
      gi_loopw [20] (fun c wi => ∃ i : Nat, i ≤ 4 ∧ c = .int .i64 i ∧ Hid (J (sj L.secs n ++ jn ⟨k, s0, q0, s1, q1, s2, q2, s3, q3, cl0, cl1⟩ i) wi) ∧ Hid (Kept W wi)) (fun c _ => 4 - (intOf c).toNat)
      case atStart => exact ⟨0, by omega, rfl, hJm, hKm⟩
      case round =>
        obtain ⟨i, hi, rfl, HJi, HKi⟩ := hrel
        clear hJm hKm
        have cs : i = 0 ∨ i = 1 ∨ i = 2 ∨ i = 3 ∨ i = 4 := by omega
        rcases cs with rfl | rfl | rfl | rfl | rfl
        · by_cases hs : 0 ≤ s0
          · have hd : decide (0 ≤ s0) = true := decide_eq_true hs
            obtain ⟨Wy, hWy⟩ : ∃ Wy, Wy = wr.alloc (.cells #[.int .i64 s0, .int .i64 q0] 31) := ⟨_, rfl⟩
            have By : Below wr.heap.size wr Wy := by rw [hWy]; exact bself
            have Jy := HJ.out _ _ Wy HKi.out.size HJi.out By
            have e : jn ⟨k, s0, q0, s1, q1, s2, q2, s3, q3, cl0, cl1⟩ 1 = jn ⟨k, s0, q0, s1, q1, s2, q2, s3, q3, cl0, cl1⟩ 0 ++ [⟨s0, q0⟩] := by
              rw [jn]
              exact congrArg _ (if_pos hs)
            have hp := HP.out 1 (by omega)
            rw [e, ← List.append_assoc] at hp
            obtain ⟨fn, tmps, assign, body, hyy, hR⟩ := HY.out _ ⟨s0, q0⟩ Wy Jy (lt_of_pre hp)
            have HE := Lib.hid (⟨e, hp, By⟩ : _ ∧ _ ∧ _)
            subst hWy
            clear e hp Jy By
            gi_wp2
            refine hR.mono ?_
            rintro e W3 (⟨rfl, hJ3, hk3⟩ | ⟨rfl, hJx3⟩)
            · have H3 := Lib.hid (⟨hJ3, (HKi.out.trans (.of_below HE.out.2.2)).trans (.of_keeps hk3)⟩ : _ ∧ _)
              clear hJ3 hk3
              gi_wp2
              go_roundw
              case rel => exact ⟨1, by omega, rfl, Lib.hid (by rw [HE.out.1, ← List.append_assoc]; exact H3.out.1), Lib.hid H3.out.2⟩
              case measure => simp [intOf]
            · gi_wp2
              refine bodyPost_ret (results_none rfl _ _ _) rfl ?_
              exact ⟨⟨_, rfl⟩, .inr ⟨_, HE.out.2.1, hJx3⟩⟩
          · have hd : decide (0 ≤ s0) = false := decide_eq_false hs
            have e : jn ⟨k, s0, q0, s1, q1, s2, q2, s3, q3, cl0, cl1⟩ 1 = jn ⟨k, s0, q0, s1, q1, s2, q2, s3, q3, cl0, cl1⟩ 0 := by
              rw [jn]
              exact (congrArg _ (if_neg hs)).trans (List.append_nil _)
            have HE := Lib.hid e
            clear e
            gi_wp2
            refine ⟨fun _ h => (by cases h), ?_⟩
            gi_wp2
            go_roundw
            case rel => exact ⟨1, by omega, rfl, Lib.hid (by rw [HE.out]; exact HJ.out _ _ _ HKi.out.size HJi.out bself), Lib.hid (HKi.out.trans (.of_below bself))⟩
            case measure => simp [intOf]
        · by_cases hs : 0 ≤ s1
          · have hd : decide (0 ≤ s1) = true := decide_eq_true hs
            obtain ⟨Wy, hWy⟩ : ∃ Wy, Wy = wr.alloc (.cells #[.int .i64 s1, .int .i64 q1] 31) := ⟨_, rfl⟩
            have By : Below wr.heap.size wr Wy := by rw [hWy]; exact bself
            have Jy := HJ.out _ _ Wy HKi.out.size HJi.out By
            have e : jn ⟨k, s0, q0, s1, q1, s2, q2, s3, q3, cl0, cl1⟩ 2 = jn ⟨k, s0, q0, s1, q1, s2, q2, s3, q3, cl0, cl1⟩ 1 ++ [⟨s1, q1⟩] := by
              rw [jn]
              exact congrArg _ (if_pos hs)
            have hp := HP.out 2 (by omega)
            rw [e, ← List.append_assoc] at hp
            obtain ⟨fn, tmps, assign, body, hyy, hR⟩ := HY.out _ ⟨s1, q1⟩ Wy Jy (lt_of_pre hp)
            have HE := Lib.hid (⟨e, hp, By⟩ : _ ∧ _ ∧ _)
            subst hWy
            clear e hp Jy By
            gi_wp2
            refine hR.mono ?_
            rintro e W3 (⟨rfl, hJ3, hk3⟩ | ⟨rfl, hJx3⟩)
            · have H3 := Lib.hid (⟨hJ3, (HKi.out.trans (.of_below HE.out.2.2)).trans (.of_keeps hk3)⟩ : _ ∧ _)
              clear hJ3 hk3
              gi_wp2
              go_roundw
              case rel => exact ⟨2, by omega, rfl, Lib.hid (by rw [HE.out.1, ← List.append_assoc]; exact H3.out.1), Lib.hid H3.out.2⟩
              case measure => simp [intOf]
            · gi_wp2
              refine bodyPost_ret (results_none rfl _ _ _) rfl ?_
              exact ⟨⟨_, rfl⟩, .inr ⟨_, HE.out.2.1, hJx3⟩⟩
          · have hd : decide (0 ≤ s1) = false := decide_eq_false hs
            have e : jn ⟨k, s0, q0, s1, q1, s2, q2, s3, q3, cl0, cl1⟩ 2 = jn ⟨k, s0, q0, s1, q1, s2, q2, s3, q3, cl0, cl1⟩ 1 := by
              rw [jn]
              exact (congrArg _ (if_neg hs)).trans (List.append_nil _)
            have HE := Lib.hid e
            clear e
            gi_wp2
            refine ⟨fun _ h => (by cases h), ?_⟩
            gi_wp2
            go_roundw
            case rel => exact ⟨2, by omega, rfl, Lib.hid (by rw [HE.out]; exact HJ.out _ _ _ HKi.out.size HJi.out bself), Lib.hid (HKi.out.trans (.of_below bself))⟩
            case measure => simp [intOf]
        · by_cases hs : 0 ≤ s2
          · have hd : decide (0 ≤ s2) = true := decide_eq_true hs
            obtain ⟨Wy, hWy⟩ : ∃ Wy, Wy = wr.alloc (.cells #[.int .i64 s2, .int .i64 q2] 31) := ⟨_, rfl⟩
            have By : Below wr.heap.size wr Wy := by rw [hWy]; exact bself
            have Jy := HJ.out _ _ Wy HKi.out.size HJi.out By
            have e : jn ⟨k, s0, q0, s1, q1, s2, q2, s3, q3, cl0, cl1⟩ 3 = jn ⟨k, s0, q0, s1, q1, s2, q2, s3, q3, cl0, cl1⟩ 2 ++ [⟨s2, q2⟩] := by
              rw [jn]
              exact congrArg _ (if_pos hs)
            have hp := HP.out 3 (by omega)
            rw [e, ← List.append_assoc] at hp
            obtain ⟨fn, tmps, assign, body, hyy, hR⟩ := HY.out _ ⟨s2, q2⟩ Wy Jy (lt_of_pre hp)
            have HE := Lib.hid (⟨e, hp, By⟩ : _ ∧ _ ∧ _)
            subst hWy
            clear e hp Jy By
            gi_wp2
            refine hR.mono ?_
            rintro e W3 (⟨rfl, hJ3, hk3⟩ | ⟨rfl, hJx3⟩)
            · have H3 := Lib.hid (⟨hJ3, (HKi.out.trans (.of_below HE.out.2.2)).trans (.of_keeps hk3)⟩ : _ ∧ _)
              clear hJ3 hk3
              gi_wp2
              go_roundw
              case rel => exact ⟨3, by omega, rfl, Lib.hid (by rw [HE.out.1, ← List.append_assoc]; exact H3.out.1), Lib.hid H3.out.2⟩
              case measure => simp [intOf]
            · gi_wp2
              refine bodyPost_ret (results_none rfl _ _ _) rfl ?_
              exact ⟨⟨_, rfl⟩, .inr ⟨_, HE.out.2.1, hJx3⟩⟩
          · have hd : decide (0 ≤ s2) = false := decide_eq_false hs
            have e : jn ⟨k, s0, q0, s1, q1, s2, q2, s3, q3, cl0, cl1⟩ 3 = jn ⟨k, s0, q0, s1, q1, s2, q2, s3, q3, cl0, cl1⟩ 2 := by
              rw [jn]
              exact (congrArg _ (if_neg hs)).trans (List.append_nil _)
            have HE := Lib.hid e
            clear e
            gi_wp2
            refine ⟨fun _ h => (by cases h), ?_⟩
            gi_wp2
            go_roundw
            case rel => exact ⟨3, by omega, rfl, Lib.hid (by rw [HE.out]; exact HJ.out _ _ _ HKi.out.size HJi.out bself), Lib.hid (HKi.out.trans (.of_below bself))⟩
            case measure => simp [intOf]
        · by_cases hs : 0 ≤ s3
          · have hd : decide (0 ≤ s3) = true := decide_eq_true hs
            obtain ⟨Wy, hWy⟩ : ∃ Wy, Wy = wr.alloc (.cells #[.int .i64 s3, .int .i64 q3] 31) := ⟨_, rfl⟩
            have By : Below wr.heap.size wr Wy := by rw [hWy]; exact bself
            have Jy := HJ.out _ _ Wy HKi.out.size HJi.out By
            have e : jn ⟨k, s0, q0, s1, q1, s2, q2, s3, q3, cl0, cl1⟩ 4 = jn ⟨k, s0, q0, s1, q1, s2, q2, s3, q3, cl0, cl1⟩ 3 ++ [⟨s3, q3⟩] := by
              rw [jn]
              exact congrArg _ (if_pos hs)
            have hp := HP.out 4 (by omega)
            rw [e, ← List.append_assoc] at hp
            obtain ⟨fn, tmps, assign, body, hyy, hR⟩ := HY.out _ ⟨s3, q3⟩ Wy Jy (lt_of_pre hp)
            have HE := Lib.hid (⟨e, hp, By⟩ : _ ∧ _ ∧ _)
            subst hWy
            clear e hp Jy By
            gi_wp2
            refine hR.mono ?_
            rintro e W3 (⟨rfl, hJ3, hk3⟩ | ⟨rfl, hJx3⟩)
            · have H3 := Lib.hid (⟨hJ3, (HKi.out.trans (.of_below HE.out.2.2)).trans (.of_keeps hk3)⟩ : _ ∧ _)
              clear hJ3 hk3
              gi_wp2
              go_roundw
              case rel => exact ⟨4, by omega, rfl, Lib.hid (by rw [HE.out.1, ← List.append_assoc]; exact H3.out.1), Lib.hid H3.out.2⟩
              case measure => simp [intOf]
            · gi_wp2
              refine bodyPost_ret (results_none rfl _ _ _) rfl ?_
              exact ⟨⟨_, rfl⟩, .inr ⟨_, HE.out.2.1, hJx3⟩⟩
          · have hd : decide (0 ≤ s3) = false := decide_eq_false hs
            have e : jn ⟨k, s0, q0, s1, q1, s2, q2, s3, q3, cl0, cl1⟩ 4 = jn ⟨k, s0, q0, s1, q1, s2, q2, s3, q3, cl0, cl1⟩ 3 := by
              rw [jn]
              exact (congrArg _ (if_neg hs)).trans (List.append_nil _)
            have HE := Lib.hid e
            clear e
            gi_wp2
            refine ⟨fun _ h => (by cases h), ?_⟩
            gi_wp2
            go_roundw
            case rel => exact ⟨4, by omega, rfl, Lib.hid (by rw [HE.out]; exact HJ.out _ _ _ HKi.out.size HJi.out bself), Lib.hid (HKi.out.trans (.of_below bself))⟩
            case measure => simp [intOf]
        · gi_wp2
          go_roundw
          case rel => exact ⟨n + 1, by omega, by go_num, by simp only [sj]; rw [HD.out]; exact HJi.out, HKi.out⟩
          case measure => simp [intOf]; omega
    · obtain rfl : n = L.secs.length := by omega
      have hB := HB.out.kept HK.out
      have lg' := hB.1
      have c1 := hB.2 1 _ rfl
      have c2 := hB.2 2 _ rfl
      clear hB
      gi_wp2_with fail
      gi_loopw [37] (fun c wr => ∃ n : Nat, n ≤ L.sigs.length ∧ c = .int .i64 n ∧ J (sj L.secs L.secs.length ++ L.sigs.take n) wr ∧ Kept W wr) (fun c _ => L.sigs.length - (intOf c).toNat)
      case atStart => exact ⟨0, Nat.zero_le _, rfl, by simpa using HJn.out, HK.out⟩
      case round =>
        obtain ⟨n, hn, rfl, hJn, hK⟩ := hrel
        clear c1 c2 HJn HK
        have HJn := Lib.hid hJn
        have HK := Lib.hid hK
        clear hJn hK
        by_cases hlt : n < L.sigs.length
        · obtain ⟨x, hx⟩ : ∃ x, L.sigs[n]? = some x := ⟨L.sigs[n], List.getElem?_eq_getElem hlt⟩
          obtain ⟨b, off, hAe, hrow⟩ := (HL.out.kept HK.out).sigs.get hlt
          dsimp only at hAe
          subst hAe
          have k0 : wr.cell? ⟨b, off + n * 2, none⟩ = some (.int .i64 x.s) := hrow.2 n x hx 0 _ rfl
          have k1 : wr.cell? ⟨b, off + n * 2 + 1, none⟩ = some (.int .i64 x.p) := hrow.2 n x hx 1 _ rfl
          have lb := hrow.1
          have e := take_more hx
          have hp := pre_sigs (L := L) (n := n + 1)
          rw [e, ← List.append_assoc] at hp
          obtain ⟨s, q⟩ := x
          dsimp only at k0 k1
          obtain ⟨Wy, hWy⟩ : ∃ Wy, Wy = wr.alloc (.cells #[.int .i64 s, .int .i64 q] 50) := ⟨_, rfl⟩
          have By : Below wr.heap.size wr Wy := by rw [hWy]; exact bself
          have Jy := HJ.out _ _ Wy HK.out.size HJn.out By
          obtain ⟨fn, tmps, assign, body, hyy, hR⟩ := HY.out _ ⟨s, q⟩ Wy Jy (lt_of_pre hp)
          have HE := Lib.hid (⟨e, hp, By⟩ : _ ∧ _ ∧ _)
          subst hWy
          clear e hp Jy By hrow hx
          gi_wp2
          refine hR.mono ?_
          rintro e W3 (⟨rfl, hJ3, hk3⟩ | ⟨rfl, hJx3⟩)
          · have H3 := Lib.hid (⟨hJ3, (HK.out.trans (.of_below HE.out.2.2)).trans (.of_keeps hk3)⟩ : _ ∧ _)
            clear hJ3 hk3
            gi_wp2
            go_roundw
            case rel => exact ⟨n + 1, by omega, by go_num, by rw [HE.out.1, ← List.append_assoc]; exact H3.out.1, H3.out.2⟩
            case measure => simp [intOf]; omega
          · gi_wp2
            refine bodyPost_ret (results_none rfl _ _ _) rfl ?_
            exact ⟨⟨_, rfl⟩, .inr ⟨_, HE.out.2.1, hJx3⟩⟩
        · obtain rfl : n = L.sigs.length := by omega
          have hB := HB.out.kept HK.out
          have lg'' := hB.1
          have c2 := hB.2 2 _ rfl
          clear hB
          gi_wp2_with fail
          gi_loopw [50] (fun c wr => ∃ n : Nat, n ≤ L.exits.length ∧ c = .int .i64 n ∧ J (sj L.secs L.secs.length ++ (L.sigs ++ (L.exits.take n).map exP)) wr ∧ Kept W wr) (fun c _ => L.exits.length - (intOf c).toNat)
          case atStart => exact ⟨0, Nat.zero_le _, rfl, by simpa using HJn.out, HK.out⟩
          case round =>
            obtain ⟨n, hn, rfl, hJn, hK⟩ := hrel
            clear c2 HJn HK
            have HJn := Lib.hid hJn
            have HK := Lib.hid hK
            clear hJn hK
            by_cases hlt : n < L.exits.length
            · obtain ⟨es, hes, hAt, hov⟩ := (HL.out.kept HK.out).exits
              have hlen : es.length = L.exits.length := by rw [← hes, List.length_map]
              obtain ⟨b, off, hAe, hrow⟩ := hAt.get (j := n) (by omega)
              dsimp only at hAe
              subst hAe
              obtain ⟨y, hy⟩ : ∃ y, es[n]? = some y := ⟨es[n]'(by omega), List.getElem?_eq_getElem (by omega)⟩
              have hx : L.exits[n]? = some y.1 := by rw [← hes, List.getElem?_map, hy]; rfl
              have k0 : wr.cell? ⟨b, off + n * 3, none⟩ = some (.int .i64 y.1.s) := hrow.2 n y hy 0 _ rfl
              have k1 : wr.cell? ⟨b, off + n * 3 + 1, none⟩ = some (.int .i64 y.1.p) := hrow.2 n y hy 1 _ rfl
              have k2 : wr.cell? ⟨b, off + n * 3 + 2, none⟩ = some y.2 := hrow.2 n y hy 2 _ rfl
              obtain ⟨vA, vc, ve, _, _, _⟩ := hov y (List.mem_of_getElem? hy)
              obtain ⟨m, hm⟩ : ∃ m, m = y.1.over.length := ⟨_, rfl⟩
              rw [ve, ← hm] at k2
              have lb := hrow.1
              have e := take_more hx
              have hp := pre_exits (L := L) (n := n + 1)
              have em : (L.exits.take (n + 1)).map exP = (L.exits.take n).map exP ++ [⟨y.1.s, y.1.p⟩] := by rw [e, List.map_append]; rfl
              rw [em, ← List.append_assoc, ← List.append_assoc] at hp
              obtain ⟨s, hs⟩ : ∃ s, s = y.1.s := ⟨_, rfl⟩
              obtain ⟨q, hq⟩ : ∃ q, q = y.1.p := ⟨_, rfl⟩
              rw [← hs] at k0
              rw [← hq] at k1
              rw [← hs, ← hq] at hp em
              obtain ⟨Wy, hWy⟩ : ∃ Wy, Wy = wr.alloc (.cells #[.int .i64 s, .int .i64 q, .slice vA m vc] 53) := ⟨_, rfl⟩
              have By : Below wr.heap.size wr Wy := by rw [hWy]; exact bself
              have Jy := HJ.out _ _ Wy HK.out.size HJn.out By
              rw [← List.append_assoc] at Jy
              obtain ⟨fn, tmps, assign, body, hyy, hR⟩ := HY.out _ ⟨s, q⟩ Wy Jy (lt_of_pre hp)
              have HE := Lib.hid (⟨em, hp, By⟩ : _ ∧ _ ∧ _)
              subst hWy
              clear e em hp Jy By hrow hx hy hes hAt hov hlen ve hm hs hq
              gi_wp2
              refine hR.mono ?_
              rintro e W3 (⟨rfl, hJ3, hk3⟩ | ⟨rfl, hJx3⟩)
              · have H3 := Lib.hid (⟨hJ3, (HK.out.trans (.of_below HE.out.2.2)).trans (.of_keeps hk3)⟩ : _ ∧ _)
                clear hJ3 hk3
                gi_wp2
                go_roundw
                case rel => exact ⟨n + 1, by omega, by go_num, by rw [HE.out.1, ← List.append_assoc, ← List.append_assoc]; exact H3.out.1, H3.out.2⟩
                case measure => simp [intOf]; omega
              · gi_wp2
                refine bodyPost_ret (results_none rfl _ _ _) rfl ?_
                exact ⟨⟨_, rfl⟩, .inr ⟨_, HE.out.2.1, hJx3⟩⟩
            · obtain rfl : n = L.exits.length := by omega
              gi_wp2
              go_end0
              exact ⟨⟨_, rfl⟩, .inl ⟨_, rfl, by simpa [portsL] using HJn.out⟩⟩
end Go.Proofs.YtkphihbimdffjaaDoor
