/-
  lockbarref08.Take, Size, Most.
-/
import Derived.Test.YtpnnbihofoomeaaDoorM15

namespace Go.Proofs.YtpnnbihofoomeaaDoor
open Go.RowKit Go.Shelf

/-- The reader of a row of one's own. -/
theorem rfAt_new {bs : List Nat} {W : World} {B n c M : Nat} {A : Option Addr} (hn : n = bs.length) (hM : M = 8 * bs.length) (ho : W.ownsRow B 5 1 (.slice A n c) n (bs.flatMap bEnc)) (hl : bs.length ≤ 1000) (h8 : ∀ b ∈ bs, b < 256) :
    RfAt bs M A n c W.heap.size (0, false) (W.alloc (.cells #[.slice A n c, .int .i64 M, .int .i64 0, .bool false] 84)) := by
  have h := rdAt_new hn hM ho hl h8
  have hA := row_at hn ho
  subst hn hM
  exact ⟨rfl, hA.below bself, bitsOk_bytes bs hl h8, World.alloc_heap_new _ _, h.ne, Nat.zero_le _⟩
/-- What will be told, and the world's old part. -/
structure TSt (w W : World) : Prop where
  zr : W.heap[w.heap.size]? = some (.cells (noL.cells noW).toArray 29 (0, 0))
  below : Below w.heap.size w W
theorem TSt.next {w W W' : World} (h : TSt w W) (k : Below W.heap.size W W') : TSt w W' := ⟨(k.block _ (Array.getElem?_eq_some_iff.1 h.zr).1).trans h.zr, bchain h.below k⟩
theorem str_same {bs ys : List Nat} (h8 : ∀ b ∈ bs, b < 256) (hy : ∀ b ∈ ys, b < 256) : ((strB bs).toList == (strB ys).toList) = decide (bs = ys) := by
  rw [ByteArray.toList_eq, ByteArray.toList_eq, Bool.eq_iff_iff, beq_iff_eq, decide_eq_true_iff]
  exact ⟨fun h => (strB_eq h8 hy).1 (by cases hs : strB bs; cases ht : strB ys; rw [hs, ht] at h; congr 1; exact Array.toList_inj.1 h), fun h => by rw [h]⟩

set_option maxRecDepth 100000 in
set_option maxHeartbeats 16000000 in
theorem take8_any (A : Option Addr) (n cap : Nat) (bs : List Nat) (w : World) (hn : n = bs.length) (hA : At w 1 bEnc A bs) (hl : bs.length ≤ 1000) (h8 : ∀ b ∈ bs, b < 256) :
    Calls Tryd.prog 12 #[.slice A n cap] w (TakeOf bs w) := by
  obtain ⟨M, hM⟩ : ∃ M : Nat, M = 8 * bs.length := ⟨_, rfl⟩
  obtain ⟨W0, hW0⟩ : ∃ W0, W0 = w.alloc (.cells (noL.cells noW).toArray 29) := ⟨_, rfl⟩
  have t0 : TSt w W0 := by rw [hW0]; exact ⟨World.alloc_heap_new _ _, bself⟩
  have hs0 : W0.heap.size = w.heap.size + 1 := by rw [hW0]; simp
  have HOf := Lib.hid (rbOf_any A n cap M bs W0 hn hM (hA.below t0.below) hl)
  have HA := Lib.hid (⟨hn, hM, hA, hl, h8⟩ : _ ∧ _ ∧ _ ∧ _ ∧ _)
  have T0 := Lib.hid t0
  clear hn hA hl h8 hM t0
  go_enter Tryd.func12, Tryd.ntmps12
  go_wp2_with fail
  have hW0' : W0 = w.alloc (.cells #[.slice none 0 0, .slice none 0 0, .slice none 0 0, .slice none 0 0, .int .i64 0, .int .i64 0, .int .i64 0, .int .i64 0, .int .i64 0, .int .i64 0, .int .i64 0] 29) := hW0
  rw [← hW0']
  clear hW0 hW0'
  (with_reducible refine HOf.out.mono ?_)
  rintro e W1 ⟨A', c', rfl, ho, b1⟩
  have hrd := rfAt_new (c := c') (M := M) HA.out.1 HA.out.2.1 ho HA.out.2.2.2.1 HA.out.2.2.2.2
  obtain ⟨W2, hW2⟩ : ∃ W2, W2 = W1.alloc (.cells #[.slice A' n c', .int .i64 M, .int .i64 0, .bool false] 84) := ⟨_, rfl⟩
  obtain ⟨rb, hrb⟩ : ∃ rb, rb = W1.heap.size := ⟨_, rfl⟩
  have hlt : W0.heap.size ≤ W1.heap.size := b1.size
  have T2 := Lib.hid (show TSt w W2 by rw [hW2]; exact (T0.out.next b1).next bself)
  have hwr : w.heap.size < rb := by omega
  have hr2 : W2.heap.size = rb + 1 := by rw [hW2, hrb]; simp
  rw [← hW2] at hrd
  go_wp2_with fail
  rw [← hW2]
  rw [← hrb] at hrd ⊢
  have HL := Lib.hid (read8_any W2 hrd)
  clear hrd hW2 hrb hlt ho b1 HOf T0 hs0
  (with_reducible refine HL.out.mono ?_)
  intro e W3 hp
  obtain ⟨⟨v, rfl, p, es, rfl, ho⟩, hr3, k3⟩ := hp
  obtain ⟨m, hm⟩ : ∃ m, m = mLay (bitB bs) M (0, false) := ⟨_, rfl⟩
  rw [← hm] at ho hr3 ⊢
  have hsim := sim_lay (bitB bs) M 0
  rw [← hm] at hsim
  obtain ⟨L, a3, q3⟩ := m
  dsimp only at ho hr3 hsim ⊢
  obtain ⟨X, hX⟩ : ∃ X, X = W3.alloc (.cells (L.cells p).toArray 29) := ⟨_, rfl⟩
  have hXb : Below W3.heap.size W3 X := by rw [hX]; exact bself
  have t3 : TSt w W3 := ⟨k3.keep T2.out.zr (by omega), below_only T2.out.below k3 (by omega) (by omega)⟩
  have TX := Lib.hid (t3.next hXb)
  obtain ⟨g, hg⟩ : ∃ g, g = W3.heap.size := ⟨_, rfl⟩
  have HB := Lib.hid (show BoxL X g L p by rw [hX]; exact BoxL.make _ hg)
  have HO := Lib.hid (⟨ho.below hXb, hsim⟩ : Owned W2.heap.size X p L es ∧ _)
  have hx3 : X.cell? ⟨rb, 3, none⟩ = some (.bool q3) := by
    have e := (hr3.below hXb).bx
    simp [World.cell?, e]
  have y3 : W3.cell? ⟨rb, 3, none⟩ = some (.bool q3) := by simp [World.cell?, hr3.bx]
  have xl := (hr3.below hXb).lt
  have yl := hr3.lt
  have hXd : X = W3.alloc (.cells #[.slice p.a0 L.secs.length p.c0, .slice p.a1 L.sigs.length p.c1, .slice p.a2 L.exits.length p.c2, .slice p.a3 L.flanks.length p.c3, .int .i64 L.t0, .int .i64 L.t1, .int .i64 L.t2, .int .i64 L.t3, .int .i64 L.t4, .int .i64 L.t5, .int .i64 L.t6] 29) := hX
  clear hXb t3 ho hr3 k3 hsim hm hX HL T2
  cases q3 with
  | true =>
    have htk := Lib.hid (show takeL bs = (noL, 40) by
      rcases hrd : rdLay (bitB bs) (8 * bs.length) 0 with _ | ⟨L', b⟩
      · exact take_none hrd
      · have h := HO.out.2.1 L' b (by rw [HA.out.2.1]; exact hrd)
        cases h)
    go_upto_if 17 with fail
    rw [← hXd]
    rw [← hg]
    clear hXd hg y3 yl
    have zf : ∀ o, X.frozen? ⟨w.heap.size, o, none⟩ = false := fun o => frozen_of_row _ _ _ _ _ TX.out.zr
    obtain ⟨z0, z1, z2, z3, z4, z5, z6, z7, z8, z9, z10⟩ := (boxL_heap TX.out.zr).cells
    have zl := (boxL_heap TX.out.zr).1
    go_wp2_with fail
    clear z0 z1 z2 z3 z4 z5 z6 z7 z8 z9 z10
    obtain ⟨V, hV⟩ : ∃ V, V = set11 w.heap.size X (.slice none 0 0) (.slice none 0 0) (.slice none 0 0) (.slice none 0 0) (.int .i64 0) (.int .i64 0) (.int .i64 0) (.int .i64 0) (.int .i64 0) (.int .i64 0) (.int .i64 0) := ⟨_, rfl⟩
    have v1 : V.heap[w.heap.size]? = some (.cells (noL.cells noW).toArray 29 (0, 0)) := by rw [hV]; exact set11_box TX.out.zr
    have v2 : Below w.heap.size w V := by rw [hV]; exact set11_below TX.out.below (Nat.le_refl _)
    have v3 : Owned w.heap.size V noW noL [] := owned_no _ _
    unfold set11 at hV
    rw [← hV]
    obtain ⟨z0, z1, z2, z3, z4, z5, z6, z7, z8, z9, z10⟩ := (boxL_heap v1).cells
    refine bodyPost_ret (v := .tuple #[noL.val noW, .int .i64 40]) (by simp [results, Tryd.results12, go_sem, Lay.val, z0, z1, z2, z3, z4, z5, z6, z7, z8, z9, z10]) rfl ⟨⟨noW, [], by rw [htk.out], by rw [htk.out]; exact v3⟩, v2⟩
  | false =>
    have hrd := Lib.hid (show ∃ b, rdLay (bitB bs) (8 * bs.length) 0 = some (L, b) by
      rcases hrd : rdLay (bitB bs) M 0 with _ | ⟨L', b⟩
      · have h := HO.out.2.2.1 hrd
        cases h
      · have h := HO.out.2.1 L' b hrd
        cases h
        exact ⟨_, by rw [← HA.out.2.1]; exact hrd⟩)
    have hput := put8r_any L p X (HO.out.1.lay)
    unfold Lay.val at hput
    have HP := Lib.hid hput
    obtain ⟨x0, x1, x2, x3, x4, x5, x6, x7, x8, x9, x10⟩ := HB.out.cells
    clear hput
    go_wp2_with fail
    rw [← hXd]
    rw [← hg]
    clear hXd hg y3 yl hx3 xl x0 x1 x2 x3 x4 x5 x6 x7 x8 x9 x10
    (with_reducible refine HP.out.mono ?_)
    intro e W4 hp
    obtain ⟨hc, b4⟩ := hp
    have T4 := Lib.hid (TX.out.next b4)
    have HB4 := Lib.hid (HB.out.below b4)
    have HO4 := Lib.hid (HO.out.1.below b4)
    clear HB HO TX
    have zf : ∀ o, W4.frozen? ⟨w.heap.size, o, none⟩ = false := fun o => frozen_of_row _ _ _ _ _ T4.out.zr
    obtain ⟨z0, z1, z2, z3, z4, z5, z6, z7, z8, z9, z10⟩ := (boxL_heap T4.out.zr).cells
    have zl := (boxL_heap T4.out.zr).1
    rcases hc with ⟨hr, rfl⟩ | ⟨hr, v, rfl, hv⟩
    · have htk := Lib.hid (show takeL bs = (noL, 41) by
        obtain ⟨b, hb⟩ := hrd.out
        exact take_form hb (fun h => by rw [hr] at h; cases h.1))
      clear hr b4
      go_wp2_with fail
      clear z0 z1 z2 z3 z4 z5 z6 z7 z8 z9 z10
      obtain ⟨V, hV⟩ : ∃ V, V = set11 w.heap.size W4 (.slice none 0 0) (.slice none 0 0) (.slice none 0 0) (.slice none 0 0) (.int .i64 0) (.int .i64 0) (.int .i64 0) (.int .i64 0) (.int .i64 0) (.int .i64 0) (.int .i64 0) := ⟨_, rfl⟩
      have v1 : V.heap[w.heap.size]? = some (.cells (noL.cells noW).toArray 29 (0, 0)) := by rw [hV]; exact set11_box T4.out.zr
      have v2 : Below w.heap.size w V := by rw [hV]; exact set11_below T4.out.below (Nat.le_refl _)
      have v3 : Owned w.heap.size V noW noL [] := owned_no _ _
      unfold set11 at hV
      rw [← hV]
      obtain ⟨z0, z1, z2, z3, z4, z5, z6, z7, z8, z9, z10⟩ := (boxL_heap v1).cells
      refine bodyPost_ret (v := .tuple #[noL.val noW, .int .i64 41]) (by simp [results, Tryd.results12, go_sem, Lay.val, z0, z1, z2, z3, z4, z5, z6, z7, z8, z9, z10]) rfl ⟨⟨noW, [], by rw [htk.out], by rw [htk.out]; exact v3⟩, v2⟩
    · obtain ⟨A2, c2, rfl⟩ := ownsV hv
      obtain ⟨m, hm⟩ : ∃ m, m = (bytesL L).length := ⟨_, rfl⟩
      obtain ⟨q, hq⟩ : ∃ q, q = decide (bytesL L = bs) := ⟨_, rfl⟩
      have cv1 := conv_any W4 30 5 9 Tryd.underlying30 Tryd.underlying5 Tryd.underlying9 A2 m c2 (bytesL L) hm (row_at rfl hv)
      have cv2 := conv_any W4 30 5 9 Tryd.underlying30 Tryd.underlying5 Tryd.underlying9 A n cap bs HA.out.1 (HA.out.2.2.1.below T4.out.below)
      have he : ((strB (bytesL L)).toList == (strB bs).toList) = q := by rw [hq]; exact str_same (pack_lt _) HA.out.2.2.2.2
      rw [← hm]
      have HQ := Lib.hid (⟨hq, hr⟩ : _ ∧ _)
      generalize strB (bytesL L) = st1 at cv1 he
      generalize strB bs = st2 at cv2 he
      clear hr hv hm hq b4
      cases q with
      | false =>
        have htk := Lib.hid (show takeL bs = (noL, 41) by
          obtain ⟨b, hb⟩ := hrd.out
          exact take_form hb (fun h => absurd h.2 (of_decide_eq_false HQ.out.1.symm)))
        have he2 : (st1.toList != st2.toList) = true := by simp [bne, he]
        go_wp2_with fail
        clear z0 z1 z2 z3 z4 z5 z6 z7 z8 z9 z10
        obtain ⟨V, hV⟩ : ∃ V, V = set11 w.heap.size W4 (.slice none 0 0) (.slice none 0 0) (.slice none 0 0) (.slice none 0 0) (.int .i64 0) (.int .i64 0) (.int .i64 0) (.int .i64 0) (.int .i64 0) (.int .i64 0) (.int .i64 0) := ⟨_, rfl⟩
        have v1 : V.heap[w.heap.size]? = some (.cells (noL.cells noW).toArray 29 (0, 0)) := by rw [hV]; exact set11_box T4.out.zr
        have v2 : Below w.heap.size w V := by rw [hV]; exact set11_below T4.out.below (Nat.le_refl _)
        have v3 : Owned w.heap.size V noW noL [] := owned_no _ _
        unfold set11 at hV
        rw [← hV]
        obtain ⟨z0, z1, z2, z3, z4, z5, z6, z7, z8, z9, z10⟩ := (boxL_heap v1).cells
        refine bodyPost_ret (v := .tuple #[noL.val noW, .int .i64 41]) (by simp [results, Tryd.results12, go_sem, Lay.val, z0, z1, z2, z3, z4, z5, z6, z7, z8, z9, z10]) rfl ⟨⟨noW, [], by rw [htk.out], by rw [htk.out]; exact v3⟩, v2⟩
      | true =>
        have htk := Lib.hid (show takeL bs = (L, 0) by
          obtain ⟨b, hb⟩ := hrd.out
          exact take_some hb ⟨HQ.out.2, of_decide_eq_true HQ.out.1.symm⟩)
        have he2 : (st1.toList != st2.toList) = false := by simp [bne, he]
        obtain ⟨x0, x1, x2, x3, x4, x5, x6, x7, x8, x9, x10⟩ := HB4.out.cells
        have xl := HB4.out.1
        go_wp2_with fail
        clear z0 z1 z2 z3 z4 z5 z6 z7 z8 z9 z10
        obtain ⟨V, hV⟩ : ∃ V, V = set11 w.heap.size W4 (.slice p.a0 L.secs.length p.c0) (.slice p.a1 L.sigs.length p.c1) (.slice p.a2 L.exits.length p.c2) (.slice p.a3 L.flanks.length p.c3) (.int .i64 L.t0) (.int .i64 L.t1) (.int .i64 L.t2) (.int .i64 L.t3) (.int .i64 L.t4) (.int .i64 L.t5) (.int .i64 L.t6) := ⟨_, rfl⟩
        have v1 : V.heap[w.heap.size]? = some (.cells (L.cells p).toArray 29 (0, 0)) := by rw [hV]; exact set11_box T4.out.zr
        have v2 : Below w.heap.size w V := by rw [hV]; exact set11_below T4.out.below (Nat.le_refl _)
        have v3 : Owned w.heap.size V p L es := by rw [hV]; exact (HO4.out.only set11_only (by omega)).base (by omega)
        unfold set11 at hV
        rw [← hV]
        obtain ⟨z0, z1, z2, z3, z4, z5, z6, z7, z8, z9, z10⟩ := (boxL_heap v1).cells
        refine bodyPost_ret (v := .tuple #[L.val p, .int .i64 0]) (by simp [results, Tryd.results12, go_sem, Lay.val, z0, z1, z2, z3, z4, z5, z6, z7, z8, z9, z10]) rfl ⟨⟨p, es, by rw [htk.out], by rw [htk.out]; exact v3⟩, v2⟩

set_option maxRecDepth 100000 in
set_option maxHeartbeats 4000000 in
theorem size8_any (L : Lay) (P : Where) (w : World) (hL : LayAt w P L) : Calls Tryd.prog 16 #[L.val P] w fun e w' => e = .returned (.int .i64 (sizeL L : Nat)) ∧ Below w.heap.size w w' := by
  have HP := Lib.hid (fun W (h : Below w.heap.size w W) => put8r_any L P W (hL.below h))
  clear hL
  obtain ⟨a0, a1, a2, a3, p0, p1, p2, p3⟩ := P
  unfold Lay.val at *
  go_enter Tryd.func16, Tryd.ntmps16
  go_wp2_with fail
  (with_reducible refine (HP.out _ bself).mono ?_)
  intro e w1 hp
  obtain ⟨hc, b1⟩ := hp
  have HB := Lib.hid (bchain bself b1)
  clear b1 HP
  rcases hc with ⟨hr, rfl⟩ | ⟨hr, v, rfl, hv⟩
  · have HS := Lib.hid (show sizeL L = 0 by unfold sizeL; rw [if_neg (by rw [hr]; decide)])
    clear hr
    go_wp2
    go_ret
    exact ⟨by rw [HS.out]; rfl, HB.out⟩
  · obtain ⟨A2, c2, rfl⟩ := ownsV hv
    have HS := Lib.hid (show sizeL L = (bytesL L).length by unfold sizeL; rw [if_pos hr])
    clear hr hv
    go_wp2
    go_ret
    exact ⟨by rw [HS.out]; rfl, HB.out⟩
theorem most8_any (w : World) : Calls Tryd.prog 18 #[] w fun e w' => e = .returned (.int .i64 200) ∧ Below w.heap.size w w' := by
  go_enter Tryd.func18, Tryd.ntmps18
  go_wp2
  go_ret
  exact ⟨rfl, Below.refl _ _⟩
end Go.Proofs.YtpnnbihofoomeaaDoor
