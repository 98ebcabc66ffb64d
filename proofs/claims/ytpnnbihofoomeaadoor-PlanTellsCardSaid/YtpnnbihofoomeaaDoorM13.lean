/-
  lockbarref08.port, takeSection.
-/
import Derived.Test.YtpnnbihofoomeaaDoorM12

namespace Go.Proofs.YtpnnbihofoomeaaDoor
open Go.RowKit Go.Shelf
attribute [local go_sem] Oper.semAt_some

theorem mBind_eq {α β : Type} {m : Mc α} {k : α → Mc β} {f : Nat → Bool} {N : Nat} {s s1 : Nat × Bool} {x : α} (h : m f N s = (x, s1)) : mBind m k f N s = k x f N s1 := by unfold mBind; rw [h]
theorem mMany_next {α : Type} {m : Mc α} {k : Nat} {f : Nat → Bool} {N : Nat} {s s1 s2 : Nat × Bool} {xs : List α} {x : α} (h : mMany m k f N s = (xs, s1)) (h2 : m f N s1 = (x, s2)) : mMany m (k + 1) f N s = (xs ++ [x], s2) := by
  show mBind (mMany m k) (fun xs => mBind m fun x => mRet (xs ++ [x])) f N s = _
  rw [mBind_eq h, mBind_eq h2]
  rfl
theorem mMany_len {α : Type} {m : Mc α} {f : Nat → Bool} {N : Nat} {s : Nat × Bool} : ∀ {k : Nat} {s1 : Nat × Bool} {xs : List α}, mMany m k f N s = (xs, s1) → xs.length = k
  | 0, s1, xs, h => by
    have : xs = [] := (congrArg Prod.fst h).symm
    rw [this]; rfl
  | k + 1, s1, xs, h => by
    obtain ⟨ys, t, e⟩ : ∃ ys t, mMany m k f N s = (ys, t) := ⟨_, _, rfl⟩
    obtain ⟨y, u, e2⟩ : ∃ y u, m f N t = (y, u) := ⟨_, _, rfl⟩
    rw [mMany_next e e2] at h
    have : xs = ys ++ [y] := (congrArg Prod.fst h).symm
    rw [this, List.length_append, mMany_len e]; rfl
section
variable {bs : List Nat} {N : Nat} {A : Option Addr} {n cap rb : Nat} {s s' s0 : Nat × Bool}
theorem num8 (wi : Int) (wd : Nat) (hw : wi = (wd : Int)) (w : World) (h : RfAt bs N A n cap rb s w) (hwd : wd ≤ 32) :
    Calls Tryd.prog 74 #[.pointer (some ⟨rb, 0, none⟩), .int .i64 wi] w (RfPost bs N A n cap rb (fun (x : Nat) v _ => v = .int .i64 x) (mN wd (bitB bs) N s) w) := by
  subst hw
  exact number8_any wd w h hwd
theorem RfAt.frame {w W : World} (h : RfAt bs N A n cap rb s w) (k : Only rb w W) (hb : W.heap[rb]? = some (.cells #[.slice A n cap, .int .i64 N, .int .i64 s'.1, .bool s'.2] 84 (0, 0))) (hs : s'.1 ≤ N) : RfAt bs N A n cap rb s' W := by
  refine ⟨h.hn, ?_, h.ok, hb, h.ne, hs⟩
  rcases h.at_ with e | ⟨b, off, e, hr⟩
  · exact .inl e
  · refine .inr ⟨b, off, e, Nat.lt_of_lt_of_le hr.1 k.size, fun j x hx i v hv => ?_⟩
    exact (World.cell?_of_block (w := w) (a := ⟨b, off + j * 1 + i, none⟩) (k.block b hr.1 (fun e2 => h.ne b off e (by cases e2; rfl)))).trans (hr.2 j x hx i v hv)
/-- A reading function's state: the reader, what is being read (in sb), what will be told (in r0). -/
structure XSt (bs : List Nat) (N : Nat) (A : Option Addr) (n cap rb sb r0 : Nat) (T T' : TypeId) (w V : World) (s : Nat × Bool) (cs zs : Array Value) : Prop where
  rd : RfAt bs N A n cap rb s V
  bx : V.heap[sb]? = some (.cells cs T (0, 0))
  zr : V.heap[r0]? = some (.cells zs T' (0, 0))
  only : Only rb w V
theorem XSt.num {sb r0 : Nat} {T T' : TypeId} {w V V' : World} {cs zs : Array Value} (h : XSt bs N A n cap rb sb r0 T T' w V s cs zs) (r : RfAt bs N A n cap rb s' V') (k : Only rb V V') (h1 : sb ≠ rb) (h2 : r0 ≠ rb) : XSt bs N A n cap rb sb r0 T T' w V' s' cs zs :=
  ⟨r, k.keep h.bx h1, k.keep h.zr h2, h.only.trans k⟩
theorem XSt.below {sb r0 : Nat} {T T' : TypeId} {w V V' : World} {cs zs : Array Value} (h : XSt bs N A n cap rb sb r0 T T' w V s cs zs) (k : Below V.heap.size V V') : XSt bs N A n cap rb sb r0 T T' w V' s cs zs :=
  ⟨h.rd.below k, (k.block _ (Array.getElem?_eq_some_iff.1 h.bx).1).trans h.bx, (k.block _ (Array.getElem?_eq_some_iff.1 h.zr).1).trans h.zr, h.only.trans (.of_below k)⟩
/-- One more store into sb. -/
theorem XSt.set {sb r0 : Nat} {T T' : TypeId} {w V : World} {cs zs : Array Value} {i : Nat} {u : Value} (h : XSt bs N A n cap rb sb r0 T T' w V s cs zs) (H0 : RfAt bs N A n cap rb s0 w) (h1 : sb ≠ rb) (h2 : sb ≠ r0) (h3 : w.heap.size ≤ sb) : XSt bs N A n cap rb sb r0 T T' w (V.setCell ⟨sb, i, none⟩ u) s (cs.setIfInBounds i u) zs := by
  have ho : Only rb w (V.setCell ⟨sb, i, none⟩ u) := h.only.setNew h3
  refine ⟨H0.frame ho ?_ h.rd.pos, heap_setCell_same _ _ _ _ _ _ h.bx, ?_, ho⟩
  · rw [Below.heap_setCell _ _ _ _ (show rb ≠ sb from fun e => h1 e.symm)]
    exact h.rd.bx
  · rw [Below.heap_setCell _ _ _ _ (show r0 ≠ sb from fun e => h2 e.symm)]
    exact h.zr
theorem XSt.setP {sb r0 : Nat} {T' : TypeId} {w V : World} {c : Sec} {zs : Array Value} (h : XSt bs N A n cap rb sb r0 69 T' w V s c.enc.toArray zs) (H0 : RfAt bs N A n cap rb s0 w) (h1 : sb ≠ rb) (h2 : sb ≠ r0) (h3 : w.heap.size ≤ sb) (q : Nat) (hq : q < 4) (x : Prt) :
    XSt bs N A n cap rb sb r0 69 T' w ((V.setCell ⟨sb, 1 + q * 2, none⟩ (.int .i64 x.s)).setCell ⟨sb, 1 + q * 2 + 1, none⟩ (.int .i64 x.p)) s (c.setP q x).enc.toArray zs :=
  have t := (h.set (i := 1 + q * 2) (u := .int .i64 x.s) H0 h1 h2 h3).set (i := 1 + q * 2 + 1) (u := .int .i64 x.p) H0 h1 h2 h3
  ⟨t.rd, heap_join q hq x h.bx, t.zr, t.only⟩
theorem XSt.setC {sb r0 : Nat} {T' : TypeId} {w V : World} {c : Sec} {zs : Array Value} (h : XSt bs N A n cap rb sb r0 69 T' w V s c.enc.toArray zs) (H0 : RfAt bs N A n cap rb s0 w) (h1 : sb ≠ rb) (h2 : sb ≠ r0) (h3 : w.heap.size ≤ sb) (q : Nat) (hq : q < 2) (x : Int) :
    XSt bs N A n cap rb sb r0 69 T' w (V.setCell ⟨sb, 9 + q, none⟩ (.int .i64 x)) s (c.setC q x).enc.toArray zs :=
  have t := h.set (i := 9 + q) (u := .int .i64 x) H0 h1 h2 h3
  ⟨t.rd, heap_class q hq x h.bx, t.zr, t.only⟩

set_option maxRecDepth 100000 in
set_option maxHeartbeats 8000000 in
theorem port8_any (w : World) (h : RfAt bs N A n cap rb s w) :
    Calls Tryd.prog 76 #[.pointer (some ⟨rb, 0, none⟩)] w (RfPost bs N A n cap rb (fun (x : Prt) v _ => v = .agg #[.int .i64 x.s, .int .i64 x.p]) (mPort (bitB bs) N s) w) := by
  have hrl := h.lt
  have hb0 : Below w.heap.size w (w.alloc (.cells #[.int .i64 0, .int .i64 0] 48)) := bself
  have G0 := Lib.hid (⟨h.below hb0, World.alloc_heap_new w (.cells #[.int .i64 0, .int .i64 0] 48), Only.of_below hb0⟩ : RfAt bs N A n cap rb s (w.alloc (.cells #[.int .i64 0, .int .i64 0] 48)) ∧ _ ∧ Only rb w _)
  have H0 := Lib.hid h
  clear h hb0
  go_enter Tryd.func76, Tryd.ntmps76
  go_wp2_with fail
  (with_reducible refine (num8 5 5 rfl _ G0.out.1 (by decide)).mono ?_)
  intro e W1 hp
  obtain ⟨⟨v, rfl, rfl⟩, r1, k1⟩ := hp
  obtain ⟨m1, hm1⟩ : ∃ m1, m1 = mN 5 (bitB bs) N s := ⟨_, rfl⟩
  rw [← hm1] at r1 ⊢
  have G1 := Lib.hid (⟨r1, k1.keep G0.out.2.1 (by omega), G0.out.2.2.trans k1, hm1⟩ : RfAt bs N A n cap rb m1.2 W1 ∧ _ ∧ Only rb w W1 ∧ _)
  clear r1 k1 hm1 G0
  obtain ⟨x1, s1⟩ := m1
  dsimp only
  go_wp2_with fail
  (with_reducible refine (num8 2 2 rfl _ G1.out.1 (by decide)).mono ?_)
  intro e W2 hp
  obtain ⟨⟨v, rfl, rfl⟩, r2, k2⟩ := hp
  obtain ⟨m2, hm2⟩ : ∃ m2, m2 = mN 2 (bitB bs) N s1 := ⟨_, rfl⟩
  rw [← hm2] at r2 ⊢
  have hb2 := k2.keep G1.out.2.1 (by omega)
  have y0 : W2.cell? ⟨w.heap.size, 0, none⟩ = some (.int .i64 0) := by simp [World.cell?, hb2]
  have y1 : W2.cell? ⟨w.heap.size, 1, none⟩ = some (.int .i64 0) := by simp [World.cell?, hb2]
  have yl := (Array.getElem?_eq_some_iff.1 hb2).1
  have yf : ∀ o, W2.frozen? ⟨w.heap.size, o, none⟩ = false := fun o => frozen_of_row _ _ _ _ _ hb2
  have G2 := Lib.hid (⟨r2, hb2, G1.out.2.2.1.trans k2, hm2⟩ : RfAt bs N A n cap rb m2.2 W2 ∧ _ ∧ Only rb w W2 ∧ _)
  have HM := Lib.hid (show mPort (bitB bs) N s = (⟨x1, m2.1⟩, m2.2) by rw [mPort, mBind_eq G1.out.2.2.2.symm, mBind_eq hm2.symm]; rfl)
  clear r2 k2 hm2 hb2 G1
  obtain ⟨x2, s2⟩ := m2
  dsimp only
  go_wp2_with fail
  have ho : Only rb w ((W2.setCell ⟨w.heap.size, 0, none⟩ (.int .i64 x1)).setCell ⟨w.heap.size, 1, none⟩ (.int .i64 x2)) := (G2.out.2.2.1.setNew (Nat.le_refl _)).setNew (Nat.le_refl _)
  refine bodyPost_ret (v := .agg #[.int .i64 x1, .int .i64 x2]) (by simp [results, Tryd.results76, go_sem, y0, y1]) rfl ?_
  rw [HM.out]
  refine ⟨⟨_, rfl, rfl⟩, H0.out.frame ho ?_ G2.out.1.pos, ho⟩
  iterate 2 rw [Below.heap_setCell _ _ _ _ (show rb ≠ w.heap.size by omega)]
  exact G2.out.1.bx

set_option maxRecDepth 100000 in
set_option maxHeartbeats 16000000 in
theorem section9_any (w : World) (h : RfAt bs N A n cap rb s w) :
    Calls Tryd.prog 75 #[.pointer (some ⟨rb, 0, none⟩)] w (RfPost bs N A n cap rb (fun (x : Sec) v _ => v = .agg x.enc.toArray ∧ 0 ≤ x.k ∧ x.k ≤ 255) (mSec (bitB bs) N s) w) := by
  have hrl := h.lt
  have hb0 : Below w.heap.size w (w.alloc (.cells #[.int .u8 0, .int .i64 0, .int .i64 0, .int .i64 0, .int .i64 0, .int .i64 0, .int .i64 0, .int .i64 0, .int .i64 0, .int .i64 0, .int .i64 0] 69)) := bself
  have G0 := Lib.hid (⟨h.below hb0, World.alloc_heap_new w (.cells #[.int .u8 0, .int .i64 0, .int .i64 0, .int .i64 0, .int .i64 0, .int .i64 0, .int .i64 0, .int .i64 0, .int .i64 0, .int .i64 0, .int .i64 0] 69), Only.of_below hb0⟩ : RfAt bs N A n cap rb s (w.alloc (.cells #[.int .u8 0, .int .i64 0, .int .i64 0, .int .i64 0, .int .i64 0, .int .i64 0, .int .i64 0, .int .i64 0, .int .i64 0, .int .i64 0, .int .i64 0] 69)) ∧ _ ∧ Only rb w _)
  have H0 := Lib.hid h
  clear h hb0
  obtain ⟨r0, hr0⟩ : ∃ r0, r0 = w.heap.size := ⟨_, rfl⟩
  have hz0 : r0 ≠ rb := by omega
  go_enter Tryd.func75, Tryd.ntmps75
  go_wp2_with fail
  (with_reducible refine (num8 2 2 rfl _ G0.out.1 (by decide)).mono ?_)
  intro e W1 hp
  obtain ⟨⟨v, rfl, rfl⟩, r1, k1⟩ := hp
  obtain ⟨m1, hm1⟩ : ∃ m1, m1 = mN 2 (bitB bs) N s := ⟨_, rfl⟩
  have hk4 : m1.1 < 4 := by rw [hm1]; exact mN_lt 2 _ _ _
  rw [← hm1] at r1 ⊢
  obtain ⟨k, s1⟩ := m1
  dsimp only at hk4 r1 ⊢
  have eu : IntKind.u8.wrap (k : Int) = k := IntWalk.u8_in _ (by omega)
  obtain ⟨sb, hsb⟩ : ∃ sb, sb = W1.heap.size := ⟨_, rfl⟩
  obtain ⟨V, hV⟩ : ∃ V, V = W1.alloc (.cells (mid k [] 0 []).enc.toArray 69) := ⟨_, rfl⟩
  have hbV : Below W1.heap.size W1 V := by rw [hV]; exact bself
  have hszs := k1.size
  have hr0s : r0 < W1.heap.size := by rw [hr0]; simp at hszs; omega
  have hs1 : sb ≠ rb := by rw [hsb]; have := r1.lt; omega
  have hs2 : sb ≠ r0 := by rw [hsb]; omega
  have hs3 : w.heap.size ≤ sb := by rw [hsb, ← hr0]; omega
  have G1 : Hid (XSt bs N A n cap rb sb r0 69 69 w V s1 (mid k [] 0 []).enc.toArray #[.int .u8 0, .int .i64 0, .int .i64 0, .int .i64 0, .int .i64 0, .int .i64 0, .int .i64 0, .int .i64 0, .int .i64 0, .int .i64 0, .int .i64 0]) := Lib.hid ⟨r1.below hbV, by rw [hV, hsb]; exact World.alloc_heap_new _ _, (hbV.block _ hr0s).trans (by rw [hr0]; exact k1.keep G0.out.2.1 (by omega)), (G0.out.2.2.trans k1).trans (.of_below hbV)⟩
  rw [← hr0]
  have HR0 := Lib.hid (⟨hr0, hm1⟩ : _ ∧ _)
  clear hbV hszs hr0s r1 k1 G0 hr0 hm1
  go_wp2_with fail
  have hV' : V = W1.alloc (.cells #[.int .u8 k, .int .i64 0, .int .i64 0, .int .i64 0, .int .i64 0, .int .i64 0, .int .i64 0, .int .i64 0, .int .i64 0, .int .i64 0, .int .i64 0] 69) := hV
  try rw [← hV']
  rw [← hsb]
  clear hV hV' hsb
  obtain ⟨P, hP⟩ : ∃ P, P = (kPorts k).toNat := ⟨_, rfl⟩
  have hPk : kPorts k = (P : Int) := by have := kPorts_nn k; omega
  have hP4 : P ≤ 4 := by have := kPorts_le (k : Int); omega
  have HPK := Lib.hid (⟨hPk, hP⟩ : _ ∧ _)
  clear hPk hP
  go_loopw [4] (fun cc wr => ∃ (q : Nat) (js : List Prt) (s2 : Nat × Bool), q ≤ 4 ∧ cc = .int .i64 q ∧ Hid (mMany mJoin (min q P) (bitB bs) N s1 = (js, s2)) ∧ Hid (XSt bs N A n cap rb sb r0 69 69 w wr s2 (mid k js q []).enc.toArray #[.int .u8 0, .int .i64 0, .int .i64 0, .int .i64 0, .int .i64 0, .int .i64 0, .int .i64 0, .int .i64 0, .int .i64 0, .int .i64 0, .int .i64 0])) (fun cc _ => 4 - (intOf cc).toNat)
  case atStart => exact ⟨0, [], s1, Nat.zero_le _, rfl, Lib.hid (by rw [Nat.zero_min]; rfl), G1⟩
  case round =>
    obtain ⟨q, js, s2, hq, rfl, HM, HS⟩ := hrel
    clear G1
    by_cases hlt4 : q < 4
    · have hl4 : (q : Int) < 4 := by omega
      obtain ⟨y1, y2⟩ := (boxS_heap HS.out.bx).ports q hlt4
      have yf : ∀ o, wr.frozen? ⟨sb, o, none⟩ = false := fun o => frozen_of_row _ _ _ _ _ HS.out.bx
      have yl := (Array.getElem?_eq_some_iff.1 HS.out.bx).1
      go_upto_region 6 with fail
      obtain ⟨V2, hV2⟩ : ∃ V, V = (wr.setCell ⟨sb, 1 + q * 2, none⟩ (.int .i64 (-1))).setCell ⟨sb, 1 + q * 2 + 1, none⟩ (.int .i64 0) := ⟨_, rfl⟩
      rw [← hV2]
      have G2 : Hid (XSt bs N A n cap rb sb r0 69 69 w V2 s2 ((mid k js q []).setP q ⟨-1, 0⟩).enc.toArray #[.int .u8 0, .int .i64 0, .int .i64 0, .int .i64 0, .int .i64 0, .int .i64 0, .int .i64 0, .int .i64 0, .int .i64 0, .int .i64 0, .int .i64 0]) := Lib.hid (by rw [hV2]; exact HS.out.setP H0.out hs1 hs2 hs3 q hlt4 ⟨-1, 0⟩)
      clear hV2 y1 y2 yf yl HS
      have x0 : V2.cell? ⟨sb, 0, none⟩ = some (.int .u8 k) := by rw [(boxS_heap G2.out.bx).cells.1, setP_k]; rfl
      have l0 := (boxS_heap G2.out.bx).1
      go_wp2_with fail
      (with_reducible refine (rPorts_any k _).mono ?_)
      rintro e W3 ⟨rfl, b3⟩
      have G3 := Lib.hid (G2.out.below b3)
      clear b3 x0 l0 G2
      by_cases hlt : q < P
      · have hpi : (q : Int) < kPorts k := by rw [HPK.out.1]; omega
        have hM1 := HM.out
        rw [Nat.min_eq_left (by omega)] at hM1
        have HM1 := Lib.hid hM1
        clear hM1 HM
        go_wp2_with fail
        (with_reducible refine (num8 1 1 rfl _ G3.out.rd (by decide)).mono ?_)
        intro e W4 hp
        obtain ⟨⟨v, rfl, rfl⟩, rr, kk⟩ := hp
        obtain ⟨m4, hm4⟩ : ∃ m4, m4 = mN 1 (bitB bs) N s2 := ⟨_, rfl⟩
        have hb2 : m4.1 < 2 := by rw [hm4]; exact mN_lt 1 _ _ _
        rw [← hm4] at rr ⊢
        have G4 := Lib.hid (G3.out.num rr kk hs1 hz0)
        have HM4 := Lib.hid hm4
        clear rr kk hm4 G3
        obtain ⟨x, s4⟩ := m4
        dsimp only at hb2 ⊢
        by_cases hx : x = 1
        · subst hx
          go_wp2_with fail
          (with_reducible refine (port8_any _ G4.out.rd).mono ?_)
          intro e W5 hp
          obtain ⟨⟨v, rfl, rfl⟩, rr, kk⟩ := hp
          obtain ⟨m5, hm5⟩ : ∃ m5, m5 = mPort (bitB bs) N s4 := ⟨_, rfl⟩
          rw [← hm5] at rr ⊢
          have G5 := Lib.hid (G4.out.num rr kk hs1 hz0)
          have hj : mJoin (bitB bs) N s2 = (m5.1, m5.2) := by rw [mJoin, mBind_eq HM4.out.symm, if_pos (by decide), ← hm5]
          have HJ := Lib.hid hj
          clear rr kk hm5 G4 hj
          obtain ⟨⟨ps, pp⟩, s5⟩ := m5
          dsimp only
          obtain ⟨y1, y2⟩ := (boxS_heap G5.out.bx).ports q hlt4
          have yf : ∀ o, W5.frozen? ⟨sb, o, none⟩ = false := fun o => frozen_of_row _ _ _ _ _ G5.out.bx
          have yl := (Array.getElem?_eq_some_iff.1 G5.out.bx).1
          go_wp2_with fail
          go_roundw
          case measure => simp [intOf]; omega
          case rel =>
            refine ⟨q + 1, js ++ [⟨ps, pp⟩], s5, by omega, by go_num, Lib.hid (by rw [Nat.min_eq_left (by omega)]; exact mMany_next HM1.out HJ.out), Lib.hid ?_⟩
            rw [← mid_on hlt4 (mMany_len HM1.out)]
            exact G5.out.setP H0.out hs1 hs2 hs3 q hlt4 ⟨ps, pp⟩
        · have hx0 : x = 0 := by omega
          subst hx0
          have hj : mJoin (bitB bs) N s2 = (⟨-1, 0⟩, s4) := by rw [mJoin, mBind_eq HM4.out.symm]; rfl
          have HJ := Lib.hid hj
          clear hj hx
          go_wp2_with fail
          go_roundw
          case measure => simp [intOf]; omega
          case rel =>
            refine ⟨q + 1, js ++ [⟨-1, 0⟩], s4, by omega, by go_num, Lib.hid (by rw [Nat.min_eq_left (by omega)]; exact mMany_next HM1.out HJ.out), Lib.hid ?_⟩
            rw [← mid_on hlt4 (mMany_len HM1.out)]
            have e2 : ((mid k js q []).setP q ⟨-1, 0⟩).setP q ⟨-1, 0⟩ = (mid k js q []).setP q ⟨-1, 0⟩ := by
              obtain rfl | rfl | rfl | rfl : q = 0 ∨ q = 1 ∨ q = 2 ∨ q = 3 := by omega
              all_goals rfl
            rw [e2]
            exact G4.out
      · have hpi : ¬ (q : Int) < kPorts k := by rw [HPK.out.1]; omega
        go_wp2_with fail
        go_roundw
        case measure => simp [intOf]; omega
        case rel =>
          have h1 := HM.out
          rw [Nat.min_eq_right (by omega)] at h1
          have hjl : js.length ≤ q := by rw [mMany_len h1]; omega
          refine ⟨q + 1, js, s2, by omega, by go_num, Lib.hid (by rw [Nat.min_eq_right (by omega)]; exact h1), Lib.hid ?_⟩
          rw [← mid_off hlt4 hjl]
          exact G3.out
    · have hl4 : ¬ (q : Int) < 4 := by omega
      have hq4 : q = 4 := by omega
      have HMP := Lib.hid (show mMany mJoin P (bitB bs) N s1 = (js, s2) by have := HM.out; rwa [Nat.min_eq_right (by omega)] at this)
      clear HM
      subst hq4
      obtain ⟨M, hM⟩ : ∃ M, M = (kMany k).toNat := ⟨_, rfl⟩
      have hm0 : 0 ≤ kMany k := by unfold kMany; split <;> (try split) <;> (try split) <;> omega
      have hm2 : M ≤ 2 := by have := kMany_le k; omega
      have HMK := Lib.hid (⟨by omega, hM⟩ : kMany k = (M : Int) ∧ _)
      clear hM hm0
      go_wp2_with fail
      go_loopw [5] (fun cc wv => ∃ (i : Nat) (cs : List Nat) (s3 : Nat × Bool), i ≤ M ∧ cc = .int .i64 i ∧ Hid (mMany (mN 2) i (bitB bs) N s2 = (cs, s3)) ∧ Hid (XSt bs N A n cap rb sb r0 69 69 w wv s3 (mid k js 4 cs).enc.toArray #[.int .u8 0, .int .i64 0, .int .i64 0, .int .i64 0, .int .i64 0, .int .i64 0, .int .i64 0, .int .i64 0, .int .i64 0, .int .i64 0, .int .i64 0])) (fun cc _ => M - (intOf cc).toNat)
      case atStart => exact ⟨0, [], s2, Nat.zero_le _, rfl, Lib.hid rfl, HS⟩
      case round =>
        obtain ⟨i, cs, s3, hi, rfl, HN, HT⟩ := hrel
        clear HS
        have x0 : wr.cell? ⟨sb, 0, none⟩ = some (.int .u8 k) := (boxS_heap HT.out.bx).cells.1
        have l0 := (boxS_heap HT.out.bx).1
        go_wp2_with fail
        (with_reducible refine (rWays_any k _).mono ?_)
        rintro e W3 ⟨rfl, b3⟩
        rw [HMK.out.1]
        have G3 := Lib.hid (HT.out.below b3)
        clear b3 x0 l0 HT
        by_cases hlt : i < M
        · have hli : (i : Int) < (M : Int) := by omega
          have hi2 : i < 2 := by omega
          have hli2 : (i : Int) < 2 := by omega
          go_wp2_with fail
          (with_reducible refine (num8 2 2 rfl _ G3.out.rd (by decide)).mono ?_)
          intro e W4 hp
          obtain ⟨⟨v, rfl, rfl⟩, rr, kk⟩ := hp
          obtain ⟨m4, hm4⟩ : ∃ m4, m4 = mN 2 (bitB bs) N s3 := ⟨_, rfl⟩
          rw [← hm4] at rr ⊢
          have G4 := Lib.hid (G3.out.num rr kk hs1 hz0)
          have HM4 := Lib.hid hm4
          clear rr kk hm4 G3
          obtain ⟨x, s4⟩ := m4
          dsimp only
          have y1 := (boxS_heap G4.out.bx).classes i hi2
          have yf : ∀ o, W4.frozen? ⟨sb, o, none⟩ = false := fun o => frozen_of_row _ _ _ _ _ G4.out.bx
          have yl := (Array.getElem?_eq_some_iff.1 G4.out.bx).1
          go_wp2_with fail
          go_roundw
          case measure => simp [intOf]; omega
          case rel =>
            refine ⟨i + 1, cs ++ [x], s4, by omega, by go_num, Lib.hid (mMany_next HN.out HM4.out.symm), Lib.hid ?_⟩
            rw [← mid_c hi2 (mMany_len HN.out)]
            exact G4.out.setC H0.out hs1 hs2 hs3 i hi2 x
        · obtain rfl : i = M := by omega
          have hli : ¬ ((i : Nat) : Int) < (i : Int) := by omega
          have hsec : mSec (bitB bs) N s = (mid k js 4 cs, s3) := by
            rw [mSec, mBind_eq HR0.out.2.symm]
            show mBind (mMany mJoin (kPorts k).toNat) _ _ _ _ = _
            rw [← HPK.out.2, mBind_eq HMP.out]
            show mBind (mMany (mN 2) (kMany k).toNat) _ _ _ _ = _
            rw [← HMK.out.2, mBind_eq HN.out]
            rfl
          have hck : 0 ≤ (mid k js 4 cs).k ∧ (mid k js 4 cs).k ≤ 255 := by
            show 0 ≤ (k : Int) ∧ (k : Int) ≤ 255
            omega
          obtain ⟨c, hc⟩ : ∃ c, c = mid k js 4 cs := ⟨_, rfl⟩
          rw [← hc] at G3 hsec hck
          have HSEC := Lib.hid (⟨hsec, hck⟩ : _ ∧ _)
          clear hc hsec hck HN HMP HMK HPK
          obtain ⟨y0, y1, y2, y3, y4, y5, y6, y7, y8, y9, y10⟩ := (boxS_heap G3.out.bx).cells
          obtain ⟨z0, z1, z2, z3, z4, z5, z6, z7, z8, z9, z10⟩ := (boxS_heap (c := zeroSec) G3.out.zr).cells
          have yl := (boxS_heap G3.out.bx).1
          have zl := (boxS_heap (c := zeroSec) G3.out.zr).1
          have zf : ∀ o, W3.frozen? ⟨r0, o, none⟩ = false := fun o => frozen_of_row _ _ _ _ _ G3.out.zr
          go_wp2_with fail
          have hr0 := HR0.out.1
          refine bodyPost_ret (v := .agg c.enc.toArray) (by simp [results, Tryd.results75, go_sem, Sec.enc, z0, z1, z2, z3, z4, z5, z6, z7, z8, z9, z10]) rfl ?_
          rw [HSEC.out.1]
          have ho : Only rb w ((((((((((((W3.setCell ⟨r0, 0, none⟩ (.int .u8 c.k)).setCell ⟨r0, 1, none⟩ (.int .i64 c.s0)).setCell ⟨r0, 2, none⟩ (.int .i64 c.p0)).setCell ⟨r0, 3, none⟩ (.int .i64 c.s1)).setCell ⟨r0, 4, none⟩ (.int .i64 c.p1)).setCell ⟨r0, 5, none⟩ (.int .i64 c.s2)).setCell ⟨r0, 6, none⟩ (.int .i64 c.p2)).setCell ⟨r0, 7, none⟩ (.int .i64 c.s3)).setCell ⟨r0, 8, none⟩ (.int .i64 c.p3)).setCell ⟨r0, 9, none⟩ (.int .i64 c.c0)).setCell ⟨r0, 10, none⟩ (.int .i64 c.c1))) := by
            repeat refine Only.setNew ?_ (by dsimp only; omega)
            exact G3.out.only
          refine ⟨⟨_, rfl, rfl, HSEC.out.2⟩, H0.out.frame ho ?_ G3.out.rd.pos, ho⟩
          iterate 11 rw [Below.heap_setCell _ _ _ _ (show rb ≠ r0 from fun e => hz0 e.symm)]
          exact G3.out.rd.bx
end
end Go.Proofs.YtpnnbihofoomeaaDoor
