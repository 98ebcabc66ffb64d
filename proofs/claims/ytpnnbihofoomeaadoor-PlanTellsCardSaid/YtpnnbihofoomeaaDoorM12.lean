/-
  lockbarref08.number, port: a reader that goes on when bits have ended.
-/
import Derived.Test.YtpnnbihofoomeaaDoorM11

namespace Go.Proofs.YtpnnbihofoomeaaDoor
open Go.RowKit Go.Shelf
attribute [local go_sem] Oper.semAt_some

/-- A reader as a machine: where it is, whether bits have ended. -/
def Mc (α : Type) : Type := (Nat → Bool) → Nat → Nat × Bool → α × (Nat × Bool)
def mN (w : Nat) : Mc Nat := fun f N s => if s.2 = false ∧ s.1 + w ≤ N then (takeN f s.1 w, (s.1 + w, false)) else (0, (s.1, true))
def mBind {α β : Type} (m : Mc α) (k : α → Mc β) : Mc β := fun f N s => k (m f N s).1 f N (m f N s).2
def mRet {α : Type} (x : α) : Mc α := fun _ _ s => (x, s)
def mMany {α : Type} (m : Mc α) : Nat → Mc (List α)
  | 0 => mRet []
  | k + 1 => mBind (mMany m k) fun xs => mBind m fun x => mRet (xs ++ [x])
def mPort : Mc Prt := mBind (mN 5) fun s => mBind (mN 2) fun p => mRet ⟨s, p⟩
def mFlank : Mc Flk := mBind (mN 5) fun s => mBind (mN 1) fun w => mBind (mN 5) fun p => mBind (mN 1) fun q => mRet ⟨s, w, p, q⟩
def mStp : Mc Stp := mBind (mN 5) fun s => mBind (mN 2) fun i => mBind (mN 2) fun o => mRet ⟨s, i, o⟩
def mExit : Mc Ext' := mBind mPort fun p => mBind (mN 2) fun m => mBind (mMany mStp m) fun o => mRet ⟨p.s, p.p, o⟩
def mJoin : Mc Prt := mBind (mN 1) fun b => if 0 < b then mPort else mRet ⟨-1, 0⟩
def mSec : Mc Sec := mBind (mN 2) fun k => mBind (mMany mJoin (kPorts k).toNat) fun js => mBind (mMany (mN 2) (kMany k).toNat) fun cs => mRet (mid k js 4 cs)
def mTime : Mc Int := mBind (mN 10) fun t => mRet ((t : Int) + 1)
def mLay : Mc Lay := mBind (mN 5) fun n0 => mBind (mN 4) fun n1 => mBind (mN 4) fun n2 => mBind (mN 5) fun n3 =>
  mBind (mMany mSec n0) fun a => mBind (mMany mPort n1) fun b => mBind (mMany mExit n2) fun c => mBind (mMany mFlank n3) fun d => mBind (mMany mTime 7) fun t => mRet (layOf a b c d t)
/-- The machine is the reader that stops: where that one reads, it reads the same; else its bits have ended. -/
def Sim {α : Type} (r : Rd α) (m : Mc α) : Prop := ∀ (f : Nat → Bool) (N a : Nat), (∀ x b, r f N a = some (x, b) → m f N (a, false) = (x, (b, false))) ∧ (r f N a = none → (m f N (a, false)).2.2 = true) ∧ (m f N (a, true)).2.2 = true
theorem Sim.ret {α : Type} (x : α) : Sim (rdRet x) (mRet x) := fun f N a => ⟨fun y b h => by simp [rdRet] at h; simp [mRet, h], fun h => by simp [rdRet] at h, rfl⟩
theorem Sim.num (w : Nat) : Sim (rdN w) (mN w) := fun f N a => by
  refine ⟨fun x b h => ?_, fun h => ?_, by simp [mN]⟩
  · unfold rdN at h
    split at h
    · rename_i hh
      obtain ⟨rfl, rfl⟩ : takeN f a w = x ∧ a + w = b := by simpa using h
      simp [mN, hh]
    · cases h
  · unfold rdN at h
    split at h
    · cases h
    · rename_i hh
      simp [mN, hh]
theorem Sim.bind {α β : Type} {r : Rd α} {m : Mc α} {k : α → Rd β} {k' : α → Mc β} (h : Sim r m) (h' : ∀ x, Sim (k x) (k' x)) : Sim (rdBind r k) (mBind m k') := fun f N a => by
  obtain ⟨h1, h2, h3⟩ := h f N a
  have down : ∀ s : Nat × Bool, (m f N s).2.2 = true → (mBind m k' f N s).2.2 = true := fun s hs => by
    unfold mBind
    obtain ⟨x, b, e⟩ : ∃ x b, m f N s = (x, (b, true)) := ⟨(m f N s).1, (m f N s).2.1, by rw [← hs]⟩
    rw [e]
    exact (h' x f N b).2.2
  refine ⟨fun y b hh => ?_, fun hh => ?_, down _ h3⟩
  · unfold rdBind at hh
    split at hh
    · rename_i x c e
      unfold mBind
      rw [h1 x c e]
      exact (h' x f N c).1 y b hh
    · cases hh
  · unfold rdBind at hh
    split at hh
    · rename_i x c e
      unfold mBind
      rw [h1 x c e]
      exact (h' x f N c).2.1 hh
    · rename_i e
      exact down _ (h2 e)
theorem Sim.many {α : Type} {r : Rd α} {m : Mc α} (h : Sim r m) : ∀ n, Sim (rdMany r n) (mMany m n)
  | 0 => Sim.ret _
  | n + 1 => (Sim.many h n).bind fun _ => h.bind fun _ => Sim.ret _
theorem sim_port : Sim rdPort mPort := (Sim.num 5).bind fun _ => (Sim.num 2).bind fun _ => Sim.ret _
theorem sim_flank : Sim rdFlank mFlank := (Sim.num 5).bind fun _ => (Sim.num 1).bind fun _ => (Sim.num 5).bind fun _ => (Sim.num 1).bind fun _ => Sim.ret _
theorem sim_step : Sim rdStp mStp := (Sim.num 5).bind fun _ => (Sim.num 2).bind fun _ => (Sim.num 2).bind fun _ => Sim.ret _
theorem sim_exit : Sim rdExit mExit := sim_port.bind fun _ => (Sim.num 2).bind fun _ => (Sim.many sim_step _).bind fun _ => Sim.ret _
theorem sim_join : Sim rdJoin mJoin := (Sim.num 1).bind fun b => by
  by_cases h : 0 < b
  · rw [if_pos h, if_pos h]; exact sim_port
  · rw [if_neg h, if_neg h]; exact Sim.ret _
theorem sim_sec : Sim rdSec mSec := (Sim.num 2).bind fun _ => (Sim.many sim_join _).bind fun _ => (Sim.many (Sim.num 2) _).bind fun _ => Sim.ret _
theorem sim_time : Sim rdTime mTime := (Sim.num 10).bind fun _ => Sim.ret _
theorem sim_lay : Sim rdLay mLay := (Sim.num 5).bind fun _ => (Sim.num 4).bind fun _ => (Sim.num 4).bind fun _ => (Sim.num 5).bind fun _ =>
  (Sim.many sim_sec _).bind fun _ => (Sim.many sim_port _).bind fun _ => (Sim.many sim_exit _).bind fun _ => (Sim.many sim_flank _).bind fun _ => (Sim.many sim_time _).bind fun _ => Sim.ret _
theorem mN_lt (w : Nat) (f : Nat → Bool) (N : Nat) (s : Nat × Bool) : (mN w f N s).1 < 2 ^ w := by
  unfold mN
  split
  · exact takeN_lt f s.1 w
  · exact Nat.two_pow_pos w

/-- The reader in its block. -/
structure RfAt (bs : List Nat) (N : Nat) (A : Option Addr) (n cap rb : Nat) (s : Nat × Bool) (W : World) : Prop where
  hn : n = bs.length
  at_ : At W 1 bEnc A bs
  ok : BitsOk bs N
  bx : W.heap[rb]? = some (.cells #[.slice A n cap, .int .i64 N, .int .i64 s.1, .bool s.2] 84 (0, 0))
  ne : ∀ b off, A = some ⟨b, off, none⟩ → b ≠ rb
  pos : s.1 ≤ N
section
variable {bs : List Nat} {N : Nat} {A : Option Addr} {n cap rb : Nat} {s s' : Nat × Bool}
theorem RfAt.lt {W : World} (h : RfAt bs N A n cap rb s W) : rb < W.heap.size := (Array.getElem?_eq_some_iff.1 h.bx).1
theorem RfAt.below {W W' : World} (h : RfAt bs N A n cap rb s W) (k : Below W.heap.size W W') : RfAt bs N A n cap rb s W' :=
  ⟨h.hn, h.at_.below k, h.ok, (k.block _ h.lt).trans h.bx, h.ne, h.pos⟩
theorem at_set {W : World} {A : Option Addr} {bs : List Nat} {rb o : Nat} {u : Value} (h : At W 1 bEnc A bs) (ne : ∀ b off, A = some ⟨b, off, none⟩ → b ≠ rb) : At (W.setCell ⟨rb, o, none⟩ u) 1 bEnc A bs := by
  rcases h with e | ⟨b, off, e, hr⟩
  · exact .inl e
  · refine .inr ⟨b, off, e, by simpa [World.setCell] using hr.1, fun j x hx i v hv => ?_⟩
    exact (World.cell?_of_block (w := W) (a := ⟨b, off + j * 1 + i, none⟩) (Below.heap_setCell _ _ _ _ (ne b off e))).trans (hr.2 j x hx i v hv)
theorem RfAt.go {W : World} {a a' : Nat} {q : Bool} (h : RfAt bs N A n cap rb (a, q) W) (ha : a' ≤ N) : RfAt bs N A n cap rb (a', q) (W.setCell ⟨rb, 2, none⟩ (.int .i64 a')) := by
  refine ⟨h.hn, at_set h.at_ h.ne, h.ok, ?_, h.ne, ha⟩
  rw [heap_setCell_same _ _ _ _ _ _ h.bx]
  rfl
theorem RfAt.stop {W : World} {a : Nat} {q : Bool} (h : RfAt bs N A n cap rb (a, q) W) : RfAt bs N A n cap rb (a, true) (W.setCell ⟨rb, 3, none⟩ (.bool true)) := by
  refine ⟨h.hn, at_set h.at_ h.ne, h.ok, ?_, h.ne, h.pos⟩
  rw [heap_setCell_same _ _ _ _ _ _ h.bx]
  rfl
/-- What a reading function of the document does. -/
def RfPost {α : Type} (bs : List Nat) (N : Nat) (A : Option Addr) (n cap rb : Nat) (R : α → Value → World → Prop) (m : α × (Nat × Bool)) (W : World) (e : Ending) (W' : World) : Prop :=
  (∃ v, e = .returned v ∧ R m.1 v W') ∧ RfAt bs N A n cap rb m.2 W' ∧ Only rb W W'

set_option maxRecDepth 100000 in
set_option maxHeartbeats 8000000 in
theorem number8_any (wd : Nat) (w : World) (h : RfAt bs N A n cap rb s w) (hwd : wd ≤ 32) :
    Calls Tryd.prog 74 #[.pointer (some ⟨rb, 0, none⟩), .int .i64 wd] w (RfPost bs N A n cap rb (fun (x : Nat) v _ => v = .int .i64 x) (mN wd (bitB bs) N s) w) := by
  obtain ⟨a, q⟩ := s
  have hN : N ≤ 8000 := h.ok.2.1
  have ha : a ≤ N := h.pos
  have c0 : ∀ V', ClB w V' → V'.cell? ⟨rb, 0, none⟩ = some (.slice A n cap) := fun V' k => by simp [World.cell?, (h.below k).bx]
  have c1 : ∀ V', ClB w V' → V'.cell? ⟨rb, 1, none⟩ = some (.int .i64 N) := fun V' k => by simp [World.cell?, (h.below k).bx]
  have c2 : ∀ V', ClB w V' → V'.cell? ⟨rb, 2, none⟩ = some (.int .i64 a) := fun V' k => by simp [World.cell?, (h.below k).bx]
  obtain ⟨x, y, hxy⟩ : ∃ x y : Int, (if a + wd ≤ N then Value.tuple #[.int .i64 (takeN (bitB bs) a wd : Nat), .int .i64 0] else .tuple #[.int .i64 0, .int .i64 40]) = .tuple #[.int .i64 x, .int .i64 y] ∧ ((a + wd ≤ N ∧ x = (takeN (bitB bs) a wd : Nat) ∧ y = 0) ∨ (¬ a + wd ≤ N ∧ x = 0 ∧ y = 40)) := by
    by_cases hh : a + wd ≤ N
    · exact ⟨_, _, by rw [if_pos hh], .inl ⟨hh, rfl, rfl⟩⟩
    · exact ⟨_, _, by rw [if_neg hh], .inr ⟨hh, rfl, rfl⟩⟩
  have HT := Lib.hid (fun W (k : ClB w W) => by
    have h1 := rbTake_any A n cap N bs a wd W h.hn (h.below k).at_ h.ok (by omega) hwd
    rw [hxy.1] at h1
    exact h1)
  have HXY := Lib.hid hxy.2
  have H := Lib.hid h
  clear h hxy
  go_enter Tryd.func74, Tryd.ntmps74
  go_upto_region 1 with fail
  refine wp_region_rel_below [([(0, none)], none), ([(8, some 0)], none), ([(9, some 0)], none), ([(10, some 0)], none), ([(0, none)], none), ([(12, some 0)], none), ([(13, some 0)], none), ([(14, some 0)], none), ([(1, none)], none), ([(11, some 5), (15, some 1), (16, some 0)], none), ([(17, some 0)], none), ([(7, some 0)], none), ([(7, some 1)], none), ([(18, some 1)], none), ([(19, some 1)], none)] [(1, 5), (0, 6)] (by kernel_rfl) (by kernel_rfl) ?_
  refine ob_det (c := .pointer (some ⟨rb, 0, none⟩)) ?_ ?_
  · intro ρ W hk hC
    simp only [seen, obOp]
    rintro h0
    replace h0 : ρ (.tmp 0) = .pointer (some ⟨rb, 0, none⟩) := h0.trans rfl
    exact rel_value (by simp [go_sem, h0]) hC
  refine ob_det (c := .pointer (some ⟨rb, 0, none⟩)) ?_ ?_
  · intro ρ W hk hC
    simp only [seen, obOp, List.getD_cons_zero]
    rintro h8
    exact rel_value (by simp [go_sem, h8]) hC
  refine ob_det (c := .pointer (some ⟨rb, 0, none⟩)) ?_ ?_
  · intro ρ W hk hC
    simp only [seen, obOp, List.getD_cons_zero]
    rintro h9
    exact rel_value (by simp [go_sem, h9]) hC
  refine ob_det (c := .agg #[.slice A n cap, .int .i64 (N : Nat)]) ?_ ?_
  · intro ρ W hk hC
    simp only [seen, obOp, List.getD_cons_zero]
    rintro h10
    exact rel_value (by simp [go_sem, h10, c0 W hC, c1 W hC]) hC
  refine ob_det (c := .pointer (some ⟨rb, 0, none⟩)) ?_ ?_
  · intro ρ W hk hC
    simp only [seen, obOp]
    rintro h0
    replace h0 : ρ (.tmp 0) = .pointer (some ⟨rb, 0, none⟩) := h0.trans rfl
    exact rel_value (by simp [go_sem, h0]) hC
  refine ob_det (c := .pointer (some ⟨rb, 0, none⟩)) ?_ ?_
  · intro ρ W hk hC
    simp only [seen, obOp, List.getD_cons_zero]
    rintro h12
    exact rel_value (by simp [go_sem, h12]) hC
  refine ob_det (c := .pointer (some ⟨rb, 2, none⟩)) ?_ ?_
  · intro ρ W hk hC
    simp only [seen, obOp, List.getD_cons_zero]
    rintro h13
    exact rel_value (by simp [go_sem, h13]) hC
  refine ob_det (c := .int .i64 (a : Nat)) ?_ ?_
  · intro ρ W hk hC
    simp only [seen, obOp, List.getD_cons_zero]
    rintro h14
    exact rel_value (by simp [go_sem, h14, c2 W hC]) hC
  refine ob_det (c := .int .i64 (wd : Nat)) ?_ ?_
  · intro ρ W hk hC
    simp only [seen, obOp]
    rintro h1
    replace h1 : ρ (.tmp 1) = .int .i64 (wd : Nat) := h1.trans rfl
    exact rel_value (by simp [go_sem, h1]) hC
  refine ob_det (c := .tuple #[.int .i64 x, .int .i64 y]) ?_ ?_
  · intro ρ W hk hC
    simp only [seen, obOp, List.getD_cons_zero, List.getD_cons_succ]
    rintro h11 h15 h16
    exact rel_call (f := 93) (args := #[.agg #[.slice A n cap, .int .i64 (N : Nat)], .int .i64 (a : Nat), .int .i64 (wd : Nat)]) (by simp [go_sem, h11, h15, h16, hk.func]) hC (HT.out W hC)
  refine ob_det (c := .tuple #[.int .i64 x, .int .i64 y]) ?_ ?_
  · intro ρ W hk hC
    simp only [seen, obOp, List.getD_cons_zero]
    rintro h17
    exact rel_value (by simp [go_sem, h17]) hC
  refine ob_det (c := .int .i64 x) ?_ ?_
  · intro ρ W hk hC
    simp only [seen, obOp, List.getD_cons_zero]
    rintro h7
    exact rel_value (by simp [go_sem, h7]) hC
  refine ob_det (c := .int .i64 y) ?_ ?_
  · intro ρ W hk hC
    simp only [seen, obOp, List.getD_cons_zero, List.getD_cons_succ]
    rintro h7
    exact rel_value (by simp [go_sem, h7]) hC
  refine ob_det (c := .int .i64 x) ?_ ?_
  · intro ρ W hk hC
    simp only [seen, obOp, List.getD_cons_zero, List.getD_cons_succ]
    rintro h18
    exact rel_value (by simp [go_sem, h18]) hC
  refine ob_det (c := .int .i64 y) ?_ ?_
  · intro ρ W hk hC
    simp only [seen, obOp, List.getD_cons_zero, List.getD_cons_succ]
    rintro h19
    exact rel_value (by simp [go_sem, h19]) hC
  intro vs w5 hC5
  simp only [endSeen, List.getD_cons_zero, List.getD_cons_succ]
  intro h5 h6
  simp only [writeAll, List.setIfInBounds_toArray, List.set_cons_zero, List.set_cons_succ]
  rw [show vs 5 = _ from h5, show vs 6 = _ from h6]
  have r5 := H.out.below hC5
  have e2 : w5.cell? ⟨rb, 2, none⟩ = some (.int .i64 a) := c2 w5 hC5
  have e3 : w5.cell? ⟨rb, 3, none⟩ = some (.bool q) := by simp [World.cell?, r5.bx]
  have el := r5.lt
  have ef : ∀ o, w5.frozen? ⟨rb, o, none⟩ = false := fun o => frozen_of_row _ _ _ _ _ r5.bx
  have H5 := Lib.hid (⟨r5, Only.of_below hC5⟩ : RfAt bs N A n cap rb (a, q) w5 ∧ Only rb w w5)
  clear c0 c1 c2 HT h5 h6 hC5 r5
  rcases HXY.out with ⟨hh, rfl, rfl⟩ | ⟨hh, rfl, rfl⟩
  · obtain ⟨t, ht⟩ : ∃ t, t = takeN (bitB bs) a wd := ⟨_, rfl⟩
    rw [← ht]
    have HH := Lib.hid (⟨hh, ht⟩ : _ ∧ _)
    clear hh ht HXY
    cases q with
    | true =>
      go_wp2_with fail
      go_ret
      refine ⟨⟨_, rfl, ?_⟩, ?_, H5.out.2.trans (Only.set _)⟩
      · simp [mN]
      · have h := H5.out.1.stop
        simpa [mN] using h
    | false =>
      have e1 : IntKind.i64.wrap ((a : Int) + (wd : Int)) = ((a + wd : Nat) : Int) := by rw [IntWalk.i64_in _ (by omega)]; omega
      obtain ⟨b, hb⟩ : ∃ b, b = a + wd := ⟨_, rfl⟩
      rw [← hb] at e1
      have HBB := Lib.hid hb
      clear hb
      go_wp2_with fail
      go_ret
      refine ⟨⟨_, rfl, ?_⟩, ?_, H5.out.2.trans (Only.set _)⟩
      · simp [mN, HH.out.1, HH.out.2]
      · have h := H5.out.1.go (a' := b) (by rw [HBB.out]; exact HH.out.1)
        simpa [mN, HH.out.1, HBB.out] using h
  · have HH := Lib.hid hh
    clear hh HXY
    go_wp2_with fail
    go_ret
    refine ⟨⟨_, rfl, ?_⟩, ?_, H5.out.2.trans (Only.set _)⟩
    · simp [mN, HH.out]
    · have h := H5.out.1.stop
      simpa [mN, HH.out] using h
end
end Go.Proofs.YtpnnbihofoomeaaDoor
