/-
  Bytes as strings: bytes.Equal, lockbarlaw08.same.
-/
import Derived.Test.YtpnnbihofoomeaaDoorM5
import Derived.Laws.BytesArg
import Derived.Deep.CutBlock

namespace Go.Proofs.YtpnnbihofoomeaaDoor
open Go.RowKit Go.Shelf

def strB (bs : List Nat) : ByteArray := strOfNums (bs.map Int.ofNat)
theorem strB_eq {a b : List Nat} (ha : ∀ x ∈ a, x < 256) (hb : ∀ x ∈ b, x < 256) : strB a = strB b ↔ a = b := by
  constructor
  · intro h
    have key : ∀ (a b : List Nat), (∀ x ∈ a, x < 256) → (∀ x ∈ b, x < 256) → (a.map Int.ofNat).map (fun n : Int => UInt8.ofNat n.toNat) = (b.map Int.ofNat).map (fun n : Int => UInt8.ofNat n.toNat) → a = b := by
      intro a
      induction a with
      | nil => intro b _ _ h; cases b with
        | nil => rfl
        | cons y b => simp at h
      | cons x a ih => intro b hx hy h; cases b with
        | nil => simp at h
        | cons y b =>
          rw [List.map_cons, List.map_cons, List.map_cons, List.map_cons, List.cons.injEq] at h
          have h2 := congrArg UInt8.toNat h.1
          simp only [UInt8.toNat_ofNat'] at h2
          have e1 : (Int.ofNat x).toNat = x := rfl
          have e2 : (Int.ofNat y).toNat = y := rfl
          rw [e1, e2] at h2
          have h3 : x = y := by
            have l1 := hx x (List.mem_cons_self ..)
            have l2 := hy y (List.mem_cons_self ..)
            omega
          rw [h3, ih b (fun z hz => hx z (List.mem_cons_of_mem _ hz)) (fun z hz => hy z (List.mem_cons_of_mem _ hz)) h.2]
    have h1 : (strB a).data.toList = (strB b).data.toList := by rw [h]
    unfold strB at h1
    rw [strOfNums_data, strOfNums_data] at h1
    exact key a b ha hb h1
  · rintro rfl; rfl
theorem conv_any {P : Program} (w : World) (src e dst : TypeId) (hs : P.underlying src = some (.slice e)) (he : P.underlying e = some (.int .u8)) (hd : P.underlying dst = some .string) (A : Option Addr) (n c : Nat) (bs : List Nat) (hn : n = bs.length) (hA : At w 1 bEnc A bs) :
    (convert src dst (.slice A n c)).run P w = .ok (.string (strB bs)) w := by
  subst hn
  rcases hA with rfl | ⟨b, off, rfl, hrow⟩
  · rw [List.length_nil, run_convert_bytes_string w src dst e A 0 c hs he hd]
    have : strB [] = ByteArray.empty := rfl
    rw [this]
    cases A <;> simp [Conv.bytesToString, loadCells, loadCellsFrom]
  · refine run_convert_bytes_arg w src e hs he b off bs.length c (bs.map Int.ofNat) (by simp) (fun i hi => ?_) dst hd
    have h := hrow.2 i bs[i] (List.getElem?_eq_getElem hi) 0 _ rfl
    rw [Nat.mul_one, Nat.add_zero] at h
    rw [h, List.getD_eq_getElem?_getD, List.getElem?_map, List.getElem?_eq_getElem hi]
    rfl

set_option maxRecDepth 100000 in
set_option maxHeartbeats 2000000 in
theorem bEqual_any (A B : Option Addr) (n m c d : Nat) (xs ys : List Nat) (w : World) (hn : n = xs.length) (hm : m = ys.length) (hA : At w 1 bEnc A xs) (hB : At w 1 bEnc B ys) (hx : ∀ x ∈ xs, x < 256) (hy : ∀ x ∈ ys, x < 256) :
    Calls Tryd.prog 34 #[.slice A n c, .slice B m d] w fun e w' => e = .returned (.bool (decide (xs = ys))) ∧ w' = w := by
  have c1 := conv_any w 30 5 9 Tryd.underlying30 Tryd.underlying5 Tryd.underlying9 A n c xs hn hA
  have c2 := conv_any w 30 5 9 Tryd.underlying30 Tryd.underlying5 Tryd.underlying9 B m d ys hm hB
  have he : ((strB xs).toList == (strB ys).toList) = decide (xs = ys) := by
    rw [ByteArray.toList_eq, ByteArray.toList_eq, Bool.eq_iff_iff, beq_iff_eq, decide_eq_true_iff]
    exact ⟨fun h => (strB_eq hx hy).1 (by cases hs : strB xs; cases ht : strB ys; rw [hs, ht] at h; congr 1; exact Array.toList_inj.1 h), fun h => by rw [h]⟩
  generalize strB xs = s at c1 he
  generalize strB ys = t at c2 he
  generalize decide (xs = ys) = r at he
  clear hn hm hA hB hx hy
  go_enter Tryd.func34, Tryd.ntmps34
  go_wp2
  go_ret
  exact ⟨rfl, rfl⟩
set_option maxRecDepth 100000 in
set_option maxHeartbeats 2000000 in
theorem same8_any (A B : Option Addr) (n m c d : Nat) (xs ys : List Nat) (w : World) (hn : n = xs.length) (hm : m = ys.length) (hA : At w 1 bEnc A xs) (hB : At w 1 bEnc B ys) (hx : ∀ x ∈ xs, x < 256) (hy : ∀ x ∈ ys, x < 256) :
    Calls Tryd.prog 13 #[.slice A n c, .slice B m d] w fun e w' => e = .returned (.bool (decide (xs = ys))) ∧ w' = w := by
  have c1 := conv_any w 30 5 9 Tryd.underlying30 Tryd.underlying5 Tryd.underlying9 A n c xs hn hA
  have c2 := conv_any w 30 5 9 Tryd.underlying30 Tryd.underlying5 Tryd.underlying9 B m d ys hm hB
  have he : ((strB xs).toList == (strB ys).toList) = decide (xs = ys) := by
    rw [ByteArray.toList_eq, ByteArray.toList_eq, Bool.eq_iff_iff, beq_iff_eq, decide_eq_true_iff]
    exact ⟨fun h => (strB_eq hx hy).1 (by cases hs : strB xs; cases ht : strB ys; rw [hs, ht] at h; congr 1; exact Array.toList_inj.1 h), fun h => by rw [h]⟩
  generalize strB xs = s at c1 he
  generalize strB ys = t at c2 he
  generalize decide (xs = ys) = r at he
  clear hn hm hA hB hx hy
  go_enter Tryd.func13, Tryd.ntmps13
  go_wp2
  go_ret
  exact ⟨rfl, rfl⟩
end Go.Proofs.YtpnnbihofoomeaaDoor

/-
  plan.reader: a number, or the panic where bits end.
-/
namespace Go.Proofs.YtpnnbihofoomeaaDoor
open Go.RowKit Go.Shelf

/-- Reading, plainly: of the bits f, N of them, from a on: what is read and where it ends; none: they end. -/
def Rd (α : Type) : Type := (Nat → Bool) → Nat → Nat → Option (α × Nat)
def rdN (w : Nat) : Rd Nat := fun f N a => if a + w ≤ N then some (takeN f a w, a + w) else none
def rdBind {α β : Type} (r : Rd α) (k : α → Rd β) : Rd β := fun f N a => match r f N a with
  | some (x, b) => k x f N b
  | none => none
def rdRet {α : Type} (x : α) : Rd α := fun _ _ a => some (x, a)
/-- The chain of a panic that bits have ended. -/
def shortC : List PanicEntry := [{ v := .iface 33 (.int .i64 40), recovered := false }]
/-- The reader in its block. -/
structure RdAt (bs : List Nat) (N : Nat) (A : Option Addr) (n cap rb : Nat) (a : Nat) (W : World) : Prop where
  hn : n = bs.length
  at_ : At W 1 bEnc A bs
  ok : BitsOk bs N
  bx : W.heap[rb]? = some (.cells #[.slice A n cap, .int .i64 N, .int .i64 a] 81 (0, 0))
  ne : ∀ b off, A = some ⟨b, off, none⟩ → b ≠ rb
  pos : a ≤ N
/-- From W to W' the block rb alone may be other than it was. -/
abbrev Only (rb : Nat) (W W' : World) : Prop := W.grownBy W' (some rb)
theorem Only.trans {rb : Nat} {X Y Z : World} (h : Only rb X Y) (k : Only rb Y Z) : Only rb X Z :=
  ⟨k.os.trans h.os, k.tape.trans h.tape, k.output.trans h.output, Nat.le_trans h.size k.size, fun b hb hn => (k.block b (Nat.lt_of_lt_of_le hb h.size) hn).trans (h.block b hb hn)⟩
theorem Only.of_below {rb : Nat} {X Y : World} (h : Below X.heap.size X Y) : Only rb X Y := ⟨h.os, h.tape, h.output, h.size, fun b hb _ => h.block b hb⟩
theorem Only.set {rb o : Nat} {u : Value} (X : World) : Only rb X (X.setCell ⟨rb, o, none⟩ u) :=
  ⟨rfl, rfl, rfl, by simp [World.setCell], fun b _ hn => Below.heap_setCell _ _ _ _ (fun e => hn (by rw [e]))⟩
theorem RdAt.lt {bs : List Nat} {N : Nat} {A : Option Addr} {n cap rb a : Nat} {W : World} (h : RdAt bs N A n cap rb a W) : rb < W.heap.size := (Array.getElem?_eq_some_iff.1 h.bx).1
theorem RdAt.below {bs : List Nat} {N : Nat} {A : Option Addr} {n cap rb a : Nat} {W W' : World} (h : RdAt bs N A n cap rb a W) (k : Below W.heap.size W W') : RdAt bs N A n cap rb a W' :=
  ⟨h.hn, h.at_.below k, h.ok, (k.block _ h.lt).trans h.bx, h.ne, h.pos⟩
theorem RdAt.step {bs : List Nat} {N : Nat} {A : Option Addr} {n cap rb a a' : Nat} {W : World} (h : RdAt bs N A n cap rb a W) (ha : a' ≤ N) : RdAt bs N A n cap rb a' (W.setCell ⟨rb, 2, none⟩ (.int .i64 a')) := by
  refine ⟨h.hn, ?_, h.ok, ?_, h.ne, ha⟩
  · rcases h.at_ with e | ⟨b, off, e, hr⟩
    · exact .inl e
    · refine .inr ⟨b, off, e, by simpa [World.setCell] using hr.1, fun j x hx i v hv => ?_⟩
      exact (World.cell?_of_block (w := W) (a := ⟨b, off + j * 1 + i, none⟩) (Below.heap_setCell _ _ _ _ (h.ne b off e))).trans (hr.2 j x hx i v hv)
  · rw [heap_setCell_same _ _ _ _ _ _ h.bx]
    rfl
/-- What a reading function does: it tells what is read, or panics. -/
def RdPost {α : Type} (bs : List Nat) (N : Nat) (A : Option Addr) (n cap rb : Nat) (R : α → Value → World → Prop) (r : Option (α × Nat)) (W : World) (e : Ending) (W' : World) : Prop :=
  match r with
  | some (x, a') => (∃ v, e = .returned v ∧ R x v W') ∧ RdAt bs N A n cap rb a' W' ∧ Only rb W W'
  | none => e = .panicked shortC ∧ Only rb W W'

set_option maxRecDepth 100000 in
set_option maxHeartbeats 8000000 in
theorem number_any {bs : List Nat} {N : Nat} {A : Option Addr} {n cap rb a : Nat} (wd : Nat) (w : World) (h : RdAt bs N A n cap rb a w) (hwd : wd ≤ 32) :
    Calls Tryd.prog 69 #[.pointer (some ⟨rb, 0, none⟩), .int .i64 wd] w (RdPost bs N A n cap rb (fun (x : Nat) v _ => v = .int .i64 x) (rdN wd (bitB bs) N a) w) := by
  have hN : N ≤ 8000 := h.ok.2.1
  have ha := h.pos
  have hT := fun W (k : ClB w W) => bTake_any A n cap N bs a wd W h.hn (h.below k).at_ h.ok (by omega) hwd
  have r0 : ∀ V', ClB w V' → V'.cell? ⟨rb, 0, none⟩ = some (.slice A n cap) := fun V' k => by simp [World.cell?, (h.below k).bx]
  have r1 : ∀ V', ClB w V' → V'.cell? ⟨rb, 1, none⟩ = some (.int .i64 N) := fun V' k => by simp [World.cell?, (h.below k).bx]
  have r2 : ∀ V', ClB w V' → V'.cell? ⟨rb, 2, none⟩ = some (.int .i64 a) := fun V' k => by simp [World.cell?, (h.below k).bx]
  have H := Lib.hid h
  clear h
  by_cases hin : a + wd ≤ N
  · obtain ⟨t, ht⟩ : ∃ t, t = takeN (bitB bs) a wd := ⟨_, rfl⟩
    rw [if_pos hin, ← ht] at hT
    have hrd : rdN wd (bitB bs) N a = some (t, a + wd) := by unfold rdN; rw [if_pos hin, ht]
    rw [hrd]
    have HT := Lib.hid hT
    clear hT ht hrd
    go_enter Tryd.func69, Tryd.ntmps69
    go_upto_region 1 with fail
    refine wp_region_rel_below [([(0, none)], none), ([(8, some 0)], none), ([(9, some 0)], none), ([(10, some 0)], none), ([(0, none)], none), ([(12, some 0)], none), ([(13, some 0)], none), ([(14, some 0)], none), ([(1, none)], none), ([(11, some 5), (15, some 1), (16, some 0)], none), ([(17, some 0)], none), ([(7, some 0)], none), ([(7, some 1)], none), ([(18, some 1)], none), ([(19, some 1)], none)] [(0, 6), (1, 5)] (by kernel_rfl) (by kernel_rfl) ?_
    refine ob_det (c := .pointer (some ⟨rb, 0, none⟩)) ?_ ?_
    · intro ρ W hk hC
      simp only [seen, obOp]
      rintro h0
      replace h0 : ρ (.tmp 0) = .pointer (some ⟨rb, 0, none⟩) := h0.trans rfl
      exact rel_value (by simp [go_sem, h0]) hC
    refine ob_det (c := .pointer (some ⟨rb, 0, none⟩)) ?_ ?_
    · intro ρ W hk hC
      simp only [seen, obOp, List.getD_cons_zero]
      rintro h8
      exact rel_value (by simp [go_sem, h8]) hC
    refine ob_det (c := .pointer (some ⟨rb, 0, none⟩)) ?_ ?_
    · intro ρ W hk hC
      simp only [seen, obOp, List.getD_cons_zero]
      rintro h9
      exact rel_value (by simp [go_sem, h9]) hC
    refine ob_det (c := .agg #[.slice A n cap, .int .i64 N]) ?_ ?_
    · intro ρ W hk hC
      simp only [seen, obOp, List.getD_cons_zero]
      rintro h10
      exact rel_value (by simp [go_sem, h10, r0 W hC, r1 W hC]) hC
    refine ob_det (c := .pointer (some ⟨rb, 0, none⟩)) ?_ ?_
    · intro ρ W hk hC
      simp only [seen, obOp]
      rintro h0
      replace h0 : ρ (.tmp 0) = .pointer (some ⟨rb, 0, none⟩) := h0.trans rfl
      exact rel_value (by simp [go_sem, h0]) hC
    refine ob_det (c := .pointer (some ⟨rb, 0, none⟩)) ?_ ?_
    · intro ρ W hk hC
      simp only [seen, obOp, List.getD_cons_zero]
      rintro h12
      exact rel_value (by simp [go_sem, h12]) hC
    refine ob_det (c := .pointer (some ⟨rb, 2, none⟩)) ?_ ?_
    · intro ρ W hk hC
      simp only [seen, obOp, List.getD_cons_zero]
      rintro h13
      exact rel_value (by simp [go_sem, h13]) hC
    refine ob_det (c := .int .i64 (a : Nat)) ?_ ?_
    · intro ρ W hk hC
      simp only [seen, obOp, List.getD_cons_zero]
      rintro h14
      exact rel_value (by simp [go_sem, h14, r2 W hC]) hC
    refine ob_det (c := .int .i64 (wd : Nat)) ?_ ?_
    · intro ρ W hk hC
      simp only [seen, obOp]
      rintro h1
      replace h1 : ρ (.tmp 1) = .int .i64 (wd : Nat) := h1.trans rfl
      exact rel_value (by simp [go_sem, h1]) hC
    refine ob_det (c := .tuple #[.int .i64 (t : Nat), .int .i64 0]) ?_ ?_
    · intro ρ W hk hC
      simp only [seen, obOp, List.getD_cons_zero, List.getD_cons_succ]
      rintro h11 h15 h16
      exact rel_call (f := 92) (args := #[.agg #[.slice A n cap, .int .i64 N], .int .i64 a, .int .i64 wd]) (by simp [go_sem, h11, h15, h16, hk.func]) hC (HT.out W hC)
    refine ob_det (c := .tuple #[.int .i64 (t : Nat), .int .i64 0]) ?_ ?_
    · intro ρ W hk hC
      simp only [seen, obOp, List.getD_cons_zero]
      rintro h17
      exact rel_value (by simp [go_sem, h17]) hC
    refine ob_det (c := .int .i64 (t : Nat)) ?_ ?_
    · intro ρ W hk hC
      simp only [seen, obOp, List.getD_cons_zero]
      rintro h7
      exact rel_value (by simp [go_sem, h7]) hC
    refine ob_det (c := .int .i64 0) ?_ ?_
    · intro ρ W hk hC
      simp only [seen, obOp, List.getD_cons_zero, List.getD_cons_succ]
      rintro h7
      exact rel_value (by simp [go_sem, h7]) hC
    refine ob_det (c := .int .i64 (t : Nat)) ?_ ?_
    · intro ρ W hk hC
      simp only [seen, obOp, List.getD_cons_zero, List.getD_cons_succ]
      rintro h18
      exact rel_value (by simp [go_sem, h18]) hC
    refine ob_det (c := .int .i64 0) ?_ ?_
    · intro ρ W hk hC
      simp only [seen, obOp, List.getD_cons_zero, List.getD_cons_succ]
      rintro h19
      exact rel_value (by simp [go_sem, h19]) hC
    intro vs W5 hC5
    simp only [endSeen, List.getD_cons_zero, List.getD_cons_succ]
    intro h6 h5
    simp only [writeAll, List.setIfInBounds_toArray, List.set_cons_zero, List.set_cons_succ]
    rw [show vs 6 = _ from h6, show vs 5 = _ from h5]
    have q2 := r2 W5 hC5
    have H5 := Lib.hid (⟨H.out.below hC5, hC5⟩ : _ ∧ _)
    have l5 := H5.out.1.lt
    have f5 : W5.frozen? ⟨rb, 2, none⟩ = false := frozen_of_row _ _ _ _ _ H5.out.1.bx
    obtain ⟨b, hb⟩ : ∃ b, b = a + wd := ⟨_, rfl⟩
    have e1 : IntKind.i64.wrap ((a : Int) + (wd : Int)) = (b : Int) := by rw [IntWalk.i64_in _ (by omega)]; omega
    have hbN : b ≤ N := by omega
    have HBW := Lib.hid hb
    clear r0 r1 r2 hC5 hb HT
    go_wp2
    go_ret
    exact ⟨⟨_, rfl, rfl⟩, by rw [← HBW.out]; exact H5.out.1.step hbN, (Only.of_below H5.out.2).trans (Only.set _)⟩
  · rw [if_neg hin] at hT
    have hrd : rdN wd (bitB bs) N a = none := by unfold rdN; rw [if_neg hin]
    rw [hrd]
    have HT := Lib.hid hT
    clear hT hrd
    go_enter Tryd.func69, Tryd.ntmps69
    go_upto_region 1 with fail
    refine wp_region_rel_below [([(0, none)], none), ([(8, some 0)], none), ([(9, some 0)], none), ([(10, some 0)], none), ([(0, none)], none), ([(12, some 0)], none), ([(13, some 0)], none), ([(14, some 0)], none), ([(1, none)], none), ([(11, some 5), (15, some 1), (16, some 0)], none), ([(17, some 0)], none), ([(7, some 0)], none), ([(7, some 1)], none), ([(18, some 1)], none), ([(19, some 1)], none)] [(0, 6), (1, 5)] (by kernel_rfl) (by kernel_rfl) ?_
    refine ob_det (c := .pointer (some ⟨rb, 0, none⟩)) ?_ ?_
    · intro ρ W hk hC
      simp only [seen, obOp]
      rintro h0
      replace h0 : ρ (.tmp 0) = .pointer (some ⟨rb, 0, none⟩) := h0.trans rfl
      exact rel_value (by simp [go_sem, h0]) hC
    refine ob_det (c := .pointer (some ⟨rb, 0, none⟩)) ?_ ?_
    · intro ρ W hk hC
      simp only [seen, obOp, List.getD_cons_zero]
      rintro h8
      exact rel_value (by simp [go_sem, h8]) hC
    refine ob_det (c := .pointer (some ⟨rb, 0, none⟩)) ?_ ?_
    · intro ρ W hk hC
      simp only [seen, obOp, List.getD_cons_zero]
      rintro h9
      exact rel_value (by simp [go_sem, h9]) hC
    refine ob_det (c := .agg #[.slice A n cap, .int .i64 N]) ?_ ?_
    · intro ρ W hk hC
      simp only [seen, obOp, List.getD_cons_zero]
      rintro h10
      exact rel_value (by simp [go_sem, h10, r0 W hC, r1 W hC]) hC
    refine ob_det (c := .pointer (some ⟨rb, 0, none⟩)) ?_ ?_
    · intro ρ W hk hC
      simp only [seen, obOp]
      rintro h0
      replace h0 : ρ (.tmp 0) = .pointer (some ⟨rb, 0, none⟩) := h0.trans rfl
      exact rel_value (by simp [go_sem, h0]) hC
    refine ob_det (c := .pointer (some ⟨rb, 0, none⟩)) ?_ ?_
    · intro ρ W hk hC
      simp only [seen, obOp, List.getD_cons_zero]
      rintro h12
      exact rel_value (by simp [go_sem, h12]) hC
    refine ob_det (c := .pointer (some ⟨rb, 2, none⟩)) ?_ ?_
    · intro ρ W hk hC
      simp only [seen, obOp, List.getD_cons_zero]
      rintro h13
      exact rel_value (by simp [go_sem, h13]) hC
    refine ob_det (c := .int .i64 (a : Nat)) ?_ ?_
    · intro ρ W hk hC
      simp only [seen, obOp, List.getD_cons_zero]
      rintro h14
      exact rel_value (by simp [go_sem, h14, r2 W hC]) hC
    refine ob_det (c := .int .i64 (wd : Nat)) ?_ ?_
    · intro ρ W hk hC
      simp only [seen, obOp]
      rintro h1
      replace h1 : ρ (.tmp 1) = .int .i64 (wd : Nat) := h1.trans rfl
      exact rel_value (by simp [go_sem, h1]) hC
    refine ob_det (c := .tuple #[.int .i64 0, .int .i64 40]) ?_ ?_
    · intro ρ W hk hC
      simp only [seen, obOp, List.getD_cons_zero, List.getD_cons_succ]
      rintro h11 h15 h16
      exact rel_call (f := 92) (args := #[.agg #[.slice A n cap, .int .i64 N], .int .i64 a, .int .i64 wd]) (by simp [go_sem, h11, h15, h16, hk.func]) hC (HT.out W hC)
    refine ob_det (c := .tuple #[.int .i64 0, .int .i64 40]) ?_ ?_
    · intro ρ W hk hC
      simp only [seen, obOp, List.getD_cons_zero]
      rintro h17
      exact rel_value (by simp [go_sem, h17]) hC
    refine ob_det (c := .int .i64 0) ?_ ?_
    · intro ρ W hk hC
      simp only [seen, obOp, List.getD_cons_zero]
      rintro h7
      exact rel_value (by simp [go_sem, h7]) hC
    refine ob_det (c := .int .i64 40) ?_ ?_
    · intro ρ W hk hC
      simp only [seen, obOp, List.getD_cons_zero, List.getD_cons_succ]
      rintro h7
      exact rel_value (by simp [go_sem, h7]) hC
    refine ob_det (c := .int .i64 0) ?_ ?_
    · intro ρ W hk hC
      simp only [seen, obOp, List.getD_cons_zero, List.getD_cons_succ]
      rintro h18
      exact rel_value (by simp [go_sem, h18]) hC
    refine ob_det (c := .int .i64 40) ?_ ?_
    · intro ρ W hk hC
      simp only [seen, obOp, List.getD_cons_zero, List.getD_cons_succ]
      rintro h19
      exact rel_value (by simp [go_sem, h19]) hC
    intro vs W5 hC5
    simp only [endSeen, List.getD_cons_zero, List.getD_cons_succ]
    intro h6 h5
    simp only [writeAll, List.setIfInBounds_toArray, List.set_cons_zero, List.set_cons_succ]
    rw [show vs 6 = _ from h6, show vs 5 = _ from h5]
    go_wp2
    exact ⟨rfl, rfl, Only.of_below hC5⟩
end Go.Proofs.YtpnnbihofoomeaaDoor

/-
  plan.reader: a port, a flank.
-/
namespace Go.Proofs.YtpnnbihofoomeaaDoor
open Go.RowKit Go.Shelf

def rdPort : Rd Prt := rdBind (rdN 5) fun s => rdBind (rdN 2) fun p => rdRet ⟨s, p⟩
def rdFlank : Rd Flk := rdBind (rdN 5) fun s => rdBind (rdN 1) fun w => rdBind (rdN 5) fun p => rdBind (rdN 1) fun q => rdRet ⟨s, w, p, q⟩
section
variable {bs : List Nat} {N : Nat} {A : Option Addr} {n cap rb a a' : Nat}
/-- A block other than the reader's lies as it lay. -/
theorem Only.keep {W W' : World} (k : Only rb W W') {b : Nat} {o : Obj} (h : W.heap[b]? = some o) (hb : b ≠ rb) : W'.heap[b]? = some o :=
  (k.block b (Array.getElem?_eq_some_iff.1 h).1 (fun e => hb (by cases e; rfl))).trans h
theorem Only.setNew {w W : World} (k : Only rb w W) {p : Addr} {u : Value} (hp : w.heap.size ≤ p.block) : Only rb w (W.setCell p u) :=
  ⟨k.os, k.tape, k.output, by simpa [World.setCell] using k.size, fun b hb hn => (Below.heap_setCell _ _ _ _ (by omega)).trans (k.block b hb hn)⟩
theorem RdAt.frame {w W : World} (h : RdAt bs N A n cap rb a w) (k : Only rb w W) (hb : W.heap[rb]? = some (.cells #[.slice A n cap, .int .i64 N, .int .i64 a'] 81 (0, 0))) (ha : a' ≤ N) : RdAt bs N A n cap rb a' W := by
  refine ⟨h.hn, ?_, h.ok, hb, h.ne, ha⟩
  rcases h.at_ with e | ⟨b, off, e, hr⟩
  · exact .inl e
  · refine .inr ⟨b, off, e, Nat.lt_of_lt_of_le hr.1 k.size, fun j x hx i v hv => ?_⟩
    exact (World.cell?_of_block (w := w) (a := ⟨b, off + j * 1 + i, none⟩) (k.block b hr.1 (fun e2 => h.ne b off e (by cases e2; rfl)))).trans (hr.2 j x hx i v hv)
theorem number_i (wi : Int) (wd : Nat) (hw : wi = (wd : Int)) (w : World) (h : RdAt bs N A n cap rb a w) (hwd : wd ≤ 32) :
    Calls Tryd.prog 69 #[.pointer (some ⟨rb, 0, none⟩), .int .i64 wi] w (RdPost bs N A n cap rb (fun (x : Nat) v _ => v = .int .i64 x) (rdN wd (bitB bs) N a) w) := by
  subst hw
  exact number_any wd w h hwd

set_option maxRecDepth 100000 in
set_option maxHeartbeats 8000000 in
theorem rport_any (w : World) (h : RdAt bs N A n cap rb a w) :
    Calls Tryd.prog 71 #[.pointer (some ⟨rb, 0, none⟩)] w (RdPost bs N A n cap rb (fun (x : Prt) v _ => v = .agg #[.int .i64 x.s, .int .i64 x.p]) (rdPort (bitB bs) N a) w) := by
  have H0 := Lib.hid h
  have hrl := h.lt
  clear h
  have hb0 : Below w.heap.size w (w.alloc (.cells #[.int .i64 0, .int .i64 0] 48)) := bself
  have G0 := Lib.hid (⟨H0.out.below hb0, World.alloc_heap_new w (.cells #[.int .i64 0, .int .i64 0] 48), Only.of_below hb0⟩ : RdAt bs N A n cap rb a (w.alloc (.cells #[.int .i64 0, .int .i64 0] 48)) ∧ _ ∧ Only rb w _)
  clear hb0
  go_enter Tryd.func71, Tryd.ntmps71
  go_wp2_with fail
  (with_reducible refine (number_i 5 5 rfl _ G0.out.1 (by decide)).mono ?_)
  intro e W1 hp
  rcases e1 : rdN 5 (bitB bs) N a with _ | ⟨s, a1⟩
  · rw [e1] at hp
    obtain ⟨rfl, k1⟩ := hp
    have hz : rdPort (bitB bs) N a = none := by simp [rdPort, rdBind, e1]
    have HE := Lib.hid (⟨hz, G0.out.2.2.trans k1⟩ : _ ∧ Only rb w W1)
    clear hz k1 e1
    go_wp2
    refine ⟨rfl, ?_⟩
    show RdPost _ _ _ _ _ _ _ (rdPort (bitB bs) N a) w _ _
    rw [HE.out.1]
    exact ⟨rfl, HE.out.2⟩
  rw [e1] at hp
  obtain ⟨⟨v, rfl, rfl⟩, r1, k1⟩ := hp
  have G1 := Lib.hid (⟨r1, k1.keep G0.out.2.1 (by omega), G0.out.2.2.trans k1⟩ : RdAt bs N A n cap rb a1 W1 ∧ W1.heap[w.heap.size]? = _ ∧ Only rb w W1)
  clear r1 k1
  have E1 := Lib.hid e1
  clear e1
  go_wp2_with fail
  (with_reducible refine (number_i 2 2 rfl _ G1.out.1 (by decide)).mono ?_)
  intro e W2 hp
  rcases e2 : rdN 2 (bitB bs) N a1 with _ | ⟨p, a2⟩
  · rw [e2] at hp
    obtain ⟨rfl, k1⟩ := hp
    have hz : rdPort (bitB bs) N a = none := by simp [rdPort, rdBind, E1.out, e2]
    have HE := Lib.hid (⟨hz, G1.out.2.2.trans k1⟩ : _ ∧ Only rb w W2)
    clear hz k1 e2
    go_wp2
    refine ⟨rfl, ?_⟩
    show RdPost _ _ _ _ _ _ _ (rdPort (bitB bs) N a) w _ _
    rw [HE.out.1]
    exact ⟨rfl, HE.out.2⟩
  rw [e2] at hp
  obtain ⟨⟨v, rfl, rfl⟩, r2, k2⟩ := hp
  have G2 := Lib.hid (⟨r2, k2.keep G1.out.2.1 (by omega), G1.out.2.2.trans k2⟩ : RdAt bs N A n cap rb a2 W2 ∧ W2.heap[w.heap.size]? = _ ∧ Only rb w W2)
  clear r2 k2
  have E2 := Lib.hid e2
  clear e2
  have hb := G2.out.2.1
  have y0 : W2.cell? ⟨w.heap.size, 0, none⟩ = some (.int .i64 0) := by simp [World.cell?, hb]
  have y1 : W2.cell? ⟨w.heap.size, 1, none⟩ = some (.int .i64 0) := by simp [World.cell?, hb]
  have yf : ∀ o, W2.frozen? ⟨w.heap.size, o, none⟩ = false := fun o => frozen_of_row _ _ _ _ _ hb
  have yl : w.heap.size < W2.heap.size := (Array.getElem?_eq_some_iff.1 hb).1
  go_upto_region 2 with fail
  obtain ⟨V1, hV1⟩ : ∃ V, V = ((W2.setCell ⟨w.heap.size, 0, none⟩ (.int .i64 (s : Nat))).setCell ⟨w.heap.size, 1, none⟩ (.int .i64 (p : Nat))) := ⟨_, rfl⟩
  rw [← hV1]
  have G2' : Hid (RdAt bs N A n cap rb a2 V1 ∧ V1.heap[w.heap.size]? = some (.cells #[.int .i64 (s : Nat), .int .i64 (p : Nat)] 48 (0, 0)) ∧ Only rb w V1) := Lib.hid (by
    have ho : Only rb w V1 := by
      rw [hV1]
      repeat refine Only.setNew ?_ (Nat.le_refl _)
      exact G2.out.2.2
    refine ⟨H0.out.frame ho ?_ G2.out.1.pos, ?_, ho⟩
    · rw [hV1]
      iterate 2 rw [Below.heap_setCell _ _ _ _ (by dsimp only; omega)]
      exact G2.out.1.bx
    · rw [hV1]
      have h0 := G2.out.2.1
      replace h0 := heap_setCell_same _ w.heap.size 0 _ _ (.int .i64 (s : Nat)) h0
      replace h0 := heap_setCell_same _ w.heap.size 1 _ _ (.int .i64 (p : Nat)) h0
      exact h0)
  clear hV1 hb yf yl y0 y1
  have hb := G2'.out.2.1
  have y0 : V1.cell? ⟨w.heap.size, 0, none⟩ = some (.int .i64 (s : Nat)) := by simp [World.cell?, hb]
  have y1 : V1.cell? ⟨w.heap.size, 1, none⟩ = some (.int .i64 (p : Nat)) := by simp [World.cell?, hb]
  have yf : ∀ o, V1.frozen? ⟨w.heap.size, o, none⟩ = false := fun o => frozen_of_row _ _ _ _ _ hb
  have yl : w.heap.size < V1.heap.size := (Array.getElem?_eq_some_iff.1 hb).1
  clear hb
  go_wp2
  have hz : rdPort (bitB bs) N a = some (⟨s, p⟩, a2) := by simp [rdPort, rdBind, rdRet, E1.out, E2.out]
  refine bodyPost_ret (v := .agg #[.int .i64 (s : Nat), .int .i64 (p : Nat)]) (by simp [results, Tryd.results71, go_sem, *]) rfl ?_
  rw [hz]
  refine ⟨⟨_, rfl, rfl⟩, H0.out.frame ?_ ?_ G2'.out.1.pos, ?_⟩
  · repeat refine Only.setNew ?_ (Nat.le_refl _)
    exact G2'.out.2.2
  · iterate 2 rw [Below.heap_setCell _ _ _ _ (by dsimp only; omega)]
    exact G2'.out.1.bx
  · repeat refine Only.setNew ?_ (Nat.le_refl _)
    exact G2'.out.2.2

set_option maxRecDepth 100000 in
set_option maxHeartbeats 8000000 in
theorem rflank_any (w : World) (h : RdAt bs N A n cap rb a w) :
    Calls Tryd.prog 73 #[.pointer (some ⟨rb, 0, none⟩)] w (RdPost bs N A n cap rb (fun (x : Flk) v _ => v = .agg #[.int .i64 x.s, .int .i64 x.way, .int .i64 x.pt, .int .i64 x.pos]) (rdFlank (bitB bs) N a) w) := by
  have H0 := Lib.hid h
  have hrl := h.lt
  clear h
  have hb0 : Below w.heap.size w (w.alloc (.cells #[.int .i64 0, .int .i64 0, .int .i64 0, .int .i64 0] 75)) := bself
  have G0 := Lib.hid (⟨H0.out.below hb0, World.alloc_heap_new w (.cells #[.int .i64 0, .int .i64 0, .int .i64 0, .int .i64 0] 75), Only.of_below hb0⟩ : RdAt bs N A n cap rb a (w.alloc (.cells #[.int .i64 0, .int .i64 0, .int .i64 0, .int .i64 0] 75)) ∧ _ ∧ Only rb w _)
  clear hb0
  go_enter Tryd.func73, Tryd.ntmps73
  go_wp2_with fail
  (with_reducible refine (number_i 5 5 rfl _ G0.out.1 (by decide)).mono ?_)
  intro e W1 hp
  rcases e1 : rdN 5 (bitB bs) N a with _ | ⟨s, a1⟩
  · rw [e1] at hp
    obtain ⟨rfl, k1⟩ := hp
    have hz : rdFlank (bitB bs) N a = none := by simp [rdFlank, rdBind, e1]
    have HE := Lib.hid (⟨hz, G0.out.2.2.trans k1⟩ : _ ∧ Only rb w W1)
    clear hz k1 e1
    go_wp2
    refine ⟨rfl, ?_⟩
    show RdPost _ _ _ _ _ _ _ (rdFlank (bitB bs) N a) w _ _
    rw [HE.out.1]
    exact ⟨rfl, HE.out.2⟩
  rw [e1] at hp
  obtain ⟨⟨v, rfl, rfl⟩, r1, k1⟩ := hp
  have G1 := Lib.hid (⟨r1, k1.keep G0.out.2.1 (by omega), G0.out.2.2.trans k1⟩ : RdAt bs N A n cap rb a1 W1 ∧ W1.heap[w.heap.size]? = _ ∧ Only rb w W1)
  clear r1 k1
  have E1 := Lib.hid e1
  clear e1
  go_wp2_with fail
  (with_reducible refine (number_i 1 1 rfl _ G1.out.1 (by decide)).mono ?_)
  intro e W2 hp
  rcases e2 : rdN 1 (bitB bs) N a1 with _ | ⟨u, a2⟩
  · rw [e2] at hp
    obtain ⟨rfl, k1⟩ := hp
    have hz : rdFlank (bitB bs) N a = none := by simp [rdFlank, rdBind, E1.out, e2]
    have HE := Lib.hid (⟨hz, G1.out.2.2.trans k1⟩ : _ ∧ Only rb w W2)
    clear hz k1 e2
    go_wp2
    refine ⟨rfl, ?_⟩
    show RdPost _ _ _ _ _ _ _ (rdFlank (bitB bs) N a) w _ _
    rw [HE.out.1]
    exact ⟨rfl, HE.out.2⟩
  rw [e2] at hp
  obtain ⟨⟨v, rfl, rfl⟩, r2, k2⟩ := hp
  have G2 := Lib.hid (⟨r2, k2.keep G1.out.2.1 (by omega), G1.out.2.2.trans k2⟩ : RdAt bs N A n cap rb a2 W2 ∧ W2.heap[w.heap.size]? = _ ∧ Only rb w W2)
  clear r2 k2
  have E2 := Lib.hid e2
  clear e2
  have hb := G2.out.2.1
  have y0 : W2.cell? ⟨w.heap.size, 0, none⟩ = some (.int .i64 0) := by simp [World.cell?, hb]
  have y1 : W2.cell? ⟨w.heap.size, 1, none⟩ = some (.int .i64 0) := by simp [World.cell?, hb]
  have y2 : W2.cell? ⟨w.heap.size, 2, none⟩ = some (.int .i64 0) := by simp [World.cell?, hb]
  have y3 : W2.cell? ⟨w.heap.size, 3, none⟩ = some (.int .i64 0) := by simp [World.cell?, hb]
  have yf : ∀ o, W2.frozen? ⟨w.heap.size, o, none⟩ = false := fun o => frozen_of_row _ _ _ _ _ hb
  have yl : w.heap.size < W2.heap.size := (Array.getElem?_eq_some_iff.1 hb).1
  go_upto_region 2 with fail
  obtain ⟨V1, hV1⟩ : ∃ V, V = ((W2.setCell ⟨w.heap.size, 0, none⟩ (.int .i64 (s : Nat))).setCell ⟨w.heap.size, 1, none⟩ (.int .i64 (u : Nat))) := ⟨_, rfl⟩
  rw [← hV1]
  have G2' : Hid (RdAt bs N A n cap rb a2 V1 ∧ V1.heap[w.heap.size]? = some (.cells #[.int .i64 (s : Nat), .int .i64 (u : Nat), .int .i64 0, .int .i64 0] 75 (0, 0)) ∧ Only rb w V1) := Lib.hid (by
    have ho : Only rb w V1 := by
      rw [hV1]
      repeat refine Only.setNew ?_ (Nat.le_refl _)
      exact G2.out.2.2
    refine ⟨H0.out.frame ho ?_ G2.out.1.pos, ?_, ho⟩
    · rw [hV1]
      iterate 2 rw [Below.heap_setCell _ _ _ _ (by dsimp only; omega)]
      exact G2.out.1.bx
    · rw [hV1]
      have h0 := G2.out.2.1
      replace h0 := heap_setCell_same _ w.heap.size 0 _ _ (.int .i64 (s : Nat)) h0
      replace h0 := heap_setCell_same _ w.heap.size 1 _ _ (.int .i64 (u : Nat)) h0
      exact h0)
  clear hV1 hb yf yl y0 y1 y2 y3
  go_wp2_with fail
  (with_reducible refine (number_i 5 5 rfl _ G2'.out.1 (by decide)).mono ?_)
  intro e W3 hp
  rcases e3 : rdN 5 (bitB bs) N a2 with _ | ⟨p, a3⟩
  · rw [e3] at hp
    obtain ⟨rfl, k1⟩ := hp
    have hz : rdFlank (bitB bs) N a = none := by simp [rdFlank, rdBind, E1.out, E2.out, e3]
    have HE := Lib.hid (⟨hz, G2'.out.2.2.trans k1⟩ : _ ∧ Only rb w W3)
    clear hz k1 e3
    go_wp2
    refine ⟨rfl, ?_⟩
    show RdPost _ _ _ _ _ _ _ (rdFlank (bitB bs) N a) w _ _
    rw [HE.out.1]
    exact ⟨rfl, HE.out.2⟩
  rw [e3] at hp
  obtain ⟨⟨v, rfl, rfl⟩, r3, k3⟩ := hp
  have G3 := Lib.hid (⟨r3, k3.keep G2'.out.2.1 (by omega), G2'.out.2.2.trans k3⟩ : RdAt bs N A n cap rb a3 W3 ∧ W3.heap[w.heap.size]? = _ ∧ Only rb w W3)
  clear r3 k3
  have E3 := Lib.hid e3
  clear e3
  go_wp2_with fail
  (with_reducible refine (number_i 1 1 rfl _ G3.out.1 (by decide)).mono ?_)
  intro e W4 hp
  rcases e4 : rdN 1 (bitB bs) N a3 with _ | ⟨q, a4⟩
  · rw [e4] at hp
    obtain ⟨rfl, k1⟩ := hp
    have hz : rdFlank (bitB bs) N a = none := by simp [rdFlank, rdBind, E1.out, E2.out, E3.out, e4]
    have HE := Lib.hid (⟨hz, G3.out.2.2.trans k1⟩ : _ ∧ Only rb w W4)
    clear hz k1 e4
    go_wp2
    refine ⟨rfl, ?_⟩
    show RdPost _ _ _ _ _ _ _ (rdFlank (bitB bs) N a) w _ _
    rw [HE.out.1]
    exact ⟨rfl, HE.out.2⟩
  rw [e4] at hp
  obtain ⟨⟨v, rfl, rfl⟩, r4, k4⟩ := hp
  have G4 := Lib.hid (⟨r4, k4.keep G3.out.2.1 (by omega), G3.out.2.2.trans k4⟩ : RdAt bs N A n cap rb a4 W4 ∧ W4.heap[w.heap.size]? = _ ∧ Only rb w W4)
  clear r4 k4
  have E4 := Lib.hid e4
  clear e4
  have hb := G4.out.2.1
  have y0 : W4.cell? ⟨w.heap.size, 0, none⟩ = some (.int .i64 (s : Nat)) := by simp [World.cell?, hb]
  have y1 : W4.cell? ⟨w.heap.size, 1, none⟩ = some (.int .i64 (u : Nat)) := by simp [World.cell?, hb]
  have y2 : W4.cell? ⟨w.heap.size, 2, none⟩ = some (.int .i64 0) := by simp [World.cell?, hb]
  have y3 : W4.cell? ⟨w.heap.size, 3, none⟩ = some (.int .i64 0) := by simp [World.cell?, hb]
  have yf : ∀ o, W4.frozen? ⟨w.heap.size, o, none⟩ = false := fun o => frozen_of_row _ _ _ _ _ hb
  have yl : w.heap.size < W4.heap.size := (Array.getElem?_eq_some_iff.1 hb).1
  go_upto_region 3 with fail
  obtain ⟨V3, hV3⟩ : ∃ V, V = ((W4.setCell ⟨w.heap.size, 2, none⟩ (.int .i64 (p : Nat))).setCell ⟨w.heap.size, 3, none⟩ (.int .i64 (q : Nat))) := ⟨_, rfl⟩
  rw [← hV3]
  have G4' : Hid (RdAt bs N A n cap rb a4 V3 ∧ V3.heap[w.heap.size]? = some (.cells #[.int .i64 (s : Nat), .int .i64 (u : Nat), .int .i64 (p : Nat), .int .i64 (q : Nat)] 75 (0, 0)) ∧ Only rb w V3) := Lib.hid (by
    have ho : Only rb w V3 := by
      rw [hV3]
      repeat refine Only.setNew ?_ (Nat.le_refl _)
      exact G4.out.2.2
    refine ⟨H0.out.frame ho ?_ G4.out.1.pos, ?_, ho⟩
    · rw [hV3]
      iterate 2 rw [Below.heap_setCell _ _ _ _ (by dsimp only; omega)]
      exact G4.out.1.bx
    · rw [hV3]
      have h0 := G4.out.2.1
      replace h0 := heap_setCell_same _ w.heap.size 2 _ _ (.int .i64 (p : Nat)) h0
      replace h0 := heap_setCell_same _ w.heap.size 3 _ _ (.int .i64 (q : Nat)) h0
      exact h0)
  clear hV3 hb yf yl y0 y1 y2 y3
  have hb := G4'.out.2.1
  have y0 : V3.cell? ⟨w.heap.size, 0, none⟩ = some (.int .i64 (s : Nat)) := by simp [World.cell?, hb]
  have y1 : V3.cell? ⟨w.heap.size, 1, none⟩ = some (.int .i64 (u : Nat)) := by simp [World.cell?, hb]
  have y2 : V3.cell? ⟨w.heap.size, 2, none⟩ = some (.int .i64 (p : Nat)) := by simp [World.cell?, hb]
  have y3 : V3.cell? ⟨w.heap.size, 3, none⟩ = some (.int .i64 (q : Nat)) := by simp [World.cell?, hb]
  have yf : ∀ o, V3.frozen? ⟨w.heap.size, o, none⟩ = false := fun o => frozen_of_row _ _ _ _ _ hb
  have yl : w.heap.size < V3.heap.size := (Array.getElem?_eq_some_iff.1 hb).1
  clear hb
  go_wp2
  have hz : rdFlank (bitB bs) N a = some (⟨s, u, p, q⟩, a4) := by simp [rdFlank, rdBind, rdRet, E1.out, E2.out, E3.out, E4.out]
  refine bodyPost_ret (v := .agg #[.int .i64 (s : Nat), .int .i64 (u : Nat), .int .i64 (p : Nat), .int .i64 (q : Nat)]) (by simp [results, Tryd.results73, go_sem, *]) rfl ?_
  rw [hz]
  refine ⟨⟨_, rfl, rfl⟩, H0.out.frame ?_ ?_ G4'.out.1.pos, ?_⟩
  · repeat refine Only.setNew ?_ (Nat.le_refl _)
    exact G4'.out.2.2
  · iterate 4 rw [Below.heap_setCell _ _ _ _ (by dsimp only; omega)]
    exact G4'.out.1.bx
  · repeat refine Only.setNew ?_ (Nat.le_refl _)
    exact G4'.out.2.2

end
end Go.Proofs.YtpnnbihofoomeaaDoor

/-
  plan.reader: an exit.
-/
namespace Go.Proofs.YtpnnbihofoomeaaDoor
open Go.RowKit Go.Shelf

def rdStp : Rd Stp := rdBind (rdN 5) fun s => rdBind (rdN 2) fun i => rdBind (rdN 2) fun o => rdRet ⟨s, i, o⟩
/-- As many as that, one behind the other. -/
def rdMany {α : Type} (r : Rd α) : Nat → Rd (List α)
  | 0 => rdRet []
  | k + 1 => rdBind (rdMany r k) fun xs => rdBind r fun x => rdRet (xs ++ [x])
theorem rdMany_none {α : Type} {r : Rd α} {f : Nat → Bool} {N a j : Nat} (h : rdMany r j f N a = none) : ∀ k, j ≤ k → rdMany r k f N a = none := by
  intro k hk
  induction hk with
  | refl => exact h
  | step _ ih =>
    show rdBind _ _ f N a = none
    unfold rdBind
    rw [ih]
theorem rdMany_next {α : Type} {r : Rd α} {f : Nat → Bool} {N a j b : Nat} {xs : List α} (h : rdMany r j f N a = some (xs, b)) : rdMany r (j + 1) f N a = match r f N b with
    | some (x, c) => some (xs ++ [x], c)
    | none => none := by
  show rdBind _ _ f N a = _
  unfold rdBind
  rw [h]
  dsimp only
  unfold rdRet
  cases r f N b <;> rfl
theorem rdMany_len {α : Type} {r : Rd α} {f : Nat → Bool} {N a : Nat} : ∀ {j b : Nat} {xs : List α}, rdMany r j f N a = some (xs, b) → xs.length = j
  | 0, b, xs, h => by
    have : (some ([], a) : Option (List α × Nat)) = some (xs, b) := h
    cases this
    rfl
  | j + 1, b, xs, h => by
    cases e : rdMany r j f N a with
    | none => rw [rdMany_none e (j + 1) (by omega)] at h; cases h
    | some p =>
      obtain ⟨ys, c⟩ := p
      rw [rdMany_next e] at h
      cases e2 : r f N c with
      | none => rw [e2] at h; cases h
      | some q =>
        obtain ⟨x, d⟩ := q
        rw [e2] at h
        cases h
        rw [List.length_append, rdMany_len e]
        rfl
def rdExit : Rd Ext' := rdBind rdPort fun p => rdBind (rdN 2) fun m => rdBind (rdMany rdStp m) fun o => rdRet ⟨p.s, p.p, o⟩
theorem rdN_lt {w : Nat} {f : Nat → Bool} {N a x b : Nat} (h : rdN w f N a = some (x, b)) : x < 2 ^ w := by
  unfold rdN at h
  split at h
  · cases h
    exact takeN_lt f a w
  · cases h
section
variable {bs : List Nat} {N : Nat} {A : Option Addr} {n cap rb a a' : Nat}
theorem Only.low {w W : World} (k : Only rb w W) (hr : w.heap.size ≤ rb) : Below w.heap.size w W := ⟨k.os, k.tape, k.output, k.size, fun b hb => k.block b hb (fun e => by cases e; omega)⟩
theorem owns_only {W W' : World} {base e size : Nat} {v : Value} {n : Nat} {xs : List Value} (h : W.ownsRow base e size v n xs) (k : Only rb W W') (hb : rb < base) : W'.ownsRow base e size v n xs :=
  owns_same h fun _ _ hge hg => k.keep hg (by omega)
theorem Only.grown {w W W' : World} {base e size : Nat} {v : Value} {n : Nat} {xs : List Value} (k : Only rb w W) (h : W.ownsRow base e size v n xs) (hb : w.heap.size ≤ base) (g : W.grownBy W' v.ownBlock) : Only rb w W' := by
  refine ⟨g.os.trans k.os, g.tape.trans k.tape, g.output.trans k.output, Nat.le_trans k.size g.size, fun b hb' hn => (g.block b (Nat.lt_of_lt_of_le hb' k.size) fun he => ?_).trans (k.block b hb' hn)⟩
  rcases h.2 with ⟨rfl, _⟩ | ⟨g', cap', cur', rfl, hge, _⟩
  · cases he
  · obtain rfl : b = g' := by simpa [Value.ownBlock] using he
    omega
theorem owns_setn {W : World} {base e size : Nat} {v : Value} {n : Nat} {xs : List Value} (h : W.ownsRow base e size v n xs) {sb i : Nat} {u : Value} (hn : v.ownBlock ≠ some sb) : (W.setCell ⟨sb, i, none⟩ u).ownsRow base e size v n xs := by
  refine ⟨h.1, ?_⟩
  rcases h.2 with h2 | ⟨g, cap, cur, rfl, hb, hg, rest⟩
  · exact .inl h2
  · exact .inr ⟨g, cap, cur, rfl, hb, (Below.heap_setCell _ _ _ _ (fun e => hn (by cases e; rfl))).trans hg, rest⟩
theorem owns_new {W : World} {base e size : Nat} {v : Value} {n : Nat} {xs : List Value} (h : W.ownsRow base e size v n xs) : v.ownBlock ≠ some W.heap.size := by
  intro he
  rcases h.2 with ⟨rfl, _⟩ | ⟨g, cap, cur, rfl, hb, hg, rest⟩
  · cases he
  · obtain rfl : g = W.heap.size := by simpa [Value.ownBlock] using he
    exact absurd (Array.getElem?_eq_some_iff.1 hg).1 (Nat.lt_irrefl _)

set_option maxRecDepth 100000 in
set_option maxHeartbeats 16000000 in
theorem rexit_any (w : World) (h : RdAt bs N A n cap rb a w) :
    Calls Tryd.prog 72 #[.pointer (some ⟨rb, 0, none⟩)] w (RdPost bs N A n cap rb (fun (x : Ext') v W' => ∃ ov, v = .agg #[.int .i64 x.s, .int .i64 x.p, ov] ∧ W'.ownsRow w.heap.size 73 3 ov x.over.length (x.over.flatMap Stp.enc)) (rdExit (bitB bs) N a) w) := by
  have H0 := Lib.hid h
  have hrl := h.lt
  clear h
  have hb0 : Below w.heap.size w (w.alloc (.cells #[.int .i64 0, .int .i64 0, .slice none 0 0] 51)) := bself
  have G0 := Lib.hid (⟨H0.out.below hb0, World.alloc_heap_new w (.cells #[.int .i64 0, .int .i64 0, .slice none 0 0] 51), Only.of_below hb0⟩ : RdAt bs N A n cap rb a (w.alloc (.cells #[.int .i64 0, .int .i64 0, .slice none 0 0] 51)) ∧ _ ∧ Only rb w _)
  clear hb0
  go_enter Tryd.func72, Tryd.ntmps72
  go_wp2_with fail
  (with_reducible refine (rport_any _ G0.out.1).mono ?_)
  intro e W1 hp
  rcases e1 : rdPort (bitB bs) N a with _ | ⟨p, a1⟩
  · rw [e1] at hp
    obtain ⟨rfl, k1⟩ := hp
    have hz : rdExit (bitB bs) N a = none := by simp [rdExit, rdBind, e1]
    have HE := Lib.hid (⟨hz, G0.out.2.2.trans k1⟩ : _ ∧ Only rb w W1)
    clear hz k1 e1
    go_wp2
    refine ⟨rfl, ?_⟩
    show RdPost _ _ _ _ _ _ _ (rdExit (bitB bs) N a) w _ _
    rw [HE.out.1]
    exact ⟨rfl, HE.out.2⟩
  rw [e1] at hp
  obtain ⟨⟨v, rfl, rfl⟩, r1, k1⟩ := hp
  have hb1 := k1.keep G0.out.2.1 (by omega)
  have y0 : W1.cell? ⟨w.heap.size, 0, none⟩ = some (.int .i64 0) := by simp [World.cell?, hb1]
  have y1 : W1.cell? ⟨w.heap.size, 1, none⟩ = some (.int .i64 0) := by simp [World.cell?, hb1]
  have yf : ∀ o, W1.frozen? ⟨w.heap.size, o, none⟩ = false := fun o => frozen_of_row _ _ _ _ _ hb1
  have yl : w.heap.size < W1.heap.size := (Array.getElem?_eq_some_iff.1 hb1).1
  obtain ⟨ps, pp⟩ := p
  dsimp only
  have E1 := Lib.hid e1
  have G1 := Lib.hid (⟨r1, hb1, G0.out.2.2.trans k1⟩ : RdAt bs N A n cap rb a1 W1 ∧ _ ∧ Only rb w W1)
  clear e1 r1 hb1 k1
  go_upto_region 2 with fail
  obtain ⟨V, hV⟩ : ∃ V, V = (W1.setCell ⟨w.heap.size, 0, none⟩ (.int .i64 ps)).setCell ⟨w.heap.size, 1, none⟩ (.int .i64 pp) := ⟨_, rfl⟩
  rw [← hV]
  have GV : Hid (RdAt bs N A n cap rb a1 V ∧ V.heap[w.heap.size]? = some (.cells #[.int .i64 ps, .int .i64 pp, .slice none 0 0] 51 (0, 0)) ∧ Only rb w V) := Lib.hid (by
    have ho : Only rb w V := by
      rw [hV]
      repeat refine Only.setNew ?_ (Nat.le_refl _)
      exact G1.out.2.2
    refine ⟨H0.out.frame ho ?_ G1.out.1.pos, ?_, ho⟩
    · rw [hV]
      iterate 2 rw [Below.heap_setCell _ _ _ _ (by dsimp only; omega)]
      exact G1.out.1.bx
    · rw [hV]
      have h0 := G1.out.2.1
      replace h0 := heap_setCell_same _ w.heap.size 0 _ _ (.int .i64 ps) h0
      replace h0 := heap_setCell_same _ w.heap.size 1 _ _ (.int .i64 pp) h0
      exact h0)
  clear hV y0 y1 yf yl
  go_wp2_with fail
  (with_reducible refine (number_i 2 2 rfl _ GV.out.1 (by decide)).mono ?_)
  intro e W2 hp
  rcases e2 : rdN 2 (bitB bs) N a1 with _ | ⟨m, a2⟩
  · rw [e2] at hp
    obtain ⟨rfl, k1⟩ := hp
    have hz : rdExit (bitB bs) N a = none := by simp [rdExit, rdBind, E1.out, e2]
    have HE := Lib.hid (⟨hz, GV.out.2.2.trans k1⟩ : _ ∧ Only rb w W2)
    clear hz k1 e2
    go_wp2
    refine ⟨rfl, ?_⟩
    show RdPost _ _ _ _ _ _ _ (rdExit (bitB bs) N a) w _ _
    rw [HE.out.1]
    exact ⟨rfl, HE.out.2⟩
  rw [e2] at hp
  obtain ⟨⟨v, rfl, rfl⟩, r2, k2⟩ := hp
  have hm4 : m < 2 ^ 2 := rdN_lt e2
  have hm4' : m < 4 := hm4
  have hmax : max (m : Int) 0 = (m : Int) := by omega
  have E2 := Lib.hid e2
  have G2 := Lib.hid (⟨r2, k2.keep GV.out.2.1 (by omega), GV.out.2.2.trans k2⟩ : RdAt bs N A n cap rb a2 W2 ∧ W2.heap[w.heap.size]? = _ ∧ Only rb w W2)
  have HEX := Lib.hid (show rdExit (bitB bs) N a = match rdMany rdStp m (bitB bs) N a2 with
      | some (o, c) => some (⟨ps, pp, o⟩, c)
      | none => none by
    unfold rdExit rdBind
    rw [E1.out]
    dsimp only
    rw [e2]
    dsimp only [rdRet]
    cases rdMany rdStp m (bitB bs) N a2 <;> rfl)
  clear e2 r2 k2 hm4
  go_wp2_with fail
  go_loopw [9] (fun cc wr => ∃ (j b : Nat) (xs : List Stp) (O : Option Addr) (oc : Nat), j ≤ m ∧ cc = .int .i64 j ∧ Hid (rdMany rdStp j (bitB bs) N a2 = some (xs, b)) ∧ Hid (RdAt bs N A n cap rb b wr ∧ wr.heap[w.heap.size]? = some (.cells #[.int .i64 ps, .int .i64 pp, .slice O j oc] 51 (0, 0)) ∧ Only rb w wr ∧ wr.ownsRow w.heap.size 73 3 (.slice O j oc) j (xs.flatMap Stp.enc))) (fun cc _ => m - (intOf cc).toNat)
  case atStart => exact ⟨0, a2, [], none, 0, Nat.zero_le _, rfl, Lib.hid rfl, Lib.hid ⟨G2.out.1, G2.out.2.1, G2.out.2.2, World.ownsRow_nil _ _ _ _⟩⟩
  case round =>
    obtain ⟨j, b, xs, O, oc, hj, rfl, HM, HS⟩ := hrel
    clear G2
    by_cases hlt : j < m
    · have hji : (j : Int) < (m : Int) := by omega
      have hbad : rdStp (bitB bs) N b = none → rdExit (bitB bs) N a = none := fun h => by
        have h1 := rdMany_next HM.out
        rw [h] at h1
        rw [HEX.out, rdMany_none h1 m (by omega)]
      have HBAD := Lib.hid hbad
      clear hbad
      go_wp2_with fail
      (with_reducible refine (number_i 5 5 rfl _ HS.out.1 (by decide)).mono ?_)
      intro e W3 hp
      rcases ee : rdN 5 (bitB bs) N b with _ | ⟨s, b1⟩
      · rw [ee] at hp
        obtain ⟨rfl, k1⟩ := hp
        have hz : rdExit (bitB bs) N a = none := HBAD.out (by simp [rdStp, rdBind, ee])
        have HE := Lib.hid (⟨hz, HS.out.2.2.1.trans k1⟩ : _ ∧ Only rb w W3)
        clear hz k1 ee
        go_wp2
        refine ⟨rfl, ?_⟩
        show RdPost _ _ _ _ _ _ _ (rdExit (bitB bs) N a) w _ _
        rw [HE.out.1]
        exact ⟨rfl, HE.out.2⟩
      rw [ee] at hp
      obtain ⟨⟨v, rfl, rfl⟩, rr, kk⟩ := hp
      have F1 := Lib.hid ee
      have hwl : w.heap.size < wr.heap.size := (Array.getElem?_eq_some_iff.1 HS.out.2.1).1
      have hrl2 : rb < w.heap.size := hrl
      have G3 := Lib.hid (⟨rr, kk.keep HS.out.2.1 (by omega), HS.out.2.2.1.trans kk, owns_only HS.out.2.2.2 kk (by omega), kk.size⟩ : RdAt bs N A n cap rb b1 W3 ∧ W3.heap[w.heap.size]? = _ ∧ Only rb w W3 ∧ W3.ownsRow w.heap.size 73 3 (.slice O j oc) j (xs.flatMap Stp.enc) ∧ wr.heap.size ≤ W3.heap.size)
      have hw3 : w.heap.size < W3.heap.size := Nat.lt_of_lt_of_le hwl kk.size
      clear ee rr kk HS
      go_upto_region 5 with fail
      obtain ⟨U, hU⟩ : ∃ U, U = W3.alloc (.cells #[.int .i64 s, .int .i64 0, .int .i64 0] 73) := ⟨_, rfl⟩
      rw [← hU]
      obtain ⟨sb, hsb⟩ : ∃ sb, sb = W3.heap.size := ⟨_, rfl⟩
      rw [← hsb]
      have hsw : w.heap.size < sb := by omega
      have GU : Hid (RdAt bs N A n cap rb b1 U ∧ U.heap[w.heap.size]? = some (.cells #[.int .i64 ps, .int .i64 pp, .slice O j oc] 51 (0, 0)) ∧ Only rb w U ∧ U.ownsRow w.heap.size 73 3 (.slice O j oc) j (xs.flatMap Stp.enc) ∧ U.heap[sb]? = some (.cells #[.int .i64 s, .int .i64 0, .int .i64 0] 73 (0, 0))) := Lib.hid (by
        have hbl : Below W3.heap.size W3 U := by rw [hU]; exact bself
        refine ⟨G3.out.1.below hbl, (hbl.block _ hw3).trans G3.out.2.1, G3.out.2.2.1.trans (Only.of_below hbl), owns_below G3.out.2.2.2.1 hbl, ?_⟩
        rw [hU, hsb]
        exact World.alloc_heap_new _ _)
      have NE := Lib.hid (by have := owns_new G3.out.2.2.2.1; rw [hsb]; exact this : (Value.slice O j oc).ownBlock ≠ some sb)
      clear hU hsb hwl hw3 G3
      go_wp2_with fail
      (with_reducible refine (number_i 2 2 rfl _ GU.out.1 (by decide)).mono ?_)
      intro e W4 hp
      rcases ee : rdN 2 (bitB bs) N b1 with _ | ⟨i, b2⟩
      · rw [ee] at hp
        obtain ⟨rfl, k1⟩ := hp
        have hz : rdExit (bitB bs) N a = none := HBAD.out (by simp [rdStp, rdBind, F1.out, ee])
        have HE := Lib.hid (⟨hz, GU.out.2.2.1.trans k1⟩ : _ ∧ Only rb w W4)
        clear hz k1 ee
        go_wp2
        refine ⟨rfl, ?_⟩
        show RdPost _ _ _ _ _ _ _ (rdExit (bitB bs) N a) w _ _
        rw [HE.out.1]
        exact ⟨rfl, HE.out.2⟩
      rw [ee] at hp
      obtain ⟨⟨v, rfl, rfl⟩, rr, kk⟩ := hp
      have F2 := Lib.hid ee
      have G4 : Hid (RdAt bs N A n cap rb b2 W4 ∧ W4.heap[w.heap.size]? = some (.cells #[.int .i64 ps, .int .i64 pp, .slice O j oc] 51 (0, 0)) ∧ Only rb w W4 ∧ W4.ownsRow w.heap.size 73 3 (.slice O j oc) j (xs.flatMap Stp.enc) ∧ W4.heap[sb]? = some (.cells #[.int .i64 s, .int .i64 0, .int .i64 0] 73 (0, 0))) := Lib.hid ⟨rr, kk.keep GU.out.2.1 (by omega), GU.out.2.2.1.trans kk, owns_only GU.out.2.2.2.1 kk (by omega), kk.keep GU.out.2.2.2.2 (by omega)⟩
      clear ee rr kk GU
      go_wp2_with fail
      (with_reducible refine (number_i 2 2 rfl _ G4.out.1 (by decide)).mono ?_)
      intro e W5 hp
      rcases ee : rdN 2 (bitB bs) N b2 with _ | ⟨o, b3⟩
      · rw [ee] at hp
        obtain ⟨rfl, k1⟩ := hp
        have hz : rdExit (bitB bs) N a = none := HBAD.out (by simp [rdStp, rdBind, F1.out, F2.out, ee])
        have HE := Lib.hid (⟨hz, G4.out.2.2.1.trans k1⟩ : _ ∧ Only rb w W5)
        clear hz k1 ee
        go_wp2
        refine ⟨rfl, ?_⟩
        show RdPost _ _ _ _ _ _ _ (rdExit (bitB bs) N a) w _ _
        rw [HE.out.1]
        exact ⟨rfl, HE.out.2⟩
      rw [ee] at hp
      obtain ⟨⟨v, rfl, rfl⟩, rr, kk⟩ := hp
      have F3 := Lib.hid ee
      have G5 : Hid (RdAt bs N A n cap rb b3 W5 ∧ W5.heap[w.heap.size]? = some (.cells #[.int .i64 ps, .int .i64 pp, .slice O j oc] 51 (0, 0)) ∧ Only rb w W5 ∧ W5.ownsRow w.heap.size 73 3 (.slice O j oc) j (xs.flatMap Stp.enc) ∧ W5.heap[sb]? = some (.cells #[.int .i64 s, .int .i64 0, .int .i64 0] 73 (0, 0))) := Lib.hid ⟨rr, kk.keep G4.out.2.1 (by omega), G4.out.2.2.1.trans kk, owns_only G4.out.2.2.2.1 kk (by omega), kk.keep G4.out.2.2.2.2 (by omega)⟩
      clear ee rr kk G4
      have hb := G5.out.2.2.2.2
      have y1 : W5.cell? ⟨sb, 1, none⟩ = some (.int .i64 0) := by simp [World.cell?, hb]
      have y2 : W5.cell? ⟨sb, 2, none⟩ = some (.int .i64 0) := by simp [World.cell?, hb]
      have yf : ∀ o, W5.frozen? ⟨sb, o, none⟩ = false := fun o => frozen_of_row _ _ _ _ _ hb
      have yl : sb < W5.heap.size := (Array.getElem?_eq_some_iff.1 hb).1
      clear hb
      go_upto_region 6 with fail
      obtain ⟨V, hV⟩ : ∃ V, V = (W5.setCell ⟨sb, 1, none⟩ (.int .i64 i)).setCell ⟨sb, 2, none⟩ (.int .i64 o) := ⟨_, rfl⟩
      rw [← hV]
      have GV2 : Hid (RdAt bs N A n cap rb b3 V ∧ V.heap[w.heap.size]? = some (.cells #[.int .i64 ps, .int .i64 pp, .slice O j oc] 51 (0, 0)) ∧ Only rb w V ∧ V.ownsRow w.heap.size 73 3 (.slice O j oc) j (xs.flatMap Stp.enc) ∧ V.heap[sb]? = some (.cells #[.int .i64 s, .int .i64 i, .int .i64 o] 73 (0, 0))) := Lib.hid (by
        have ho : Only rb w V := by
          rw [hV]
          repeat refine Only.setNew ?_ (by dsimp only; omega)
          exact G5.out.2.2.1
        have h0 := G5.out.2.2.2.2
        have h1 := heap_setCell_same _ sb 1 _ _ (.int .i64 i) h0
        have h2 := heap_setCell_same _ sb 2 _ _ (.int .i64 o) h1
        refine ⟨H0.out.frame ho ?_ G5.out.1.pos, ?_, ho, ?_, ?_⟩
        · rw [hV]
          iterate 2 rw [Below.heap_setCell _ _ _ _ (by dsimp only; omega)]
          exact G5.out.1.bx
        · rw [hV]
          iterate 2 rw [Below.heap_setCell _ _ _ _ (by dsimp only; omega)]
          exact G5.out.2.1
        · rw [hV]
          exact owns_setn (owns_setn G5.out.2.2.2.1 NE.out) NE.out
        · rw [hV]
          exact h2)
      clear hV y1 y2 yf yl G5
      have hb := GV2.out.2.2.2.2
      have y0 : V.cell? ⟨sb, 0, none⟩ = some (.int .i64 s) := by simp [World.cell?, hb]
      have y1 : V.cell? ⟨sb, 1, none⟩ = some (.int .i64 i) := by simp [World.cell?, hb]
      have y2 : V.cell? ⟨sb, 2, none⟩ = some (.int .i64 o) := by simp [World.cell?, hb]
      have yl : sb < V.heap.size := (Array.getElem?_eq_some_iff.1 hb).1
      clear hb
      have hb := GV2.out.2.1
      have z2 : V.cell? ⟨w.heap.size, 2, none⟩ = some (.slice O j oc) := by simp [World.cell?, hb]
      have zf : ∀ o, V.frozen? ⟨w.heap.size, o, none⟩ = false := fun o => frozen_of_row _ _ _ _ _ hb
      have zl : w.heap.size < V.heap.size := (Array.getElem?_eq_some_iff.1 hb).1
      clear hb
      obtain ⟨i0, z0, hi, hz, hs1, hs2, hs3⟩ := info_Step
      have HI := Lib.hid (⟨hi, hz, hs1, hs2, hs3⟩ : _ ∧ _ ∧ _ ∧ _ ∧ _)
      clear hi hz hs1 hs2 hs3
      go_wp2_with (at_builtin; refine Hid.out ?_)
      refine Lib.hid ?_
      have HO := Lib.hid (owns_below GV2.out.2.2.2.1 (bself (o := .cells #[.int .i64 s, .int .i64 i, .int .i64 o] 73)))
      refine wpList_append_at (enc := Stp.enc) rfl _ _ _ rfl w.heap.size 73 i0 z0 3 i0.bytes Tryd.underlying49 HI.out.1 HI.out.2.1 HI.out.2.2.1 rfl HI.out.2.2.2.1 (by decide) (.slice O j oc) j (xs.flatMap Stp.enc) rfl HO.out (some ⟨V.heap.size, 0, none⟩) 1 1 [(⟨(s : Int), (i : Int), (o : Int)⟩ : Stp)] rfl (by simp [go_sem]) (at_one rfl) (fun _ => rfl) stp_one (by unfold maxLen; omega) ?_ (by simp; omega) ?_
      · have h2 := Nat.mul_le_mul (show j + 1 ≤ 4 by omega) HI.out.2.2.2.2
        omega
      intro v' X hr hgr
      obtain ⟨A', d', rfl⟩ := ownsV hr
      have hvx : X.heap[w.heap.size]? = some (.cells #[.int .i64 ps, .int .i64 pp, .slice O j oc] 51 (0, 0)) := heap_grown HO.out hgr ((bself.block _ zl).trans GV2.out.2.1) (by decide)
      have hrx : X.heap[rb]? = some (.cells #[.slice A n cap, .int .i64 N, .int .i64 b3] 81 (0, 0)) := heap_grown HO.out hgr ((bself.block _ GV2.out.1.lt).trans GV2.out.1.bx) (by decide)
      have hox : Only rb w X := Only.grown (GV2.out.2.2.1.trans (Only.of_below bself)) HO.out (Nat.le_refl _) hgr
      have v1 : X.cell? ⟨w.heap.size, 2, none⟩ = some (.slice O j oc) := by simp [World.cell?, hvx]
      have v2 : X.frozen? ⟨w.heap.size, 2, none⟩ = false := frozen_of_row _ _ _ _ _ hvx
      have v3 : w.heap.size < X.heap.size := (Array.getElem?_eq_some_iff.1 hvx).1
      have GX := Lib.hid (⟨hvx, hrx, hox, hr⟩ : _ ∧ _ ∧ _ ∧ _)
      clear hvx hrx hox hr hgr HO y0 y1 y2 yl z2 zf zl
      go_wp2_with fail
      go_roundw
      case measure => simp [intOf]; omega
      case rel =>
        refine ⟨j + 1, b3, xs ++ [⟨s, i, o⟩], A', d', by omega, by go_num, Lib.hid ?_, Lib.hid ⟨?_, ?_, ?_, ?_⟩⟩
        · have hst : rdStp (bitB bs) N b = some (⟨s, i, o⟩, b3) := by simp [rdStp, rdBind, rdRet, F1.out, F2.out, F3.out]
          rw [rdMany_next HM.out, hst]
        · refine H0.out.frame (GX.out.2.2.1.setNew (Nat.le_refl _)) ?_ GV2.out.1.pos
          rw [Below.heap_setCell _ _ _ _ (by dsimp only; omega)]
          exact GX.out.2.1
        · rw [heap_setCell_same _ _ _ _ _ _ GX.out.1]
          rfl
        · exact GX.out.2.2.1.setNew (Nat.le_refl _)
        · rw [List.flatMap_append]
          refine owns_kept GX.out.2.2.2 (set_others _ _ _) ?_
          intro cur hc
          rw [GX.out.1] at hc
          cases hc
    · have hjm : m = j := by omega
      subst hjm
      have hb := HS.out.2.1
      have y0 : wr.cell? ⟨w.heap.size, 0, none⟩ = some (.int .i64 ps) := by simp [World.cell?, hb]
      have y1 : wr.cell? ⟨w.heap.size, 1, none⟩ = some (.int .i64 pp) := by simp [World.cell?, hb]
      have y2 : wr.cell? ⟨w.heap.size, 2, none⟩ = some (.slice O m oc) := by simp [World.cell?, hb]
      have yf : ∀ o, wr.frozen? ⟨w.heap.size, o, none⟩ = false := fun o => frozen_of_row _ _ _ _ _ hb
      have yl : w.heap.size < wr.heap.size := (Array.getElem?_eq_some_iff.1 hb).1
      clear hb
      go_wp2
      have hz : rdExit (bitB bs) N a = some (⟨ps, pp, xs⟩, b) := by rw [HEX.out, HM.out]
      have hlx : xs.length = m := rdMany_len HM.out
      refine bodyPost_ret (v := .agg #[.int .i64 ps, .int .i64 pp, .slice O m oc]) (by simp [results, Tryd.results72, go_sem, *]) rfl ?_
      rw [hz]
      refine ⟨⟨_, rfl, _, rfl, ?_⟩, H0.out.frame ?_ ?_ HS.out.1.pos, ?_⟩
      · rw [hlx]
        have hne : (Value.slice O m oc).ownBlock ≠ some w.heap.size := by
          intro he
          rcases HS.out.2.2.2.2 with ⟨h2, _⟩ | ⟨g, cap, cur, h2, hb, hg, rest⟩
          · cases h2; cases he
          · cases h2
            obtain rfl : g = w.heap.size := by simpa [Value.ownBlock] using he
            rw [HS.out.2.1] at hg
            cases hg
        exact owns_setn (owns_setn (owns_setn HS.out.2.2.2 hne) hne) hne
      · repeat refine Only.setNew ?_ (Nat.le_refl _)
        exact HS.out.2.2.1
      · iterate 3 rw [Below.heap_setCell _ _ _ _ (by dsimp only; omega)]
        exact HS.out.1.bx
      · repeat refine Only.setNew ?_ (Nat.le_refl _)
        exact HS.out.2.2.1
end
end Go.Proofs.YtpnnbihofoomeaaDoor

/-
  plan.reader: a section.
-/
namespace Go.Proofs.YtpnnbihofoomeaaDoor
open Go.RowKit Go.Shelf

def rdJoin : Rd Prt := rdBind (rdN 1) fun b => if 0 < b then rdPort else rdRet ⟨-1, 0⟩
def Sec.setP (c : Sec) (q : Nat) (x : Prt) : Sec := match q with
  | 0 => { c with s0 := x.s, p0 := x.p }
  | 1 => { c with s1 := x.s, p1 := x.p }
  | 2 => { c with s2 := x.s, p2 := x.p }
  | _ => { c with s3 := x.s, p3 := x.p }
def Sec.setC (c : Sec) (q : Nat) (x : Int) : Sec := match q with
  | 0 => { c with c0 := x }
  | _ => { c with c1 := x }
def portAt (js : List Prt) (i q : Nat) : Prt := if q < i then js.getD q ⟨-1, 0⟩ else ⟨0, 0⟩
def mid (k : Int) (js : List Prt) (i : Nat) (cs : List Nat) : Sec := ⟨k, (portAt js i 0).s, (portAt js i 0).p, (portAt js i 1).s, (portAt js i 1).p, (portAt js i 2).s, (portAt js i 2).p, (portAt js i 3).s, (portAt js i 3).p, cs.getD 0 0, cs.getD 1 0⟩
theorem mid_off {k : Int} {js : List Prt} {q : Nat} (hq : q < 4) (h : js.length ≤ q) : (mid k js q []).setP q ⟨-1, 0⟩ = mid k js (q + 1) [] := by
  have e : js.getD q ⟨-1, 0⟩ = ⟨-1, 0⟩ := by simp [List.getD, List.getElem?_eq_none h]
  obtain rfl | rfl | rfl | rfl : q = 0 ∨ q = 1 ∨ q = 2 ∨ q = 3 := by omega
  all_goals simp only [mid, Sec.setP, portAt, Nat.reduceLT, if_true, if_false, Nat.lt_irrefl, Nat.reduceAdd, e]
theorem getD_old {α : Type} {js : List α} {x d : α} {i : Nat} (h : i < js.length) : (js ++ [x]).getD i d = js.getD i d := by
  simp [List.getD, List.getElem?_append_left h]
theorem getD_new {α : Type} {js : List α} {x d : α} {q : Nat} (h : js.length = q) : (js ++ [x]).getD q d = x := by
  subst h
  simp [List.getD]
theorem mid_on {k : Int} {js : List Prt} {x : Prt} {q : Nat} (hq : q < 4) (h : js.length = q) : ((mid k js q []).setP q ⟨-1, 0⟩).setP q x = mid k (js ++ [x]) (q + 1) [] := by
  have e := getD_new (x := x) (d := ⟨-1, 0⟩) h
  obtain rfl | rfl | rfl | rfl : q = 0 ∨ q = 1 ∨ q = 2 ∨ q = 3 := by omega
  · simp only [mid, Sec.setP, portAt, Nat.reduceLT, if_true, if_false, Nat.lt_irrefl, Nat.reduceAdd, e]
  · have e0 := getD_old (js := js) (x := x) (d := ⟨-1, 0⟩) (i := 0) (by omega)
    simp only [mid, Sec.setP, portAt, Nat.reduceLT, if_true, if_false, Nat.lt_irrefl, Nat.reduceAdd, e, e0]
  · have e0 := getD_old (js := js) (x := x) (d := ⟨-1, 0⟩) (i := 0) (by omega)
    have e1 := getD_old (js := js) (x := x) (d := ⟨-1, 0⟩) (i := 1) (by omega)
    simp only [mid, Sec.setP, portAt, Nat.reduceLT, if_true, if_false, Nat.lt_irrefl, Nat.reduceAdd, e, e0, e1]
  · have e0 := getD_old (js := js) (x := x) (d := ⟨-1, 0⟩) (i := 0) (by omega)
    have e1 := getD_old (js := js) (x := x) (d := ⟨-1, 0⟩) (i := 1) (by omega)
    have e2 := getD_old (js := js) (x := x) (d := ⟨-1, 0⟩) (i := 2) (by omega)
    simp only [mid, Sec.setP, portAt, Nat.reduceLT, if_true, if_false, Nat.lt_irrefl, Nat.reduceAdd, e, e0, e1, e2]
theorem mid_c {k : Int} {js : List Prt} {cs : List Nat} {x : Nat} {q : Nat} (hq : q < 2) (h : cs.length = q) : (mid k js 4 cs).setC q x = mid k js 4 (cs ++ [x]) := by
  have e := getD_new (x := x) (d := 0) h
  obtain rfl | rfl : q = 0 ∨ q = 1 := by omega
  · have hc : cs = [] := List.eq_nil_of_length_eq_zero h
    subst hc
    rfl
  · have e0 := getD_old (js := cs) (x := x) (d := 0) (i := 0) (by omega)
    simp only [mid, Sec.setC, e, e0]
def rdSec : Rd Sec := rdBind (rdN 2) fun k => rdBind (rdMany rdJoin (kPorts k).toNat) fun js => rdBind (rdMany (rdN 2) (kMany k).toNat) fun cs => rdRet (mid k js 4 cs)
theorem setP_k (c : Sec) (q : Nat) (x : Prt) : (c.setP q x).k = c.k := by unfold Sec.setP; split <;> rfl
section
variable {bs : List Nat} {N : Nat} {A : Option Addr} {n cap rb a a' : Nat}
theorem heap_join {W : World} {sb : Nat} {c : Sec} (q : Nat) (hq : q < 4) (x : Prt) (h : W.heap[sb]? = some (.cells c.enc.toArray 69 (0, 0))) : ((W.setCell ⟨sb, 1 + q * 2, none⟩ (.int .i64 x.s)).setCell ⟨sb, 1 + q * 2 + 1, none⟩ (.int .i64 x.p)).heap[sb]? = some (.cells (c.setP q x).enc.toArray 69 (0, 0)) := by
  have h1 := heap_setCell_same _ sb (1 + q * 2) _ _ (.int .i64 x.s) h
  have h2 := heap_setCell_same _ sb (1 + q * 2 + 1) _ _ (.int .i64 x.p) h1
  rw [h2]
  obtain rfl | rfl | rfl | rfl : q = 0 ∨ q = 1 ∨ q = 2 ∨ q = 3 := by omega
  all_goals rfl
theorem heap_class {W : World} {sb : Nat} {c : Sec} (q : Nat) (hq : q < 2) (x : Int) (h : W.heap[sb]? = some (.cells c.enc.toArray 69 (0, 0))) : (W.setCell ⟨sb, 9 + q, none⟩ (.int .i64 x)).heap[sb]? = some (.cells (c.setC q x).enc.toArray 69 (0, 0)) := by
  have h1 := heap_setCell_same _ sb (9 + q) _ _ (.int .i64 x) h
  rw [h1]
  obtain rfl | rfl : q = 0 ∨ q = 1 := by omega
  all_goals rfl

set_option maxRecDepth 100000 in
set_option maxHeartbeats 16000000 in
theorem rsection_any (w : World) (h : RdAt bs N A n cap rb a w) (hK : ∀ W, Only rb w W → Kinds W) :
    Calls Tryd.prog 70 #[.pointer (some ⟨rb, 0, none⟩)] w (RdPost bs N A n cap rb (fun (x : Sec) v _ => v = secV x.k x.S x.P x.C) (rdSec (bitB bs) N a) w) := by
  have H0 := Lib.hid h
  have HK := Lib.hid hK
  have hrl := h.lt
  clear h hK
  have hb0 : Below w.heap.size w (w.alloc (.cells #[.int .u8 0, .int .i64 0, .int .i64 0, .int .i64 0, .int .i64 0, .int .i64 0, .int .i64 0, .int .i64 0, .int .i64 0, .int .i64 0, .int .i64 0] 69)) := bself
  have G0 := Lib.hid (⟨H0.out.below hb0, World.alloc_heap_new w (.cells #[.int .u8 0, .int .i64 0, .int .i64 0, .int .i64 0, .int .i64 0, .int .i64 0, .int .i64 0, .int .i64 0, .int .i64 0, .int .i64 0, .int .i64 0] 69), Only.of_below hb0⟩ : RdAt bs N A n cap rb a (w.alloc (.cells #[.int .u8 0, .int .i64 0, .int .i64 0, .int .i64 0, .int .i64 0, .int .i64 0, .int .i64 0, .int .i64 0, .int .i64 0, .int .i64 0, .int .i64 0] 69)) ∧ _ ∧ Only rb w _)
  clear hb0
  go_enter Tryd.func70, Tryd.ntmps70
  go_wp2_with fail
  (with_reducible refine (number_i 2 2 rfl _ G0.out.1 (by decide)).mono ?_)
  intro e W1 hp
  rcases e1 : rdN 2 (bitB bs) N a with _ | ⟨k, a1⟩
  · rw [e1] at hp
    obtain ⟨rfl, k1⟩ := hp
    have hz : rdSec (bitB bs) N a = none := by simp [rdSec, rdBind, e1]
    have HE := Lib.hid (⟨hz, G0.out.2.2.trans k1⟩ : _ ∧ Only rb w W1)
    clear hz k1 e1
    go_wp2
    refine ⟨rfl, ?_⟩
    show RdPost _ _ _ _ _ _ _ (rdSec (bitB bs) N a) w _ _
    rw [HE.out.1]
    exact ⟨rfl, HE.out.2⟩
  rw [e1] at hp
  obtain ⟨⟨v, rfl, rfl⟩, r1, k1⟩ := hp
  have hk4 : k < 2 ^ 2 := rdN_lt e1
  have hk4' : k < 4 := hk4
  clear hk4
  have hb1 := k1.keep G0.out.2.1 (by omega)
  have y0 : W1.cell? ⟨w.heap.size, 0, none⟩ = some (.int .u8 0) := by simp [World.cell?, hb1]
  have yf : ∀ o, W1.frozen? ⟨w.heap.size, o, none⟩ = false := fun o => frozen_of_row _ _ _ _ _ hb1
  have yl : w.heap.size < W1.heap.size := (Array.getElem?_eq_some_iff.1 hb1).1
  have eu : IntKind.u8.wrap (k : Int) = k := IntWalk.u8_in _ (by omega)
  have E1 := Lib.hid e1
  have G1 := Lib.hid (⟨r1, hb1, G0.out.2.2.trans k1⟩ : RdAt bs N A n cap rb a1 W1 ∧ _ ∧ Only rb w W1)
  clear e1 r1 hb1 k1
  go_upto_region 2 with fail
  obtain ⟨V, hV⟩ : ∃ V, V = W1.setCell ⟨w.heap.size, 0, none⟩ (.int .u8 k) := ⟨_, rfl⟩
  rw [← hV]
  have GV : Hid (RdAt bs N A n cap rb a1 V ∧ V.heap[w.heap.size]? = some (.cells (mid k [] 0 []).enc.toArray 69 (0, 0)) ∧ Only rb w V) := Lib.hid (by
    have ho : Only rb w V := by
      rw [hV]
      refine Only.setNew ?_ (Nat.le_refl _)
      exact G1.out.2.2
    refine ⟨H0.out.frame ho ?_ G1.out.1.pos, ?_, ho⟩
    · rw [hV]
      rw [Below.heap_setCell _ _ _ _ (by dsimp only; omega)]
      exact G1.out.1.bx
    · rw [hV]
      have h0 := G1.out.2.1
      replace h0 := heap_setCell_same _ w.heap.size 0 _ _ (.int .u8 k) h0
      exact h0)
  clear hV y0 yf yl eu G1
  obtain ⟨P, hP⟩ : ∃ P, P = (kPorts k).toNat := ⟨_, rfl⟩
  have hPk : kPorts k = (P : Int) := by have := kPorts_nn k; omega
  have hP4 : P ≤ 4 := by
    have : kPorts k ≤ 4 := by unfold kPorts; split <;> (try split) <;> (try split) <;> omega
    omega
  have HSEC := Lib.hid (show rdSec (bitB bs) N a = match rdMany rdJoin P (bitB bs) N a1 with
      | none => none
      | some (js, b) => match rdMany (rdN 2) (kMany k).toNat (bitB bs) N b with
        | none => none
        | some (cs, c) => some (mid k js 4 cs, c) by
    unfold rdSec rdBind
    rw [E1.out, hP]
    dsimp only
    rcases rdMany rdJoin (kPorts k).toNat (bitB bs) N a1 with _ | ⟨js, b⟩
    · rfl
    · dsimp only
      rcases rdMany (rdN 2) (kMany k).toNat (bitB bs) N b with _ | ⟨cs, c⟩ <;> rfl)
  have HPK := Lib.hid hPk
  clear hP hPk
  go_wp2_with fail
  go_loopw [9] (fun cc wr => ∃ (q b : Nat) (js : List Prt), q ≤ 4 ∧ cc = .int .i64 q ∧ Hid (rdMany rdJoin (min q P) (bitB bs) N a1 = some (js, b)) ∧ Hid (RdAt bs N A n cap rb b wr ∧ wr.heap[w.heap.size]? = some (.cells (mid k js q []).enc.toArray 69 (0, 0)) ∧ Only rb w wr)) (fun cc _ => 4 - (intOf cc).toNat)
  case atStart => exact ⟨0, a1, [], Nat.zero_le _, rfl, Lib.hid (by rw [Nat.zero_min]; rfl), GV⟩
  case round =>
    obtain ⟨q, b, js, hq, rfl, HM, HS⟩ := hrel
    clear GV
    by_cases hlt4 : q < 4
    · have hl4 : (q : Int) < 4 := by omega
      have hw1 : q < 4 := hlt4
      have hb := HS.out.2.1
      have y1 := (boxS_heap hb).ports q hlt4
      obtain ⟨y1, y2⟩ := y1
      have yf : ∀ o, wr.frozen? ⟨w.heap.size, o, none⟩ = false := fun o => frozen_of_row _ _ _ _ _ hb
      have yl : w.heap.size < wr.heap.size := (Array.getElem?_eq_some_iff.1 hb).1
      clear hb
      go_upto_region 6 with fail
      obtain ⟨V2, hV2⟩ : ∃ V, V = (wr.setCell ⟨w.heap.size, 1 + q * 2, none⟩ (.int .i64 (-1))).setCell ⟨w.heap.size, 1 + q * 2 + 1, none⟩ (.int .i64 0) := ⟨_, rfl⟩
      rw [← hV2]
      have G2 : Hid (RdAt bs N A n cap rb b V2 ∧ V2.heap[w.heap.size]? = some (.cells ((mid k js q []).setP q ⟨-1, 0⟩).enc.toArray 69 (0, 0)) ∧ Only rb w V2) := Lib.hid (by
        have ho : Only rb w V2 := by
          rw [hV2]
          repeat refine Only.setNew ?_ (Nat.le_refl _)
          exact HS.out.2.2
        refine ⟨H0.out.frame ho ?_ HS.out.1.pos, ?_, ho⟩
        · rw [hV2]
          iterate 2 rw [Below.heap_setCell _ _ _ _ (by dsimp only; omega)]
          exact HS.out.1.bx
        · rw [hV2]
          exact heap_join q hlt4 ⟨-1, 0⟩ HS.out.2.1)
      clear hV2 y1 y2 yf yl HS
      have x0 : V2.cell? ⟨w.heap.size, 0, none⟩ = some (.int .u8 k) := by rw [(boxS_heap G2.out.2.1).cells.1, setP_k]; rfl
      have l0 := (boxS_heap G2.out.2.1).1
      go_wp2_with fail
      (with_reducible refine (ports_any k (by omega) (by omega) _ (HK.out _ G2.out.2.2)).mono ?_)
      rintro e W3 ⟨rfl, b3⟩
      have G3 : Hid (RdAt bs N A n cap rb b W3 ∧ W3.heap[w.heap.size]? = some (.cells ((mid k js q []).setP q ⟨-1, 0⟩).enc.toArray 69 (0, 0)) ∧ Only rb w W3) := Lib.hid ⟨G2.out.1.below b3, (b3.block _ l0).trans G2.out.2.1, G2.out.2.2.trans (Only.of_below b3)⟩
      clear b3 x0 l0 G2
      by_cases hlt : q < P
      · have hpi : (q : Int) < kPorts k := by rw [HPK.out]; omega
        have hbad : rdJoin (bitB bs) N b = none → rdSec (bitB bs) N a = none := fun h => by
          have h1 := HM.out
          rw [Nat.min_eq_left (by omega)] at h1
          have h2 := rdMany_next h1
          rw [h] at h2
          rw [HSEC.out, rdMany_none h2 P (by omega)]
        have HBAD := Lib.hid hbad
        clear hbad
        have HNX := Lib.hid (show ∀ x c, rdJoin (bitB bs) N b = some (x, c) → js.length = q ∧ rdMany rdJoin (min (q + 1) P) (bitB bs) N a1 = some (js ++ [x], c) from fun x c h => by
          have h1 := HM.out
          rw [Nat.min_eq_left (by omega)] at h1
          refine ⟨rdMany_len h1, ?_⟩
          rw [Nat.min_eq_left (by omega), rdMany_next h1, h])
        go_wp2_with fail
        (with_reducible refine (number_i 1 1 rfl _ G3.out.1 (by decide)).mono ?_)
        intro e W4 hp
        rcases ee : rdN 1 (bitB bs) N b with _ | ⟨x, b1⟩
        · rw [ee] at hp
          obtain ⟨rfl, k1⟩ := hp
          have hz : rdSec (bitB bs) N a = none := HBAD.out (by simp [rdJoin, rdBind, ee])
          have HE := Lib.hid (⟨hz, G3.out.2.2.trans k1⟩ : _ ∧ Only rb w W4)
          clear hz k1 ee
          go_wp2
          refine ⟨rfl, ?_⟩
          show RdPost _ _ _ _ _ _ _ (rdSec (bitB bs) N a) w _ _
          rw [HE.out.1]
          exact ⟨rfl, HE.out.2⟩
        rw [ee] at hp
        obtain ⟨⟨v, rfl, rfl⟩, rr, kk⟩ := hp
        have F1 := Lib.hid ee
        have G4 : Hid (RdAt bs N A n cap rb b1 W4 ∧ W4.heap[w.heap.size]? = some (.cells ((mid k js q []).setP q ⟨-1, 0⟩).enc.toArray 69 (0, 0)) ∧ Only rb w W4) := Lib.hid ⟨rr, kk.keep G3.out.2.1 (by omega), G3.out.2.2.trans kk⟩
        clear ee rr kk G3
        by_cases hx : 0 < x
        · have hxi : (0 : Int) < (x : Int) := by omega
          go_wp2_with fail
          (with_reducible refine (rport_any _ G4.out.1).mono ?_)
          intro e W5 hp
          rcases ee : rdPort (bitB bs) N b1 with _ | ⟨p, b2⟩
          · rw [ee] at hp
            obtain ⟨rfl, k1⟩ := hp
            have hz : rdSec (bitB bs) N a = none := HBAD.out (by simp [rdJoin, rdBind, F1.out, if_pos hx, ee])
            have HE := Lib.hid (⟨hz, G4.out.2.2.trans k1⟩ : _ ∧ Only rb w W5)
            clear hz k1 ee
            go_wp2
            refine ⟨rfl, ?_⟩
            show RdPost _ _ _ _ _ _ _ (rdSec (bitB bs) N a) w _ _
            rw [HE.out.1]
            exact ⟨rfl, HE.out.2⟩
          rw [ee] at hp
          obtain ⟨⟨v, rfl, rfl⟩, rr, kk⟩ := hp
          have hj : rdJoin (bitB bs) N b = some (p, b2) := by simp [rdJoin, rdBind, F1.out, if_pos hx, ee]
          have F2 := Lib.hid hj
          have G5 : Hid (RdAt bs N A n cap rb b2 W5 ∧ W5.heap[w.heap.size]? = some (.cells ((mid k js q []).setP q ⟨-1, 0⟩).enc.toArray 69 (0, 0)) ∧ Only rb w W5) := Lib.hid ⟨rr, kk.keep G4.out.2.1 (by omega), G4.out.2.2.trans kk⟩
          clear ee rr kk G4 hj
          obtain ⟨ps, pp⟩ := p
          dsimp only
          have hb := G5.out.2.1
          obtain ⟨y1, y2⟩ := (boxS_heap hb).ports q hlt4
          have yf : ∀ o, W5.frozen? ⟨w.heap.size, o, none⟩ = false := fun o => frozen_of_row _ _ _ _ _ hb
          have yl : w.heap.size < W5.heap.size := (Array.getElem?_eq_some_iff.1 hb).1
          clear hb
          go_wp2_with fail
          go_roundw
          case measure => simp [intOf]; omega
          case rel =>
            obtain ⟨hjl, hjm⟩ := HNX.out _ _ F2.out
            have ho : Only rb w ((W5.setCell ⟨w.heap.size, 1 + q * 2, none⟩ (.int .i64 ps)).setCell ⟨w.heap.size, 1 + q * 2 + 1, none⟩ (.int .i64 pp)) := by
              repeat refine Only.setNew ?_ (Nat.le_refl _)
              exact G5.out.2.2
            refine ⟨q + 1, b2, js ++ [⟨ps, pp⟩], by omega, by go_num, Lib.hid hjm, Lib.hid ⟨H0.out.frame ho ?_ G5.out.1.pos, ?_, ho⟩⟩
            · iterate 2 rw [Below.heap_setCell _ _ _ _ (by dsimp only; omega)]
              exact G5.out.1.bx
            · rw [← mid_on hlt4 hjl]
              exact heap_join q hlt4 ⟨ps, pp⟩ G5.out.2.1
        · have hx0 : x = 0 := by omega
          subst hx0
          have hj : rdJoin (bitB bs) N b = some (⟨-1, 0⟩, b1) := by simp [rdJoin, rdBind, rdRet, F1.out]
          have F2 := Lib.hid hj
          clear hj hx
          go_wp2_with fail
          go_roundw
          case measure => simp [intOf]; omega
          case rel =>
            obtain ⟨hjl, hjm⟩ := HNX.out _ _ F2.out
            refine ⟨q + 1, b1, js ++ [⟨-1, 0⟩], by omega, by go_num, Lib.hid hjm, Lib.hid ⟨G4.out.1, ?_, G4.out.2.2⟩⟩
            rw [← mid_on hlt4 hjl]
            have e2 : ((mid k js q []).setP q ⟨-1, 0⟩).setP q ⟨-1, 0⟩ = (mid k js q []).setP q ⟨-1, 0⟩ := by
              obtain rfl | rfl | rfl | rfl : q = 0 ∨ q = 1 ∨ q = 2 ∨ q = 3 := by omega
              all_goals rfl
            rw [e2]
            exact G4.out.2.1
      · have hpi : ¬ (q : Int) < kPorts k := by rw [HPK.out]; omega
        go_wp2_with fail
        go_roundw
        case measure => simp [intOf]; omega
        case rel =>
          have h1 := HM.out
          rw [Nat.min_eq_right (by omega)] at h1
          have hjl : js.length ≤ q := by rw [rdMany_len h1]; omega
          refine ⟨q + 1, b, js, by omega, by go_num, Lib.hid (by rw [Nat.min_eq_right (by omega)]; exact h1), Lib.hid ⟨G3.out.1, ?_, G3.out.2.2⟩⟩
          rw [← mid_off hlt4 hjl]
          exact G3.out.2.1
    · have hl4 : ¬ (q : Int) < 4 := by omega
      have hq4 : q = 4 := by omega
      have HMP := Lib.hid (show rdMany rdJoin P (bitB bs) N a1 = some (js, b) by have := HM.out; rwa [Nat.min_eq_right (by omega)] at this)
      clear HM
      subst hq4
      have x0 : wr.cell? ⟨w.heap.size, 0, none⟩ = some (.int .u8 k) := (boxS_heap HS.out.2.1).cells.1
      have l0 := (boxS_heap HS.out.2.1).1
      go_wp2_with fail
      (with_reducible refine (ways_any k (by omega) (by omega) _ (HK.out _ HS.out.2.2)).mono ?_)
      rintro e W3 ⟨rfl, b3⟩
      have G3 : Hid (RdAt bs N A n cap rb b W3 ∧ W3.heap[w.heap.size]? = some (.cells (mid k js 4 []).enc.toArray 69 (0, 0)) ∧ Only rb w W3) := Lib.hid ⟨HS.out.1.below b3, (b3.block _ l0).trans HS.out.2.1, HS.out.2.2.trans (Only.of_below b3)⟩
      clear b3 x0 l0 HS
      obtain ⟨M, hM⟩ : ∃ M, M = (kMany k).toNat := ⟨_, rfl⟩
      have hm0 : 0 ≤ kMany k := by unfold kMany; split <;> (try split) <;> (try split) <;> omega
      have hm2 : M ≤ 2 := by have := kMany_le k; omega
      have hMk : kMany k = (M : Int) := by omega
      have HSEC2 := Lib.hid (show rdSec (bitB bs) N a = match rdMany (rdN 2) M (bitB bs) N b with
        | none => none
        | some (cs, c) => some (mid k js 4 cs, c) by rw [HSEC.out, HMP.out, hM])
      clear hM hm0 HSEC
      rw [hMk]
      clear hMk
      go_wp2_with fail
      go_loopw [35] (fun cc wv => ∃ (i c : Nat) (cs : List Nat), i ≤ M ∧ cc = .int .i64 i ∧ Hid (rdMany (rdN 2) i (bitB bs) N b = some (cs, c)) ∧ Hid (RdAt bs N A n cap rb c wv ∧ wv.heap[w.heap.size]? = some (.cells (mid k js 4 cs).enc.toArray 69 (0, 0)) ∧ Only rb w wv)) (fun cc _ => M - (intOf cc).toNat)
      case atStart => exact ⟨0, b, [], Nat.zero_le _, rfl, Lib.hid rfl, G3⟩
      case round =>
        obtain ⟨i, c, cs, hi, rfl, HN, HT⟩ := hrel
        clear G3
        by_cases hlt : i < M
        · have hli : (i : Int) < (M : Int) := by omega
          have hi2 : i < 2 := by omega
          have hli2 : (i : Int) < 2 := by omega
          have hbad : rdN 2 (bitB bs) N c = none → rdSec (bitB bs) N a = none := fun h => by
            have h2 := rdMany_next HN.out
            rw [h] at h2
            rw [HSEC2.out, rdMany_none h2 M (by omega)]
          have HBAD := Lib.hid hbad
          clear hbad
          go_wp2_with fail
          (with_reducible refine (number_i 2 2 rfl _ HT.out.1 (by decide)).mono ?_)
          intro e W4 hp
          rcases ee : rdN 2 (bitB bs) N c with _ | ⟨x, c1⟩
          · rw [ee] at hp
            obtain ⟨rfl, k1⟩ := hp
            have hz : rdSec (bitB bs) N a = none := HBAD.out ee
            have HE := Lib.hid (⟨hz, HT.out.2.2.trans k1⟩ : _ ∧ Only rb w W4)
            clear hz k1 ee
            go_wp2
            refine ⟨rfl, ?_⟩
            show RdPost _ _ _ _ _ _ _ (rdSec (bitB bs) N a) w _ _
            rw [HE.out.1]
            exact ⟨rfl, HE.out.2⟩
          rw [ee] at hp
          obtain ⟨⟨v, rfl, rfl⟩, rr, kk⟩ := hp
          have F1 := Lib.hid ee
          have G4 : Hid (RdAt bs N A n cap rb c1 W4 ∧ W4.heap[w.heap.size]? = some (.cells (mid k js 4 cs).enc.toArray 69 (0, 0)) ∧ Only rb w W4) := Lib.hid ⟨rr, kk.keep HT.out.2.1 (by omega), HT.out.2.2.trans kk⟩
          clear ee rr kk HT
          have hb := G4.out.2.1
          have y1 := (boxS_heap hb).classes i hi2
          have yf : ∀ o, W4.frozen? ⟨w.heap.size, o, none⟩ = false := fun o => frozen_of_row _ _ _ _ _ hb
          have yl : w.heap.size < W4.heap.size := (Array.getElem?_eq_some_iff.1 hb).1
          clear hb
          go_wp2_with fail
          go_roundw
          case measure => simp [intOf]; omega
          case rel =>
            have hjl := rdMany_len HN.out
            have ho : Only rb w (W4.setCell ⟨w.heap.size, 9 + i, none⟩ (.int .i64 x)) := Only.setNew G4.out.2.2 (Nat.le_refl _)
            refine ⟨i + 1, c1, cs ++ [x], by omega, by go_num, Lib.hid (by rw [rdMany_next HN.out, F1.out]), Lib.hid ⟨H0.out.frame ho ?_ G4.out.1.pos, ?_, ho⟩⟩
            · rw [Below.heap_setCell _ _ _ _ (by dsimp only; omega)]
              exact G4.out.1.bx
            · rw [← mid_c hi2 hjl]
              exact heap_class i hi2 x G4.out.2.1
        · have hli : ¬ (i : Int) < (M : Int) := by omega
          have him : i = M := by omega
          subst him
          have hb := HT.out.2.1
          have yl : w.heap.size < wr.heap.size := (Array.getElem?_eq_some_iff.1 hb).1
          have yf : ∀ o, wr.frozen? ⟨w.heap.size, o, none⟩ = false := fun o => frozen_of_row _ _ _ _ _ hb
          obtain ⟨y0, y1, y2, y3, y4, y5, y6, y7, y8, y9, y10⟩ := (boxS_heap hb).cells
          clear hb
          obtain ⟨cc, hcc⟩ : ∃ cc, cc = mid k js 4 cs := ⟨_, rfl⟩
          rw [← hcc] at y0 y1 y2 y3 y4 y5 y6 y7 y8 y9 y10
          go_wp2
          have hz : rdSec (bitB bs) N a = some (mid k js 4 cs, c) := by rw [HSEC2.out, HN.out]
          refine bodyPost_ret (v := secV cc.k cc.S cc.P cc.C) (by simp [results, Tryd.results70, go_sem, *]; rfl) rfl ?_
          rw [hz, hcc]
          refine ⟨⟨_, rfl, rfl⟩, H0.out.frame ?_ ?_ HT.out.1.pos, ?_⟩
          · repeat refine Only.setNew ?_ (Nat.le_refl _)
            exact HT.out.2.2
          · iterate 11 rw [Below.heap_setCell _ _ _ _ (by dsimp only; omega)]
            exact HT.out.1.bx
          · repeat refine Only.setNew ?_ (Nat.le_refl _)
            exact HT.out.2.2
end
end Go.Proofs.YtpnnbihofoomeaaDoor

/-
  plan.reader: a layout.
-/
namespace Go.Proofs.YtpnnbihofoomeaaDoor
open Go.RowKit Go.Shelf

def rdTime : Rd Int := rdBind (rdN 10) fun t => rdRet ((t : Int) + 1)
def layOf (a : List Sec) (b : List Prt) (c : List Ext') (d : List Flk) (t : List Int) : Lay := ⟨a, b, c, d, t.getD 0 0, t.getD 1 0, t.getD 2 0, t.getD 3 0, t.getD 4 0, t.getD 5 0, t.getD 6 0⟩
def rdLay : Rd Lay := rdBind (rdN 5) fun n0 => rdBind (rdN 4) fun n1 => rdBind (rdN 4) fun n2 => rdBind (rdN 5) fun n3 =>
  rdBind (rdMany rdSec n0) fun a => rdBind (rdMany rdPort n1) fun b => rdBind (rdMany rdExit n2) fun c => rdBind (rdMany rdFlank n3) fun d => rdBind (rdMany rdTime 7) fun t => rdRet (layOf a b c d t)
theorem rdSec_kind {f : Nat → Bool} {N a b : Nat} {c : Sec} (h : rdSec f N a = some (c, b)) : 0 ≤ c.k ∧ c.k ≤ 255 := by
  unfold rdSec rdBind at h
  rcases e1 : rdN 2 f N a with _ | ⟨k, a1⟩
  · rw [e1] at h; cases h
  rw [e1] at h
  dsimp only at h
  rcases e2 : rdMany rdJoin (kPorts k).toNat f N a1 with _ | ⟨js, a2⟩
  · rw [e2] at h; cases h
  rw [e2] at h
  dsimp only at h
  rcases e3 : rdMany (rdN 2) (kMany k).toNat f N a2 with _ | ⟨cs, a3⟩
  · rw [e3] at h; cases h
  rw [e3] at h
  cases h
  have hk : k < 2 ^ 2 := rdN_lt e1
  have hk4 : k < 4 := hk
  show 0 ≤ (k : Int) ∧ (k : Int) ≤ 255
  omega
section
variable {bs : List Nat} {N : Nat} {A : Option Addr} {n cap rb a a' : Nat}
structure LSt (bs : List Nat) (N : Nat) (A : Option Addr) (n cap rb : Nat) (w : World) (nb : Nat) (nums : Array Value) (b : Nat) (L : Lay) (p : Where) (es : List (Ext' × Value)) (W : World) : Prop where
  rd : RdAt bs N A n cap rb b W
  box : W.heap[w.heap.size]? = some (.cells (L.cells p).toArray 29 (0, 0))
  only : Only rb w W
  own : Owned w.heap.size W p L es
  num : W.heap[nb]? = some (.cells nums 125 (0, 0))
  lt : rb < w.heap.size
  ne : w.heap.size < nb
theorem owns_lower {W : World} {base base' e size : Nat} {v : Value} {m : Nat} {xs : List Value} (h : W.ownsRow base e size v m xs) (hb : base' ≤ base) : W.ownsRow base' e size v m xs := by
  refine ⟨h.1, ?_⟩
  rcases h.2 with h2 | ⟨g, cap, cur, e1, hg, rest⟩
  · exact .inl h2
  · exact .inr ⟨g, cap, cur, e1, Nat.le_trans hb hg, rest⟩
theorem lay_time {a : List Sec} {b : List Prt} {c : List Ext'} {d : List Flk} {ts : List Int} {p : Where} {x : Int} {j : Nat} (hj : j < 7) (h : ts.length = j) : ((layOf a b c d ts).cells p).set (4 + j) (.int .i64 x) = (layOf a b c d (ts ++ [x])).cells p := by
  subst h
  rcases ts with _ | ⟨t0, _ | ⟨t1, _ | ⟨t2, _ | ⟨t3, _ | ⟨t4, _ | ⟨t5, _ | ⟨t6, ts⟩⟩⟩⟩⟩⟩⟩
  all_goals first | rfl | (simp only [List.length_cons] at hj; omega)
theorem ext_one {y : Ext'} {v : Value} {m : Nat} (h : ∃ A c, v = .slice A m c) : ∀ u ∈ [((y, v) : Ext' × Value)].flatMap Ext'.enc, u.oneCell' = true := by
  obtain ⟨A, c, rfl⟩ := h
  intro u hu
  simp only [List.flatMap_cons, List.flatMap_nil, List.append_nil, Ext'.enc, List.mem_cons, List.not_mem_nil, or_false] at hu
  rcases hu with rfl | rfl | rfl <;> rfl
def addS (L : Lay) (x : Sec) : Lay := ⟨L.secs ++ [x], L.sigs, L.exits, L.flanks, L.t0, L.t1, L.t2, L.t3, L.t4, L.t5, L.t6⟩
theorem Owned.addS {B n' c' : Nat} {A' : Option Addr} {W W' : World} {p : Where} {L : Lay} {es : List (Ext' × Value)} {x : Sec} (h : Owned B W p L es) (k : W.grownBy W' (Value.slice p.a0 L.secs.length p.c0).ownBlock) (hr : W'.ownsRow B 69 11 (.slice A' n' c') (L.secs.length + 1) (L.secs.flatMap Sec.enc ++ [x].flatMap Sec.enc)) (hk : 0 ≤ x.k ∧ x.k ≤ 255) :
    n' = L.secs.length + 1 ∧ Owned B W' ⟨A', p.a1, p.a2, p.a3, c', p.c1, p.c2, p.c3⟩ (Go.Proofs.YtpnnbihofoomeaaDoor.addS L x) es := by
  have hn : n' = L.secs.length + 1 := by
    rcases hr.2 with ⟨e, _⟩ | ⟨g, cap, cur, e, _⟩ <;> cases e
    · omega
    · rfl
  subst hn
  refine ⟨rfl, ?_, owns_grown h.sigs h.secs k (by decide), owns_grown h.exits h.secs k (by decide), owns_grown h.flanks h.secs k (by decide), h.heads, fun t ht => owns_grown (h.overs t ht) h.secs k (by decide), fun c hc => ?_⟩
  · show W'.ownsRow B _ 11 (.slice _ (L.secs ++ [x]).length _) (L.secs ++ [x]).length ((L.secs ++ [x]).flatMap Sec.enc)
    rw [List.length_append, List.flatMap_append]
    exact hr
  · rcases List.mem_append.1 hc with hc | hc
    · exact h.kinds c hc
    · rw [List.mem_singleton.1 hc]
      exact hk
variable {w : World} {nb : Nat} {nums : Array Value} {b b' : Nat} {L : Lay} {p : Where} {es : List (Ext' × Value)} {W W' : World}
theorem Owned.only {B : Nat} (h : Owned B W p L es) (k : Only rb W W') (hb : rb < B) : Owned B W' p L es :=
  ⟨owns_only h.secs k hb, owns_only h.sigs k hb, owns_only h.exits k hb, owns_only h.flanks k hb, h.heads, fun t ht => owns_only (h.overs t ht) k hb, h.kinds⟩
theorem LSt.next (h : LSt bs N A n cap rb w nb nums b L p es W) (r : RdAt bs N A n cap rb b' W') (k : Only rb W W') : LSt bs N A n cap rb w nb nums b' L p es W' :=
  ⟨r, k.keep h.box (by have := h.lt; omega), h.only.trans k, h.own.only k h.lt, k.keep h.num (by have := h.lt; have := h.ne; omega), h.lt, h.ne⟩
theorem LSt.below (h : LSt bs N A n cap rb w nb nums b L p es W) (k : Below W.heap.size W W') : LSt bs N A n cap rb w nb nums b L p es W' :=
  h.next (h.rd.below k) (Only.of_below k)
/-- A row of its own has grown, and the box holds it. -/
theorem LSt.grow {i : Nat} {v v0 : Value} {L' : Lay} {p' : Where} {es' : List (Ext' × Value)} {e : TypeId} {size m : Nat} {xs : List Value} (r0 : RdAt bs N A n cap rb a w) (h : LSt bs N A n cap rb w nb nums b L p es W) (hr : W.ownsRow w.heap.size e size v0 m xs) (g : W.grownBy W' v0.ownBlock)
    (ho : Owned w.heap.size W' p' L' es') (hc : (L.cells p).set i v = L'.cells p') (e1 : e ≠ 29) (e2 : e ≠ 125) (e3 : e ≠ 81) : LSt bs N A n cap rb w nb nums b L' p' es' (W'.setCell ⟨w.heap.size, i, none⟩ v) := by
  have hbx := heap_grown hr g h.box e1
  have hrx := heap_grown hr g h.rd.bx e3
  have hnx := heap_grown hr g h.num e2
  have hox : Only rb w W' := h.only.grown hr (Nat.le_refl _) g
  have hle := h.ne
  have hlt := h.lt
  have hpos := h.rd.pos
  refine ⟨?_, ?_, hox.setNew (Nat.le_refl _), ho.kept (set_others W' ⟨w.heap.size, i, none⟩ v) hbx (by decide) (by decide) (by decide) (by decide) (by decide), ?_, h.lt, h.ne⟩
  · refine r0.frame (hox.setNew (Nat.le_refl _)) ?_ hpos
    exact (Below.heap_setCell _ _ _ _ (by dsimp only; omega)).trans hrx
  · rw [heap_setCell_same _ _ _ _ _ _ hbx, ← hc]
    simp
  · exact (Below.heap_setCell _ _ _ _ (by dsimp only; omega)).trans hnx
theorem LSt.setBox {i : Nat} {v : Value} {L' : Lay} (r0 : RdAt bs N A n cap rb a w) (h : LSt bs N A n cap rb w nb nums b L p es W) (ho : Owned w.heap.size W p L' es) (hc : (L.cells p).set i v = L'.cells p) : LSt bs N A n cap rb w nb nums b L' p es (W.setCell ⟨w.heap.size, i, none⟩ v) := by
  have hlt := h.lt
  have hne := h.ne
  refine ⟨?_, ?_, h.only.setNew (Nat.le_refl _), ho.kept (set_others W ⟨w.heap.size, i, none⟩ v) h.box (by decide) (by decide) (by decide) (by decide) (by decide), ?_, h.lt, h.ne⟩
  · refine r0.frame (h.only.setNew (Nat.le_refl _)) ?_ h.rd.pos
    exact (Below.heap_setCell _ _ _ _ (by dsimp only; omega)).trans h.rd.bx
  · rw [heap_setCell_same _ _ _ _ _ _ h.box, ← hc]
    simp
  · exact (Below.heap_setCell _ _ _ _ (by dsimp only; omega)).trans h.num
theorem Owned.times {B : Nat} {x : List Sec} {y : List Prt} {z : List Ext'} {u : List Flk} {ts ts' : List Int} (o : Owned B W p (layOf x y z u ts) es) : Owned B W p (layOf x y z u ts') es := ⟨o.secs, o.sigs, o.exits, o.flanks, o.heads, o.overs, o.kinds⟩
end
end Go.Proofs.YtpnnbihofoomeaaDoor

/-
  plan.reader: a layout, the walk.
-/
namespace Go.Proofs.YtpnnbihofoomeaaDoor
open Go.RowKit Go.Shelf
section
variable (x0 x1 x2 x3 x4 x5 x6 : Value) (w : World)
theorem ptr_at0 : (Instr.index 132 (.agg #[x0, x1, x2, x3, x4, x5, x6]) (.int .i64 0)).run Tryd.prog w = .ok x0 w := by kernel_rfl
theorem ptr_at1 : (Instr.index 132 (.agg #[x0, x1, x2, x3, x4, x5, x6]) (.int .i64 1)).run Tryd.prog w = .ok x1 w := by kernel_rfl
theorem ptr_at2 : (Instr.index 132 (.agg #[x0, x1, x2, x3, x4, x5, x6]) (.int .i64 2)).run Tryd.prog w = .ok x2 w := by kernel_rfl
theorem ptr_at3 : (Instr.index 132 (.agg #[x0, x1, x2, x3, x4, x5, x6]) (.int .i64 3)).run Tryd.prog w = .ok x3 w := by kernel_rfl
theorem ptr_at4 : (Instr.index 132 (.agg #[x0, x1, x2, x3, x4, x5, x6]) (.int .i64 4)).run Tryd.prog w = .ok x4 w := by kernel_rfl
theorem ptr_at5 : (Instr.index 132 (.agg #[x0, x1, x2, x3, x4, x5, x6]) (.int .i64 5)).run Tryd.prog w = .ok x5 w := by kernel_rfl
theorem ptr_at6 : (Instr.index 132 (.agg #[x0, x1, x2, x3, x4, x5, x6]) (.int .i64 6)).run Tryd.prog w = .ok x6 w := by kernel_rfl
end
attribute [local go_sem] ptr_at0 ptr_at1 ptr_at2 ptr_at3 ptr_at4 ptr_at5 ptr_at6
section
variable {bs : List Nat} {N : Nat} {A : Option Addr} {n cap rb a a' : Nat}

set_option maxRecDepth 100000 in
set_option maxHeartbeats 32000000 in
theorem rlayout_any (w : World) (h : RdAt bs N A n cap rb a w) (hK : ∀ W, Only rb w W → Kinds W) :
    Calls Tryd.prog 33 #[.pointer (some ⟨rb, 0, none⟩)] w (RdPost bs N A n cap rb (fun (L : Lay) v W' => ∃ p es, v = L.val p ∧ Owned w.heap.size W' p L es) (rdLay (bitB bs) N a) w) := by
  have H0 := Lib.hid h
  have HK := Lib.hid hK
  have hrl := h.lt
  clear h hK
  have hb0 : Below w.heap.size w (w.alloc (.cells #[.slice none 0 0, .slice none 0 0, .slice none 0 0, .slice none 0 0, .int .i64 0, .int .i64 0, .int .i64 0, .int .i64 0, .int .i64 0, .int .i64 0, .int .i64 0] 29)) := bself
  have G0 := Lib.hid (⟨H0.out.below hb0, World.alloc_heap_new w (.cells #[.slice none 0 0, .slice none 0 0, .slice none 0 0, .slice none 0 0, .int .i64 0, .int .i64 0, .int .i64 0, .int .i64 0, .int .i64 0, .int .i64 0, .int .i64 0] 29), Only.of_below hb0⟩ : RdAt bs N A n cap rb a (w.alloc (.cells #[.slice none 0 0, .slice none 0 0, .slice none 0 0, .slice none 0 0, .int .i64 0, .int .i64 0, .int .i64 0, .int .i64 0, .int .i64 0, .int .i64 0, .int .i64 0] 29)) ∧ _ ∧ Only rb w _)
  clear hb0
  go_enter Tryd.func33, Tryd.ntmps33
  go_wp2_with fail
  (with_reducible refine (number_i 5 5 rfl _ G0.out.1 (by decide)).mono ?_)
  intro e W1 hp
  rcases ee : rdN 5 (bitB bs) N a with _ | ⟨n0, a1⟩
  · rw [ee] at hp
    obtain ⟨rfl, k1⟩ := hp
    have hz : rdLay (bitB bs) N a = none := by simp [rdLay, rdBind, ee]
    have HE := Lib.hid (⟨hz, G0.out.2.2.trans k1⟩ : _ ∧ Only rb w W1)
    clear hz k1 ee
    go_wp2
    refine ⟨rfl, ?_⟩
    show RdPost _ _ _ _ _ _ _ (rdLay (bitB bs) N a) w _ _
    rw [HE.out.1]
    exact ⟨rfl, HE.out.2⟩
  rw [ee] at hp
  obtain ⟨⟨v, rfl, rfl⟩, rr, kk⟩ := hp
  have hn0 : n0 < 2 ^ 5 := rdN_lt ee
  have E1 := Lib.hid ee
  have G1 := Lib.hid (⟨rr, kk.keep G0.out.2.1 (by omega), G0.out.2.2.trans kk⟩ : RdAt bs N A n cap rb a1 W1 ∧ W1.heap[w.heap.size]? = _ ∧ Only rb w W1)
  clear ee rr kk
  go_wp2_with fail
  (with_reducible refine (number_i 4 4 rfl _ G1.out.1 (by decide)).mono ?_)
  intro e W2 hp
  rcases ee : rdN 4 (bitB bs) N a1 with _ | ⟨n1, a2⟩
  · rw [ee] at hp
    obtain ⟨rfl, k1⟩ := hp
    have hz : rdLay (bitB bs) N a = none := by simp [rdLay, rdBind, E1.out, ee]
    have HE := Lib.hid (⟨hz, G1.out.2.2.trans k1⟩ : _ ∧ Only rb w W2)
    clear hz k1 ee
    go_wp2
    refine ⟨rfl, ?_⟩
    show RdPost _ _ _ _ _ _ _ (rdLay (bitB bs) N a) w _ _
    rw [HE.out.1]
    exact ⟨rfl, HE.out.2⟩
  rw [ee] at hp
  obtain ⟨⟨v, rfl, rfl⟩, rr, kk⟩ := hp
  have hn1 : n1 < 2 ^ 4 := rdN_lt ee
  have E2 := Lib.hid ee
  have G2 := Lib.hid (⟨rr, kk.keep G1.out.2.1 (by omega), G1.out.2.2.trans kk⟩ : RdAt bs N A n cap rb a2 W2 ∧ W2.heap[w.heap.size]? = _ ∧ Only rb w W2)
  clear ee rr kk
  go_wp2_with fail
  (with_reducible refine (number_i 4 4 rfl _ G2.out.1 (by decide)).mono ?_)
  intro e W3 hp
  rcases ee : rdN 4 (bitB bs) N a2 with _ | ⟨n2, a3⟩
  · rw [ee] at hp
    obtain ⟨rfl, k1⟩ := hp
    have hz : rdLay (bitB bs) N a = none := by simp [rdLay, rdBind, E1.out, E2.out, ee]
    have HE := Lib.hid (⟨hz, G2.out.2.2.trans k1⟩ : _ ∧ Only rb w W3)
    clear hz k1 ee
    go_wp2
    refine ⟨rfl, ?_⟩
    show RdPost _ _ _ _ _ _ _ (rdLay (bitB bs) N a) w _ _
    rw [HE.out.1]
    exact ⟨rfl, HE.out.2⟩
  rw [ee] at hp
  obtain ⟨⟨v, rfl, rfl⟩, rr, kk⟩ := hp
  have hn2 : n2 < 2 ^ 4 := rdN_lt ee
  have E3 := Lib.hid ee
  have G3 := Lib.hid (⟨rr, kk.keep G2.out.2.1 (by omega), G2.out.2.2.trans kk⟩ : RdAt bs N A n cap rb a3 W3 ∧ W3.heap[w.heap.size]? = _ ∧ Only rb w W3)
  clear ee rr kk
  go_wp2_with fail
  (with_reducible refine (number_i 5 5 rfl _ G3.out.1 (by decide)).mono ?_)
  intro e W4 hp
  rcases ee : rdN 5 (bitB bs) N a3 with _ | ⟨n3, a4⟩
  · rw [ee] at hp
    obtain ⟨rfl, k1⟩ := hp
    have hz : rdLay (bitB bs) N a = none := by simp [rdLay, rdBind, E1.out, E2.out, E3.out, ee]
    have HE := Lib.hid (⟨hz, G3.out.2.2.trans k1⟩ : _ ∧ Only rb w W4)
    clear hz k1 ee
    go_wp2
    refine ⟨rfl, ?_⟩
    show RdPost _ _ _ _ _ _ _ (rdLay (bitB bs) N a) w _ _
    rw [HE.out.1]
    exact ⟨rfl, HE.out.2⟩
  rw [ee] at hp
  obtain ⟨⟨v, rfl, rfl⟩, rr, kk⟩ := hp
  have hn3 : n3 < 2 ^ 5 := rdN_lt ee
  have E4 := Lib.hid ee
  have G4 := Lib.hid (⟨rr, kk.keep G3.out.2.1 (by omega), G3.out.2.2.trans kk⟩ : RdAt bs N A n cap rb a4 W4 ∧ W4.heap[w.heap.size]? = _ ∧ Only rb w W4)
  clear ee rr kk
  have yl : w.heap.size < W4.heap.size := (Array.getElem?_eq_some_iff.1 G4.out.2.1).1
  go_upto_region 2 with fail
  obtain ⟨U, hU⟩ : ∃ U, U = W4.alloc (.cells #[.int .i64 n0, .int .i64 n1, .int .i64 n2, .int .i64 n3] 125) := ⟨_, rfl⟩
  rw [← hU]
  obtain ⟨nb, hnb⟩ : ∃ nb, nb = W4.heap.size := ⟨_, rfl⟩
  rw [← hnb]
  have hnw : w.heap.size < nb := by omega
  have LS0 : Hid (LSt bs N A n cap rb w nb #[.int .i64 n0, .int .i64 n1, .int .i64 n2, .int .i64 n3] a4 (layOf [] [] [] [] []) ⟨none, none, none, none, 0, 0, 0, 0⟩ [] U) := Lib.hid (by
    have hbl : Below W4.heap.size W4 U := by rw [hU]; exact bself
    refine ⟨G4.out.1.below hbl, (hbl.block _ yl).trans G4.out.2.1, G4.out.2.2.trans (Only.of_below hbl), ?_, ?_, hrl, hnw⟩
    · exact ⟨World.ownsRow_nil _ _ _ _, World.ownsRow_nil _ _ _ _, World.ownsRow_nil _ _ _ _, World.ownsRow_nil _ _ _ _, rfl, fun t ht => by simp at ht, fun c hc => by simp [layOf] at hc⟩
    · rw [hU, hnb]
      exact World.alloc_heap_new _ _)
  clear hU hnb yl G4 G3 G2 G1 G0
  have hb := LS0.out.num
  have z0 : U.cell? ⟨nb, 0, none⟩ = some (.int .i64 n0) := by simp [World.cell?, hb]
  have zl : nb < U.heap.size := (Array.getElem?_eq_some_iff.1 hb).1
  clear hb
  go_wp2_with fail
  have hmax0 : max (n0 : Int) 0 = (n0 : Int) := by omega
  go_loopw [18] (fun cc wr => ∃ (j b : Nat) (xs : List Sec) (O : Option Addr) (oc : Nat), j ≤ n0 ∧ cc = .int .i64 j ∧ Hid (rdMany rdSec j (bitB bs) N a4 = some (xs, b)) ∧ Hid (LSt bs N A n cap rb w nb #[.int .i64 n0, .int .i64 n1, .int .i64 n2, .int .i64 n3] b (layOf xs [] [] [] []) ⟨O, none, none, none, oc, 0, 0, 0⟩ [] wr)) (fun cc _ => n0 - (intOf cc).toNat)
  case atStart => exact ⟨0, a4, [], none, 0, Nat.zero_le _, rfl, Lib.hid rfl, LS0⟩
  case round =>
    obtain ⟨j, b, xs, O, oc, hj, rfl, HM, HS⟩ := hrel
    clear LS0 z0 zl
    by_cases hlt : j < n0
    · have hji : (j : Int) < (n0 : Int) := by omega
      have HLX := Lib.hid (rdMany_len HM.out)
      have hbad : rdSec (bitB bs) N b = none → rdLay (bitB bs) N a = none := fun h => by
        have h1 := rdMany_next HM.out
        rw [h] at h1
        have h2 := rdMany_none h1 n0 (by omega)
        simp [rdLay, rdBind, E1.out, E2.out, E3.out, E4.out, h2]
      have HBAD := Lib.hid hbad
      clear hbad
      go_upto_region 4 with fail
      obtain ⟨X, hX⟩ : ∃ X, X = wr.drew := ⟨_, rfl⟩
      have HX : Hid (LSt bs N A n cap rb w nb #[.int .i64 n0, .int .i64 n1, .int .i64 n2, .int .i64 n3] b (layOf xs [] [] [] []) ⟨O, none, none, none, oc, 0, 0, 0⟩ [] X) := Lib.hid (HS.out.below (by rw [hX]; exact (Below.refl _ _).drew))
      have c0 : X.cell? ⟨w.heap.size, 0, none⟩ = some (.slice O xs.length oc) := (boxL_heap HX.out.box).2 0 _ rfl
      refine wp_region_head 5 (fun W => W.cell? ⟨w.heap.size, 0, none⟩ = some (.slice O xs.length oc)) (by kernel_rfl) (by kernel_rfl) (by kernel_rfl) (by kernel_rfl) (by kernel_rfl) (by kernel_rfl) (by rw [← hX]; exact c0) (fun hHeld => ?_)
      simp only [List.take_succ_cons, List.take_zero, List.drop_succ_cons, List.drop_zero]
      rw [← hX] at hHeld ⊢
      clear hX HS c0
      refine wpAnyH_take (i := 0) (v := .pointer (some ⟨w.heap.size, 0, none⟩)) rfl (by kernel_rfl) (by kernel_rfl) (by kernel_rfl) (fun _ _ _ h => h) (Or.inl ⟨by rfl, by (intro W hS; (try dsimp only at hS); go_simp)⟩) hHeld ?_
      try simp only [Act.put, List.setIfInBounds_toArray]
      refine wpAnyH_take (i := 1) (v := .slice O xs.length oc) rfl (by kernel_rfl) (by kernel_rfl) (by kernel_rfl) (fun _ _ _ h => h) (Or.inl ⟨by rfl, by (intro W hS; (try dsimp only at hS); go_simp)⟩) hHeld ?_
      try simp only [Act.put]
      refine wpAnyH_take (i := 2) (v := .pointer (some ⟨rb, 0, none⟩)) rfl (by kernel_rfl) (by kernel_rfl) (by kernel_rfl) (fun _ _ _ h => h) (Or.inl ⟨by rfl, by (intro W hS; (try dsimp only at hS); go_simp)⟩) hHeld ?_
      try simp only [Act.put]
      refine wpAnyH_ready (rs := [3]) (by kernel_rfl) (by simp) ?_
      refine AllReadyH.cons rfl (fun K hK => ?_) AllReadyH.nil
      go_simp
      go_at_call 70
      refine (rsection_any X HX.out.rd (fun W k => HK.out W (HX.out.only.trans k))).mono ?_
      intro e Y hp
      rcases ee : rdSec (bitB bs) N b with _ | ⟨x, b1⟩
      · rw [ee] at hp
        obtain ⟨rfl, k1⟩ := hp
        have hz := HBAD.out ee
        refine ⟨rfl, ?_⟩
        show RdPost _ _ _ _ _ _ _ (rdLay (bitB bs) N a) w _ _
        rw [hz]
        exact ⟨rfl, HX.out.only.trans k1⟩
      · rw [ee] at hp
        obtain ⟨⟨v, rfl, rfl⟩, rr, kk⟩ := hp
        have HEE := Lib.hid ee
        have HY : Hid (LSt bs N A n cap rb w nb #[.int .i64 n0, .int .i64 n1, .int .i64 n2, .int .i64 n3] b1 (layOf xs [] [] [] []) ⟨O, none, none, none, oc, 0, 0, 0⟩ [] Y) := Lib.hid (HX.out.next rr kk)
        have c0 : Y.cell? ⟨w.heap.size, 0, none⟩ = some (.slice O xs.length oc) := (boxL_heap HY.out.box).2 0 _ rfl
        have hyl : w.heap.size < Y.heap.size := (Array.getElem?_eq_some_iff.1 HY.out.box).1
        have hYb : Below Y.heap.size Y (Y.alloc (.cells ((x.enc : List Value)).toArray 69)) := bself
        have HZ := Lib.hid (HY.out.below hYb)
        clear hYb
        clear ee rr kk HX
        (try dsimp only)
        refine hK.out _ _ c0 (fun hHeld => ?_)
        clear hK K
        try simp only [Act.put, List.setIfInBounds_toArray, List.set_cons_zero, List.set_cons_succ]
        refine wpAnyH_ready (rs := [4]) (by kernel_rfl) (by simp) ?_
        refine AllReadyH.cons rfl (fun K hK => ?_) AllReadyH.nil
        simp only [secV, Sec.S, Sec.P, Sec.C]
        go_simp
        refine hK.out _ _ ?_ (fun hHeld => ?_)
        · exact (boxL_heap HZ.out.box).2 0 _ rfl
        clear hK K hHeld c0
        try simp only [Act.put, List.setIfInBounds_toArray, List.set_cons_zero, List.set_cons_succ]
        refine wpAnyH_done (by kernel_rfl) ?_ _
        change wpList _ _ _ _ _ _
        obtain ⟨i0, z0, hi, hz, hs1, hs2, hs3⟩ := info_Section
        have HI := Lib.hid (⟨hi, hz, hs1, hs2, hs3⟩ : _ ∧ _ ∧ _ ∧ _ ∧ _)
        clear hi hz hs1 hs2 hs3
        refine wpList_append_at (enc := Sec.enc) rfl _ _ _ rfl w.heap.size 69 i0 z0 11 i0.bytes Tryd.underlying22 HI.out.1 HI.out.2.1 HI.out.2.2.1 rfl HI.out.2.2.2.1 (by decide) (.slice O xs.length oc) xs.length (xs.flatMap Sec.enc) rfl HZ.out.own.secs (some ⟨Y.heap.size, 0, none⟩) 1 1 [x] rfl rfl (at_one rfl) (fun _ => rfl) ?b1 (by have := HLX.out; unfold maxLen; omega) ?b2 (by simp; omega) ?b3
        case b1 => exact sec_one
        case b2 =>
          have h2 := Nat.mul_le_mul (show xs.length + 1 ≤ 33 by have := HLX.out; omega) HI.out.2.2.2.2
          omega
        case b3 =>
          intro v' V hr hgr
          obtain ⟨A', d', rfl⟩ := ownsV hr
          obtain ⟨_, HA⟩ := HZ.out.own.addS hgr hr (rdSec_kind HEE.out)
          have HG := Lib.hid (LSt.grow (L' := (layOf (xs ++ [x]) [] [] [] [])) (p' := ⟨A', none, none, none, d', 0, 0, 0⟩) (i := 0) (v := .slice A' (xs.length + 1) d') H0.out HZ.out HZ.out.own.secs hgr HA (by simp [Lay.cells, layOf]) (by decide) (by decide) (by decide))
          have hvx := heap_grown HZ.out.own.secs hgr HZ.out.box (by decide)
          have v1 : V.cell? ⟨w.heap.size, 0, none⟩ = some (.slice O xs.length oc) := (boxL_heap hvx).2 0 _ rfl
          have v2 : V.frozen? ⟨w.heap.size, 0, none⟩ = false := frozen_of_row _ _ _ _ _ hvx
          have v3 : w.heap.size < V.heap.size := (Array.getElem?_eq_some_iff.1 hvx).1
          clear hvx hr hgr HA
          go_wp2_with fail
          go_roundw
          case measure => simp [intOf]; omega
          case rel => exact ⟨j + 1, b1, xs ++ [x], A', d', by omega, by go_num, Lib.hid (by rw [rdMany_next HM.out, HEE.out]), HG⟩
    · have hji : ¬ (j : Int) < (n0 : Int) := by omega
      have hjn : n0 = j := by omega
      subst hjn
      obtain ⟨O0, h⟩ : ∃ x, x = O := ⟨_, rfl⟩
      subst h
      obtain ⟨o0, h⟩ : ∃ x, x = oc := ⟨_, rfl⟩
      subst h
      obtain ⟨b0, h⟩ : ∃ x, x = b := ⟨_, rfl⟩
      subst h
      obtain ⟨A0, h⟩ : ∃ x, x = xs := ⟨_, rfl⟩
      subst h
      obtain ⟨V0, h⟩ : ∃ x, x = wr := ⟨_, rfl⟩
      subst h
      have E5 := HM
      have LS1 := HS
      clear HM HS hmax0 hj
      have hb := LS1.out.num
      have z0 : V0.cell? ⟨nb, 1, none⟩ = some (.int .i64 n1) := by simp [World.cell?, hb]
      have zl : nb < V0.heap.size := (Array.getElem?_eq_some_iff.1 hb).1
      clear hb
      go_wp2_with fail
      have hmax1 : max (n1 : Int) 0 = (n1 : Int) := by omega
      go_loopw [30] (fun cc wr => ∃ (j b : Nat) (xs : List Prt) (O : Option Addr) (oc : Nat), j ≤ n1 ∧ cc = .int .i64 j ∧ Hid (rdMany rdPort j (bitB bs) N b0 = some (xs, b)) ∧ Hid (LSt bs N A n cap rb w nb #[.int .i64 n0, .int .i64 n1, .int .i64 n2, .int .i64 n3] b (layOf A0 xs [] [] []) ⟨O0, O, none, none, o0, oc, 0, 0⟩ [] wr)) (fun cc _ => n1 - (intOf cc).toNat)
      case atStart => exact ⟨0, b0, [], none, 0, Nat.zero_le _, rfl, Lib.hid rfl, LS1⟩
      case round =>
        obtain ⟨j, b, xs, O, oc, hj, rfl, HM, HS⟩ := hrel
        clear LS1 z0 zl
        by_cases hlt : j < n1
        · have hji : (j : Int) < (n1 : Int) := by omega
          have HLX := Lib.hid (rdMany_len HM.out)
          have hbad : rdPort (bitB bs) N b = none → rdLay (bitB bs) N a = none := fun h => by
            have h1 := rdMany_next HM.out
            rw [h] at h1
            have h2 := rdMany_none h1 n1 (by omega)
            simp [rdLay, rdBind, E1.out, E2.out, E3.out, E4.out, E5.out, h2]
          have HBAD := Lib.hid hbad
          clear hbad
          go_upto_region 8 with fail
          obtain ⟨X, hX⟩ : ∃ X, X = wr.drew := ⟨_, rfl⟩
          have HX : Hid (LSt bs N A n cap rb w nb #[.int .i64 n0, .int .i64 n1, .int .i64 n2, .int .i64 n3] b (layOf A0 xs [] [] []) ⟨O0, O, none, none, o0, oc, 0, 0⟩ [] X) := Lib.hid (HS.out.below (by rw [hX]; exact (Below.refl _ _).drew))
          have c0 : X.cell? ⟨w.heap.size, 1, none⟩ = some (.slice O xs.length oc) := (boxL_heap HX.out.box).2 1 _ rfl
          refine wp_region_head 6 (fun W => W.cell? ⟨w.heap.size, 1, none⟩ = some (.slice O xs.length oc)) (by kernel_rfl) (by kernel_rfl) (by kernel_rfl) (by kernel_rfl) (by kernel_rfl) (by kernel_rfl) (by rw [← hX]; exact c0) (fun hHeld => ?_)
          simp only [List.take_succ_cons, List.take_zero, List.drop_succ_cons, List.drop_zero]
          rw [← hX] at hHeld ⊢
          clear hX HS c0
          refine wpAnyH_take (i := 0) (v := .pointer (some ⟨w.heap.size, 1, none⟩)) rfl (by kernel_rfl) (by kernel_rfl) (by kernel_rfl) (fun _ _ _ h => h) (Or.inl ⟨by rfl, by (intro W hS; (try dsimp only at hS); go_simp)⟩) hHeld ?_
          try simp only [Act.put, List.setIfInBounds_toArray]
          refine wpAnyH_take (i := 1) (v := .slice O xs.length oc) rfl (by kernel_rfl) (by kernel_rfl) (by kernel_rfl) (fun _ _ _ h => h) (Or.inl ⟨by rfl, by (intro W hS; (try dsimp only at hS); go_simp)⟩) hHeld ?_
          try simp only [Act.put]
          refine wpAnyH_take (i := 2) (v := .pointer (some ⟨rb, 0, none⟩)) rfl (by kernel_rfl) (by kernel_rfl) (by kernel_rfl) (fun _ _ _ h => h) (Or.inl ⟨by rfl, by (intro W hS; (try dsimp only at hS); go_simp)⟩) hHeld ?_
          try simp only [Act.put]
          refine wpAnyH_ready (rs := [3]) (by kernel_rfl) (by simp) ?_
          refine AllReadyH.cons rfl (fun K hK => ?_) AllReadyH.nil
          go_simp
          go_at_call 71
          refine (rport_any X HX.out.rd).mono ?_
          intro e Y hp
          rcases ee : rdPort (bitB bs) N b with _ | ⟨x, b1⟩
          · rw [ee] at hp
            obtain ⟨rfl, k1⟩ := hp
            have hz := HBAD.out ee
            refine ⟨rfl, ?_⟩
            show RdPost _ _ _ _ _ _ _ (rdLay (bitB bs) N a) w _ _
            rw [hz]
            exact ⟨rfl, HX.out.only.trans k1⟩
          · rw [ee] at hp
            obtain ⟨⟨v, rfl, rfl⟩, rr, kk⟩ := hp
            have HEE := Lib.hid ee
            have HY : Hid (LSt bs N A n cap rb w nb #[.int .i64 n0, .int .i64 n1, .int .i64 n2, .int .i64 n3] b1 (layOf A0 xs [] [] []) ⟨O0, O, none, none, o0, oc, 0, 0⟩ [] Y) := Lib.hid (HX.out.next rr kk)
            have c0 : Y.cell? ⟨w.heap.size, 1, none⟩ = some (.slice O xs.length oc) := (boxL_heap HY.out.box).2 1 _ rfl
            have hyl : w.heap.size < Y.heap.size := (Array.getElem?_eq_some_iff.1 HY.out.box).1
            have hYb : Below Y.heap.size Y (Y.alloc (.cells ((x.enc : List Value)).toArray 71)) := bself
            have HZ := Lib.hid (HY.out.below hYb)
            clear hYb
            clear ee rr kk HX
            (try dsimp only)
            refine hK.out _ _ c0 (fun hHeld => ?_)
            clear hK K
            try simp only [Act.put, List.setIfInBounds_toArray, List.set_cons_zero, List.set_cons_succ]
            refine wpAnyH_ready (rs := [4]) (by kernel_rfl) (by simp) ?_
            refine AllReadyH.cons rfl (fun K hK => ?_) AllReadyH.nil
            go_simp
            refine hK.out _ _ c0 (fun hHeld => ?_)
            clear hK K
            try simp only [Act.put, List.setIfInBounds_toArray, List.set_cons_zero, List.set_cons_succ]
            refine wpAnyH_ready (rs := [5]) (by kernel_rfl) (by simp) ?_
            refine AllReadyH.cons rfl (fun K hK => ?_) AllReadyH.nil
            go_simp
            refine hK.out _ _ ?_ (fun hHeld => ?_)
            · exact (boxL_heap HZ.out.box).2 1 _ rfl
            clear hK K hHeld c0
            try simp only [Act.put, List.setIfInBounds_toArray, List.set_cons_zero, List.set_cons_succ]
            refine wpAnyH_done (by kernel_rfl) ?_ _
            change wpList _ _ _ _ _ _
            obtain ⟨i0, z0, hi, hz, hs1, hs2, hs3⟩ := info_Signal
            have HI := Lib.hid (⟨hi, hz, hs1, hs2, hs3⟩ : _ ∧ _ ∧ _ ∧ _ ∧ _)
            clear hi hz hs1 hs2 hs3
            refine wpList_append_at (enc := Prt.enc) rfl _ _ _ rfl w.heap.size 71 i0 z0 2 i0.bytes Tryd.underlying23 HI.out.1 HI.out.2.1 HI.out.2.2.1 rfl HI.out.2.2.2.1 (by decide) (.slice O xs.length oc) xs.length (xs.flatMap Prt.enc) rfl HZ.out.own.sigs (some ⟨Y.heap.size, 0, none⟩) 1 1 [x] rfl rfl (at_one rfl) (fun _ => rfl) ?b1 (by have := HLX.out; unfold maxLen; omega) ?b2 (by simp; omega) ?b3
            case b1 => exact prt_one
            case b2 =>
              have h2 := Nat.mul_le_mul (show xs.length + 1 ≤ 17 by have := HLX.out; omega) HI.out.2.2.2.2
              omega
            case b3 =>
              intro v' V hr hgr
              obtain ⟨A', d', rfl⟩ := ownsV hr
              obtain ⟨_, HA⟩ := HZ.out.own.addG hgr hr
              have HG := Lib.hid (LSt.grow (L' := (layOf A0 (xs ++ [x]) [] [] [])) (p' := ⟨O0, A', none, none, o0, d', 0, 0⟩) (i := 1) (v := .slice A' (xs.length + 1) d') H0.out HZ.out HZ.out.own.sigs hgr HA (by simp [Lay.cells, layOf]) (by decide) (by decide) (by decide))
              have hvx := heap_grown HZ.out.own.sigs hgr HZ.out.box (by decide)
              have v1 : V.cell? ⟨w.heap.size, 1, none⟩ = some (.slice O xs.length oc) := (boxL_heap hvx).2 1 _ rfl
              have v2 : V.frozen? ⟨w.heap.size, 1, none⟩ = false := frozen_of_row _ _ _ _ _ hvx
              have v3 : w.heap.size < V.heap.size := (Array.getElem?_eq_some_iff.1 hvx).1
              clear hvx hr hgr HA
              go_wp2_with fail
              go_roundw
              case measure => simp [intOf]; omega
              case rel => exact ⟨j + 1, b1, xs ++ [x], A', d', by omega, by go_num, Lib.hid (by rw [rdMany_next HM.out, HEE.out]), HG⟩
        · have hji : ¬ (j : Int) < (n1 : Int) := by omega
          have hjn : n1 = j := by omega
          subst hjn
          obtain ⟨O1, h⟩ : ∃ x, x = O := ⟨_, rfl⟩
          subst h
          obtain ⟨o1, h⟩ : ∃ x, x = oc := ⟨_, rfl⟩
          subst h
          obtain ⟨b1, h⟩ : ∃ x, x = b := ⟨_, rfl⟩
          subst h
          obtain ⟨A1, h⟩ : ∃ x, x = xs := ⟨_, rfl⟩
          subst h
          obtain ⟨V1, h⟩ : ∃ x, x = wr := ⟨_, rfl⟩
          subst h
          have E6 := HM
          have LS2 := HS
          clear HM HS hmax1 hj
          have hb := LS2.out.num
          have z0 : V1.cell? ⟨nb, 2, none⟩ = some (.int .i64 n2) := by simp [World.cell?, hb]
          have zl : nb < V1.heap.size := (Array.getElem?_eq_some_iff.1 hb).1
          clear hb
          go_wp2_with fail
          have hmax2 : max (n2 : Int) 0 = (n2 : Int) := by omega
          go_loopw [43] (fun cc wr => ∃ (j b : Nat) (xs : List Ext') (O : Option Addr) (oc : Nat) (es : List (Ext' × Value)), j ≤ n2 ∧ cc = .int .i64 j ∧ Hid (rdMany rdExit j (bitB bs) N b1 = some (xs, b)) ∧ Hid (LSt bs N A n cap rb w nb #[.int .i64 n0, .int .i64 n1, .int .i64 n2, .int .i64 n3] b (layOf A0 A1 xs [] []) ⟨O0, O1, O, none, o0, o1, oc, 0⟩ es wr)) (fun cc _ => n2 - (intOf cc).toNat)
          case atStart => exact ⟨0, b1, [], none, 0, [], Nat.zero_le _, rfl, Lib.hid rfl, LS2⟩
          case round =>
            obtain ⟨j, b, xs, O, oc, es, hj, rfl, HM, HS⟩ := hrel
            clear LS2 z0 zl
            by_cases hlt : j < n2
            · have hji : (j : Int) < (n2 : Int) := by omega
              have HLX := Lib.hid (rdMany_len HM.out)
              have hbad : rdExit (bitB bs) N b = none → rdLay (bitB bs) N a = none := fun h => by
                have h1 := rdMany_next HM.out
                rw [h] at h1
                have h2 := rdMany_none h1 n2 (by omega)
                simp [rdLay, rdBind, E1.out, E2.out, E3.out, E4.out, E5.out, E6.out, h2]
              have HBAD := Lib.hid hbad
              clear hbad
              go_upto_region 12 with fail
              obtain ⟨X, hX⟩ : ∃ X, X = wr.drew := ⟨_, rfl⟩
              have HX : Hid (LSt bs N A n cap rb w nb #[.int .i64 n0, .int .i64 n1, .int .i64 n2, .int .i64 n3] b (layOf A0 A1 xs [] []) ⟨O0, O1, O, none, o0, o1, oc, 0⟩ es X) := Lib.hid (HS.out.below (by rw [hX]; exact (Below.refl _ _).drew))
              have c0 : X.cell? ⟨w.heap.size, 2, none⟩ = some (.slice O xs.length oc) := (boxL_heap HX.out.box).2 2 _ rfl
              refine wp_region_head 5 (fun W => W.cell? ⟨w.heap.size, 2, none⟩ = some (.slice O xs.length oc)) (by kernel_rfl) (by kernel_rfl) (by kernel_rfl) (by kernel_rfl) (by kernel_rfl) (by kernel_rfl) (by rw [← hX]; exact c0) (fun hHeld => ?_)
              simp only [List.take_succ_cons, List.take_zero, List.drop_succ_cons, List.drop_zero]
              rw [← hX] at hHeld ⊢
              clear hX HS c0
              refine wpAnyH_take (i := 0) (v := .pointer (some ⟨w.heap.size, 2, none⟩)) rfl (by kernel_rfl) (by kernel_rfl) (by kernel_rfl) (fun _ _ _ h => h) (Or.inl ⟨by rfl, by (intro W hS; (try dsimp only at hS); go_simp)⟩) hHeld ?_
              try simp only [Act.put, List.setIfInBounds_toArray]
              refine wpAnyH_take (i := 1) (v := .slice O xs.length oc) rfl (by kernel_rfl) (by kernel_rfl) (by kernel_rfl) (fun _ _ _ h => h) (Or.inl ⟨by rfl, by (intro W hS; (try dsimp only at hS); go_simp)⟩) hHeld ?_
              try simp only [Act.put]
              refine wpAnyH_take (i := 2) (v := .pointer (some ⟨rb, 0, none⟩)) rfl (by kernel_rfl) (by kernel_rfl) (by kernel_rfl) (fun _ _ _ h => h) (Or.inl ⟨by rfl, by (intro W hS; (try dsimp only at hS); go_simp)⟩) hHeld ?_
              try simp only [Act.put]
              refine wpAnyH_ready (rs := [3]) (by kernel_rfl) (by simp) ?_
              refine AllReadyH.cons rfl (fun K hK => ?_) AllReadyH.nil
              go_simp
              go_at_call 72
              refine (rexit_any X HX.out.rd).mono ?_
              intro e Y hp
              rcases ee : rdExit (bitB bs) N b with _ | ⟨x, b1⟩
              · rw [ee] at hp
                obtain ⟨rfl, k1⟩ := hp
                have hz := HBAD.out ee
                refine ⟨rfl, ?_⟩
                show RdPost _ _ _ _ _ _ _ (rdLay (bitB bs) N a) w _ _
                rw [hz]
                exact ⟨rfl, HX.out.only.trans k1⟩
              · rw [ee] at hp
                obtain ⟨⟨v, rfl, ov, rfl, hov⟩, rr, kk⟩ := hp
                obtain ⟨xs0, xp0, xo0⟩ := x
                dsimp only at hov
                have HEE := Lib.hid ee
                have HY : Hid (LSt bs N A n cap rb w nb #[.int .i64 n0, .int .i64 n1, .int .i64 n2, .int .i64 n3] b1 (layOf A0 A1 xs [] []) ⟨O0, O1, O, none, o0, o1, oc, 0⟩ es Y) := Lib.hid (HX.out.next rr kk)
                have c0 : Y.cell? ⟨w.heap.size, 2, none⟩ = some (.slice O xs.length oc) := (boxL_heap HY.out.box).2 2 _ rfl
                have hyl : w.heap.size < Y.heap.size := (Array.getElem?_eq_some_iff.1 HY.out.box).1
                have hYb : Below Y.heap.size Y (Y.alloc (.cells (([.int .i64 xs0, .int .i64 xp0, ov] : List Value)).toArray 51)) := bself
                have HZ := Lib.hid (HY.out.below hYb)
                have HOV := Lib.hid (owns_below (owns_lower (base' := w.heap.size) hov (by have := HX.out.box; have := (Array.getElem?_eq_some_iff.1 this).1; omega)) hYb)
                have HOVS := Lib.hid (ownsV hov)
                clear hov
                clear hYb
                clear ee rr kk HX
                (try dsimp only)
                refine hK.out _ _ c0 (fun hHeld => ?_)
                clear hK K
                try simp only [Act.put, List.setIfInBounds_toArray, List.set_cons_zero, List.set_cons_succ]
                refine wpAnyH_ready (rs := [4]) (by kernel_rfl) (by simp) ?_
                refine AllReadyH.cons rfl (fun K hK => ?_) AllReadyH.nil
                go_simp
                refine hK.out _ _ ?_ (fun hHeld => ?_)
                · exact (boxL_heap HZ.out.box).2 2 _ rfl
                clear hK K hHeld c0
                try simp only [Act.put, List.setIfInBounds_toArray, List.set_cons_zero, List.set_cons_succ]
                refine wpAnyH_done (by kernel_rfl) ?_ _
                change wpList _ _ _ _ _ _
                obtain ⟨i0, z0, hi, hz, hs1, hs2, hs3⟩ := info_Exit
                have HI := Lib.hid (⟨hi, hz, hs1, hs2, hs3⟩ : _ ∧ _ ∧ _ ∧ _ ∧ _)
                clear hi hz hs1 hs2 hs3
                refine wpList_append_at (enc := Ext'.enc) rfl _ _ _ rfl w.heap.size 51 i0 z0 3 i0.bytes Tryd.underlying24 HI.out.1 HI.out.2.1 HI.out.2.2.1 rfl HI.out.2.2.2.1 (by decide) (.slice O xs.length oc) xs.length (es.flatMap Ext'.enc) rfl HZ.out.own.exits (some ⟨Y.heap.size, 0, none⟩) 1 1 [((⟨xs0, xp0, xo0⟩, ov) : Ext' × Value)] rfl rfl (at_one rfl) (fun _ => rfl) ?b1 (by have := HLX.out; unfold maxLen; omega) ?b2 (by simp; omega) ?b3
                case b1 => exact ext_one HOVS.out
                case b2 =>
                  have h2 := Nat.mul_le_mul (show xs.length + 1 ≤ 17 by have := HLX.out; omega) HI.out.2.2.2.2
                  omega
                case b3 =>
                  intro v' V hr hgr
                  obtain ⟨A', d', rfl⟩ := ownsV hr
                  obtain ⟨_, HA⟩ := HZ.out.own.addE hgr hr HOV.out
                  have HG := Lib.hid (LSt.grow (L' := (layOf A0 A1 (xs ++ [(Ext'.mk xs0 xp0 xo0)]) [] [])) (p' := ⟨O0, O1, A', none, o0, o1, d', 0⟩) (i := 2) (v := .slice A' (xs.length + 1) d') H0.out HZ.out HZ.out.own.exits hgr HA (by simp [Lay.cells, layOf]) (by decide) (by decide) (by decide))
                  have hvx := heap_grown HZ.out.own.exits hgr HZ.out.box (by decide)
                  have v1 : V.cell? ⟨w.heap.size, 2, none⟩ = some (.slice O xs.length oc) := (boxL_heap hvx).2 2 _ rfl
                  have v2 : V.frozen? ⟨w.heap.size, 2, none⟩ = false := frozen_of_row _ _ _ _ _ hvx
                  have v3 : w.heap.size < V.heap.size := (Array.getElem?_eq_some_iff.1 hvx).1
                  clear hvx hr hgr HA
                  go_wp2_with fail
                  go_roundw
                  case measure => simp [intOf]; omega
                  case rel => exact ⟨j + 1, b1, xs ++ [(Ext'.mk xs0 xp0 xo0)], A', d', (es ++ [(Ext'.mk xs0 xp0 xo0, ov)]), by omega, by go_num, Lib.hid (by rw [rdMany_next HM.out, HEE.out]), HG⟩
            · have hji : ¬ (j : Int) < (n2 : Int) := by omega
              have hjn : n2 = j := by omega
              subst hjn
              obtain ⟨O2, h⟩ : ∃ x, x = O := ⟨_, rfl⟩
              subst h
              obtain ⟨o2, h⟩ : ∃ x, x = oc := ⟨_, rfl⟩
              subst h
              obtain ⟨b2, h⟩ : ∃ x, x = b := ⟨_, rfl⟩
              subst h
              obtain ⟨A2, h⟩ : ∃ x, x = xs := ⟨_, rfl⟩
              subst h
              obtain ⟨V2, h⟩ : ∃ x, x = wr := ⟨_, rfl⟩
              subst h
              have E7 := HM
              have LS3 := HS
              clear HM HS hmax2 hj
              have hb := LS3.out.num
              have z0 : V2.cell? ⟨nb, 3, none⟩ = some (.int .i64 n3) := by simp [World.cell?, hb]
              have zl : nb < V2.heap.size := (Array.getElem?_eq_some_iff.1 hb).1
              clear hb
              go_wp2_with fail
              have hmax3 : max (n3 : Int) 0 = (n3 : Int) := by omega
              go_loopw [55] (fun cc wr => ∃ (j b : Nat) (xs : List Flk) (O : Option Addr) (oc : Nat), j ≤ n3 ∧ cc = .int .i64 j ∧ Hid (rdMany rdFlank j (bitB bs) N b2 = some (xs, b)) ∧ Hid (LSt bs N A n cap rb w nb #[.int .i64 n0, .int .i64 n1, .int .i64 n2, .int .i64 n3] b (layOf A0 A1 A2 xs []) ⟨O0, O1, O2, O, o0, o1, o2, oc⟩ es wr)) (fun cc _ => n3 - (intOf cc).toNat)
              case atStart => exact ⟨0, b2, [], none, 0, Nat.zero_le _, rfl, Lib.hid rfl, LS3⟩
              case round =>
                obtain ⟨j, b, xs, O, oc, hj, rfl, HM, HS⟩ := hrel
                clear LS3 z0 zl
                by_cases hlt : j < n3
                · have hji : (j : Int) < (n3 : Int) := by omega
                  have HLX := Lib.hid (rdMany_len HM.out)
                  have hbad : rdFlank (bitB bs) N b = none → rdLay (bitB bs) N a = none := fun h => by
                    have h1 := rdMany_next HM.out
                    rw [h] at h1
                    have h2 := rdMany_none h1 n3 (by omega)
                    simp [rdLay, rdBind, E1.out, E2.out, E3.out, E4.out, E5.out, E6.out, E7.out, h2]
                  have HBAD := Lib.hid hbad
                  clear hbad
                  go_upto_region 16 with fail
                  obtain ⟨X, hX⟩ : ∃ X, X = wr.drew := ⟨_, rfl⟩
                  have HX : Hid (LSt bs N A n cap rb w nb #[.int .i64 n0, .int .i64 n1, .int .i64 n2, .int .i64 n3] b (layOf A0 A1 A2 xs []) ⟨O0, O1, O2, O, o0, o1, o2, oc⟩ es X) := Lib.hid (HS.out.below (by rw [hX]; exact (Below.refl _ _).drew))
                  have c0 : X.cell? ⟨w.heap.size, 3, none⟩ = some (.slice O xs.length oc) := (boxL_heap HX.out.box).2 3 _ rfl
                  refine wp_region_head 5 (fun W => W.cell? ⟨w.heap.size, 3, none⟩ = some (.slice O xs.length oc)) (by kernel_rfl) (by kernel_rfl) (by kernel_rfl) (by kernel_rfl) (by kernel_rfl) (by kernel_rfl) (by rw [← hX]; exact c0) (fun hHeld => ?_)
                  simp only [List.take_succ_cons, List.take_zero, List.drop_succ_cons, List.drop_zero]
                  rw [← hX] at hHeld ⊢
                  clear hX HS c0
                  refine wpAnyH_take (i := 0) (v := .pointer (some ⟨w.heap.size, 3, none⟩)) rfl (by kernel_rfl) (by kernel_rfl) (by kernel_rfl) (fun _ _ _ h => h) (Or.inl ⟨by rfl, by (intro W hS; (try dsimp only at hS); go_simp)⟩) hHeld ?_
                  try simp only [Act.put, List.setIfInBounds_toArray]
                  refine wpAnyH_take (i := 1) (v := .slice O xs.length oc) rfl (by kernel_rfl) (by kernel_rfl) (by kernel_rfl) (fun _ _ _ h => h) (Or.inl ⟨by rfl, by (intro W hS; (try dsimp only at hS); go_simp)⟩) hHeld ?_
                  try simp only [Act.put]
                  refine wpAnyH_take (i := 2) (v := .pointer (some ⟨rb, 0, none⟩)) rfl (by kernel_rfl) (by kernel_rfl) (by kernel_rfl) (fun _ _ _ h => h) (Or.inl ⟨by rfl, by (intro W hS; (try dsimp only at hS); go_simp)⟩) hHeld ?_
                  try simp only [Act.put]
                  refine wpAnyH_ready (rs := [3]) (by kernel_rfl) (by simp) ?_
                  refine AllReadyH.cons rfl (fun K hK => ?_) AllReadyH.nil
                  go_simp
                  go_at_call 73
                  refine (rflank_any X HX.out.rd).mono ?_
                  intro e Y hp
                  rcases ee : rdFlank (bitB bs) N b with _ | ⟨x, b1⟩
                  · rw [ee] at hp
                    obtain ⟨rfl, k1⟩ := hp
                    have hz := HBAD.out ee
                    refine ⟨rfl, ?_⟩
                    show RdPost _ _ _ _ _ _ _ (rdLay (bitB bs) N a) w _ _
                    rw [hz]
                    exact ⟨rfl, HX.out.only.trans k1⟩
                  · rw [ee] at hp
                    obtain ⟨⟨v, rfl, rfl⟩, rr, kk⟩ := hp
                    have HEE := Lib.hid ee
                    have HY : Hid (LSt bs N A n cap rb w nb #[.int .i64 n0, .int .i64 n1, .int .i64 n2, .int .i64 n3] b1 (layOf A0 A1 A2 xs []) ⟨O0, O1, O2, O, o0, o1, o2, oc⟩ es Y) := Lib.hid (HX.out.next rr kk)
                    have c0 : Y.cell? ⟨w.heap.size, 3, none⟩ = some (.slice O xs.length oc) := (boxL_heap HY.out.box).2 3 _ rfl
                    have hyl : w.heap.size < Y.heap.size := (Array.getElem?_eq_some_iff.1 HY.out.box).1
                    have hYb : Below Y.heap.size Y (Y.alloc (.cells ((x.enc : List Value)).toArray 75)) := bself
                    have HZ := Lib.hid (HY.out.below hYb)
                    clear hYb
                    clear ee rr kk HX
                    (try dsimp only)
                    refine hK.out _ _ c0 (fun hHeld => ?_)
                    clear hK K
                    try simp only [Act.put, List.setIfInBounds_toArray, List.set_cons_zero, List.set_cons_succ]
                    refine wpAnyH_ready (rs := [4]) (by kernel_rfl) (by simp) ?_
                    refine AllReadyH.cons rfl (fun K hK => ?_) AllReadyH.nil
                    go_simp
                    refine hK.out _ _ ?_ (fun hHeld => ?_)
                    · exact (boxL_heap HZ.out.box).2 3 _ rfl
                    clear hK K hHeld c0
                    try simp only [Act.put, List.setIfInBounds_toArray, List.set_cons_zero, List.set_cons_succ]
                    refine wpAnyH_done (by kernel_rfl) ?_ _
                    change wpList _ _ _ _ _ _
                    obtain ⟨i0, z0, hi, hz, hs1, hs2, hs3⟩ := info_Flank
                    have HI := Lib.hid (⟨hi, hz, hs1, hs2, hs3⟩ : _ ∧ _ ∧ _ ∧ _ ∧ _)
                    clear hi hz hs1 hs2 hs3
                    refine wpList_append_at (enc := Flk.enc) rfl _ _ _ rfl w.heap.size 75 i0 z0 4 i0.bytes Tryd.underlying25 HI.out.1 HI.out.2.1 HI.out.2.2.1 rfl HI.out.2.2.2.1 (by decide) (.slice O xs.length oc) xs.length (xs.flatMap Flk.enc) rfl HZ.out.own.flanks (some ⟨Y.heap.size, 0, none⟩) 1 1 [x] rfl rfl (at_one rfl) (fun _ => rfl) ?b1 (by have := HLX.out; unfold maxLen; omega) ?b2 (by simp; omega) ?b3
                    case b1 => exact flk_one
                    case b2 =>
                      have h2 := Nat.mul_le_mul (show xs.length + 1 ≤ 33 by have := HLX.out; omega) HI.out.2.2.2.2
                      omega
                    case b3 =>
                      intro v' V hr hgr
                      obtain ⟨A', d', rfl⟩ := ownsV hr
                      obtain ⟨_, HA⟩ := HZ.out.own.addF hgr hr
                      have HG := Lib.hid (LSt.grow (L' := (layOf A0 A1 A2 (xs ++ [x]) [])) (p' := ⟨O0, O1, O2, A', o0, o1, o2, d'⟩) (i := 3) (v := .slice A' (xs.length + 1) d') H0.out HZ.out HZ.out.own.flanks hgr HA (by simp [Lay.cells, layOf]) (by decide) (by decide) (by decide))
                      have hvx := heap_grown HZ.out.own.flanks hgr HZ.out.box (by decide)
                      have v1 : V.cell? ⟨w.heap.size, 3, none⟩ = some (.slice O xs.length oc) := (boxL_heap hvx).2 3 _ rfl
                      have v2 : V.frozen? ⟨w.heap.size, 3, none⟩ = false := frozen_of_row _ _ _ _ _ hvx
                      have v3 : w.heap.size < V.heap.size := (Array.getElem?_eq_some_iff.1 hvx).1
                      clear hvx hr hgr HA
                      go_wp2_with fail
                      go_roundw
                      case measure => simp [intOf]; omega
                      case rel => exact ⟨j + 1, b1, xs ++ [x], A', d', by omega, by go_num, Lib.hid (by rw [rdMany_next HM.out, HEE.out]), HG⟩
                · have hji : ¬ (j : Int) < (n3 : Int) := by omega
                  have hjn : n3 = j := by omega
                  subst hjn
                  obtain ⟨O3, h⟩ : ∃ x, x = O := ⟨_, rfl⟩
                  subst h
                  obtain ⟨o3, h⟩ : ∃ x, x = oc := ⟨_, rfl⟩
                  subst h
                  obtain ⟨b3, h⟩ : ∃ x, x = b := ⟨_, rfl⟩
                  subst h
                  obtain ⟨A3, h⟩ : ∃ x, x = xs := ⟨_, rfl⟩
                  subst h
                  obtain ⟨V3, h⟩ : ∃ x, x = wr := ⟨_, rfl⟩
                  subst h
                  have E8 := HM
                  have LS4 := HS
                  clear HM HS hmax3 hj
                  have yl := (Array.getElem?_eq_some_iff.1 LS4.out.box).1
                  go_wp2_with fail
                  go_region
                  clear yl
                  go_wp2_with fail
                  obtain ⟨X, hX⟩ : ∃ X, X = V3.drew := ⟨_, rfl⟩
                  have LS5 : Hid (LSt bs N A n cap rb w nb #[.int .i64 n0, .int .i64 n1, .int .i64 n2, .int .i64 n3] b3 (layOf A0 A1 A2 A3 []) ⟨O0, O1, O2, O3, o0, o1, o2, o3⟩ es X) := Lib.hid (LS4.out.below (by rw [hX]; exact (Below.refl _ _).drew))
                  try rw [← hX]
                  clear hX LS4
                  go_loopw [88] (fun cc wr => ∃ (j b : Nat) (ts : List Int), j ≤ 7 ∧ cc = .int .i64 j ∧ Hid (rdMany rdTime j (bitB bs) N b3 = some (ts, b)) ∧ Hid (LSt bs N A n cap rb w nb #[.int .i64 n0, .int .i64 n1, .int .i64 n2, .int .i64 n3] b (layOf A0 A1 A2 A3 ts) ⟨O0, O1, O2, O3, o0, o1, o2, o3⟩ es wr)) (fun cc _ => 7 - (intOf cc).toNat)
                  case atStart => exact ⟨0, b3, [], Nat.zero_le _, rfl, Lib.hid rfl, LS5⟩
                  case round =>
                    obtain ⟨j, b, ts, hj, rfl, HM, HS⟩ := hrel
                    clear LS5
                    by_cases hlt : j < 7
                    · have hji : (j : Int) < 7 := by omega
                      have HLT := Lib.hid hlt
                      have HLX := Lib.hid (rdMany_len HM.out)
                      have hbad : rdN 10 (bitB bs) N b = none → rdLay (bitB bs) N a = none := fun h => by
                        have h1 := rdMany_next HM.out
                        have h0 : rdTime (bitB bs) N b = none := by simp [rdTime, rdBind, h]
                        rw [h0] at h1
                        have h2 := rdMany_none h1 7 (by omega)
                        simp [rdLay, rdBind, E1.out, E2.out, E3.out, E4.out, E5.out, E6.out, E7.out, E8.out, h2]
                      have HBAD := Lib.hid hbad
                      clear hbad
                      rcases (show j = 0 ∨ j = 1 ∨ j = 2 ∨ j = 3 ∨ j = 4 ∨ j = 5 ∨ j = 6 by omega) with rfl | rfl | rfl | rfl | rfl | rfl | rfl
                      · go_wp2_with fail
                        (with_reducible refine (number_i 10 10 rfl _ HS.out.rd (by decide)).mono ?_)
                        intro e Y hp
                        rcases ee : rdN 10 (bitB bs) N b with _ | ⟨x, b1⟩
                        · rw [ee] at hp
                          obtain ⟨rfl, k1⟩ := hp
                          have hz : rdLay (bitB bs) N a = none := HBAD.out ee
                          have HE := Lib.hid (⟨hz, HS.out.only.trans k1⟩ : _ ∧ Only rb w Y)
                          clear hz k1 ee
                          go_wp2
                          refine ⟨rfl, ?_⟩
                          show RdPost _ _ _ _ _ _ _ (rdLay (bitB bs) N a) w _ _
                          rw [HE.out.1]
                          exact ⟨rfl, HE.out.2⟩
                        rw [ee] at hp
                        obtain ⟨⟨v, rfl, rfl⟩, rr, kk⟩ := hp
                        have hx : x < 2 ^ 10 := rdN_lt ee
                        have hw : IntKind.i64.wrap ((x : Int) + 1) = (x : Int) + 1 := IntWalk.i64_in _ (by omega)
                        have hst : rdTime (bitB bs) N b = some ((x : Int) + 1, b1) := by simp [rdTime, rdBind, rdRet, ee]
                        have HEE := Lib.hid hst
                        have HY := Lib.hid (HS.out.next rr kk)
                        clear ee rr kk hst HS hx
                        have yl := (Array.getElem?_eq_some_iff.1 HY.out.box).1
                        have yf : ∀ o, Y.frozen? ⟨w.heap.size, o, none⟩ = false := fun o => frozen_of_row _ _ _ _ _ HY.out.box
                        have y1 := (boxL_heap HY.out.box).2 4 _ rfl
                        go_wp2_with fail
                        go_roundw
                        case measure => simp [intOf]
                        case rel => exact ⟨1, b1, ts ++ [(x : Int) + 1], by omega, by go_num, Lib.hid (by rw [rdMany_next HM.out, HEE.out]), Lib.hid (HY.out.setBox H0.out HY.out.own.times (lay_time HLT.out HLX.out))⟩
                      · go_wp2_with fail
                        (with_reducible refine (number_i 10 10 rfl _ HS.out.rd (by decide)).mono ?_)
                        intro e Y hp
                        rcases ee : rdN 10 (bitB bs) N b with _ | ⟨x, b1⟩
                        · rw [ee] at hp
                          obtain ⟨rfl, k1⟩ := hp
                          have hz : rdLay (bitB bs) N a = none := HBAD.out ee
                          have HE := Lib.hid (⟨hz, HS.out.only.trans k1⟩ : _ ∧ Only rb w Y)
                          clear hz k1 ee
                          go_wp2
                          refine ⟨rfl, ?_⟩
                          show RdPost _ _ _ _ _ _ _ (rdLay (bitB bs) N a) w _ _
                          rw [HE.out.1]
                          exact ⟨rfl, HE.out.2⟩
                        rw [ee] at hp
                        obtain ⟨⟨v, rfl, rfl⟩, rr, kk⟩ := hp
                        have hx : x < 2 ^ 10 := rdN_lt ee
                        have hw : IntKind.i64.wrap ((x : Int) + 1) = (x : Int) + 1 := IntWalk.i64_in _ (by omega)
                        have hst : rdTime (bitB bs) N b = some ((x : Int) + 1, b1) := by simp [rdTime, rdBind, rdRet, ee]
                        have HEE := Lib.hid hst
                        have HY := Lib.hid (HS.out.next rr kk)
                        clear ee rr kk hst HS hx
                        have yl := (Array.getElem?_eq_some_iff.1 HY.out.box).1
                        have yf : ∀ o, Y.frozen? ⟨w.heap.size, o, none⟩ = false := fun o => frozen_of_row _ _ _ _ _ HY.out.box
                        have y1 := (boxL_heap HY.out.box).2 5 _ rfl
                        go_wp2_with fail
                        go_roundw
                        case measure => simp [intOf]
                        case rel => exact ⟨2, b1, ts ++ [(x : Int) + 1], by omega, by go_num, Lib.hid (by rw [rdMany_next HM.out, HEE.out]), Lib.hid (HY.out.setBox H0.out HY.out.own.times (lay_time HLT.out HLX.out))⟩
                      · go_wp2_with fail
                        (with_reducible refine (number_i 10 10 rfl _ HS.out.rd (by decide)).mono ?_)
                        intro e Y hp
                        rcases ee : rdN 10 (bitB bs) N b with _ | ⟨x, b1⟩
                        · rw [ee] at hp
                          obtain ⟨rfl, k1⟩ := hp
                          have hz : rdLay (bitB bs) N a = none := HBAD.out ee
                          have HE := Lib.hid (⟨hz, HS.out.only.trans k1⟩ : _ ∧ Only rb w Y)
                          clear hz k1 ee
                          go_wp2
                          refine ⟨rfl, ?_⟩
                          show RdPost _ _ _ _ _ _ _ (rdLay (bitB bs) N a) w _ _
                          rw [HE.out.1]
                          exact ⟨rfl, HE.out.2⟩
                        rw [ee] at hp
                        obtain ⟨⟨v, rfl, rfl⟩, rr, kk⟩ := hp
                        have hx : x < 2 ^ 10 := rdN_lt ee
                        have hw : IntKind.i64.wrap ((x : Int) + 1) = (x : Int) + 1 := IntWalk.i64_in _ (by omega)
                        have hst : rdTime (bitB bs) N b = some ((x : Int) + 1, b1) := by simp [rdTime, rdBind, rdRet, ee]
                        have HEE := Lib.hid hst
                        have HY := Lib.hid (HS.out.next rr kk)
                        clear ee rr kk hst HS hx
                        have yl := (Array.getElem?_eq_some_iff.1 HY.out.box).1
                        have yf : ∀ o, Y.frozen? ⟨w.heap.size, o, none⟩ = false := fun o => frozen_of_row _ _ _ _ _ HY.out.box
                        have y1 := (boxL_heap HY.out.box).2 6 _ rfl
                        go_wp2_with fail
                        go_roundw
                        case measure => simp [intOf]
                        case rel => exact ⟨3, b1, ts ++ [(x : Int) + 1], by omega, by go_num, Lib.hid (by rw [rdMany_next HM.out, HEE.out]), Lib.hid (HY.out.setBox H0.out HY.out.own.times (lay_time HLT.out HLX.out))⟩
                      · go_wp2_with fail
                        (with_reducible refine (number_i 10 10 rfl _ HS.out.rd (by decide)).mono ?_)
                        intro e Y hp
                        rcases ee : rdN 10 (bitB bs) N b with _ | ⟨x, b1⟩
                        · rw [ee] at hp
                          obtain ⟨rfl, k1⟩ := hp
                          have hz : rdLay (bitB bs) N a = none := HBAD.out ee
                          have HE := Lib.hid (⟨hz, HS.out.only.trans k1⟩ : _ ∧ Only rb w Y)
                          clear hz k1 ee
                          go_wp2
                          refine ⟨rfl, ?_⟩
                          show RdPost _ _ _ _ _ _ _ (rdLay (bitB bs) N a) w _ _
                          rw [HE.out.1]
                          exact ⟨rfl, HE.out.2⟩
                        rw [ee] at hp
                        obtain ⟨⟨v, rfl, rfl⟩, rr, kk⟩ := hp
                        have hx : x < 2 ^ 10 := rdN_lt ee
                        have hw : IntKind.i64.wrap ((x : Int) + 1) = (x : Int) + 1 := IntWalk.i64_in _ (by omega)
                        have hst : rdTime (bitB bs) N b = some ((x : Int) + 1, b1) := by simp [rdTime, rdBind, rdRet, ee]
                        have HEE := Lib.hid hst
                        have HY := Lib.hid (HS.out.next rr kk)
                        clear ee rr kk hst HS hx
                        have yl := (Array.getElem?_eq_some_iff.1 HY.out.box).1
                        have yf : ∀ o, Y.frozen? ⟨w.heap.size, o, none⟩ = false := fun o => frozen_of_row _ _ _ _ _ HY.out.box
                        have y1 := (boxL_heap HY.out.box).2 7 _ rfl
                        go_wp2_with fail
                        go_roundw
                        case measure => simp [intOf]
                        case rel => exact ⟨4, b1, ts ++ [(x : Int) + 1], by omega, by go_num, Lib.hid (by rw [rdMany_next HM.out, HEE.out]), Lib.hid (HY.out.setBox H0.out HY.out.own.times (lay_time HLT.out HLX.out))⟩
                      · go_wp2_with fail
                        (with_reducible refine (number_i 10 10 rfl _ HS.out.rd (by decide)).mono ?_)
                        intro e Y hp
                        rcases ee : rdN 10 (bitB bs) N b with _ | ⟨x, b1⟩
                        · rw [ee] at hp
                          obtain ⟨rfl, k1⟩ := hp
                          have hz : rdLay (bitB bs) N a = none := HBAD.out ee
                          have HE := Lib.hid (⟨hz, HS.out.only.trans k1⟩ : _ ∧ Only rb w Y)
                          clear hz k1 ee
                          go_wp2
                          refine ⟨rfl, ?_⟩
                          show RdPost _ _ _ _ _ _ _ (rdLay (bitB bs) N a) w _ _
                          rw [HE.out.1]
                          exact ⟨rfl, HE.out.2⟩
                        rw [ee] at hp
                        obtain ⟨⟨v, rfl, rfl⟩, rr, kk⟩ := hp
                        have hx : x < 2 ^ 10 := rdN_lt ee
                        have hw : IntKind.i64.wrap ((x : Int) + 1) = (x : Int) + 1 := IntWalk.i64_in _ (by omega)
                        have hst : rdTime (bitB bs) N b = some ((x : Int) + 1, b1) := by simp [rdTime, rdBind, rdRet, ee]
                        have HEE := Lib.hid hst
                        have HY := Lib.hid (HS.out.next rr kk)
                        clear ee rr kk hst HS hx
                        have yl := (Array.getElem?_eq_some_iff.1 HY.out.box).1
                        have yf : ∀ o, Y.frozen? ⟨w.heap.size, o, none⟩ = false := fun o => frozen_of_row _ _ _ _ _ HY.out.box
                        have y1 := (boxL_heap HY.out.box).2 8 _ rfl
                        go_wp2_with fail
                        go_roundw
                        case measure => simp [intOf]
                        case rel => exact ⟨5, b1, ts ++ [(x : Int) + 1], by omega, by go_num, Lib.hid (by rw [rdMany_next HM.out, HEE.out]), Lib.hid (HY.out.setBox H0.out HY.out.own.times (lay_time HLT.out HLX.out))⟩
                      · go_wp2_with fail
                        (with_reducible refine (number_i 10 10 rfl _ HS.out.rd (by decide)).mono ?_)
                        intro e Y hp
                        rcases ee : rdN 10 (bitB bs) N b with _ | ⟨x, b1⟩
                        · rw [ee] at hp
                          obtain ⟨rfl, k1⟩ := hp
                          have hz : rdLay (bitB bs) N a = none := HBAD.out ee
                          have HE := Lib.hid (⟨hz, HS.out.only.trans k1⟩ : _ ∧ Only rb w Y)
                          clear hz k1 ee
                          go_wp2
                          refine ⟨rfl, ?_⟩
                          show RdPost _ _ _ _ _ _ _ (rdLay (bitB bs) N a) w _ _
                          rw [HE.out.1]
                          exact ⟨rfl, HE.out.2⟩
                        rw [ee] at hp
                        obtain ⟨⟨v, rfl, rfl⟩, rr, kk⟩ := hp
                        have hx : x < 2 ^ 10 := rdN_lt ee
                        have hw : IntKind.i64.wrap ((x : Int) + 1) = (x : Int) + 1 := IntWalk.i64_in _ (by omega)
                        have hst : rdTime (bitB bs) N b = some ((x : Int) + 1, b1) := by simp [rdTime, rdBind, rdRet, ee]
                        have HEE := Lib.hid hst
                        have HY := Lib.hid (HS.out.next rr kk)
                        clear ee rr kk hst HS hx
                        have yl := (Array.getElem?_eq_some_iff.1 HY.out.box).1
                        have yf : ∀ o, Y.frozen? ⟨w.heap.size, o, none⟩ = false := fun o => frozen_of_row _ _ _ _ _ HY.out.box
                        have y1 := (boxL_heap HY.out.box).2 9 _ rfl
                        go_wp2_with fail
                        go_roundw
                        case measure => simp [intOf]
                        case rel => exact ⟨6, b1, ts ++ [(x : Int) + 1], by omega, by go_num, Lib.hid (by rw [rdMany_next HM.out, HEE.out]), Lib.hid (HY.out.setBox H0.out HY.out.own.times (lay_time HLT.out HLX.out))⟩
                      · go_wp2_with fail
                        (with_reducible refine (number_i 10 10 rfl _ HS.out.rd (by decide)).mono ?_)
                        intro e Y hp
                        rcases ee : rdN 10 (bitB bs) N b with _ | ⟨x, b1⟩
                        · rw [ee] at hp
                          obtain ⟨rfl, k1⟩ := hp
                          have hz : rdLay (bitB bs) N a = none := HBAD.out ee
                          have HE := Lib.hid (⟨hz, HS.out.only.trans k1⟩ : _ ∧ Only rb w Y)
                          clear hz k1 ee
                          go_wp2
                          refine ⟨rfl, ?_⟩
                          show RdPost _ _ _ _ _ _ _ (rdLay (bitB bs) N a) w _ _
                          rw [HE.out.1]
                          exact ⟨rfl, HE.out.2⟩
                        rw [ee] at hp
                        obtain ⟨⟨v, rfl, rfl⟩, rr, kk⟩ := hp
                        have hx : x < 2 ^ 10 := rdN_lt ee
                        have hw : IntKind.i64.wrap ((x : Int) + 1) = (x : Int) + 1 := IntWalk.i64_in _ (by omega)
                        have hst : rdTime (bitB bs) N b = some ((x : Int) + 1, b1) := by simp [rdTime, rdBind, rdRet, ee]
                        have HEE := Lib.hid hst
                        have HY := Lib.hid (HS.out.next rr kk)
                        clear ee rr kk hst HS hx
                        have yl := (Array.getElem?_eq_some_iff.1 HY.out.box).1
                        have yf : ∀ o, Y.frozen? ⟨w.heap.size, o, none⟩ = false := fun o => frozen_of_row _ _ _ _ _ HY.out.box
                        have y1 := (boxL_heap HY.out.box).2 10 _ rfl
                        go_wp2_with fail
                        go_roundw
                        case measure => simp [intOf]
                        case rel => exact ⟨7, b1, ts ++ [(x : Int) + 1], by omega, by go_num, Lib.hid (by rw [rdMany_next HM.out, HEE.out]), Lib.hid (HY.out.setBox H0.out HY.out.own.times (lay_time HLT.out HLX.out))⟩
                    · have hji : ¬ (j : Int) < 7 := by omega
                      have hjn : j = 7 := by omega
                      subst hjn
                      obtain ⟨L, hL⟩ : ∃ L, L = layOf A0 A1 A2 A3 ts := ⟨_, rfl⟩
                      have hz : rdLay (bitB bs) N a = some (L, b) := by rw [hL]; simp [rdLay, rdBind, rdRet, E1.out, E2.out, E3.out, E4.out, E5.out, E6.out, E7.out, E8.out, HM.out]
                      have HZ := Lib.hid hz
                      rw [← hL] at HS
                      clear hL hz HM hj
                      have hb := HS.out.box
                      have yl := (Array.getElem?_eq_some_iff.1 hb).1
                      have yf : ∀ o, wr.frozen? ⟨w.heap.size, o, none⟩ = false := fun o => frozen_of_row _ _ _ _ _ hb
                      have y0 := (boxL_heap hb).2 0 _ rfl
                      have y1 := (boxL_heap hb).2 1 _ rfl
                      have y2 := (boxL_heap hb).2 2 _ rfl
                      have y3 := (boxL_heap hb).2 3 _ rfl
                      have y4 := (boxL_heap hb).2 4 _ rfl
                      have y5 := (boxL_heap hb).2 5 _ rfl
                      have y6 := (boxL_heap hb).2 6 _ rfl
                      have y7 := (boxL_heap hb).2 7 _ rfl
                      have y8 := (boxL_heap hb).2 8 _ rfl
                      have y9 := (boxL_heap hb).2 9 _ rfl
                      have y10 := (boxL_heap hb).2 10 _ rfl
                      clear hb
                      go_wp2
                      refine bodyPost_ret (v := L.val ⟨O0, O1, O2, O3, o0, o1, o2, o3⟩) (by simp [results, Tryd.results33, go_sem, *]) rfl ?_
                      rw [HZ.out]
                      refine ⟨⟨_, rfl, ⟨O0, O1, O2, O3, o0, o1, o2, o3⟩, rfl, es, ?_⟩, H0.out.frame ?_ ?_ HS.out.rd.pos, ?_⟩
                      · refine HS.out.own.kept (g := w.heap.size) (fun k _ hn => ?_) HS.out.box (by decide) (by decide) (by decide) (by decide) (by decide)
                        iterate 11 rw [Below.heap_setCell _ _ _ _ (by exact hn)]
                      · repeat refine Only.setNew ?_ (Nat.le_refl _)
                        exact HS.out.only
                      · iterate 11 rw [Below.heap_setCell _ _ _ _ (by dsimp only; omega)]
                        exact HS.out.rd.bx
                      · repeat refine Only.setNew ?_ (Nat.le_refl _)
                        exact HS.out.only
end
end Go.Proofs.YtpnnbihofoomeaaDoor
