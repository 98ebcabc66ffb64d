/-
  How a layout lies in memory, and what of it is plain: its sections, signals, exits, flanks, times as lists.
-/
import Derived.Test.YtkphihbimdffjaaDoorPort5
import Derived.Test.YtkphihbimdffjaaDoorPortLaw
namespace Go.Proofs.YtkphihbimdffjaaDoor
open Go.RowKit Go.Shelf

/-! Plain data. -/
structure Sec where
  (k s0 p0 s1 p1 s2 p2 s3 p3 c0 c1 : Int)
  deriving DecidableEq
structure Prt where
  (s p : Int)
  deriving DecidableEq
structure Stp where
  (s i o : Int)
  deriving DecidableEq
structure Flk where
  (s way pt pos : Int)
  deriving DecidableEq
structure Ext' where
  (s p : Int)
  (over : List Stp)
  deriving DecidableEq
structure Lay where
  (secs : List Sec)
  (sigs : List Prt)
  (exits : List Ext')
  (flanks : List Flk)
  (t0 t1 t2 t3 t4 t5 t6 : Int)

def Sec.S (c : Sec) : Nat → Int
  | 0 => c.s0 | 1 => c.s1 | 2 => c.s2 | _ => c.s3
def Sec.P (c : Sec) : Nat → Int
  | 0 => c.p0 | 1 => c.p1 | 2 => c.p2 | _ => c.p3
def Sec.C (c : Sec) : Nat → Int
  | 0 => c.c0 | _ => c.c1
def Sec.enc (c : Sec) : List Value := [.int .u8 c.k, .int .i64 c.s0, .int .i64 c.p0, .int .i64 c.s1, .int .i64 c.p1, .int .i64 c.s2, .int .i64 c.p2, .int .i64 c.s3, .int .i64 c.p3, .int .i64 c.c0, .int .i64 c.c1]
def Prt.enc (c : Prt) : List Value := [.int .i64 c.s, .int .i64 c.p]
def Stp.enc (c : Stp) : List Value := [.int .i64 c.s, .int .i64 c.i, .int .i64 c.o]
def Flk.enc (c : Flk) : List Value := [.int .i64 c.s, .int .i64 c.way, .int .i64 c.pt, .int .i64 c.pos]
def Ext'.enc (c : Ext' × Value) : List Value := [.int .i64 c.1.s, .int .i64 c.1.p, c.2]
theorem secV_enc (c : Sec) : secV c.k c.S c.P c.C = .agg c.enc.toArray := rfl
instance : Inhabited Sec := ⟨⟨0, 0, 0, 0, 0, 0, 0, 0, 0, 0, 0⟩⟩

/-! Slices in memory. -/
/-- The cells from a on hold the elements xs, k cells each. -/
def RowAt' {α : Type} (W : World) (k : Nat) (enc : α → List Value) (b off : Nat) (xs : List α) : Prop :=
  b < W.heap.size ∧ ∀ (j : Nat) (x : α), xs[j]? = some x → ∀ (i : Nat) (v : Value), (enc x)[i]? = some v → W.cell? ⟨b, off + j * k + i, none⟩ = some v
/-- At A the elements xs lie. -/
def At {α : Type} (W : World) (k : Nat) (enc : α → List Value) (A : Option Addr) (xs : List α) : Prop :=
  xs = [] ∨ ∃ b off, A = some ⟨b, off, none⟩ ∧ RowAt' W k enc b off xs
theorem RowAt'.below {α : Type} {W W' : World} {k : Nat} {enc : α → List Value} {b off : Nat} {xs : List α} (h : RowAt' W k enc b off xs) (hb : Below W.heap.size W W') : RowAt' W' k enc b off xs :=
  ⟨Nat.lt_of_lt_of_le h.1 hb.size, fun j x hx i v hv => (hb.cell (p := ⟨b, off + j * k + i, none⟩) h.1).trans (h.2 j x hx i v hv)⟩
theorem At.below {α : Type} {W W' : World} {k : Nat} {enc : α → List Value} {A : Option Addr} {xs : List α} (h : At W k enc A xs) (hb : Below W.heap.size W W') : At W' k enc A xs := by
  rcases h with h | ⟨b, off, e, h⟩
  · exact .inl h
  · exact .inr ⟨b, off, e, h.below hb⟩
/-- Where one more is to come, the address is one. -/
theorem At.get {α : Type} {W : World} {k : Nat} {enc : α → List Value} {A : Option Addr} {xs : List α} (h : At W k enc A xs) {j : Nat} (hj : j < xs.length) : ∃ b off, A = some ⟨b, off, none⟩ ∧ RowAt' W k enc b off xs := by
  rcases h with h | h
  · subst h; simp at hj
  · exact h
/-- A slice value that holds xs. -/
def Sl {α : Type} (W : World) (k : Nat) (enc : α → List Value) (v : Value) (xs : List α) : Prop :=
  ∃ A cap, v = .slice A xs.length cap ∧ xs.length ≤ cap ∧ cap ≤ maxLen ∧ At W k enc A xs
theorem Sl.below {α : Type} {W W' : World} {k : Nat} {enc : α → List Value} {v : Value} {xs : List α} (h : Sl W k enc v xs) (hb : Below W.heap.size W W') : Sl W' k enc v xs := by
  obtain ⟨A, cap, e, h1, h2, h3⟩ := h
  exact ⟨A, cap, e, h1, h2, h3.below hb⟩
/-- The exits: each with the slice of its overlap. -/
def ExAt (W : World) (A : Option Addr) (xs : List Ext') : Prop :=
  ∃ es : List (Ext' × Value), es.map (·.1) = xs ∧ At W 3 Ext'.enc A es ∧ ∀ e ∈ es, Sl W 3 Stp.enc e.2 e.1.over
theorem ExAt.below {W W' : World} {A : Option Addr} {xs : List Ext'} (h : ExAt W A xs) (hb : Below W.heap.size W W') : ExAt W' A xs := by
  obtain ⟨es, e, h1, h2⟩ := h
  exact ⟨es, e, h1.below hb, fun y hy => (h2 y hy).below hb⟩

/-- Where a layout's four slices lie. -/
structure Where where
  (a0 a1 a2 a3 : Option Addr)
  (c0 c1 c2 c3 : Nat)
/-- A layout's value. -/
def Lay.cells (L : Lay) (p : Where) : List Value :=
  [.slice p.a0 L.secs.length p.c0, .slice p.a1 L.sigs.length p.c1, .slice p.a2 L.exits.length p.c2, .slice p.a3 L.flanks.length p.c3, .int .i64 L.t0, .int .i64 L.t1, .int .i64 L.t2, .int .i64 L.t3, .int .i64 L.t4, .int .i64 L.t5, .int .i64 L.t6]
structure LayAt (W : World) (p : Where) (L : Lay) : Prop where
  secs : At W 11 Sec.enc p.a0 L.secs
  sigs : At W 2 Prt.enc p.a1 L.sigs
  exits : ExAt W p.a2 L.exits
  flanks : At W 4 Flk.enc p.a3 L.flanks
  l0 : L.secs.length ≤ p.c0 ∧ p.c0 ≤ 9223372036854775807
  l1 : L.sigs.length ≤ p.c1 ∧ p.c1 ≤ 9223372036854775807
  l2 : L.exits.length ≤ p.c2 ∧ p.c2 ≤ 9223372036854775807
  l3 : L.flanks.length ≤ p.c3 ∧ p.c3 ≤ 9223372036854775807
  kinds : ∀ c ∈ L.secs, 0 ≤ c.k ∧ c.k ≤ 255
theorem LayAt.below {W W' : World} {p : Where} {L : Lay} (h : LayAt W p L) (hb : Below W.heap.size W W') : LayAt W' p L :=
  ⟨h.secs.below hb, h.sigs.below hb, h.exits.below hb, h.flanks.below hb, h.l0, h.l1, h.l2, h.l3, h.kinds⟩

/-! What is told of a layout, plainly. -/
def secAt (L : Lay) (s : Int) : Option Sec := if 0 ≤ s then L.secs[s.toNat]? else none
theorem secAt_none {L : Lay} {s : Int} (h : ¬ (0 ≤ s ∧ s < L.secs.length)) : secAt L s = none := by
  unfold secAt
  split
  · rw [List.getElem?_eq_none_iff]; omega
  · rfl
theorem secAt_some {L : Lay} {s : Int} (h : 0 ≤ s ∧ s < L.secs.length) : ∃ (n : Nat) (c : Sec), s = (n : Int) ∧ n < L.secs.length ∧ L.secs[n]? = some c ∧ secAt L s = some c ∧ c ∈ L.secs := by
  obtain ⟨n, rfl⟩ : ∃ n : Nat, s = (n : Int) := ⟨s.toNat, by omega⟩
  have hn : n < L.secs.length := by omega
  refine ⟨n, L.secs[n], rfl, hn, List.getElem?_eq_getElem hn, ?_, List.getElem_mem hn⟩
  unfold secAt
  rw [if_pos (by omega)]
  simp [hn]
/-- The section of a port. -/
def atO (L : Lay) (s p : Int) : Option Sec := (secAt L s).bind fun c => if 0 ≤ p ∧ p < kPorts c.k then some c else none
def zeroSec : Sec := ⟨0, 0, 0, 0, 0, 0, 0, 0, 0, 0, 0⟩
/-- The way of a step. -/
def stepN (L : Lay) (s i o : Int) : Int := match secAt L s with
  | some c => wayN c.k i o
  | none => 0
def stepB (L : Lay) (s i o : Int) : Bool := match secAt L s with
  | some c => wayB c.k i o
  | none => false
end Go.Proofs.YtkphihbimdffjaaDoor
