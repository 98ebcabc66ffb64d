/-
  A layout that came in, opened: its slices as lists.
-/
import Derived.Test.YtkphihbimdffjaaDoorLay1
import Derived.Test.YtkphihbimdffjaaDoorFlat
import Derived.Test.YtkphihbimdffjaaDoorLaid
import Derived.Deep.Slices
namespace Go.Proofs.YtkphihbimdffjaaDoor
open Go.RowKit Go.WideShapes Go.ChangeShapes Go.ChangeAt Go.Deep

section
variable {H : Type} {enc : TypeId × Value → H} {w : World} {base : Nat} {spare : Nat → Bool} {held : Bool}

theorem add_off (a : Addr) (i : Nat) (h : a.spot = none) : a.add i = ⟨a.block, a.off + i, none⟩ := by
  obtain ⟨b, o, s⟩ := a
  subst h
  unfold Addr.add
  by_cases hi : i = 0
  · simp [hi]
  · simp [hi]

/-- A slice of elements of k cells each, of which each is what an x is told by. -/
theorem open_rows {P : Program} {α : Type} [Inhabited α] {t e : TypeId} {k : Nat} {encA : α → List Value} {Good : α → Prop} {fuel : Nat} {cs : List Value} {x : DataW H × List MemPlace} (ht : P.underlying t = some (.slice e)) (hk : P.cellsOf e = k) (h0 : 0 < k)
    (hx : ∀ (fuel : Nat) (cs : List Value) (y : DataW H × List MemPlace), cs.length = k → DataW.trod enc P w base spare held fuel e cs = some y → ∃ x : α, encA x = cs ∧ Good x)
    (h : DataW.trod enc P w base spare held fuel t cs = some x) :
    ∃ (A : Option Addr) (len cap : Nat) (xs : List α), cs = [.slice A len cap] ∧ xs.length = len ∧ len ≤ cap ∧ cap ≤ 9223372036854775807 ∧ At w k encA A xs ∧ ∀ x ∈ xs, Good x := by
  rcases open_slice ht h with ⟨e, _⟩ | ⟨a, len, cap, m, n, D, Pl, rfl, hb, hl, hm, hmm, _, hi⟩
  · subst e
    exact ⟨none, 0, 0, [], rfl, rfl, by omega, by omega, .inl rfl, fun x hx => by cases hx⟩
  · have hM : maxLen = 9223372036854775807 := rfl
    rw [hM] at hm
    have hlm : len ≤ m := by rw [hmm]; split <;> omega
    have key : ∀ i, i < len → ∃ x : α, (∀ j, j < k → w.cell? (a.add (i * k + j)) = (encA x)[j]?) ∧ (encA x).length = k ∧ Good x := by
      intro i hlt
      obtain ⟨cs', hc, ht'⟩ := hi i (by omega)
      rw [hk] at hc
      obtain ⟨_, hcl, hat⟩ := World.cells?_some hc
      obtain ⟨x, rfl, hg⟩ := hx _ _ _ hcl ht'
      refine ⟨x, fun j hj => ?_, hcl, hg⟩
      rw [← add_add]
      exact hat j hj
    obtain ⟨f, hf⟩ := choose_lt key
    refine ⟨some a, len, cap, (List.range len).map f, rfl, by simp, hl, hm, ?_, fun x hx => ?_⟩
    · by_cases hz : len = 0
      · exact .inl (by simp [hz])
      · have g := (hf 0 (by omega)).1 0 h0
        have hs : 0 < (encA (f 0)).length := by rw [(hf 0 (by omega)).2.1]; exact h0
        rw [List.getElem?_eq_getElem hs] at g
        have hspot : a.spot = none := by
          have := World.cell?_spot g
          simpa [Addr.add] using this
        refine .inr ⟨a.block, a.off, by cases a; simp_all, ?_, fun j x hj i v hv => ?_⟩
        · have := World.block_lt_of_cell? _ _ g
          simpa [Addr.add] using this
        · have hjl : j < len := by
            have := (List.getElem?_eq_some_iff.1 hj).1
            simpa using this
          rw [List.getElem?_map, List.getElem?_range hjl] at hj
          simp only [Option.map_some, Option.some.injEq] at hj
          subst hj
          have hil : i < k := by rw [← (hf j hjl).2.1]; exact (List.getElem?_eq_some_iff.1 hv).1
          have := (hf j hjl).1 i hil
          rw [add_off _ _ hspot, ← Nat.add_assoc] at this
          rw [this, hv]
    · obtain ⟨i, hi, rfl⟩ := List.mem_map.1 hx
      exact (hf i (List.mem_range.1 hi)).2.2

instance : Inhabited Prt := ⟨⟨0, 0⟩⟩
instance : Inhabited Stp := ⟨⟨0, 0, 0⟩⟩
instance : Inhabited Flk := ⟨⟨0, 0, 0, 0⟩⟩
instance : Inhabited Ext' := ⟨⟨0, 0, []⟩⟩
instance : Inhabited (Ext' × Value) := ⟨(⟨0, 0, []⟩, .slice none 0 0)⟩

theorem wf_u8 {x : Int} (h : (Lit.int .u8 x).wf = true) : 0 ≤ x ∧ x ≤ 255 := by
  simp [Lit.wf, IntKind.min, IntKind.max, IntKind.signed, IntKind.bits] at h
  exact ⟨by omega, by omega⟩

theorem read_sec (fuel : Nat) (cs : List Value) (y : DataW H × List MemPlace) (hl : cs.length = 11) (h : DataW.trod enc Tryd.prog w base spare held fuel 39 cs = some y) : ∃ x : Sec, x.enc = cs ∧ (0 ≤ x.k ∧ x.k ≤ 255) := by
  have hc := fun o k => kinds_cells (n := 6) (ks := [.u8, .i64, .i64, .i64, .i64, .i64, .i64, .i64, .i64, .i64, .i64]) h (by kernel_rfl) o k
  match cs, hl with
  | [c0, c1, c2, c3, c4, c5, c6, c7, c8, c9, c10], _ =>
    obtain ⟨z0, e0, wk⟩ := hc 0 _ rfl
    obtain ⟨z1, e1, _⟩ := hc 1 _ rfl
    obtain ⟨z2, e2, _⟩ := hc 2 _ rfl
    obtain ⟨z3, e3, _⟩ := hc 3 _ rfl
    obtain ⟨z4, e4, _⟩ := hc 4 _ rfl
    obtain ⟨z5, e5, _⟩ := hc 5 _ rfl
    obtain ⟨z6, e6, _⟩ := hc 6 _ rfl
    obtain ⟨z7, e7, _⟩ := hc 7 _ rfl
    obtain ⟨z8, e8, _⟩ := hc 8 _ rfl
    obtain ⟨z9, e9, _⟩ := hc 9 _ rfl
    obtain ⟨z10, e10, _⟩ := hc 10 _ rfl
    obtain rfl := Option.some.inj e0
    obtain rfl := Option.some.inj e1
    obtain rfl := Option.some.inj e2
    obtain rfl := Option.some.inj e3
    obtain rfl := Option.some.inj e4
    obtain rfl := Option.some.inj e5
    obtain rfl := Option.some.inj e6
    obtain rfl := Option.some.inj e7
    obtain rfl := Option.some.inj e8
    obtain rfl := Option.some.inj e9
    obtain rfl := Option.some.inj e10
    exact ⟨⟨z0, z1, z2, z3, z4, z5, z6, z7, z8, z9, z10⟩, rfl, wf_u8 wk⟩
theorem read_sig (fuel : Nat) (cs : List Value) (y : DataW H × List MemPlace) (hl : cs.length = 2) (h : DataW.trod enc Tryd.prog w base spare held fuel 50 cs = some y) : ∃ x : Prt, x.enc = cs ∧ True := by
  have hc := fun o k => kinds_cells (n := 6) (ks := [.i64, .i64]) h (by kernel_rfl) o k
  match cs, hl with
  | [c0, c1], _ =>
    obtain ⟨z0, e0, _⟩ := hc 0 _ rfl
    obtain ⟨z1, e1, _⟩ := hc 1 _ rfl
    obtain rfl := Option.some.inj e0
    obtain rfl := Option.some.inj e1
    exact ⟨⟨z0, z1⟩, rfl, trivial⟩
theorem read_step (fuel : Nat) (cs : List Value) (y : DataW H × List MemPlace) (hl : cs.length = 3) (h : DataW.trod enc Tryd.prog w base spare held fuel 33 cs = some y) : ∃ x : Stp, x.enc = cs ∧ True := by
  have hc := fun o k => kinds_cells (n := 6) (ks := [.i64, .i64, .i64]) h (by kernel_rfl) o k
  match cs, hl with
  | [c0, c1, c2], _ =>
    obtain ⟨z0, e0, _⟩ := hc 0 _ rfl
    obtain ⟨z1, e1, _⟩ := hc 1 _ rfl
    obtain ⟨z2, e2, _⟩ := hc 2 _ rfl
    obtain rfl := Option.some.inj e0
    obtain rfl := Option.some.inj e1
    obtain rfl := Option.some.inj e2
    exact ⟨⟨z0, z1, z2⟩, rfl, trivial⟩
theorem read_flank (fuel : Nat) (cs : List Value) (y : DataW H × List MemPlace) (hl : cs.length = 4) (h : DataW.trod enc Tryd.prog w base spare held fuel 55 cs = some y) : ∃ x : Flk, x.enc = cs ∧ True := by
  have hc := fun o k => kinds_cells (n := 6) (ks := [.i64, .i64, .i64, .i64]) h (by kernel_rfl) o k
  match cs, hl with
  | [c0, c1, c2, c3], _ =>
    obtain ⟨z0, e0, _⟩ := hc 0 _ rfl
    obtain ⟨z1, e1, _⟩ := hc 1 _ rfl
    obtain ⟨z2, e2, _⟩ := hc 2 _ rfl
    obtain ⟨z3, e3, _⟩ := hc 3 _ rfl
    obtain rfl := Option.some.inj e0
    obtain rfl := Option.some.inj e1
    obtain rfl := Option.some.inj e2
    obtain rfl := Option.some.inj e3
    exact ⟨⟨z0, z1, z2, z3⟩, rfl, trivial⟩
set_option maxRecDepth 100000 in
theorem read_exit (fuel : Nat) (cs : List Value) (y : DataW H × List MemPlace) (hl : cs.length = 3) (h : DataW.trod enc Tryd.prog w base spare held fuel 53 cs = some y) : ∃ x : Ext' × Value, Ext'.enc x = cs ∧ Sl w 3 Stp.enc x.2 x.1.over := by
  obtain ⟨xs, n, _, _, _, hxl, hf⟩ := DataW.trod_struct Tryd.underlying53 h
  match cs, hl with
  | [c0, c1, c2], _ =>
    have h0 : DataW.trod enc Tryd.prog w base spare held n 31 (List.take (Tryd.prog.cellsOf 31) (List.drop 0 [c0, c1, c2])) = xs[0]? := hf 0 _ rfl
    have h1 : DataW.trod enc Tryd.prog w base spare held n 51 (List.take (Tryd.prog.cellsOf 51) (List.drop 2 [c0, c1, c2])) = xs[1]? := hf 1 _ rfl
    have hs : 0 < xs.length ∧ 1 < xs.length := by rw [hxl]; decide
    rw [List.getElem?_eq_getElem hs.1, show Tryd.prog.cellsOf 31 = 2 by kernel_rfl] at h0
    rw [List.getElem?_eq_getElem hs.2, show Tryd.prog.cellsOf 51 = 1 by kernel_rfl] at h1
    have hc := fun o k => kinds_cells (n := 6) (ks := [.i64, .i64]) h0 (by kernel_rfl) o k
    obtain ⟨z0, e0, _⟩ := hc 0 _ rfl
    obtain ⟨z1, e1, _⟩ := hc 1 _ rfl
    obtain rfl := Option.some.inj e0
    obtain rfl := Option.some.inj e1
    obtain ⟨A, len, cap, ys, e, hl, hlc, hcm, hA, _⟩ := open_rows (k := 3) (encA := Stp.enc) (Good := fun _ => True) Tryd.underlying51 (by kernel_rfl) (by omega) read_step h1
    obtain rfl : c2 = .slice A len cap := by simpa using e
    subst hl
    exact ⟨(⟨z0, z1, ys⟩, .slice A ys.length cap), rfl, A, cap, rfl, hlc, hcm, hA⟩

set_option maxRecDepth 100000 in
theorem open_layout {r : Reach} {b0 : Nat} {v : Value} {d : DataW H} {p : List MemPlace} (hv : Value.okWide Tryd.prog w r b0 29 v) (h : DataW.Trod enc Tryd.prog w base spare held 29 v d p) : ∃ (L : Lay) (q : Where), v = L.val q ∧ LayAt w q L := by
  obtain ⟨cs, rfl, hsz⟩ := okWide_struct Tryd.underlying29 hv
  obtain ⟨l⟩ := cs
  obtain ⟨fuel, hf⟩ := h
  obtain ⟨xs, n, _, _, _, hxl, hf⟩ := DataW.trod_struct Tryd.underlying29 hf
  match l, hsz.trans (show Tryd.prog.cellsOf 29 = 11 by kernel_rfl) with
  | [c0, c1, c2, c3, c4, c5, c6, c7, c8, c9, c10], _ =>
    have h0 : DataW.trod enc Tryd.prog w base spare held n 22 (List.take (Tryd.prog.cellsOf 22) (List.drop 0 [c0, c1, c2, c3, c4, c5, c6, c7, c8, c9, c10])) = xs[0]? := hf 0 _ rfl
    have h1 : DataW.trod enc Tryd.prog w base spare held n 23 (List.take (Tryd.prog.cellsOf 23) (List.drop 1 [c0, c1, c2, c3, c4, c5, c6, c7, c8, c9, c10])) = xs[1]? := hf 1 _ rfl
    have h2 : DataW.trod enc Tryd.prog w base spare held n 24 (List.take (Tryd.prog.cellsOf 24) (List.drop 2 [c0, c1, c2, c3, c4, c5, c6, c7, c8, c9, c10])) = xs[2]? := hf 2 _ rfl
    have h3 : DataW.trod enc Tryd.prog w base spare held n 25 (List.take (Tryd.prog.cellsOf 25) (List.drop 3 [c0, c1, c2, c3, c4, c5, c6, c7, c8, c9, c10])) = xs[3]? := hf 3 _ rfl
    have h4 : DataW.trod enc Tryd.prog w base spare held n 27 (List.take (Tryd.prog.cellsOf 27) (List.drop 4 [c0, c1, c2, c3, c4, c5, c6, c7, c8, c9, c10])) = xs[4]? := hf 4 _ rfl
    have hs : 0 < xs.length ∧ 1 < xs.length ∧ 2 < xs.length ∧ 3 < xs.length ∧ 4 < xs.length := by rw [hxl]; decide
    rw [List.getElem?_eq_getElem hs.1, show Tryd.prog.cellsOf 22 = 1 by kernel_rfl] at h0
    rw [List.getElem?_eq_getElem hs.2.1, show Tryd.prog.cellsOf 23 = 1 by kernel_rfl] at h1
    rw [List.getElem?_eq_getElem hs.2.2.1, show Tryd.prog.cellsOf 24 = 1 by kernel_rfl] at h2
    rw [List.getElem?_eq_getElem hs.2.2.2.1, show Tryd.prog.cellsOf 25 = 1 by kernel_rfl] at h3
    rw [List.getElem?_eq_getElem hs.2.2.2.2, show Tryd.prog.cellsOf 27 = 7 by kernel_rfl] at h4
    obtain ⟨A0, len0, cap0, ys0, e0, hl0, hlc0, hcm0, hA0, hG0⟩ := open_rows (k := 11) (encA := Sec.enc) (Good := fun x => 0 ≤ x.k ∧ x.k ≤ 255) Tryd.underlying22 (by kernel_rfl) (by omega) read_sec h0
    obtain ⟨A1, len1, cap1, ys1, e1, hl1, hlc1, hcm1, hA1, _⟩ := open_rows (k := 2) (encA := Prt.enc) (Good := fun _ => True) Tryd.underlying23 (by kernel_rfl) (by omega) read_sig h1
    obtain ⟨A2, len2, cap2, ys2, e2, hl2, hlc2, hcm2, hA2, hG2⟩ := open_rows (k := 3) (encA := Ext'.enc) (Good := fun x => Sl w 3 Stp.enc x.2 x.1.over) Tryd.underlying24 (by kernel_rfl) (by omega) read_exit h2
    obtain ⟨A3, len3, cap3, ys3, e3, hl3, hlc3, hcm3, hA3, _⟩ := open_rows (k := 4) (encA := Flk.enc) (Good := fun _ => True) Tryd.underlying25 (by kernel_rfl) (by omega) read_flank h3
    obtain rfl : c0 = .slice A0 len0 cap0 := by simpa using e0
    obtain rfl : c1 = .slice A1 len1 cap1 := by simpa using e1
    obtain rfl : c2 = .slice A2 len2 cap2 := by simpa using e2
    obtain rfl : c3 = .slice A3 len3 cap3 := by simpa using e3
    have hc := fun o k => kinds_cells (n := 6) (ks := [.i64, .i64, .i64, .i64, .i64, .i64, .i64]) h4 (by kernel_rfl) o k
    obtain ⟨z0, f0, _⟩ := hc 0 _ rfl
    obtain ⟨z1, f1, _⟩ := hc 1 _ rfl
    obtain ⟨z2, f2, _⟩ := hc 2 _ rfl
    obtain ⟨z3, f3, _⟩ := hc 3 _ rfl
    obtain ⟨z4, f4, _⟩ := hc 4 _ rfl
    obtain ⟨z5, f5, _⟩ := hc 5 _ rfl
    obtain ⟨z6, f6, _⟩ := hc 6 _ rfl
    obtain rfl := Option.some.inj f0
    obtain rfl := Option.some.inj f1
    obtain rfl := Option.some.inj f2
    obtain rfl := Option.some.inj f3
    obtain rfl := Option.some.inj f4
    obtain rfl := Option.some.inj f5
    obtain rfl := Option.some.inj f6
    subst hl0 hl1 hl2 hl3
    refine ⟨⟨ys0, ys1, ys2.map (·.1), ys3, z0, z1, z2, z3, z4, z5, z6⟩, ⟨A0, A1, A2, A3, cap0, cap1, cap2, cap3⟩, ?_, hA0, hA1, ⟨ys2, rfl, hA2, hG2⟩, hA3, ⟨hlc0, hcm0⟩, ⟨hlc1, hcm1⟩, ⟨by simpa using hlc2, hcm2⟩, ⟨hlc3, hcm3⟩, hG0⟩
    simp [Lay.val]
end
end Go.Proofs.YtkphihbimdffjaaDoor
