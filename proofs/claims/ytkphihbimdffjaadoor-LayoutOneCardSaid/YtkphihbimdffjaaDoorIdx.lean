/-
  slices.IndexFunc, slices.ContainsFunc at the structs of a layout, whatever the predicate.
-/
import Derived.Test.YtkphihbimdffjaaDoorLay2
namespace Go.Proofs.YtkphihbimdffjaaDoor
open Go.RowKit Go.Shelf

/-- A predicate: it may lay blocks of its own, and leaves all else as it was. -/
def PB {α : Type} (g : Nat) (lb : Array Value) (enc : α → List Value) (p : α → Bool) (xs : List α) (w : World) : Prop :=
  ∀ (W : World) (x : α), x ∈ xs → Below w.heap.size w W → Calls Tryd.prog g (#[.agg (enc x).toArray] ++ lb) W fun e w' => e = .returned (.bool (p x)) ∧ Below W.heap.size W w'
/-- The first one of which p holds. -/
def idxOf' {α : Type} (p : α → Bool) (xs : List α) : Int := match xs.findIdx? p with
  | some i => (i : Int)
  | none => -1
theorem idx_hit {α : Type} {p : α → Bool} {xs : List α} {n : Nat} {x : α} (hx : xs[n]? = some x) (h : p x = true) (ha : ∀ j, j < n → ∀ y, xs[j]? = some y → p y = false) : idxOf' p xs = n := by
  obtain ⟨hn, e⟩ := List.getElem?_eq_some_iff.1 hx
  have : xs.findIdx? p = some n := by
    rw [List.findIdx?_eq_some_iff_getElem]
    refine ⟨hn, by rw [e]; exact h, fun j hj => ?_⟩
    have hjl : j < xs.length := by omega
    rw [ha j hj xs[j] (List.getElem?_eq_getElem hjl)]
    simp
  unfold idxOf'
  rw [this]
theorem idx_miss {α : Type} {p : α → Bool} {xs : List α} (ha : ∀ j, j < xs.length → ∀ y, xs[j]? = some y → p y = false) : idxOf' p xs = -1 := by
  have : xs.findIdx? p = none := by
    rw [List.findIdx?_eq_none_iff]
    intro x hx
    obtain ⟨j, hj, e⟩ := List.mem_iff_getElem.1 hx
    exact ha j hj x (by rw [← e]; exact List.getElem?_eq_getElem hj)
  unfold idxOf'
  rw [this]
theorem idx_any {α : Type} {p : α → Bool} {xs : List α} : decide (0 ≤ idxOf' p xs) = xs.any p := by
  unfold idxOf'
  cases h : xs.findIdx? p with
  | none =>
    rw [List.findIdx?_eq_none_iff] at h
    simp only [show decide ((0 : Int) ≤ -1) = false by decide]
    symm
    rw [List.any_eq_false]
    intro x hx
    simp [h x hx]
  | some i =>
    obtain ⟨hi, hp, _⟩ := List.findIdx?_eq_some_iff_getElem.1 h
    rw [decide_eq_true (show (0 : Int) ≤ (i : Int) by omega)]
    symm
    rw [List.any_eq_true]
    exact ⟨xs[i], List.getElem_mem hi, hp⟩

set_option maxRecDepth 100000 in
set_option maxHeartbeats 2000000 in
theorem indexSignal_any (g : Nat) (lb : Array Value) (eg : ∀ args w, (callFunc g args).run Tryd.prog w = .ok (.enter g args) w) (p : Prt → Bool) (A : Option Addr) (cap : Nat) (xs : List Prt) (w : World) (hA : At w 2 Prt.enc A xs) (hl : xs.length ≤ cap) (hm : cap ≤ 9223372036854775807)
    (hp : PB g lb Prt.enc p xs w) :
    Calls Tryd.prog 30 #[.slice A xs.length cap, .func (.func g) #[] lb] w fun e w' => e = .returned (.int .i64 (idxOf' p xs)) ∧ Below w.heap.size w w' := by
  have HX := Lib.hid (⟨fun n x => idx_hit (p := p) (xs := xs) (n := n) (x := x), idx_miss (p := p) (xs := xs)⟩ : _ ∧ _)
  generalize idxOf' p xs = r at HX
  obtain ⟨len, hlen⟩ : ∃ len, len = xs.length := ⟨_, rfl⟩
  have HLN := Lib.hid hlen
  have HA := Lib.hid hA
  have HP := Lib.hid hp
  rw [← hlen] at hl ⊢
  clear hA hp hlen
  go_enter Tryd.func30, Tryd.ntmps30
  go_wp2
  go_loopg [5, 8] len (fun gg _ s8 wr => ∃ n : Nat, n ≤ len ∧ len - n ≤ gg ∧ s8 = .int .i64 n ∧ Hid (Below w.heap.size w wr) ∧ Hid (∀ j, j < n → ∀ y, xs[j]? = some y → p y = false))
  case atStart => exact ⟨0, Nat.zero_le _, by omega, rfl, Lib.hid (Below.refl _ w), Lib.hid (fun j hj => absurd hj (Nat.not_lt_zero _))⟩
  case round =>
    obtain ⟨n, hn, hg, rfl, HB, HJ⟩ := hrel
    by_cases hlt : n < len
    · obtain ⟨b, off, hAe, h0, hrow⟩ := HA.out.get (by rw [← HLN.out]; exact hlt)
      subst hAe
      obtain ⟨x, hx⟩ : ∃ x, xs[n]? = some x := ⟨xs[n]'(by rw [← HLN.out]; exact hlt), List.getElem?_eq_getElem _⟩
      have hcall := HP.out wr x (List.mem_of_getElem? hx) HB.out
      have c0 := (HB.out.cell (p := ⟨b, off + n * 2, none⟩) h0).trans (hrow n x hx 0 _ rfl)
      have c1 := (HB.out.cell (p := ⟨b, off + n * 2 + 1, none⟩) h0).trans (hrow n x hx 1 _ rfl)
      have lb' : b < wr.heap.size := Nat.lt_of_lt_of_le h0 HB.out.size
      obtain ⟨y, hy⟩ : ∃ y, y = p x := ⟨_, rfl⟩
      rw [← hy] at hcall
      have HXX := Lib.hid (⟨hx, hy⟩ : _ ∧ _)
      have HC := Lib.hid hcall
      clear hrow hx hy hcall HA
      go_wp2_with fail
      refine (HC.out).mono ?_
      rintro e w1 ⟨rfl, b1⟩
      have HB1 := Lib.hid (bchain HB.out b1)
      clear b1 HB
      cases y with
      | true =>
        go_wp2
        go_ret
        obtain rfl := HX.out.1 n x HXX.out.1 HXX.out.2.symm HJ.out
        exact ⟨rfl, HB1.out⟩
      | false =>
        go_wp2
        go_roundg (len - (n + 1))
        case measure => omega
        case rel =>
          refine ⟨n + 1, by omega, by omega, by go_num, HB1, Lib.hid (fun j hj z hz => ?_)⟩
          by_cases e : j = n
          · subst e
            rw [HXX.out.1] at hz
            cases hz
            exact HXX.out.2.symm
          · exact HJ.out j (by omega) z hz
    · obtain rfl : n = len := by omega
      go_wp2
      go_ret
      obtain rfl := HX.out.2 (fun j hj => HJ.out j (by rw [HLN.out]; exact hj))
      exact ⟨rfl, HB.out⟩

set_option maxRecDepth 100000 in
set_option maxHeartbeats 2000000 in
theorem indexExit_any (g : Nat) (lb : Array Value) (eg : ∀ args w, (callFunc g args).run Tryd.prog w = .ok (.enter g args) w) (p : (Ext' × Value) → Bool) (A : Option Addr) (cap : Nat) (xs : List (Ext' × Value)) (w : World) (hA : At w 3 Ext'.enc A xs) (hl : xs.length ≤ cap) (hm : cap ≤ 9223372036854775807)
    (hp : PB g lb Ext'.enc p xs w) :
    Calls Tryd.prog 32 #[.slice A xs.length cap, .func (.func g) #[] lb] w fun e w' => e = .returned (.int .i64 (idxOf' p xs)) ∧ Below w.heap.size w w' := by
  have HX := Lib.hid (⟨fun n x => idx_hit (p := p) (xs := xs) (n := n) (x := x), idx_miss (p := p) (xs := xs)⟩ : _ ∧ _)
  generalize idxOf' p xs = r at HX
  obtain ⟨len, hlen⟩ : ∃ len, len = xs.length := ⟨_, rfl⟩
  have HLN := Lib.hid hlen
  have HA := Lib.hid hA
  have HP := Lib.hid hp
  rw [← hlen] at hl ⊢
  clear hA hp hlen
  go_enter Tryd.func32, Tryd.ntmps32
  go_wp2
  go_loopg [5, 8] len (fun gg _ s8 wr => ∃ n : Nat, n ≤ len ∧ len - n ≤ gg ∧ s8 = .int .i64 n ∧ Hid (Below w.heap.size w wr) ∧ Hid (∀ j, j < n → ∀ y, xs[j]? = some y → p y = false))
  case atStart => exact ⟨0, Nat.zero_le _, by omega, rfl, Lib.hid (Below.refl _ w), Lib.hid (fun j hj => absurd hj (Nat.not_lt_zero _))⟩
  case round =>
    obtain ⟨n, hn, hg, rfl, HB, HJ⟩ := hrel
    by_cases hlt : n < len
    · obtain ⟨b, off, hAe, h0, hrow⟩ := HA.out.get (by rw [← HLN.out]; exact hlt)
      subst hAe
      obtain ⟨x, hx⟩ : ∃ x, xs[n]? = some x := ⟨xs[n]'(by rw [← HLN.out]; exact hlt), List.getElem?_eq_getElem _⟩
      have hcall := HP.out wr x (List.mem_of_getElem? hx) HB.out
      have c0 := (HB.out.cell (p := ⟨b, off + n * 3, none⟩) h0).trans (hrow n x hx 0 _ rfl)
      have c1 := (HB.out.cell (p := ⟨b, off + n * 3 + 1, none⟩) h0).trans (hrow n x hx 1 _ rfl)
      have c2 := (HB.out.cell (p := ⟨b, off + n * 3 + 2, none⟩) h0).trans (hrow n x hx 2 _ rfl)
      have lb' : b < wr.heap.size := Nat.lt_of_lt_of_le h0 HB.out.size
      obtain ⟨y, hy⟩ : ∃ y, y = p x := ⟨_, rfl⟩
      rw [← hy] at hcall
      have HXX := Lib.hid (⟨hx, hy⟩ : _ ∧ _)
      have HC := Lib.hid hcall
      clear hrow hx hy hcall HA
      go_wp2_with fail
      refine (HC.out).mono ?_
      rintro e w1 ⟨rfl, b1⟩
      have HB1 := Lib.hid (bchain HB.out b1)
      clear b1 HB
      cases y with
      | true =>
        go_wp2
        go_ret
        obtain rfl := HX.out.1 n x HXX.out.1 HXX.out.2.symm HJ.out
        exact ⟨rfl, HB1.out⟩
      | false =>
        go_wp2
        go_roundg (len - (n + 1))
        case measure => omega
        case rel =>
          refine ⟨n + 1, by omega, by omega, by go_num, HB1, Lib.hid (fun j hj z hz => ?_)⟩
          by_cases e : j = n
          · subst e
            rw [HXX.out.1] at hz
            cases hz
            exact HXX.out.2.symm
          · exact HJ.out j (by omega) z hz
    · obtain rfl : n = len := by omega
      go_wp2
      go_ret
      obtain rfl := HX.out.2 (fun j hj => HJ.out j (by rw [HLN.out]; exact hj))
      exact ⟨rfl, HB.out⟩

set_option maxRecDepth 100000 in
set_option maxHeartbeats 2000000 in
theorem indexSection_any (g : Nat) (lb : Array Value) (eg : ∀ args w, (callFunc g args).run Tryd.prog w = .ok (.enter g args) w) (p : Sec → Bool) (A : Option Addr) (cap : Nat) (xs : List Sec) (w : World) (hA : At w 11 Sec.enc A xs) (hl : xs.length ≤ cap) (hm : cap ≤ 9223372036854775807)
    (hp : PB g lb Sec.enc p xs w) :
    Calls Tryd.prog 68 #[.slice A xs.length cap, .func (.func g) #[] lb] w fun e w' => e = .returned (.int .i64 (idxOf' p xs)) ∧ Below w.heap.size w w' := by
  have HX := Lib.hid (⟨fun n x => idx_hit (p := p) (xs := xs) (n := n) (x := x), idx_miss (p := p) (xs := xs)⟩ : _ ∧ _)
  generalize idxOf' p xs = r at HX
  obtain ⟨len, hlen⟩ : ∃ len, len = xs.length := ⟨_, rfl⟩
  have HLN := Lib.hid hlen
  have HA := Lib.hid hA
  have HP := Lib.hid hp
  rw [← hlen] at hl ⊢
  clear hA hp hlen
  go_enter Tryd.func68, Tryd.ntmps68
  go_wp2
  go_loopg [5, 8] len (fun gg _ s8 wr => ∃ n : Nat, n ≤ len ∧ len - n ≤ gg ∧ s8 = .int .i64 n ∧ Hid (Below w.heap.size w wr) ∧ Hid (∀ j, j < n → ∀ y, xs[j]? = some y → p y = false))
  case atStart => exact ⟨0, Nat.zero_le _, by omega, rfl, Lib.hid (Below.refl _ w), Lib.hid (fun j hj => absurd hj (Nat.not_lt_zero _))⟩
  case round =>
    obtain ⟨n, hn, hg, rfl, HB, HJ⟩ := hrel
    by_cases hlt : n < len
    · obtain ⟨b, off, hAe, h0, hrow⟩ := HA.out.get (by rw [← HLN.out]; exact hlt)
      subst hAe
      obtain ⟨x, hx⟩ : ∃ x, xs[n]? = some x := ⟨xs[n]'(by rw [← HLN.out]; exact hlt), List.getElem?_eq_getElem _⟩
      have hcall := HP.out wr x (List.mem_of_getElem? hx) HB.out
      have c0 := (HB.out.cell (p := ⟨b, off + n * 11, none⟩) h0).trans (hrow n x hx 0 _ rfl)
      have c1 := (HB.out.cell (p := ⟨b, off + n * 11 + 1, none⟩) h0).trans (hrow n x hx 1 _ rfl)
      have c2 := (HB.out.cell (p := ⟨b, off + n * 11 + 2, none⟩) h0).trans (hrow n x hx 2 _ rfl)
      have c3 := (HB.out.cell (p := ⟨b, off + n * 11 + 3, none⟩) h0).trans (hrow n x hx 3 _ rfl)
      have c4 := (HB.out.cell (p := ⟨b, off + n * 11 + 4, none⟩) h0).trans (hrow n x hx 4 _ rfl)
      have c5 := (HB.out.cell (p := ⟨b, off + n * 11 + 5, none⟩) h0).trans (hrow n x hx 5 _ rfl)
      have c6 := (HB.out.cell (p := ⟨b, off + n * 11 + 6, none⟩) h0).trans (hrow n x hx 6 _ rfl)
      have c7 := (HB.out.cell (p := ⟨b, off + n * 11 + 7, none⟩) h0).trans (hrow n x hx 7 _ rfl)
      have c8 := (HB.out.cell (p := ⟨b, off + n * 11 + 8, none⟩) h0).trans (hrow n x hx 8 _ rfl)
      have c9 := (HB.out.cell (p := ⟨b, off + n * 11 + 9, none⟩) h0).trans (hrow n x hx 9 _ rfl)
      have c10 := (HB.out.cell (p := ⟨b, off + n * 11 + 10, none⟩) h0).trans (hrow n x hx 10 _ rfl)
      have lb' : b < wr.heap.size := Nat.lt_of_lt_of_le h0 HB.out.size
      obtain ⟨y, hy⟩ : ∃ y, y = p x := ⟨_, rfl⟩
      rw [← hy] at hcall
      have HXX := Lib.hid (⟨hx, hy⟩ : _ ∧ _)
      have HC := Lib.hid hcall
      clear hrow hx hy hcall HA
      go_wp2_with fail
      refine (HC.out).mono ?_
      rintro e w1 ⟨rfl, b1⟩
      have HB1 := Lib.hid (bchain HB.out b1)
      clear b1 HB
      cases y with
      | true =>
        go_wp2
        go_ret
        obtain rfl := HX.out.1 n x HXX.out.1 HXX.out.2.symm HJ.out
        exact ⟨rfl, HB1.out⟩
      | false =>
        go_wp2
        go_roundg (len - (n + 1))
        case measure => omega
        case rel =>
          refine ⟨n + 1, by omega, by omega, by go_num, HB1, Lib.hid (fun j hj z hz => ?_)⟩
          by_cases e : j = n
          · subst e
            rw [HXX.out.1] at hz
            cases hz
            exact HXX.out.2.symm
          · exact HJ.out j (by omega) z hz
    · obtain rfl : n = len := by omega
      go_wp2
      go_ret
      obtain rfl := HX.out.2 (fun j hj => HJ.out j (by rw [HLN.out]; exact hj))
      exact ⟨rfl, HB.out⟩

set_option maxRecDepth 100000 in
set_option maxHeartbeats 2000000 in
theorem indexFlank_any (g : Nat) (lb : Array Value) (eg : ∀ args w, (callFunc g args).run Tryd.prog w = .ok (.enter g args) w) (p : Flk → Bool) (A : Option Addr) (cap : Nat) (xs : List Flk) (w : World) (hA : At w 4 Flk.enc A xs) (hl : xs.length ≤ cap) (hm : cap ≤ 9223372036854775807)
    (hp : PB g lb Flk.enc p xs w) :
    Calls Tryd.prog 69 #[.slice A xs.length cap, .func (.func g) #[] lb] w fun e w' => e = .returned (.int .i64 (idxOf' p xs)) ∧ Below w.heap.size w w' := by
  have HX := Lib.hid (⟨fun n x => idx_hit (p := p) (xs := xs) (n := n) (x := x), idx_miss (p := p) (xs := xs)⟩ : _ ∧ _)
  generalize idxOf' p xs = r at HX
  obtain ⟨len, hlen⟩ : ∃ len, len = xs.length := ⟨_, rfl⟩
  have HLN := Lib.hid hlen
  have HA := Lib.hid hA
  have HP := Lib.hid hp
  rw [← hlen] at hl ⊢
  clear hA hp hlen
  go_enter Tryd.func69, Tryd.ntmps69
  go_wp2
  go_loopg [5, 8] len (fun gg _ s8 wr => ∃ n : Nat, n ≤ len ∧ len - n ≤ gg ∧ s8 = .int .i64 n ∧ Hid (Below w.heap.size w wr) ∧ Hid (∀ j, j < n → ∀ y, xs[j]? = some y → p y = false))
  case atStart => exact ⟨0, Nat.zero_le _, by omega, rfl, Lib.hid (Below.refl _ w), Lib.hid (fun j hj => absurd hj (Nat.not_lt_zero _))⟩
  case round =>
    obtain ⟨n, hn, hg, rfl, HB, HJ⟩ := hrel
    by_cases hlt : n < len
    · obtain ⟨b, off, hAe, h0, hrow⟩ := HA.out.get (by rw [← HLN.out]; exact hlt)
      subst hAe
      obtain ⟨x, hx⟩ : ∃ x, xs[n]? = some x := ⟨xs[n]'(by rw [← HLN.out]; exact hlt), List.getElem?_eq_getElem _⟩
      have hcall := HP.out wr x (List.mem_of_getElem? hx) HB.out
      have c0 := (HB.out.cell (p := ⟨b, off + n * 4, none⟩) h0).trans (hrow n x hx 0 _ rfl)
      have c1 := (HB.out.cell (p := ⟨b, off + n * 4 + 1, none⟩) h0).trans (hrow n x hx 1 _ rfl)
      have c2 := (HB.out.cell (p := ⟨b, off + n * 4 + 2, none⟩) h0).trans (hrow n x hx 2 _ rfl)
      have c3 := (HB.out.cell (p := ⟨b, off + n * 4 + 3, none⟩) h0).trans (hrow n x hx 3 _ rfl)
      have lb' : b < wr.heap.size := Nat.lt_of_lt_of_le h0 HB.out.size
      obtain ⟨y, hy⟩ : ∃ y, y = p x := ⟨_, rfl⟩
      rw [← hy] at hcall
      have HXX := Lib.hid (⟨hx, hy⟩ : _ ∧ _)
      have HC := Lib.hid hcall
      clear hrow hx hy hcall HA
      go_wp2_with fail
      refine (HC.out).mono ?_
      rintro e w1 ⟨rfl, b1⟩
      have HB1 := Lib.hid (bchain HB.out b1)
      clear b1 HB
      cases y with
      | true =>
        go_wp2
        go_ret
        obtain rfl := HX.out.1 n x HXX.out.1 HXX.out.2.symm HJ.out
        exact ⟨rfl, HB1.out⟩
      | false =>
        go_wp2
        go_roundg (len - (n + 1))
        case measure => omega
        case rel =>
          refine ⟨n + 1, by omega, by omega, by go_num, HB1, Lib.hid (fun j hj z hz => ?_)⟩
          by_cases e : j = n
          · subst e
            rw [HXX.out.1] at hz
            cases hz
            exact HXX.out.2.symm
          · exact HJ.out j (by omega) z hz
    · obtain rfl : n = len := by omega
      go_wp2
      go_ret
      obtain rfl := HX.out.2 (fun j hj => HJ.out j (by rw [HLN.out]; exact hj))
      exact ⟨rfl, HB.out⟩

set_option maxRecDepth 100000 in
set_option maxHeartbeats 2000000 in
theorem indexStep_any (g : Nat) (lb : Array Value) (eg : ∀ args w, (callFunc g args).run Tryd.prog w = .ok (.enter g args) w) (p : Stp → Bool) (A : Option Addr) (cap : Nat) (xs : List Stp) (w : World) (hA : At w 3 Stp.enc A xs) (hl : xs.length ≤ cap) (hm : cap ≤ 9223372036854775807)
    (hp : PB g lb Stp.enc p xs w) :
    Calls Tryd.prog 71 #[.slice A xs.length cap, .func (.func g) #[] lb] w fun e w' => e = .returned (.int .i64 (idxOf' p xs)) ∧ Below w.heap.size w w' := by
  have HX := Lib.hid (⟨fun n x => idx_hit (p := p) (xs := xs) (n := n) (x := x), idx_miss (p := p) (xs := xs)⟩ : _ ∧ _)
  generalize idxOf' p xs = r at HX
  obtain ⟨len, hlen⟩ : ∃ len, len = xs.length := ⟨_, rfl⟩
  have HLN := Lib.hid hlen
  have HA := Lib.hid hA
  have HP := Lib.hid hp
  rw [← hlen] at hl ⊢
  clear hA hp hlen
  go_enter Tryd.func71, Tryd.ntmps71
  go_wp2
  go_loopg [5, 8] len (fun gg _ s8 wr => ∃ n : Nat, n ≤ len ∧ len - n ≤ gg ∧ s8 = .int .i64 n ∧ Hid (Below w.heap.size w wr) ∧ Hid (∀ j, j < n → ∀ y, xs[j]? = some y → p y = false))
  case atStart => exact ⟨0, Nat.zero_le _, by omega, rfl, Lib.hid (Below.refl _ w), Lib.hid (fun j hj => absurd hj (Nat.not_lt_zero _))⟩
  case round =>
    obtain ⟨n, hn, hg, rfl, HB, HJ⟩ := hrel
    by_cases hlt : n < len
    · obtain ⟨b, off, hAe, h0, hrow⟩ := HA.out.get (by rw [← HLN.out]; exact hlt)
      subst hAe
      obtain ⟨x, hx⟩ : ∃ x, xs[n]? = some x := ⟨xs[n]'(by rw [← HLN.out]; exact hlt), List.getElem?_eq_getElem _⟩
      have hcall := HP.out wr x (List.mem_of_getElem? hx) HB.out
      have c0 := (HB.out.cell (p := ⟨b, off + n * 3, none⟩) h0).trans (hrow n x hx 0 _ rfl)
      have c1 := (HB.out.cell (p := ⟨b, off + n * 3 + 1, none⟩) h0).trans (hrow n x hx 1 _ rfl)
      have c2 := (HB.out.cell (p := ⟨b, off + n * 3 + 2, none⟩) h0).trans (hrow n x hx 2 _ rfl)
      have lb' : b < wr.heap.size := Nat.lt_of_lt_of_le h0 HB.out.size
      obtain ⟨y, hy⟩ : ∃ y, y = p x := ⟨_, rfl⟩
      rw [← hy] at hcall
      have HXX := Lib.hid (⟨hx, hy⟩ : _ ∧ _)
      have HC := Lib.hid hcall
      clear hrow hx hy hcall HA
      go_wp2_with fail
      refine (HC.out).mono ?_
      rintro e w1 ⟨rfl, b1⟩
      have HB1 := Lib.hid (bchain HB.out b1)
      clear b1 HB
      cases y with
      | true =>
        go_wp2
        go_ret
        obtain rfl := HX.out.1 n x HXX.out.1 HXX.out.2.symm HJ.out
        exact ⟨rfl, HB1.out⟩
      | false =>
        go_wp2
        go_roundg (len - (n + 1))
        case measure => omega
        case rel =>
          refine ⟨n + 1, by omega, by omega, by go_num, HB1, Lib.hid (fun j hj z hz => ?_)⟩
          by_cases e : j = n
          · subst e
            rw [HXX.out.1] at hz
            cases hz
            exact HXX.out.2.symm
          · exact HJ.out j (by omega) z hz
    · obtain rfl : n = len := by omega
      go_wp2
      go_ret
      obtain rfl := HX.out.2 (fun j hj => HJ.out j (by rw [HLN.out]; exact hj))
      exact ⟨rfl, HB.out⟩

theorem containsSection_any (g : Nat) (lb : Array Value) (eg : ∀ args w, (callFunc g args).run Tryd.prog w = .ok (.enter g args) w) (p : Sec → Bool) (A : Option Addr) (cap : Nat) (xs : List Sec) (w : World) (hA : At w 11 Sec.enc A xs) (hl : xs.length ≤ cap) (hm : cap ≤ 9223372036854775807)
    (hp : PB g lb Sec.enc p xs w) :
    Calls Tryd.prog 41 #[.slice A xs.length cap, .func (.func g) #[] lb] w fun e w' => e = .returned (.bool (xs.any p)) ∧ Below w.heap.size w w' := by
  have hc := indexSection_any g lb eg p A cap xs w hA hl hm hp
  rw [← idx_any]
  generalize idxOf' p xs = r at hc ⊢
  have HC := Lib.hid hc
  clear hc hA hl hm hp
  go_enter Tryd.func41, Tryd.ntmps41
  go_wp2_with fail
  refine HC.out.mono ?_
  rintro e w1 ⟨rfl, b1⟩
  go_wp2
  go_ret
  exact ⟨rfl, b1⟩

theorem containsFlank_any (g : Nat) (lb : Array Value) (eg : ∀ args w, (callFunc g args).run Tryd.prog w = .ok (.enter g args) w) (p : Flk → Bool) (A : Option Addr) (cap : Nat) (xs : List Flk) (w : World) (hA : At w 4 Flk.enc A xs) (hl : xs.length ≤ cap) (hm : cap ≤ 9223372036854775807)
    (hp : PB g lb Flk.enc p xs w) :
    Calls Tryd.prog 42 #[.slice A xs.length cap, .func (.func g) #[] lb] w fun e w' => e = .returned (.bool (xs.any p)) ∧ Below w.heap.size w w' := by
  have hc := indexFlank_any g lb eg p A cap xs w hA hl hm hp
  rw [← idx_any]
  generalize idxOf' p xs = r at hc ⊢
  have HC := Lib.hid hc
  clear hc hA hl hm hp
  go_enter Tryd.func42, Tryd.ntmps42
  go_wp2_with fail
  refine HC.out.mono ?_
  rintro e w1 ⟨rfl, b1⟩
  go_wp2
  go_ret
  exact ⟨rfl, b1⟩

theorem containsStep_any (g : Nat) (lb : Array Value) (eg : ∀ args w, (callFunc g args).run Tryd.prog w = .ok (.enter g args) w) (p : Stp → Bool) (A : Option Addr) (cap : Nat) (xs : List Stp) (w : World) (hA : At w 3 Stp.enc A xs) (hl : xs.length ≤ cap) (hm : cap ≤ 9223372036854775807)
    (hp : PB g lb Stp.enc p xs w) :
    Calls Tryd.prog 44 #[.slice A xs.length cap, .func (.func g) #[] lb] w fun e w' => e = .returned (.bool (xs.any p)) ∧ Below w.heap.size w w' := by
  have hc := indexStep_any g lb eg p A cap xs w hA hl hm hp
  rw [← idx_any]
  generalize idxOf' p xs = r at hc ⊢
  have HC := Lib.hid hc
  clear hc hA hl hm hp
  go_enter Tryd.func44, Tryd.ntmps44
  go_wp2_with fail
  refine HC.out.mono ?_
  rintro e w1 ⟨rfl, b1⟩
  go_wp2
  go_ret
  exact ⟨rfl, b1⟩
end Go.Proofs.YtkphihbimdffjaaDoor
