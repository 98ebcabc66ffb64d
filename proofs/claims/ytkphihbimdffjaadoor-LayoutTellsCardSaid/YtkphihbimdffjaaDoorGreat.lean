/-
  lockbarref06.Great: where it says no, the layout is small.
-/
import Derived.Test.YtkphihbimdffjaaDoorLay4
namespace Go.Proofs.YtkphihbimdffjaaDoor
open Go.RowKit Go.Shelf

def FewG (L : Lay) : Prop := L.secs.length ≤ 40 ∧ L.sigs.length ≤ 30 ∧ L.exits.length ≤ 30 ∧ L.flanks.length ≤ 40 ∧ ∀ x ∈ L.exits, x.over.length ≤ 20
def GreatOf (L : Lay) (w : World) (e : Ending) (w' : World) : Prop := ∃ b : Bool, e = .returned (.bool b) ∧ (b = false → FewG L) ∧ Below w.heap.size w w'
theorem great_yes {L : Lay} {w w' : World} (h : Below w.heap.size w w') : GreatOf L w (.returned (.bool true)) w' := ⟨true, rfl, fun h => (by cases h), h⟩
theorem great_no {L : Lay} {w w' : World} (hf : FewG L) (h : Below w.heap.size w w') : GreatOf L w (.returned (.bool false)) w' := ⟨false, rfl, fun _ => hf, h⟩

set_option maxRecDepth 100000 in
set_option maxHeartbeats 4000000 in
theorem rGreat_of (L : Lay) (p : Where) (w : World) (hL : LayAt w p L) : Calls Tryd.prog 8 #[L.val p] w (GreatOf L w) := by
  have hm0 : L.secs.length ≤ 9223372036854775807 := Nat.le_trans hL.l0.1 hL.l0.2
  have hm1 : L.sigs.length ≤ 9223372036854775807 := Nat.le_trans hL.l1.1 hL.l1.2
  have hm : L.exits.length ≤ 9223372036854775807 := Nat.le_trans hL.l2.1 hL.l2.2
  have hm3 : L.flanks.length ≤ 9223372036854775807 := Nat.le_trans hL.l3.1 hL.l3.2
  obtain ⟨a0, a1, a2, a3, p0, p1, p2, p3⟩ := p
  have HL := Lib.hid hL
  clear hL
  unfold Lay.val
  go_enter Tryd.func8, Tryd.ntmps8
  go_wp2_with fail
  go_loop [3] (fun s3 => ∃ n : Nat, n ≤ L.exits.length ∧ n ≤ 31 ∧ s3 = .int .i64 n ∧ Hid (∀ (j : Nat) (x : Ext'), j < n → L.exits[j]? = some x → x.over.length ≤ 20)) (fun s3 => L.exits.length - (intOf s3).toNat)
  case atStart => exact ⟨0, Nat.zero_le _, by omega, rfl, Lib.hid (fun j x hj => absurd hj (Nat.not_lt_zero _))⟩
  case round =>
    obtain ⟨n, hn, hn31, rfl, HJ⟩ := hrel
    by_cases hlt : n < L.exits.length ∧ n ≤ 30
    · obtain ⟨hlt, h30⟩ := hlt
      obtain ⟨es, hes, hAt, hov⟩ := HL.out.exits
      have hlen : es.length = L.exits.length := by rw [← hes, List.length_map]
      obtain ⟨b, off, hAe, h0, hrow⟩ := hAt.get (j := n) (by omega)
      subst hAe
      obtain ⟨y, hy⟩ : ∃ y, es[n]? = some y := ⟨es[n]'(by omega), List.getElem?_eq_getElem (by omega)⟩
      have g2 := hrow n y hy 2 _ rfl
      have hye : L.exits[n]? = some y.1 := by rw [← hes, List.getElem?_map, hy]; rfl
      obtain ⟨A, cap, e2, hcap, hmax, _⟩ := hov y (List.mem_of_getElem? hy)
      rw [e2] at g2
      obtain ⟨m, hmv⟩ : ∃ m, m = y.1.over.length := ⟨_, rfl⟩
      have next : m ≤ 20 → Hid (∀ (j : Nat) (x : Ext'), j < n + 1 → L.exits[j]? = some x → x.over.length ≤ 20) := fun h => Lib.hid fun j x hj hx => by
        by_cases e : j = n
        · subst e
          rw [hye] at hx
          cases hx
          omega
        · exact HJ.out j x (by omega) hx
      have NX := Lib.hid next
      rw [← hmv] at g2 hcap
      have hmm : m ≤ 9223372036854775807 := Nat.le_trans hcap hmax
      clear next hrow hy hes hAt hov hlen e2 hcap hmax hmv HL hye
      have d30 : decide ((n : Int) ≤ 30) = true := decide_eq_true (by omega)
      by_cases h20 : 20 < m
      · have d20 : decide ((20 : Int) < (m : Int)) = true := decide_eq_true (by omega)
        go_wp2
        go_ret
        exact great_yes bself
      · have d20 : decide ((20 : Int) < (m : Int)) = false := decide_eq_false (by omega)
        go_wp2
        go_round
        case rel => exact ⟨n + 1, by omega, by omega, by go_num, NX.out (by omega)⟩
        case measure => simp [intOf]; omega
    · have hstop : (n < L.exits.length ∧ 30 < n) ∨ n = L.exits.length := by omega
      clear hlt HL
      have few : L.secs.length ≤ 40 → L.sigs.length ≤ 30 → L.exits.length ≤ 30 → L.flanks.length ≤ 40 → FewG L := fun h0 h1 h2 h3 => ⟨h0, h1, h2, h3, fun x hx => by
        obtain ⟨j, hj⟩ := List.mem_iff_getElem?.1 hx
        have hjl := (List.getElem?_eq_some_iff.1 hj).1
        exact HJ.out j x (by omega) hj⟩
      have FW := Lib.hid few
      clear few
      have hts : decide (n < L.exits.length) = false ∨ (decide (n < L.exits.length) = true ∧ decide ((n : Int) ≤ 30) = false) := by
        rcases hstop with ⟨h1, h2⟩ | h1
        · exact .inr ⟨decide_eq_true (by omega), decide_eq_false (by omega)⟩
        · exact .inl (decide_eq_false (by omega))
      have h0 : (40 : Int) < L.secs.length ∨ (L.secs.length ≤ 40 ∧ (30 : Int) < L.sigs.length) ∨ (L.secs.length ≤ 40 ∧ L.sigs.length ≤ 30 ∧ (30 : Int) < L.exits.length) ∨ (L.secs.length ≤ 40 ∧ L.sigs.length ≤ 30 ∧ L.exits.length ≤ 30 ∧ (40 : Int) < L.flanks.length) ∨ (L.secs.length ≤ 40 ∧ L.sigs.length ≤ 30 ∧ L.exits.length ≤ 30 ∧ L.flanks.length ≤ 40) := by omega
      clear hstop hn hn31 HJ
      rcases h0 with h0 | ⟨h0, h1⟩ | ⟨h0, h1, h2⟩ | ⟨h0, h1, h2, h3⟩ | ⟨h0, h1, h2, h3⟩
      · have e0 : decide ((40 : Int) < (L.secs.length : Int)) = true := decide_eq_true (by omega)
        clear h0 FW
        rcases hts with t0 | ⟨t0, t1⟩
        all_goals
          go_wp2
          go_ret
          exact great_yes bself
      · have e0 : decide ((40 : Int) < (L.secs.length : Int)) = false := decide_eq_false (by omega)
        have e1 : decide ((30 : Int) < (L.sigs.length : Int)) = true := decide_eq_true (by omega)
        clear h0 h1 FW
        rcases hts with t0 | ⟨t0, t1⟩
        all_goals
          go_wp2
          go_ret
          exact great_yes bself
      · have e0 : decide ((40 : Int) < (L.secs.length : Int)) = false := decide_eq_false (by omega)
        have e1 : decide ((30 : Int) < (L.sigs.length : Int)) = false := decide_eq_false (by omega)
        have e2 : decide ((30 : Int) < (L.exits.length : Int)) = true := decide_eq_true (by omega)
        clear h0 h1 h2 FW
        rcases hts with t0 | ⟨t0, t1⟩
        all_goals
          go_wp2
          go_ret
          exact great_yes bself
      · have e0 : decide ((40 : Int) < (L.secs.length : Int)) = false := decide_eq_false (by omega)
        have e1 : decide ((30 : Int) < (L.sigs.length : Int)) = false := decide_eq_false (by omega)
        have e2 : decide ((30 : Int) < (L.exits.length : Int)) = false := decide_eq_false (by omega)
        have e3 : decide ((40 : Int) < (L.flanks.length : Int)) = true := decide_eq_true (by omega)
        clear h0 h1 h2 h3 FW
        rcases hts with t0 | ⟨t0, t1⟩
        all_goals
          go_wp2
          go_ret
          exact great_yes bself
      · have e0 : decide ((40 : Int) < (L.secs.length : Int)) = false := decide_eq_false (by omega)
        have e1 : decide ((30 : Int) < (L.sigs.length : Int)) = false := decide_eq_false (by omega)
        have e2 : decide ((30 : Int) < (L.exits.length : Int)) = false := decide_eq_false (by omega)
        have e3 : decide ((40 : Int) < (L.flanks.length : Int)) = false := decide_eq_false (by omega)
        have FW2 := Lib.hid (FW.out h0 h1 h2 h3)
        clear h0 h1 h2 h3 FW
        rcases hts with t0 | ⟨t0, t1⟩
        all_goals
          go_wp2
          go_ret
          exact great_no FW2.out bself
end Go.Proofs.YtkphihbimdffjaaDoor
