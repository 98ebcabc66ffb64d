/-
  The walk of PlanOnly.
-/
import Derived.Test.YtpnnbihofoomeaaDoorM8

namespace Go.Proofs.YtpnnbihofoomeaaDoor
open Go.RowKit Go.Shelf

theorem take_cases (bs : List Nat) : takeL bs = (noL, 40) ∨ (takeL bs = (noL, 41) ∧ 11 ≤ bs.length) ∨ ∃ L, takeL bs = (L, 0) ∧ rightL L = true ∧ bytesL L = bs := by
  rcases h : rdLay (bitB bs) (8 * bs.length) 0 with _ | ⟨L, b⟩
  · exact .inl (take_none h)
  · by_cases hr : rightL L = true ∧ bytesL L = bs
    · exact .inr (.inr ⟨L, take_some h hr, hr.1, hr.2⟩)
    · exact .inr (.inl ⟨take_form h hr, read_long h⟩)

set_option maxRecDepth 100000 in
set_option maxHeartbeats 16000000 in
theorem planOnly_walk (A : Option Addr) (cap : Nat) (bs : List Nat) (w : World) (hA : At w 1 bEnc A bs) (h8 : ∀ b ∈ bs, b < 256) (hlc : bs.length ≤ cap) (hcm : cap ≤ 9223372036854775807) (K : Kinds w) :
    Calls Tryd.prog 5 #[.slice A bs.length cap] w fun e w' => e = .returned (.bool true) ∧ Below w.heap.size w w' := by
  obtain ⟨n, hn⟩ : ∃ n, n = bs.length := ⟨_, rfl⟩
  have HW := Lib.hid (fun w1 (b : Below w.heap.size w w1) => wakes8_any w1 (K.below b))
  have hnm : n ≤ 9223372036854775807 := by omega
  rw [← hn]
  have HA := Lib.hid (⟨hn, hA, h8, K⟩ : _ ∧ _ ∧ _ ∧ _)
  clear hn hA h8 hlc hcm K
  go_enter Tryd.func5, Tryd.ntmps5
  by_cases hl : (n : Int) > 300
  · have d1 : decide ((n : Int) > 300) = true := decide_eq_true hl
    have d2 : (300 : Int) < (n : Int) := hl
    have d3 : 300 < n := by omega
    go_wp2_with fail
    (with_reducible refine (HW.out _ (Below.refl _ _)).mono ?_)
    rintro e w9 ⟨rfl, b9⟩
    have HB9 := Lib.hid (bchain ((Below.refl _ _)) b9)
    clear b9
    go_wp2
    go_ret
    exact ⟨rfl, HB9.out⟩
  have d1 : decide ((n : Int) > 300) = false := decide_eq_false hl
  have d2 : ¬ (300 : Int) < (n : Int) := hl
  have d3 : ¬ 300 < n := by omega
  have hl1 : bs.length ≤ 1000 := by have := HA.out.1; omega
  rcases take_cases bs with ht | ⟨ht, h11⟩ | ⟨L, ht, hr, hb⟩
  · have HT := Lib.hid (take_is ht A n cap w HA.out.1 HA.out.2.1 hl1 HA.out.2.2.1 HA.out.2.2.2)
    clear ht
    go_wp2_with fail
    (with_reducible refine HT.out.mono ?_)
    rintro e w1 ⟨p, es, rfl, ho, b1⟩
    have HB1 := Lib.hid b1
    clear b1 ho HT
    by_cases h11 : (n : Int) ≥ 11
    · have f1 : decide ((n : Int) ≥ 11) = true := decide_eq_true h11
      have f2 : (11 : Int) ≤ (n : Int) := h11
      have f3 : 11 ≤ n := by omega
      go_wp2_with fail
      (with_reducible refine (HW.out _ (bchain HB1.out bself)).mono ?_)
      rintro e w9 ⟨rfl, b9⟩
      have HB9 := Lib.hid (bchain ((bchain HB1.out bself)) b9)
      clear b9
      go_wp2
      go_ret
      exact ⟨rfl, HB9.out⟩
    · have f1 : decide ((n : Int) ≥ 11) = false := decide_eq_false h11
      have f2 : ¬ (11 : Int) ≤ (n : Int) := h11
      have f3 : ¬ 11 ≤ n := by omega
      go_wp2_with fail
      (with_reducible refine (HW.out _ (bchain HB1.out bself)).mono ?_)
      rintro e w9 ⟨rfl, b9⟩
      have HB9 := Lib.hid (bchain ((bchain HB1.out bself)) b9)
      clear b9
      go_wp2
      go_ret
      exact ⟨rfl, HB9.out⟩
  · have HT := Lib.hid (take_is ht A n cap w HA.out.1 HA.out.2.1 hl1 HA.out.2.2.1 HA.out.2.2.2)
    clear ht
    have h11 : (n : Int) ≥ 11 := by have := HA.out.1; omega
    have f1 : decide ((n : Int) ≥ 11) = true := decide_eq_true h11
    have f2 : (11 : Int) ≤ (n : Int) := h11
    have f3 : 11 ≤ n := by omega
    go_wp2_with fail
    (with_reducible refine HT.out.mono ?_)
    rintro e w1 ⟨p, es, rfl, ho, b1⟩
    have HB1 := Lib.hid b1
    clear b1 ho HT
    go_wp2_with fail
    (with_reducible refine (HW.out _ (bchain HB1.out bself)).mono ?_)
    rintro e w9 ⟨rfl, b9⟩
    have HB9 := Lib.hid (bchain ((bchain HB1.out bself)) b9)
    clear b9
    go_wp2
    go_ret
    exact ⟨rfl, HB9.out⟩
  · have HT := Lib.hid (take_is ht A n cap w HA.out.1 HA.out.2.1 hl1 HA.out.2.2.1 HA.out.2.2.2)
    have HR := Lib.hid (⟨hr, hb⟩ : _ ∧ _)
    clear ht hr hb
    go_wp2_with fail
    (with_reducible refine HT.out.mono ?_)
    rintro e w1 ⟨p, es, rfl, ho, b1⟩
    obtain ⟨X, hX⟩ : ∃ X, X = w1.alloc (.cells (L.cells p).toArray 29) := ⟨_, rfl⟩
    have bX : Below w1.heap.size w1 X := by rw [hX]; exact bself
    have xX : BoxL X w1.heap.size L p := by rw [hX]; exact BoxL.make _ rfl
    have H1 := Lib.hid (⟨ho.lay.below bX, bchain b1 bX, xX⟩ : LayAt X p L ∧ Below w.heap.size w X ∧ _)
    obtain ⟨g, hg⟩ : ∃ g, g = w1.heap.size := ⟨_, rfl⟩
    go_wp2_with fail
    unfold Lay.cells at hX
    rw [← hX]
    rw [← hg] at H1 ⊢
    clear hX bX xX ho b1 hg HT
    have hput := put_any L p X H1.out.1 (HA.out.2.2.2.below H1.out.2.1)
    unfold Lay.val at hput
    have HP := Lib.hid hput
    clear hput
    (with_reducible refine HP.out.mono ?_)
    intro e w2 hp
    obtain ⟨hc, b2⟩ := hp
    rcases hc with ⟨hr, _⟩ | ⟨_, v, rfl, hv⟩
    · exact absurd hr (by rw [HR.out.1]; decide)
    rw [HR.out.2] at hv
    obtain ⟨A2, c2, rfl⟩ := ownsV hv
    have hA2 := (sl_get (at_of_row (k := 1) (xs := bs) (fun _ => rfl) (by decide) hv)).1
    rw [← HA.out.1]
    have H2 := Lib.hid (⟨hA2, bchain H1.out.2.1 b2, H1.out.2.2.below b2, H1.out.1.below b2⟩ : At w2 1 bEnc A2 bs ∧ Below w.heap.size w w2 ∧ BoxL w2 g L p ∧ LayAt w2 p L)
    clear hv hA2 b2 H1 HP
    obtain ⟨x0, x1, x2, x3, x4, x5, x6, x7, x8, x9, x10⟩ := H2.out.2.2.1.cells
    have xl := H2.out.2.2.1.1
    have hsame := same8_any A2 A n n c2 cap bs bs w2 HA.out.1 HA.out.1 H2.out.1 (HA.out.2.1.below H2.out.2.1) HA.out.2.2.1 HA.out.2.2.1
    rw [decide_eq_true rfl] at hsame
    have HS := Lib.hid hsame
    clear hsame
    go_wp2_with fail
    (with_reducible refine HS.out.mono ?_)
    rintro e w3 ⟨rfl, rfl⟩
    have hright := rRight_any L p w3 H2.out.2.2.2
    rw [HR.out.1] at hright
    unfold Lay.val at hright
    have HRR := Lib.hid hright
    clear hright HS
    go_wp2_with fail
    (with_reducible refine HRR.out.mono ?_)
    rintro e w4 ⟨rfl, b4⟩
    have HB4 := Lib.hid (bchain H2.out.2.1 b4)
    clear b4 HRR
    go_wp2_with fail
    (with_reducible refine (HW.out _ HB4.out).mono ?_)
    rintro e w9 ⟨rfl, b9⟩
    have HB9 := Lib.hid (bchain (HB4.out) b9)
    clear b9
    go_wp2
    go_ret
    exact ⟨rfl, HB9.out⟩
end Go.Proofs.YtpnnbihofoomeaaDoor

/-
  PlanOnly: what is taken has just those bytes, and its numbers may be (at most 300 bytes; whatever the bytes: true).
  Conditions: port.kinds and port.none (and join.end, where it is listed) start as the program's text lays them (the tied card; it ties them to the pruned copy that the seat holds).
-/
namespace Go.Proofs.YtpnnbihofoomeaaDoor
open Go.RowKit Go.WideShapes Go.ChangeShapes Go.ChangeAt Go.WideMaps Go.WideElems Go.Joins Go.Deep

set_option maxRecDepth 100000 in
theorem planOnly_lifted (os : Os) (started : os.Started) (H : Type) (enc : TypeId × Value → H) :
    ReturnsInHanded {} Tryd.checked os 5 .any (fun w args => (Rows.planOnlySpec.pre enc Tryd.prog Tryd.f5 [] false w args ∧ laidMetH Tryd.prog laidL w) ∧ sizedMet enc Tryd.prog Tryd.f5 (OpenSpec.ofChange Rows.planOnlySpec) false w args)
      (Rows.planOnlySpec.post enc Tryd.prog Tryd.f5 false true false false) := by
  refine law_lifted_laid (C := Tryd.checked) (tb := 4) ownP started (by kernel_rfl) Tryd.func5
    (ChangeSpec.witness_shaped (enc := enc) (C := Tryd.checked) (os := os) (X := fun w _ => laidMetH Tryd.prog laidL w) false (World.doorLaid Tryd.prog 400 os) #[.slice none 0 0] 8 rfl (World.shaped_of_RefB (by kernel_rfl) (by kernel_rfl)) (by kernel_rfl) (by kernel_rfl) (by kernel_rfl) (door_met os _))
    laidP (by kernel_rfl) rfl rfl Tryd.underlying4 ?_
  intro W base args ds p hval0 hA0 hlt hL
  have hval : ∀ (j : Nat) t v, Tryd.f5.params[j]? = some t → args[j]? = some v → Value.okWide Tryd.prog W .any base t v := hval0
  have hA : DataW.TrodAll enc Tryd.prog W 0 (fun _ => true) true Tryd.f5.params.toList args.toList ds p := hA0
  clear hval0 hA0
  rw [Tryd.params5] at hA hval
  obtain ⟨vs⟩ := args
  dsimp only at hA
  obtain ⟨v0, vs0, d0, ds0, p0, q0, rfl, rfl, rfl, h0, hA⟩ := trodAll_cons hA
  obtain ⟨rfl, rfl, rfl⟩ := trodAll_nil hA
  obtain ⟨A0, cap0, bs0, rfl, hA0, hb0, hl0, hm0⟩ := open_bytes (hval 0 30 v0 rfl rfl) h0
  exact ⟨⟨rfl, rfl, rfl⟩, planOnly_walk A0 cap0 bs0 W hA0 hb0 hl0 hm0 (kinds_of_laid hL)⟩

theorem planOnly_holds : Rows.PlanOnlySaid :=
  OpenClaim.holds_of_wide 5 Tryd.f5 rfl rfl rfl rfl rfl rfl rfl ⟨rfl, rfl, rfl, rfl, rfl⟩ rfl rfl rfl rfl rfl (by kernel_rfl) Tryd.func5 (by kernel_rfl)
    (of_decide_eq_true (by kernel_rfl)) (by unfold Func.isWrapper; first | (rw [if_pos (by decide +kernel)]; kernel_rfl) | (rw [if_neg (of_decide_eq_false (by kernel_rfl))]; exact ⟨rfl, rfl⟩))
    (fun os started H enc _ => planOnly_lifted os started H enc)

theorem planOnly_card : Rows.PlanOnlyCardSaid :=
  Claim7.holds_tied_plain_at .later [] [.data, .data] true (true, "479b1d365078aa6a65adb860a79fd47d98a9c035ed1b6145318c218d63b0cd9c") false
    planOnly_holds (fun _ h => by cases h) (by kernel_rfl) (fun _ h => by cases h) planOnly_row_tie rfl ⟨rfl, rfl⟩ (by kernel_rfl) rfl
    (fun f fn hf hfn => by
      obtain rfl : f = 5 := Option.some.inj ((show Tryd.prog.funcNamed "lockbar/lockbarlaw08.PlanOnly" = some 5 by kernel_rfl).symm.trans hf) |>.symm
      obtain rfl : fn = Tryd.f5 := (Option.some.inj (Tryd.func5.symm.trans hfn)).symm
      exact ⟨by kernel_rfl, fun j t ht => by
        rw [Tryd.params5] at ht
        have hm : t ∈ [30] := by simpa using Array.mem_of_getElem? ht
        have hall : ([30].all fun u => !Tryd.prog.wantsStandIn u) = true := by kernel_rfl
        exact (show Tryd.prog.wantsStandIn t = false by simpa using List.all_eq_true.1 hall t hm)⟩)
    (by kernel_rfl)
#print axioms planOnly_card
end Go.Proofs.YtpnnbihofoomeaaDoor
