/-
  The contracts of the machine functions of the program and of the reference.
-/
import Derived.Test.YtaajbhdmnbabhaaBase
namespace Go.Proofs.Ytaajbhdmnbabhaa
open Go.RowKit


abbrev mv (a r : Int) (f : Bool) : Value := .agg #[.int .i64 a, .int .i64 r, .bool f]

set_option maxHeartbeats 400000 in
theorem rest_any (w : World) :
    Calls Try.prog 11 #[] w fun e w' => e = .returned (mv (-1) 0 false) ∧ Below w.heap.size w w' := by
  go_enter Try.func11, Try.ntmps11
  go_wp2
  exact bodyPost_ret (v := mv (-1) 0 false) (by simp [results, Try.results11, go_sem]) rfl ⟨rfl, bself⟩
set_option maxHeartbeats 400000 in
theorem rrest_any (w : World) :
    Calls Try.prog 12 #[] w fun e w' => e = .returned (mv (-1) 0 false) ∧ Below w.heap.size w w' := by
  go_enter Try.func12, Try.ntmps12
  go_wp2
  exact bodyPost_ret (v := mv (-1) 0 false) (by simp [results, Try.results12, go_sem]) rfl ⟨rfl, bself⟩

def posB (n : Int) : Bool := n == 0 || n == 1
set_option maxHeartbeats 400000 in
theorem pos_any (n : Int) (w : World) :
    Calls Try.prog 22 #[.int .i64 n] w fun e w' => e = .returned (.bool (posB n)) ∧ w = w' := by
  go_enter Try.func22, Try.ntmps22
  go_wp2
  all_goals go_ret
  all_goals exact ⟨by simp [posB, *], rfl⟩

def rightB (a r : Int) (f : Bool) : Bool := (posB a && decide (0 ≤ r) && decide (r ≤ 1000)) || (a == -1 && r == 0 && f == false)
theorem rightB_iff {a r : Int} {f : Bool} : rightB a r f = true ↔ ((a = 0 ∨ a = 1) ∧ 0 ≤ r ∧ r ≤ 1000) ∨ (a = -1 ∧ r = 0 ∧ f = false) := by
  simp [rightB, posB, and_assoc]
theorem posB_iff {a : Int} : posB a = true ↔ a = 0 ∨ a = 1 := by simp [posB]
theorem posB_not {a : Int} : posB a = false ↔ ¬ (a = 0 ∨ a = 1) := by rw [← posB_iff]; simp
theorem rightB_not {a r : Int} {f : Bool} : rightB a r f = false ↔ ¬ (((a = 0 ∨ a = 1) ∧ 0 ≤ r ∧ r ≤ 1000) ∨ (a = -1 ∧ r = 0 ∧ f = false)) := by
  rw [← rightB_iff]; simp
theorem rb_t {a r : Int} {f : Bool} (h : ((a = 0 ∨ a = 1) ∧ 0 ≤ r ∧ r ≤ 1000) ∨ (a = -1 ∧ r = 0 ∧ f = false)) : true = rightB a r f := (rightB_iff.2 h).symm
theorem rb_f {a r : Int} {f : Bool} (h : ¬ (((a = 0 ∨ a = 1) ∧ 0 ≤ r ∧ r ≤ 1000) ∨ (a = -1 ∧ r = 0 ∧ f = false))) : false = rightB a r f := (rightB_not.2 h).symm
set_option maxHeartbeats 400000 in
theorem right_any (a r : Int) (f : Bool) (w : World) :
    Calls Try.prog 13 #[mv a r f] w fun e w' => e = .returned (.bool (rightB a r f)) ∧ Below w.heap.size w w' := by
  go_enter Try.func13, Try.ntmps13
  go_wp2
  refine wp_region_ext (by kernel_rfl) (by kernel_rfl) fun hx => ?_
  repeat (go_big_quiet_step ((first | (go_at_call 22; exact Calls.ext_same (pos_any _ _)))))
  cases hp : posB a
  case' true => 
    have ha : ¬ a = -1 := by intro h; subst h; simp [posB] at hp
    by_cases h2 : 0 ≤ r
    case' pos => by_cases h3 : r ≤ 1000
  case' false => 
    by_cases h2 : a = -1
    case' pos => 
      by_cases h3 : r = 0
      case' pos => cases f
  all_goals
    repeat (go_big_quiet_step ((first | (go_at_call 11; exact Calls.ext (rest_any _)))))
  all_goals
    refine wpQuiet_nil ?_
    intro w' hb
    go_wp2
    go_ret
  all_goals
    refine ⟨ret_bool ?_, bnew hb⟩
    first | rw [posB_iff] at hp | rw [posB_not] at hp
    first | exact rb_t (.inl (by omega)) | exact rb_t (.inr ⟨by omega, by omega, rfl⟩) | exact rb_f (by omega) | exact rb_f (by simp; omega)
set_option maxHeartbeats 400000 in
theorem rright_any (a r : Int) (f : Bool) (w : World) :
    Calls Try.prog 14 #[mv a r f] w fun e w' => e = .returned (.bool (rightB a r f)) ∧ Below w.heap.size w w' := by
  go_enter Try.func14, Try.ntmps14
  go_wp2
  iterate 4
    · go_ret
      exact ⟨ret_bool (rb_f (by omega)), bself⟩
  by_cases ha : 0 ≤ a
  case' neg =>
    have ha : a = -1 := by omega
    by_cases hr : r = 0
    case' pos => cases f
  all_goals
    refine wp_region_ext (by kernel_rfl) (by kernel_rfl) fun hx => ?_
    repeat (go_big_quiet_step ((first | (go_at_call 12; exact Calls.ext (rrest_any _)))))
    refine wpQuiet_nil ?_
    intro w' hb
    go_wp2
    go_ret
    refine ⟨ret_bool ?_, bnew hb⟩
    first | exact rb_t (.inl (by omega)) | exact rb_t (.inr ⟨by omega, by omega, rfl⟩) | exact rb_f (by omega) | exact rb_f (by simp) | exact rb_f (by simp; omega)

def drivesI (a r : Int) (f : Bool) (at_ : Int) (oc lk : Bool) : Int := if rightB a r f = true ∧ f = false ∧ oc = false ∧ lk = false ∧ at_ ≠ a then a else -1
set_option maxHeartbeats 400000 in
theorem drives_any (a r : Int) (f : Bool) (p : Int) (oc lk : Bool) (w : World) :
    Calls Try.prog 17 #[mv a r f, .int .i64 p, .bool oc, .bool lk] w fun e w' => e = .returned (.int .i64 (drivesI a r f p oc lk)) ∧ Below w.heap.size w w' := by
  go_enter Try.func17, Try.ntmps17
  go_wp2
  refine wp_scope_fwd 0 rfl ?_
  go_wp2_with (go_at_call 13; refine (right_any _ _ _ _).mono ?_; rintro e w' ⟨rfl, hb⟩; obtain ⟨hc, hfz, hz⟩ := bcell hb)
  all_goals try (go_step3; refine ⟨rfl, ?_⟩; go_wp2)
  all_goals first | rw [Exit.noGoto_ret] | rw [Exit.fwd_ret]
  all_goals go_ret
  all_goals refine ⟨ret_int ?_, by first | exact bself | exact bnew hb⟩
  all_goals unfold drivesI
  all_goals simp_all
  all_goals omega
set_option maxHeartbeats 400000 in
theorem rdrives_any (a r : Int) (f : Bool) (p : Int) (oc lk : Bool) (w : World) :
    Calls Try.prog 18 #[mv a r f, .int .i64 p, .bool oc, .bool lk] w fun e w' => e = .returned (.int .i64 (drivesI a r f p oc lk)) ∧ Below w.heap.size w w' := by
  go_enter Try.func18, Try.ntmps18
  go_wp2_with (go_at_call 14; refine (rright_any _ _ _ _).mono ?_; rintro e w' ⟨rfl, hb⟩; obtain ⟨hc, hfz, hz⟩ := bcell hb)
  all_goals go_ret
  all_goals refine ⟨ret_int ?_, by first | exact bself | exact bnew hb⟩
  all_goals unfold drivesI
  all_goals simp_all
  all_goals omega

/-- What a call leaves. -/
def callM (a r : Int) (f : Bool) (p : Int) : Int × Int × Bool :=
  if rightB a r f = true ∧ posB p = true then (if a = p ∧ f = false then (a, r, f) else (p, 0, false)) else (-1, 0, false)
abbrev mvt (t : Int × Int × Bool) : Value := mv t.1 t.2.1 t.2.2
theorem ret_mv {a r : Int} {f : Bool} {t : Int × Int × Bool} (h : (a, r, f) = t) : Ending.returned (mv a r f) = .returned (mvt t) := by subst h; rfl
set_option maxHeartbeats 400000 in
theorem rcall_any (a r : Int) (f : Bool) (p : Int) (w : World) :
    Calls Try.prog 16 #[mv a r f, .int .i64 p] w fun e w' => e = .returned (mvt (callM a r f p)) ∧ Below w.heap.size w w' := by
  go_enter Try.func16, Try.ntmps16
  go_wp2_with (first
    | (go_at_call 14; refine (rright_any _ _ _ _).mono ?_; rintro e w' ⟨rfl, hb⟩; obtain ⟨hc, hfz, hz⟩ := bcell hb)
    | (go_at_call 12; refine (rrest_any _).mono ?_; rintro e w'' ⟨rfl, hb2⟩; replace hb2 := bchain hb hb2; obtain ⟨hc2, hfz2, hz2⟩ := bcell hb2))
  all_goals
    refine bodyPost_ret (v := mvt (callM a r f p)) (by first | (simp [results, Try.results16, go_sem, callM, posB, *]; done) | (simp_all [results, Try.results16, go_sem, callM, posB]; done)) rfl ⟨rfl, ?_⟩
    repeat refine Below.setCell ?_ (by dsimp only; omega) _
    first | exact bchain (bchain bself bself) hb | exact bchain (bchain bself bself) hb2 | exact bchain bself bself
set_option maxHeartbeats 400000 in
/-- What a call does with a machine that may be. -/
theorem call1_any (a r : Int) (f : Bool) (p : Int) (b : Nat) (w : World) (hR : rightB a r f = true) (hbw : b < w.heap.size) (hp : w.cell? ⟨b, 0, none⟩ = some (.int .i64 p)) :
    Calls Try.prog 24 #[mv a r f, .pointer (some ⟨b, 0, none⟩)] w fun e w' => e = .returned (mvt (callM a r f p)) ∧ Below w.heap.size w w' := by
  have hne1 : ¬ w.heap.size + 1 = b := by omega
  have hne2 : ¬ w.heap.size = b := by omega
  have hlt : b < w.heap.size + 1 := by omega
  have hlt2 : b < w.heap.size + 1 + 1 := by omega
  go_enter Try.func24, Try.ntmps24
  go_wp2_with (first
    | (go_at_call 22; refine (pos_any _ _).mono ?_; rintro e w' ⟨rfl, rfl⟩)
    | (go_at_call 11; refine (rest_any _).mono ?_; rintro e w'' ⟨rfl, hb⟩; obtain ⟨hc, hfz, hz⟩ := bcell hb))
  all_goals
    refine bodyPost_ret (v := mvt (callM a r f p)) (by first | (simp [results, Try.results24, go_sem, callM, *]; done) | (simp_all [results, Try.results24, go_sem, callM]; done)) rfl ⟨rfl, ?_⟩
    repeat refine Below.setCell ?_ (by dsimp only; omega) _
    first | exact bchain (bchain bself bself) hb | exact bchain bself bself

set_option maxHeartbeats 400000 in
theorem right_call (a r : Int) (f : Bool) (p : Int) (b : Nat) (w : World) (hbw : b < w.heap.size) (hp : w.cell? ⟨b, 0, none⟩ = some (.int .i64 p)) :
    Calls Try.prog 23 #[mv a r f, .func (.func 24) #[] #[.pointer (some ⟨b, 0, none⟩)]] w fun e w' => e = .returned (mvt (callM a r f p)) ∧ Below w.heap.size w w' := by
  have hlt : b < w.heap.size + 1 := by omega
  have hlt2 : b < w.heap.size + 1 + 1 := by omega
  have hne1 : ¬ w.heap.size + 1 = b := by omega
  have hne2 : ¬ w.heap.size = b := by omega
  cases hR : rightB a r f
  · go_enter Try.func23, Try.ntmps23
    go_wp2_with (first
      | (go_at_call 13; refine (right_any _ _ _ _).mono ?_; rintro e w' ⟨rfl, hb⟩; obtain ⟨hc, hfz, hz⟩ := bcell hb)
      | (go_at_call 11; refine (rest_any _).mono ?_; rintro e w'' ⟨rfl, hb2⟩; replace hb2 := bchain hb hb2; obtain ⟨hc2, hfz2, hz2⟩ := bcell hb2))
    refine bodyPost_ret (v := mvt (callM a r f p)) (by simp [results, Try.results23, go_sem, callM, *]) rfl ⟨rfl, ?_⟩
    repeat refine Below.setCell ?_ (by dsimp only; omega) _
    exact bchain (bchain bself bself) hb2
  · go_enter Try.func23, Try.ntmps23
    go_wp2_with (first
      | (go_at_call 13; refine (right_any _ _ _ _).mono ?_; rintro e w' ⟨rfl, hb⟩; obtain ⟨hc, hfz, hz⟩ := bcell hb; have hb' := hz b (by simpa using hlt2); have hp' := (hc b 0 (by simpa using hlt2)).trans (by simp [go_sem, *] : _ = some (.int .i64 p)))
      | (go_at_call 24; refine (call1_any _ _ _ p b _ hR hb' hp').mono ?_; rintro e w'' ⟨rfl, hb2⟩; replace hb2 := bchain hb hb2; obtain ⟨hc2, hfz2, hz2⟩ := bcell hb2))
    refine bodyPost_ret (v := mvt (callM a r f p)) (by simp [results, Try.results23, go_sem, *]) rfl ⟨rfl, ?_⟩
    repeat refine Below.setCell ?_ (by dsimp only; omega) _
    exact bchain (bchain bself bself) hb2
set_option maxHeartbeats 400000 in
theorem call_any (a r : Int) (f : Bool) (p : Int) (w : World) :
    Calls Try.prog 15 #[mv a r f, .int .i64 p] w fun e w' => e = .returned (mvt (callM a r f p)) ∧ Below w.heap.size w w' := by
  go_enter Try.func15, Try.ntmps15
  go_wp2_with (go_at_call 23; refine (right_call _ _ _ p _ _ (by simp) (by simp [go_sem])).mono ?_; rintro e w' ⟨rfl, hb⟩; obtain ⟨hc, hfz, hz⟩ := bcell hb)
  refine bodyPost_ret (v := mvt (callM a r f p)) (by simp [results, Try.results15, go_sem, *]) rfl ⟨rfl, ?_⟩
  repeat refine Below.setCell ?_ (by dsimp only; omega) _
  exact bchain (bchain (bchain bself bself) bself) hb

/-- A run more. -/
def runUp (r : Int) : Int := if r < 1000 then r + 1 else 1000
theorem runUp_lt {r : Int} (h : r < 1000) : runUp r = r + 1 := if_pos h
theorem runUp_ge {r : Int} (h : ¬ r < 1000) : runUp r = 1000 := if_neg h
/-- What a tick leaves. -/
def passM (a r : Int) (f : Bool) (p : Int) (oc lk : Bool) (dr : Int) : Int × Int × Bool :=
  if rightB a r f = false ∨ (0 ≤ a ∧ p = a) then (-1, 0, false)
  else if 0 ≤ drivesI a r f p oc lk then (a, runUp r, decide (dr ≤ runUp r)) else (a, r, f)
theorem passM_out {a r : Int} {f : Bool} {p : Int} {oc lk : Bool} {dr : Int} (h : rightB a r f = false) : passM a r f p oc lk dr = (-1, 0, false) := if_pos (.inl h)
theorem passM_rest {a r : Int} {f : Bool} {p : Int} {oc lk : Bool} {dr : Int} (h : 0 ≤ a) (h2 : (p == a) = true) : passM a r f p oc lk dr = (-1, 0, false) := if_pos (.inr ⟨h, by simpa using h2⟩)
theorem passM_top {a r : Int} {f : Bool} {p : Int} {oc lk : Bool} {dr : Int} (hR : rightB a r f = true) (h : a < 0 ∨ (p == a) = false) (hd : 0 ≤ drivesI a r f p oc lk) (hr : ¬ r < 1000) : passM a r f p oc lk dr = (a, 1000, decide (dr ≤ 1000)) := by
  unfold passM
  rw [if_neg (by simp only [hR]; rcases h with h | h <;> simp at h ⊢ <;> omega), if_pos hd, runUp_ge hr]
theorem passM_up {a r : Int} {f : Bool} {p : Int} {oc lk : Bool} {dr : Int} (hR : rightB a r f = true) (h : a < 0 ∨ (p == a) = false) (hd : 0 ≤ drivesI a r f p oc lk) (hr : r < 1000) : passM a r f p oc lk dr = (a, r + 1, decide (dr ≤ r + 1)) := by
  unfold passM
  rw [if_neg (by simp only [hR]; rcases h with h | h <;> simp at h ⊢ <;> omega), if_pos hd, runUp_lt hr]
theorem passM_still {a r : Int} {f : Bool} {p : Int} {oc lk : Bool} {dr : Int} (hR : rightB a r f = true) (h : a < 0 ∨ (p == a) = false) (hd : drivesI a r f p oc lk < 0) : passM a r f p oc lk dr = (a, r, f) := by
  unfold passM
  rw [if_neg (by simp only [hR]; rcases h with h | h <;> simp at h ⊢ <;> omega), if_neg (by omega)]
set_option maxHeartbeats 1000000 in
theorem rpass_any (a r : Int) (f : Bool) (p : Int) (oc lk : Bool) (dr : Int) (w : World) :
    Calls Try.prog 20 #[mv a r f, .int .i64 p, .bool oc, .bool lk, .int .i64 dr] w fun e w' => e = .returned (mvt (passM a r f p oc lk dr)) ∧ Below w.heap.size w w' := by
  cases hR : rightB a r f
  case' true =>
    have g := rightB_iff.1 hR
    have g0 : 0 ≤ r := by omega
    have g1 : r ≤ 1000 := by omega
    clear g
  all_goals
    go_enter Try.func20, Try.ntmps20
    go_wp2_with (first
      | (go_at_call 14; refine (rright_any _ _ _ _).mono ?_; rintro e w' ⟨rfl, hb⟩; obtain ⟨hc, hfz, hz⟩ := bcell hb)
      | (go_at_call 12; refine (rrest_any _).mono ?_; rintro e w'' ⟨rfl, hb2⟩; replace hb2 := bchain hb hb2; obtain ⟨hc2, hfz2, hz2⟩ := bcell hb2)
      | (go_at_call 18; refine (rdrives_any _ _ _ _ _ _ _).mono ?_; rintro e w'' ⟨rfl, hb2⟩; replace hb2 := bchain hb hb2; obtain ⟨hc2, hfz2, hz2⟩ := bcell hb2))
  all_goals
    first
      | have hv := passM_out (p := p) (oc := oc) (lk := lk) (dr := dr) hR
      | have hv := passM_rest (r := r) (f := f) (oc := oc) (lk := lk) (dr := dr) ‹0 ≤ a› ‹(p == a) = true›
      | have hv := passM_top (p := p) (oc := oc) (lk := lk) (dr := dr) hR (.inl ‹a < 0›) ‹0 ≤ drivesI a r f p oc lk› (by omega)
      | have hv := passM_top (p := p) (oc := oc) (lk := lk) (dr := dr) hR (.inr ‹(p == a) = false›) ‹0 ≤ drivesI a r f p oc lk› (by omega)
      | have hv := passM_up (p := p) (oc := oc) (lk := lk) (dr := dr) hR (.inl ‹a < 0›) ‹0 ≤ drivesI a r f p oc lk› (by omega)
      | have hv := passM_up (p := p) (oc := oc) (lk := lk) (dr := dr) hR (.inr ‹(p == a) = false›) ‹0 ≤ drivesI a r f p oc lk› (by omega)
      | have hv := passM_still (p := p) (oc := oc) (lk := lk) (dr := dr) hR (.inl ‹a < 0›) ‹drivesI a r f p oc lk < 0›
      | have hv := passM_still (p := p) (oc := oc) (lk := lk) (dr := dr) hR (.inr ‹(p == a) = false›) ‹drivesI a r f p oc lk < 0›
    refine bodyPost_ret (v := mvt (passM a r f p oc lk dr)) (by rw [hv]; clear hv; simp [results, Try.results20, go_sem, *]) rfl ⟨rfl, ?_⟩
    repeat refine Below.setCell ?_ (by dsimp only; omega) _
    first | exact bchain (bchain bself bself) hb2 | exact bchain (bchain bself bself) hb | exact bchain bself bself
set_option maxHeartbeats 1000000 in
/-- What a tick does with a machine that may be. -/
theorem pass1_any (a r : Int) (f : Bool) (p : Int) (oc lk : Bool) (dr : Int) (b0 b1 b2 b3 : Nat) (w : World) (hR : rightB a r f = true)
    (l0 : b0 < w.heap.size) (l1 : b1 < w.heap.size) (l2 : b2 < w.heap.size) (l3 : b3 < w.heap.size)
    (h0 : w.cell? ⟨b0, 0, none⟩ = some (.int .i64 p)) (h1 : w.cell? ⟨b1, 0, none⟩ = some (.bool oc)) (h2 : w.cell? ⟨b2, 0, none⟩ = some (.bool lk)) (h3 : w.cell? ⟨b3, 0, none⟩ = some (.int .i64 dr)) :
    Calls Try.prog 25 #[mv a r f, .pointer (some ⟨b0, 0, none⟩), .pointer (some ⟨b1, 0, none⟩), .pointer (some ⟨b2, 0, none⟩), .pointer (some ⟨b3, 0, none⟩)] w fun e w' => e = .returned (mvt (passM a r f p oc lk dr)) ∧ Below w.heap.size w w' := by
  have g := rightB_iff.1 hR
  have g0 : 0 ≤ r := by omega
  have g1 : r ≤ 1000 := by omega
  have gp : ∀ n, n = a → (posB n = true → 0 ≤ a) ∧ (posB n = false → a < 0) := by
    rintro n rfl
    rw [posB_iff, posB_not]; omega
  have GP := Lib.hid (gp a rfl)
  clear g gp
  have e1 : ∀ k, k < w.heap.size → k < w.heap.size + 1 := by omega
  have e2 : ∀ k, k < w.heap.size → k < w.heap.size + 1 + 1 := by omega
  have n0 : ∀ k, k < w.heap.size → ¬ w.heap.size = k := by omega
  have n1 : ∀ k, k < w.heap.size → ¬ w.heap.size + 1 = k := by omega
  have m0 : ∀ k, k < w.heap.size → ¬ k = w.heap.size := by omega
  have m1 : ∀ k, k < w.heap.size → ¬ k = w.heap.size + 1 := by omega
  go_enter Try.func25, Try.ntmps25
  go_wp2_with (first
    | (go_at_call 22; refine (pos_any _ _).mono ?_; rintro e w' ⟨rfl, rfl⟩)
    | (go_at_call 11; refine (rest_any _).mono ?_; rintro e w'' ⟨rfl, hb⟩; obtain ⟨hc, hfz, hz⟩ := bcell hb)
    | (go_at_call 17; refine (drives_any _ _ _ _ _ _ _).mono ?_; rintro e w'' ⟨rfl, hb⟩; obtain ⟨hc, hfz, hz⟩ := bcell hb))
  all_goals
    have G := GP.out
    first
      | have hv := passM_rest (r := r) (f := f) (oc := oc) (lk := lk) (dr := dr) (G.1 ‹posB a = true›) (show (p == a) = true by have e := ‹(a == p) = true›; simp at e ⊢; exact e.symm)
      | (have hs : a < 0 ∨ (p == a) = false := by first | exact .inl (G.2 ‹posB a = false›) | (right; have e := ‹(a == p) = false›; simp at e ⊢; exact fun h => e h.symm)
         first
           | have hv := passM_top (p := p) (oc := oc) (lk := lk) (dr := dr) hR hs ‹0 ≤ drivesI a r f p oc lk› (by omega)
           | have hv := passM_up (p := p) (oc := oc) (lk := lk) (dr := dr) hR hs ‹0 ≤ drivesI a r f p oc lk› (by omega)
           | have hv := passM_still (p := p) (oc := oc) (lk := lk) (dr := dr) hR hs ‹drivesI a r f p oc lk < 0›)
    clear G
    refine bodyPost_ret (v := mvt (passM a r f p oc lk dr)) (by rw [hv]; clear hv; simp [results, Try.results25, go_sem, *]) rfl ⟨rfl, ?_⟩
    repeat refine Below.setCell ?_ (by dsimp only; omega) _
    first | exact bchain (bchain bself bself) hb | exact bchain bself bself

set_option maxHeartbeats 1000000 in
theorem right_pass (a r : Int) (f : Bool) (p : Int) (oc lk : Bool) (dr : Int) (b0 b1 b2 b3 : Nat) (w : World)
    (l0 : b0 < w.heap.size) (l1 : b1 < w.heap.size) (l2 : b2 < w.heap.size) (l3 : b3 < w.heap.size)
    (h0 : w.cell? ⟨b0, 0, none⟩ = some (.int .i64 p)) (h1 : w.cell? ⟨b1, 0, none⟩ = some (.bool oc)) (h2 : w.cell? ⟨b2, 0, none⟩ = some (.bool lk)) (h3 : w.cell? ⟨b3, 0, none⟩ = some (.int .i64 dr)) :
    Calls Try.prog 23 #[mv a r f, .func (.func 25) #[] #[.pointer (some ⟨b0, 0, none⟩), .pointer (some ⟨b1, 0, none⟩), .pointer (some ⟨b2, 0, none⟩), .pointer (some ⟨b3, 0, none⟩)]] w fun e w' => e = .returned (mvt (passM a r f p oc lk dr)) ∧ Below w.heap.size w w' := by
  cases hR : rightB a r f
  · have HV := Lib.hid (passM_out (p := p) (oc := oc) (lk := lk) (dr := dr) hR)
    go_enter Try.func23, Try.ntmps23
    go_wp2_with (first
      | (go_at_call 13; refine (right_any _ _ _ _).mono ?_; rintro e w' ⟨rfl, hb⟩; obtain ⟨hc, hfz, hz⟩ := bcell hb)
      | (go_at_call 11; refine (rest_any _).mono ?_; rintro e w'' ⟨rfl, hb2⟩; replace hb2 := bchain hb hb2; obtain ⟨hc2, hfz2, hz2⟩ := bcell hb2))
    refine bodyPost_ret (v := mvt (passM a r f p oc lk dr)) (by rw [HV.out]; simp [results, Try.results23, go_sem, *]) rfl ⟨rfl, ?_⟩
    repeat refine Below.setCell ?_ (by dsimp only; omega) _
    exact bchain (bchain bself bself) hb2
  · have e1 : ∀ k, k < w.heap.size → k < w.heap.size + 1 := by omega
    have e2 : ∀ k, k < w.heap.size → k < w.heap.size + 1 + 1 := by omega
    have n0 : ∀ k, k < w.heap.size → ¬ w.heap.size = k := by omega
    have n1 : ∀ k, k < w.heap.size → ¬ w.heap.size + 1 = k := by omega
    go_enter Try.func23, Try.ntmps23
    go_wp2_with (first
      | (go_at_call 13
         refine (right_any _ _ _ _).mono ?_
         rintro e w' ⟨rfl, hb⟩
         have hk : ∀ {b : Nat} {v : Value}, b < w.heap.size → w.cell? ⟨b, 0, none⟩ = some v → b < w'.heap.size ∧ w'.cell? ⟨b, 0, none⟩ = some v := fun l h => ⟨Nat.lt_of_lt_of_le l (bchain (bchain bself bself) hb).size, ((bchain (bchain bself bself) hb).cell (p := ⟨_, 0, none⟩) l).trans h⟩
         have k0 := hk l0 h0
         have k1 := hk l1 h1
         have k2 := hk l2 h2
         have k3 := hk l3 h3
         clear hk
         obtain ⟨hc, hfz, hz⟩ := bcell hb)
      | (go_at_call 25; refine (pass1_any _ _ _ p oc lk dr b0 b1 b2 b3 _ hR k0.1 k1.1 k2.1 k3.1 k0.2 k1.2 k2.2 k3.2).mono ?_; rintro e w'' ⟨rfl, hb2⟩; replace hb2 := bchain hb hb2; obtain ⟨hc2, hfz2, hz2⟩ := bcell hb2))
    refine bodyPost_ret (v := mvt (passM a r f p oc lk dr)) (by simp [results, Try.results23, go_sem, *]) rfl ⟨rfl, ?_⟩
    repeat refine Below.setCell ?_ (by dsimp only; omega) _
    exact bchain (bchain bself bself) hb2
set_option maxHeartbeats 1000000 in
theorem pass_any (a r : Int) (f : Bool) (p : Int) (oc lk : Bool) (dr : Int) (w : World) :
    Calls Try.prog 19 #[mv a r f, .int .i64 p, .bool oc, .bool lk, .int .i64 dr] w fun e w' => e = .returned (mvt (passM a r f p oc lk dr)) ∧ Below w.heap.size w w' := by
  go_enter Try.func19, Try.ntmps19
  go_wp2_with fail
  refine (right_pass _ _ _ p oc lk dr _ _ _ _ _ ?_ ?_ ?_ ?_ ?_ ?_ ?_ ?_).mono ?_
  iterate 4 · simp; try omega
  iterate 4 · simp [go_sem]
  rintro e w' ⟨rfl, hb⟩
  obtain ⟨hc, hfz, hz⟩ := bcell hb
  go_wp2
  refine bodyPost_ret (v := mvt (passM a r f p oc lk dr)) (by simp [results, Try.results19, go_sem, *]) rfl ⟨rfl, ?_⟩
  repeat refine Below.setCell ?_ (by dsimp only; omega) _
  exact bchain (bchain (bchain (bchain (bchain (bchain bself bself) bself) bself) bself) bself) hb
end Go.Proofs.Ytaajbhdmnbabhaa
