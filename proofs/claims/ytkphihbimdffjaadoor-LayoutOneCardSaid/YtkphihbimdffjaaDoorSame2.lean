/-
  layout.Same.
-/
import Derived.Test.YtkphihbimdffjaaDoorSame
namespace Go.Proofs.YtkphihbimdffjaaDoor
open Go.RowKit Go.Shelf

def sameL (L M : Lay) : Bool := decide (L.times = M.times) && decide (L.secs = M.secs) && decide (L.sigs = M.sigs) && decide (L.flanks = M.flanks) && decide (L.exits = M.exits)

set_option maxRecDepth 100000 in
set_option maxHeartbeats 8000000 in
theorem sameLay_any (L M : Lay) (p q : Where) (w : World) (hL : LayAt w p L) (hM : LayAt w q M) :
    Calls Tryd.prog 20 #[L.val p, M.val q] w fun e w' => e = .returned (.bool (sameL L M)) ∧ Below w.heap.size w w' := by
  have hr : (L.times = M.times → sameL L M = (decide (L.secs = M.secs) && decide (L.sigs = M.sigs) && decide (L.flanks = M.flanks) && decide (L.exits = M.exits))) ∧ (¬ L.times = M.times → sameL L M = false) := by
    unfold sameL
    exact ⟨fun h => by simp [h], fun h => by simp [h]⟩
  generalize sameL L M = r at hr ⊢
  have hsec := fun W (hW : Below w.heap.size w W) => equalFuncSection_any 52 #[] (enters_of Tryd.func52 (by kernel_rfl) rfl) (fun x : Sec => x) p.a0 q.a0 p.c0 q.c0 L.secs M.secs W (hL.secs.below hW) (hM.secs.below hW) (Nat.le_trans hL.l0.1 hL.l0.2)
    (fun W' x y _ _ _ => by simpa using same2_any x y W')
  have hsig := fun W (hW : Below w.heap.size w W) => equalSignal_any p.a1 q.a1 p.c1 q.c1 L.sigs M.sigs W (hL.sigs.below hW) (hM.sigs.below hW) (Nat.le_trans hL.l1.1 hL.l1.2)
  have hflk := fun W (hW : Below w.heap.size w W) => equalFlank_any p.a3 q.a3 p.c3 q.c3 L.flanks M.flanks W (hL.flanks.below hW) (hM.flanks.below hW) (Nat.le_trans hL.l3.1 hL.l3.2)
  obtain ⟨es, hes, hAt, hov⟩ := hL.exits
  obtain ⟨fs, hfs, hAt', hov'⟩ := hM.exits
  have hlen : es.length = L.exits.length := by rw [← hes, List.length_map]
  have hlen' : fs.length = M.exits.length := by rw [← hfs, List.length_map]
  have hext := fun W (hW : Below w.heap.size w W) => equalFuncExit_any 50 #[] (enters_of Tryd.func50 (by kernel_rfl) rfl) (fun x : Ext' × Value => x.1) p.a2 q.a2 p.c2 q.c2 es fs W (hAt.below hW) (hAt'.below hW) (by rw [hlen]; exact Nat.le_trans hL.l2.1 hL.l2.2)
    (fun W' x y hx hy hb => by simpa using same1_any x y W' ((hov x hx).below (bchain hW hb)) ((hov' y hy).below (bchain hW hb)))
    (fun e he => by obtain ⟨A, c, h, _⟩ := hov e he; exact ⟨A, _, c, h⟩) (fun e he => by obtain ⟨A, c, h, _⟩ := hov' e he; exact ⟨A, _, c, h⟩)
  simp only [List.map_id', hes, hfs, hlen, hlen'] at hext hsec
  obtain ⟨b0, hb0⟩ : ∃ b, b = decide (L.secs = M.secs) := ⟨_, rfl⟩
  obtain ⟨b1, hb1⟩ : ∃ b, b = decide (L.sigs = M.sigs) := ⟨_, rfl⟩
  obtain ⟨b2, hb2⟩ : ∃ b, b = decide (L.flanks = M.flanks) := ⟨_, rfl⟩
  obtain ⟨b3, hb3⟩ : ∃ b, b = decide (L.exits = M.exits) := ⟨_, rfl⟩
  rw [← hb0] at hsec hr
  rw [← hb1] at hsig hr
  rw [← hb2] at hflk hr
  rw [← hb3] at hext hr
  obtain ⟨a0, a1, a2, a3, p0, p1, p2, p3⟩ := p
  obtain ⟨d0, d1, d2, d3, q0, q1, q2, q3⟩ := q
  unfold Lay.times at hr
  obtain ⟨ls, lg, le, lf, t0, t1, t2, t3, t4, t5, t6⟩ := L
  obtain ⟨ms, mg, me, mf, u0, u1, u2, u3, u4, u5, u6⟩ := M
  unfold Lay.val
  dsimp only at hsec hsig hflk hext hr ⊢
  have HR := Lib.hid hr
  have H0 := Lib.hid hsec
  have H1 := Lib.hid hsig
  have H2 := Lib.hid hflk
  have H3 := Lib.hid hext
  clear hr hsec hsig hflk hext hL hM hes hfs hAt hAt' hov hov' hlen hlen' hb0 hb1 hb2 hb3
  by_cases h0 : t0 = u0
  · subst h0
    by_cases h1 : t1 = u1
    · subst h1
      by_cases h2 : t2 = u2
      · subst h2
        by_cases h3 : t3 = u3
        · subst h3
          by_cases h4 : t4 = u4
          · subst h4
            by_cases h5 : t5 = u5
            · subst h5
              by_cases h6 : t6 = u6
              · subst h6
                obtain rfl : r = (b0 && b1 && b2 && b3) := HR.out.1 rfl
                go_enter Tryd.func20, Tryd.ntmps20
                go_wp2_with fail
                (with_reducible refine (H0.out _ (bchain bself bself)).mono ?_)
                rintro e w1 ⟨rfl, k1⟩
                have hc1 := (bcell k1).1
                have z01 : w.heap.size < w1.heap.size := (bcell k1).2.2 _ (by simp <;> omega)
                have z11 : w.heap.size + 1 < w1.heap.size := (bcell k1).2.2 _ (by simp <;> omega)
                have HB1 := Lib.hid (bchain (bchain (bself (w := w) (o := _)) bself) k1)
                clear k1
                cases b0 with
                | false =>
                  go_wp2
                  go_ret
                  exact ⟨rfl, HB1.out⟩
                | true =>
                  go_wp2_with fail
                  (with_reducible refine (H1.out _ HB1.out).mono ?_)
                  rintro e w2 ⟨rfl, k1⟩
                  have hc2 := (bcell k1).1
                  have z02 := (bcell k1).2.2 _ z01
                  have z12 := (bcell k1).2.2 _ z11
                  have HB2 := Lib.hid (bchain HB1.out k1)
                  clear k1
                  cases b1 with
                  | false =>
                    go_wp2
                    go_ret
                    exact ⟨rfl, HB2.out⟩
                  | true =>
                    go_wp2_with fail
                    (with_reducible refine (H2.out _ HB2.out).mono ?_)
                    rintro e w3 ⟨rfl, k1⟩
                    have hc3 := (bcell k1).1
                    have z03 := (bcell k1).2.2 _ z02
                    have z13 := (bcell k1).2.2 _ z12
                    have HB3 := Lib.hid (bchain HB2.out k1)
                    clear k1
                    cases b2 with
                    | false =>
                      go_wp2
                      go_ret
                      exact ⟨rfl, HB3.out⟩
                    | true =>
                      go_wp2_with fail
                      (with_reducible refine (H3.out _ HB3.out).mono ?_)
                      rintro e w4 ⟨rfl, k1⟩
                      have hc4 := (bcell k1).1
                      have z04 := (bcell k1).2.2 _ z03
                      have z14 := (bcell k1).2.2 _ z13
                      have HB4 := Lib.hid (bchain HB3.out k1)
                      clear k1
                      cases b3 with
                      | false =>
                        go_wp2
                        go_ret
                        exact ⟨rfl, HB4.out⟩
                      | true =>
                        go_wp2
                        go_ret
                        exact ⟨rfl, HB4.out⟩
              · obtain rfl : r = false := HR.out.2 (fun e => by simp at e; exact h6 (by first | exact e | exact e.1))
                go_enter Tryd.func20, Tryd.ntmps20
                go_wp2
                go_ret
                exact ⟨rfl, bchain bself bself⟩
            · obtain rfl : r = false := HR.out.2 (fun e => by simp at e; exact h5 (by first | exact e | exact e.1))
              go_enter Tryd.func20, Tryd.ntmps20
              go_wp2
              go_ret
              exact ⟨rfl, bchain bself bself⟩
          · obtain rfl : r = false := HR.out.2 (fun e => by simp at e; exact h4 (by first | exact e | exact e.1))
            go_enter Tryd.func20, Tryd.ntmps20
            go_wp2
            go_ret
            exact ⟨rfl, bchain bself bself⟩
        · obtain rfl : r = false := HR.out.2 (fun e => by simp at e; exact h3 (by first | exact e | exact e.1))
          go_enter Tryd.func20, Tryd.ntmps20
          go_wp2
          go_ret
          exact ⟨rfl, bchain bself bself⟩
      · obtain rfl : r = false := HR.out.2 (fun e => by simp at e; exact h2 (by first | exact e | exact e.1))
        go_enter Tryd.func20, Tryd.ntmps20
        go_wp2
        go_ret
        exact ⟨rfl, bchain bself bself⟩
    · obtain rfl : r = false := HR.out.2 (fun e => by simp at e; exact h1 (by first | exact e | exact e.1))
      go_enter Tryd.func20, Tryd.ntmps20
      go_wp2
      go_ret
      exact ⟨rfl, bchain bself bself⟩
  · obtain rfl : r = false := HR.out.2 (fun e => by simp at e; exact h0 (by first | exact e | exact e.1))
    go_enter Tryd.func20, Tryd.ntmps20
    go_wp2
    go_ret
    exact ⟨rfl, bchain bself bself⟩
end Go.Proofs.YtkphihbimdffjaaDoor
