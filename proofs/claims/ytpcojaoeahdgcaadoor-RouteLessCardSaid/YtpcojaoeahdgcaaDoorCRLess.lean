/-
  The walk of RouteLess.
-/
import Derived.Test.YtpcojaoeahdgcaaDoorM7

namespace Go.Proofs.YtpcojaoeahdgcaaDoor
open Go.RowKit Go.Shelf
attribute [local go_sem ↓ high] max_two min_two

theorem rTurned_any (s i o : Int) (w : World) :
    Calls Tryd.prog 14 #[.agg #[.int .i64 s, .int .i64 i, .int .i64 o]] w fun e w' => e = .returned (.agg #[.int .i64 s, .int .i64 o, .int .i64 i]) ∧ Below w.heap.size w w' := by
  go_enter Tryd.func14, Tryd.ntmps14
  go_wp2
  refine bodyPost_ret (v := .agg #[.int .i64 s, .int .i64 o, .int .i64 i]) (by simp [results, Tryd.results14, go_sem]) rfl ⟨rfl, ?_⟩
  repeat refine Below.setCell ?_ (by dsimp only; omega) _
  exact bchain bself bself
theorem slice_low {dst : Option Tmp} {ty : TypeId} {ρ : Operand → Value} {t u n cap k : Nat} {A : Option Addr} (h1 : ρ (.tmp t) = .slice A n cap) (h2 : ρ (.tmp u) = .int .i64 (k : Nat)) (hk : k ≤ n) (hn : n ≤ cap) :
    ∃ D2, (∀ (pos : String) (after : Array Edge) (guard : Option (Nat × Bool)) (W : World), (execOp ρ ⟨dst, .slice 30 (.tmp t) (some (.tmp u)) none none, ty, pos, after, guard⟩).run Tryd.prog W = .ok (.value (.slice D2 (n - k) (cap - k))) W) ∧ ∀ (W : World) (xs : List Stp), xs.length = n → At W 3 Stp.enc A xs → At W 3 Stp.enc D2 (xs.drop k) := by
  cases A with
  | none =>
    refine ⟨none, fun pos after guard W => by simp [go_sem, h1, h2, hk], fun W xs _ h => ?_⟩
    rcases h with rfl | ⟨b, off, h, _⟩
    · exact .inl (by simp)
    · cases h
  | some ad =>
    refine ⟨if cap = k then some ad else some (ad.add (k * 3)), fun pos after guard W => by simp [go_sem, h1, h2, hk], fun W xs hx h => ?_⟩
    rcases h with rfl | ⟨b, off, h, hr⟩
    · exact .inl (by simp)
    · cases h
      by_cases hc : cap = k
      · exact .inl (List.drop_eq_nil_of_le (by omega))
      · rw [if_neg hc, add_at]
        refine .inr ⟨b, off + k * 3, rfl, hr.1, fun j x hj i v hv => ?_⟩
        rw [List.getElem?_drop] at hj
        have := hr.2 (k + j) x hj i v hv
        rw [← this]
        congr 2
        omega
theorem info_int : ∃ i z, Tryd.prog.info? 3 = some i ∧ i.zero = some z ∧ i.size = 1 ∧ z.cells.size = 1 ∧ i.bytes ≤ 100 := by
  have h : (Tryd.prog.info? 3).any (fun i => (match i.zero with | some z => decide (z.cells.size = 1) | none => false) && decide (i.size = 1) && decide (i.bytes ≤ 100)) = true := by kernel_rfl
  cases hi : Tryd.prog.info? 3 with
  | none => rw [hi] at h; cases h
  | some i =>
    rw [hi] at h
    simp only [Option.any_some, Bool.and_eq_true, decide_eq_true_iff] at h
    cases hz : i.zero with
    | none => rw [hz] at h; simp at h
    | some z =>
      rw [hz] at h
      simp at h
      exact ⟨i, z, rfl, hz, h.1.2, h.1.1, h.2⟩
theorem int_one {zs : List Int} : ∀ u ∈ zs.flatMap intEnc, u.oneCell' = true := by
  intro u hu
  obtain ⟨x, hx, hu⟩ := List.mem_flatMap.1 hu
  simp only [intEnc, List.mem_cons, List.not_mem_nil, or_false] at hu
  rw [hu]; rfl
theorem sub_snoc {us vs : List Int} {i : Nat} {v : Int} (h : us.Sublist (vs.take i)) (hv : vs[i]? = some v) : (us ++ [v]).Sublist (vs.take (i + 1)) := by
  rw [List.take_add_one, hv]
  exact h.append (List.Sublist.refl _)
theorem sub_skip {us vs : List Int} {i : Nat} (h : us.Sublist (vs.take i)) : us.Sublist (vs.take (i + 1)) := by
  rw [List.take_add_one]
  exact h.trans (List.sublist_append_left _ _)

set_option maxRecDepth 100000 in
set_option maxHeartbeats 16000000 in
theorem routeLess_walk (L : Lay) (P : Where) (sg ex : Int) (A : Option Addr) (cap : Nat) (xs : List Stp) (V : Option Addr) (vcap : Nat) (vs : List Int) (bits at0 : Int) (w : World) (hL : LayAt w P L) (hA : At w 3 Stp.enc A xs) (hl : xs.length ≤ cap) (hm : cap ≤ 9223372036854775807) (hV : At w 1 intEnc V vs) (hv : vs.length ≤ vcap) (hvm : vcap ≤ 9223372036854775807) (KE : Kinds w ∧ JEnd w) :
    Calls Tryd.prog 4 #[L.val P, .agg #[.int .i64 sg, .int .i64 ex, .slice A xs.length cap], .slice V vs.length vcap, .int .i64 bits, .int .i64 at0] w fun e w' => e = .returned (.bool true) ∧ Below w.heap.size w w' := by
  have hgx := fun X (hX : Below w.heap.size w X) => great11_any L P sg ex A xs.length cap X (hL.below hX) (Nat.le_trans hl hm)
  have hix := fun X (hX : Below w.heap.size w X) (hlt : xs.length ≤ 30) => ris_any L P sg ex A V cap vcap xs vs X (hL.below hX) (KE.1.below hX) (KE.2.below hX) (hA.below hX) hl hm (by omega) (hV.below hX) hv hvm
  have hwk := fun X (hX : Below w.heap.size w X) => wakes11_any X (KE.1.below hX) (KE.2.below hX)
  obtain ⟨qx, hqx⟩ : ∃ q, q = decide (routeN L sg ex xs vs = 0) := ⟨_, rfl⟩
  obtain ⟨n, hn⟩ : ∃ n, n = xs.length := ⟨_, rfl⟩
  obtain ⟨vn, hvn⟩ : ∃ vn, vn = vs.length := ⟨_, rfl⟩
  rw [← hqx] at hix
  rw [← hn] at hgx hix
  rw [← hvn] at hix
  have hl0 := hl
  have hv0 := hv
  rw [← hn] at hl
  rw [← hvn] at hv
  rw [← hn, ← hvn]
  obtain ⟨a0, a1, a2, a3, p0, p1, p2, p3⟩ := P
  unfold Lay.val at hgx hix ⊢
  have HGX := Lib.hid hgx
  have HIX := Lib.hid hix
  have HWK := Lib.hid hwk
  have HQ := Lib.hid (⟨hqx, hn, hvn⟩ : _ ∧ _ ∧ _)
  have HA := Lib.hid (⟨hA, hV, hL, KE⟩ : _ ∧ _ ∧ _ ∧ _)
  clear hgx hix hwk hqx hn hvn hA hV hL KE hl0 hv0
  go_enter Tryd.func4, Tryd.ntmps4
  go_wp2_with fail
  obtain ⟨X, hX⟩ : ∃ X, X = (w.alloc (.cells #[.slice a0 L.secs.length p0, .slice a1 L.sigs.length p1, .slice a2 L.exits.length p2, .slice a3 L.flanks.length p3, .int .i64 L.t0, .int .i64 L.t1, .int .i64 L.t2, .int .i64 L.t3, .int .i64 L.t4, .int .i64 L.t5, .int .i64 L.t6] 29)).alloc (.cells #[.int .i64 sg, .int .i64 ex, .slice A n cap] 32) := ⟨_, rfl⟩
  have hB : Below w.heap.size w X := by rw [hX]; exact bchain bself bself
  have hBL : BoxL X w.heap.size L ⟨a0, a1, a2, a3, p0, p1, p2, p3⟩ := by rw [hX]; exact (BoxL.make (L := L) (p := ⟨a0, a1, a2, a3, p0, p1, p2, p3⟩) _ rfl).below bself
  have hz : ∀ o, X.cell? ⟨w.heap.size + 1, o, none⟩ = (#[.int .i64 sg, .int .i64 ex, .slice A n cap] : Array Value)[o]? := fun o => by rw [hX]; simp [go_sem]
  have hsz : X.heap.size = w.heap.size + 2 := by rw [hX]; simp
  have hall : ∀ V, ClB X V → BoxL V w.heap.size L ⟨a0, a1, a2, a3, p0, p1, p2, p3⟩ ∧ (V.cell? ⟨w.heap.size + 1, 0, none⟩ = some (.int .i64 sg) ∧ V.cell? ⟨w.heap.size + 1, 1, none⟩ = some (.int .i64 ex) ∧ V.cell? ⟨w.heap.size + 1, 2, none⟩ = some (.slice A n cap)) ∧ w.heap.size + 1 < V.heap.size := fun V hC => by
    have hs := hC.size
    have g1 : ∀ o, V.cell? ⟨w.heap.size + 1, o, none⟩ = X.cell? ⟨w.heap.size + 1, o, none⟩ := fun o => hC.cell (p := ⟨w.heap.size + 1, o, none⟩) (by rw [hsz]; dsimp only; omega)
    exact ⟨hBL.below hC, ⟨(g1 0).trans (hz 0), (g1 1).trans (hz 1), (g1 2).trans (hz 2)⟩, by omega⟩
  have HX := Lib.hid (⟨hB, hall⟩ : _ ∧ _)
  rw [← hX]
  clear hX hB hBL hz hsz hall
  (with_reducible refine (HGX.out X HX.out.1).mono ?_)
  rintro e w1 ⟨g, rfl, hf1, b1⟩
  have HB1 := Lib.hid (⟨b1, hf1⟩ : _ ∧ _)
  clear b1 hf1
  cases g with
  | true =>
    go_wp2_with fail
    (with_reducible refine (HWK.out _ (bchain HX.out.1 HB1.out.1)).mono ?_)
    rintro e w9 ⟨rfl, b9⟩
    have HB9 := Lib.hid (bchain (bchain HX.out.1 HB1.out.1) b9)
    clear b9
    go_wp2
    go_ret
    exact ⟨rfl, HB9.out⟩
  | false =>
  have hn30 : n ≤ 30 := (HB1.out.2 (by first | exact rfl | trivial)).2
  by_cases h2 : 2 < vn
  case pos =>
    have d2 : decide ((2 : Int) < (vn : Int)) = true := decide_eq_true (by omega)
    have mv : vn ≤ 9223372036854775807 := by omega
    go_wp2_with fail
    (with_reducible refine (HWK.out _ (bchain HX.out.1 HB1.out.1)).mono ?_)
    rintro e w9 ⟨rfl, b9⟩
    have HB9 := Lib.hid (bchain (bchain HX.out.1 HB1.out.1) b9)
    clear b9
    go_wp2
    go_ret
    exact ⟨rfl, HB9.out⟩
  have d2 : decide ((2 : Int) < (vn : Int)) = false := decide_eq_false (by omega)
  obtain ⟨hbx, ⟨s0, s1, s2⟩, l1⟩ := HX.out.2 w1 HB1.out.1
  obtain ⟨c0, c1, c2, c3, c4, c5, c6, c7, c8, c9, c10⟩ := hbx.cells
  have lg := hbx.1
  dsimp only at c0 c1 c2 c3
  clear hbx
  go_wp2_with fail
  (with_reducible refine (HIX.out w1 (bchain HX.out.1 HB1.out.1) hn30).mono ?_)
  rintro e w2 ⟨rfl, b2⟩
  have HB2 := Lib.hid (bchain HB1.out.1 b2)
  clear b2 c0 c1 c2 c3 c4 c5 c6 c7 c8 c9 c10 lg s0 s1 s2 l1
  cases qx with
  | false =>
    go_wp2_with fail
    (with_reducible refine (HWK.out _ (bchain HX.out.1 HB2.out)).mono ?_)
    rintro e w9 ⟨rfl, b9⟩
    have HB9 := Lib.hid (bchain (bchain HX.out.1 HB2.out) b9)
    clear b9
    go_wp2
    go_ret
    exact ⟨rfl, HB9.out⟩
  | true =>
  have hr0 : routeN L sg ex xs vs = 0 := of_decide_eq_true HQ.out.1.symm
  obtain ⟨i0, z0, hi, hz, hs1, hs2, hs3⟩ := info_int
  have HI := Lib.hid (⟨hi, hz, hs1, hs2, hs3⟩ : _ ∧ _ ∧ _ ∧ _ ∧ _)
  have HR := Lib.hid hr0
  clear hi hz hs1 hs2 hs3 hr0
  go_wp2_with fail
  go_loopw [11, 12] (fun s c wv => ∃ (i : Nat) (us : List Int), i ≤ vn ∧ c = .int .i64 i ∧ Hid (Below X.heap.size X wv ∧ us.Sublist (vs.take i) ∧ wv.ownsRow X.heap.size 3 1 s us.length (us.flatMap intEnc))) (fun _ c _ => vn - (intOf c).toNat)
  case atStart => exact ⟨0, [], Nat.zero_le _, rfl, Lib.hid ⟨HB2.out, List.nil_sublist _, World.ownsRow_nil _ _ _ _⟩⟩
  case round =>
    obtain ⟨i, us, hi, rfl, HRR⟩ := hrel
    by_cases hlt : i < vn
    case pos =>
      have hBw := bchain HX.out.1 HRR.out.1
      obtain ⟨b, off, hVe, hrow⟩ := HA.out.2.1.get (j := i) (by rw [← HQ.out.2.2]; exact hlt)
      subst hVe
      obtain ⟨v, hvv⟩ : ∃ v, vs[i]? = some v := ⟨_, List.getElem?_eq_getElem (by rw [← HQ.out.2.2]; exact hlt)⟩
      have v0 : wr.cell? ⟨b, off + i, none⟩ = some (.int .i64 v) := (hBw.cell (p := ⟨b, off + i, none⟩) hrow.1).trans (by simpa using hrow.2 i v hvv 0 _ rfl)
      have lb := Nat.lt_of_lt_of_le hrow.1 hBw.size
      have HV := Lib.hid (⟨hvv, hBw⟩ : _ ∧ _)
      clear hrow hvv hBw
      have hown := HRR.out.2.2.alloc (.cells #[.int .i64 v] 3)
      have HO := Lib.hid hown
      have hAn : At (wr.alloc (.cells #[.int .i64 v] 3)) 1 intEnc (some ⟨wr.heap.size, 0, none⟩) [v] := .inr ⟨wr.heap.size, 0, rfl, ints_at (by simp) (fun i => by simp [go_sem])⟩
      have hul : us.length ≤ 2 := by have := HRR.out.2.1.length_le; rw [List.length_take] at this; omega
      have HAN := Lib.hid (⟨hAn, hul⟩ : _ ∧ _)
      clear hown hAn hul
      go_wp2_with (at_builtin; refine wpList_append_at (enc := intEnc) rfl _ _ 33 rfl X.heap.size 3 i0 z0 1 i0.bytes Tryd.underlying33 HI.out.1 HI.out.2.1 HI.out.2.2.1 rfl HI.out.2.2.2.1 (by decide) _ us.length (us.flatMap intEnc) rfl HO.out (some ⟨wr.heap.size, 0, none⟩) 1 1 [v] rfl rfl HAN.out.1 (fun _ => rfl) int_one ?b1 ?b2 ?b3 ?_)
      case b1 => have := HAN.out.2; unfold maxLen; omega
      case b2 =>
        have h1 : us.length + 1 ≤ 100 := by have := HAN.out.2; omega
        have h2 := Nat.mul_le_mul h1 HI.out.2.2.2.2
        omega
      case b3 => exact Nat.le_trans HRR.out.1.size (by simp)
      · intro v' w' ho' hg'
        have hB' : Below X.heap.size X w' := (bchain HRR.out.1 (bself (w := wr) (o := .cells #[.int .i64 v] 3))).grown hg' (Nat.le_trans HRR.out.1.size (by simp)) (fun k e => (HO.out.lt k e).1)
        have HO2 := Lib.hid (⟨hB', ho'⟩ : _ ∧ _)
        clear ho' hg' hB'
        go_wp2
        refine ⟨⟨i + 1, us ++ [v], by omega, by go_num, Lib.hid ⟨HO2.out.1, sub_snoc HRR.out.2.1 HV.out.1, ?_⟩⟩, by simp [intOf]; omega⟩
        rw [List.length_append, List.flatMap_append]
        exact HO2.out.2
      · exact ⟨⟨i + 1, us, by omega, by go_num, Lib.hid ⟨HRR.out.1, sub_skip HRR.out.2.1, HRR.out.2.2⟩⟩, by simp [intOf]; omega⟩
    obtain rfl : i = vn := by omega
    have hsub : us.Sublist vs := by have := HRR.out.2.1; rwa [HQ.out.2.2, List.take_length] at this
    obtain ⟨UA, ucap, rfl, hul, hum, hUA⟩ := at_of_row (enc := intEnc) (k := 1) (fun _ => rfl) (by decide) HRR.out.2.2
    obtain ⟨un, hun⟩ : ∃ un, un = us.length := ⟨_, rfl⟩
    rw [← hun] at hul ⊢
    have HU := Lib.hid (⟨hsub, hUA, hul, hum, hun, HRR.out.1⟩ : _ ∧ _ ∧ _ ∧ _ ∧ _ ∧ _)
    clear hsub hul hum hUA hun HRR
    obtain ⟨ww, hww⟩ : ∃ ww, ww = wr := ⟨_, rfl⟩
    subst hww
    obtain ⟨hbx, ⟨s0, s1, s2⟩, l1⟩ := HX.out.2 ww HU.out.2.2.2.2.2
    clear hbx
    obtain ⟨k, hk, hkn⟩ := clamp at0 n
    have mn : n ≤ 9223372036854775807 := by omega
    obtain ⟨i1, z1, hi1, hz1, hj1, hj2, hj3⟩ := info_Step
    have HI2 := Lib.hid (⟨hi1, hz1, hj1, hj2, hj3⟩ : _ ∧ _ ∧ _ ∧ _ ∧ _)
    clear hi1 hz1 hj1 hj2 hj3
    go_wp2_with fail
    clear s0 s1 s2 l1
    go_loopw [14, 15] (fun s c wv => ∃ (j : Nat) (BA : Option Addr) (bc : Nat), j ≤ n ∧ j ≤ bc ∧ bc ≤ 9223372036854775807 ∧ s = .slice BA j bc ∧ c = .int .i64 j ∧ Hid (Below X.heap.size X wv ∧ Below ww.heap.size ww wv ∧ At wv 3 Stp.enc BA (backL (xs.take j)))) (fun _ c _ => n - (intOf c).toNat)
    case atStart => exact ⟨0, none, 0, Nat.zero_le _, Nat.le_refl _, by omega, rfl, rfl, Lib.hid ⟨HU.out.2.2.2.2.2, Below.refl _ _, .inl rfl⟩⟩
    case round =>
      obtain ⟨j, BA, bc, hj, hjb, hbc, rfl, rfl, HJ⟩ := hrel
      obtain ⟨hbx, ⟨s0, s1, s2⟩, l1⟩ := HX.out.2 wr HJ.out.1
      by_cases hjn : j < n
      case pos =>
        clear hbx
        have hBw := bchain HX.out.1 HJ.out.1
        obtain ⟨b, off, hAe, hrow⟩ := HA.out.1.get (j := j) (by rw [← HQ.out.2.1]; exact hjn)
        subst hAe
        obtain ⟨x, hx⟩ : ∃ x, xs[j]? = some x := ⟨_, List.getElem?_eq_getElem (by rw [← HQ.out.2.1]; exact hjn)⟩
        have hbk : backL (xs.take (j + 1)) = turnS x :: backL (xs.take j) := by rw [List.take_add_one, hx]; exact back_snoc _ _
        have hbl : (backL (xs.take j)).length = j := by unfold backL; rw [List.length_reverse, List.length_map, List.length_take]; have := HQ.out.2.1; omega
        obtain ⟨xa, xb, xc⟩ := x
        have x0 : wr.cell? ⟨b, off + j * 3, none⟩ = some (.int .i64 xa) := (hBw.cell (p := ⟨b, off + j * 3, none⟩) hrow.1).trans (hrow.2 j _ hx 0 _ rfl)
        have x1 : wr.cell? ⟨b, off + j * 3 + 1, none⟩ = some (.int .i64 xb) := (hBw.cell (p := ⟨b, off + j * 3 + 1, none⟩) hrow.1).trans (hrow.2 j _ hx 1 _ rfl)
        have x2 : wr.cell? ⟨b, off + j * 3 + 2, none⟩ = some (.int .i64 xc) := (hBw.cell (p := ⟨b, off + j * 3 + 2, none⟩) hrow.1).trans (hrow.2 j _ hx 2 _ rfl)
        have lb := Nat.lt_of_lt_of_le hrow.1 hBw.size
        have HXK := Lib.hid (⟨hbk, hbl⟩ : _ ∧ _)
        clear hbk hbl hrow hx hBw
        go_wp2_with fail
        (with_reducible refine (rTurned_any _ _ _ _).mono ?_)
        rintro e w5 ⟨rfl, b5⟩
        have HB5 := Lib.hid b5
        clear b5 x0 x1 x2 lb s0 s1 s2 l1
        have hown : (w5.alloc (.cells #[.int .i64 xa, .int .i64 xc, .int .i64 xb] 43)).ownsRow w5.heap.size 43 3 (.slice (some ⟨w5.heap.size, 0, none⟩) 1 1) 1 ([turnS ⟨xa, xb, xc⟩].flatMap Stp.enc) :=
          ⟨rfl, .inr ⟨w5.heap.size, 1, _, rfl, Nat.le_refl _, World.alloc_heap_new _ _, Nat.le_refl _, by unfold maxLen; omega, rfl, rfl⟩⟩
        have hAb : At (w5.alloc (.cells #[.int .i64 xa, .int .i64 xc, .int .i64 xb] 43)) 3 Stp.enc BA (backL (xs.take j)) := HJ.out.2.2.below (bchain HB5.out bself)
        have HO := Lib.hid (⟨hown, hAb⟩ : _ ∧ _)
        clear hown hAb
        go_wp2_with (at_builtin; refine wpList_append_at (enc := Stp.enc) rfl _ _ 30 rfl w5.heap.size 43 i1 z1 3 i1.bytes Tryd.underlying30 HI2.out.1 HI2.out.2.1 HI2.out.2.2.1 rfl HI2.out.2.2.2.1 (by decide) _ 1 ([turnS ⟨xa, xb, xc⟩].flatMap Stp.enc) rfl HO.out.1 BA j bc (backL (xs.take j)) HXK.out.2.symm rfl HO.out.2 (fun _ => rfl) stp_one ?b1 ?b2 ?b3 ?_)
        case b1 => unfold maxLen; omega
        case b2 =>
          have h1 : 1 + j ≤ 100 := by omega
          have h2 := Nat.mul_le_mul h1 HI2.out.2.2.2.2
          omega
        case b3 => simp
        intro v' w6 ho' hg'
        have hB' : Below w5.heap.size w5 w6 := (bself (w := w5) (o := .cells #[.int .i64 xa, .int .i64 xc, .int .i64 xb] 43)).grown hg' (by simp) (fun k e => by simp [Value.ownBlock] at e; omega)
        have ho2 : w6.ownsRow w5.heap.size 43 3 v' (backL (xs.take (j + 1))).length ((backL (xs.take (j + 1))).flatMap Stp.enc) := by
          rw [HXK.out.1, List.length_cons, HXK.out.2, Nat.add_comm, List.flatMap_cons]
          exact ho'
        obtain ⟨BA2, bc2, rfl, hq1, hq2, hq3⟩ := at_of_row (enc := Stp.enc) (k := 3) (fun _ => rfl) (by decide) ho2
        have hlen2 : (backL (xs.take (j + 1))).length = j + 1 := by rw [HXK.out.1, List.length_cons, HXK.out.2]
        rw [hlen2] at hq1 ⊢
        have hbc2 : bc2 ≤ 9223372036854775807 := hq2
        have HO2 := Lib.hid (⟨bchain (bchain HJ.out.1 HB5.out) hB', bchain (bchain HJ.out.2.1 HB5.out) hB', hq3⟩ : _ ∧ _ ∧ _)
        clear ho' hg' hB' ho2 hq3 hlen2 hq2
        go_wp2
        go_roundw
        case rel => exact ⟨j + 1, BA2, bc2, by omega, by omega, hbc2, rfl, by go_num, HO2⟩
        case measure => simp [intOf]; omega
      obtain rfl : j = n := by omega
      have hAB : At wr 3 Stp.enc BA (backL xs) := by have := HJ.out.2.2; rwa [HQ.out.2.1, List.take_length] at this
      have HAB := Lib.hid hAB
      have HBX := Lib.hid hbx
      have HZ := Lib.hid (bchain HX.out.1 HJ.out.1)
      have HZX := Lib.hid HJ.out.1
      clear hAB hbx
      obtain ⟨ht, hgo, h12⟩ := route_goes HR.out
      have hbl : (backL xs).length = j := by unfold backL; rw [List.length_reverse, List.length_map, HQ.out.2.1]
      have q0 : ∀ V', ClB wr V' → V'.cell? ⟨w.heap.size + 1, 0, none⟩ = some (.int .i64 sg) := fun V' h => (h.cell (p := ⟨w.heap.size + 1, 0, none⟩) l1).trans s0
      have q1 : ∀ V', ClB wr V' → V'.cell? ⟨w.heap.size + 1, 1, none⟩ = some (.int .i64 ex) := fun V' h => (h.cell (p := ⟨w.heap.size + 1, 1, none⟩) l1).trans s1
      have q2 : ∀ V', ClB wr V' → V'.cell? ⟨w.heap.size + 1, 2, none⟩ = some (.slice A j cap) := fun V' h => (h.cell (p := ⟨w.heap.size + 1, 2, none⟩) l1).trans s2
      have hLk := fun V' (h : ClB wr V') => HA.out.2.2.1.below (bchain HZ.out h)
      have hKk := fun V' (h : ClB wr V') => HA.out.2.2.2.1.below (bchain HZ.out h)
      have hEk := fun V' (h : ClB wr V') => HA.out.2.2.2.2.below (bchain HZ.out h)
      have hAk := fun V' (h : ClB wr V') => HA.out.1.below (bchain HZ.out h)
      have k1 : ∀ (V' : World), ClB wr V' → Calls Tryd.prog 8 #[.agg #[.slice a0 L.secs.length p0, .slice a1 L.sigs.length p1, .slice a2 L.exits.length p2, .slice a3 L.flanks.length p3, .int .i64 L.t0, .int .i64 L.t1, .int .i64 L.t2, .int .i64 L.t3, .int .i64 L.t4, .int .i64 L.t5, .int .i64 L.t6], .agg #[.int .i64 sg, .int .i64 ex, .slice A j cap], .slice UA un ucap] V' fun e w' => e = .returned (.bool true) ∧ Below V'.heap.size V' w' := fun V' h => by
        have := ris_any L ⟨a0, a1, a2, a3, p0, p1, p2, p3⟩ sg ex A UA cap ucap xs us V' (hLk V' h) (hKk V' h) (hEk V' h) (hAk V' h) (by rw [← HQ.out.2.1]; exact hl) hm (by rw [← HQ.out.2.1]; omega) (HU.out.2.1.below (bchain HJ.out.2.1 h)) (by rw [← HU.out.2.2.2.2.1]; exact HU.out.2.2.1) HU.out.2.2.2.1
        rw [route_less HR.out HU.out.1, ← HQ.out.2.1, ← HU.out.2.2.2.2.1] at this
        exact this
      have k2 : ∀ (V' : World), ClB wr V' → Calls Tryd.prog 15 #[.agg #[.slice a0 L.secs.length p0, .slice a1 L.sigs.length p1, .slice a2 L.exits.length p2, .slice a3 L.flanks.length p3, .int .i64 L.t0, .int .i64 L.t1, .int .i64 L.t2, .int .i64 L.t3, .int .i64 L.t4, .int .i64 L.t5, .int .i64 L.t6], .slice A k cap] V' fun e w' => e = .returned (.bool true) ∧ Below V'.heap.size V' w' := fun V' h => by
        have := goes_any L ⟨a0, a1, a2, a3, p0, p1, p2, p3⟩ A cap (xs.take k) V' (hLk V' h) (hKk V' h) (hEk V' h) ((hAk V' h).take k) (by rw [List.length_take]; omega) hm
        rw [goes_take k hgo, List.length_take_of_le (by rw [← HQ.out.2.1]; exact hkn)] at this
        exact this
      have k3 : ∀ (V' : World) D2, ClB wr V' → At V' 3 Stp.enc D2 (xs.drop k) → Calls Tryd.prog 15 #[.agg #[.slice a0 L.secs.length p0, .slice a1 L.sigs.length p1, .slice a2 L.exits.length p2, .slice a3 L.flanks.length p3, .int .i64 L.t0, .int .i64 L.t1, .int .i64 L.t2, .int .i64 L.t3, .int .i64 L.t4, .int .i64 L.t5, .int .i64 L.t6], .slice D2 (j - k) (cap - k)] V' fun e w' => e = .returned (.bool true) ∧ Below V'.heap.size V' w' := fun V' D2 h hd => by
        have := goes_any L ⟨a0, a1, a2, a3, p0, p1, p2, p3⟩ D2 (cap - k) (xs.drop k) V' (hLk V' h) (hKk V' h) (hEk V' h) hd (by rw [List.length_drop, ← HQ.out.2.1]; omega) (by omega)
        rw [goes_drop k hgo, List.length_drop, ← HQ.out.2.1] at this
        exact this
      have k4 : ∀ (V' : World), ClB wr V' → Calls Tryd.prog 15 #[.agg #[.slice a0 L.secs.length p0, .slice a1 L.sigs.length p1, .slice a2 L.exits.length p2, .slice a3 L.flanks.length p3, .int .i64 L.t0, .int .i64 L.t1, .int .i64 L.t2, .int .i64 L.t3, .int .i64 L.t4, .int .i64 L.t5, .int .i64 L.t6], .slice BA j bc] V' fun e w' => e = .returned (.bool true) ∧ Below V'.heap.size V' w' := fun V' h => by
        have := goes_any L ⟨a0, a1, a2, a3, p0, p1, p2, p3⟩ BA bc (backL xs) V' (hLk V' h) (hKk V' h) (hEk V' h) (HAB.out.below h) (by rw [hbl]; exact hjb) hbc
        rw [goes_turn ht hgo, hbl] at this
        exact this
      have HC := Lib.hid (⟨k1, k2, k3, k4, fun V' (h : ClB wr V') => HWK.out V' (bchain HZ.out h)⟩ : _ ∧ _ ∧ _ ∧ _ ∧ _)
      have hkc : k ≤ cap := by omega
      clear k1 k2 k3 k4 hLk hKk hEk hAk ht hgo h12 hbl s0 s1 s2
      go_upto_region 16 with fail
      refine wp_region_rel_below [([(5, none)], none), ([(6, none)], none), ([(11, none)], none), ([(72, some 2), (73, some 1), (74, some 0)], none), ([(75, some 0)], none), ([(5, none), (76, some 0)], some (76, true)), ([(6, none), (76, some 1)], some (76, true)), ([(78, some 0), (76, some 2)], some (76, true)), ([(4, none), (76, some 3)], some (76, true)), ([(79, some 1), (80, some 0), (76, some 4)], some (76, true)), ([(77, some 4), (81, some 0), (76, some 5)], some (76, true)), ([(76, some 6), (82, some 0)], none), ([(83, some 0)], none), ([(5, none), (84, some 0)], some (84, true)), ([(6, none), (84, some 1)], some (84, true)), ([(86, some 0), (84, some 2)], some (84, true)), ([(4, none), (84, some 3)], some (84, true)), ([(87, some 1), (88, some 0), (84, some 4)], some (84, true)), ([(85, some 4), (89, some 0), (84, some 5)], some (84, true)), ([(84, some 6), (90, some 0)], none), ([(91, some 0)], none), ([(5, none), (92, some 0)], some (92, true)), ([(14, none), (92, some 1)], some (92, true)), ([(93, some 1), (94, some 0), (92, some 2)], some (92, true)), ([(92, some 3), (95, some 0)], none), ([(96, some 0)], none), ([(97, some 0)], some (97, true)), ([(97, some 1), (98, some 0)], none), ([(99, some 0)], none)] [(0, 10)] (by kernel_rfl) (by kernel_rfl) ?_
      refine ob_det (c := .agg #[.slice a0 L.secs.length p0, .slice a1 L.sigs.length p1, .slice a2 L.exits.length p2, .slice a3 L.flanks.length p3, .int .i64 L.t0, .int .i64 L.t1, .int .i64 L.t2, .int .i64 L.t3, .int .i64 L.t4, .int .i64 L.t5, .int .i64 L.t6]) ?_ ?_
      · intro ρ W hk hC
        simp only [seen, obOp]
        rintro h5
        replace h5 : ρ (.tmp 5) = .pointer (some ⟨w.heap.size, 0, none⟩) := h5.trans rfl
        exact rel_value (runLoad h5 (HBX.out.below hC)) hC
      refine ob_det (c := .agg #[.int .i64 sg, .int .i64 ex, .slice A j cap]) ?_ ?_
      · intro ρ W hk hC
        simp only [seen, obOp]
        rintro h6
        replace h6 : ρ (.tmp 6) = .pointer (some ⟨w.heap.size + 1, 0, none⟩) := h6.trans rfl
        exact rel_value (by simp [go_sem, h6, q0 W hC, q1 W hC, q2 W hC]) hC
      refine ob_det (c := .slice UA un ucap) ?_ ?_
      · intro ρ W hk hC
        simp only [seen, obOp]
        rintro h11
        replace h11 : ρ (.tmp 11) = .slice UA un ucap := h11.trans rfl
        exact rel_value (by simp [go_sem, h11]) hC
      refine ob_det (c := .bool true) ?_ ?_
      · intro ρ W hk hC
        simp only [seen, obOp, List.getD_cons_zero, List.getD_cons_succ]
        rintro h72 h73 h74
        exact rel_call (f := 8) (args := #[.agg #[.slice a0 L.secs.length p0, .slice a1 L.sigs.length p1, .slice a2 L.exits.length p2, .slice a3 L.flanks.length p3, .int .i64 L.t0, .int .i64 L.t1, .int .i64 L.t2, .int .i64 L.t3, .int .i64 L.t4, .int .i64 L.t5, .int .i64 L.t6], .agg #[.int .i64 sg, .int .i64 ex, .slice A j cap], .slice UA un ucap]) (by simp [go_sem, h72, h73, h74, hk.func]) hC (HC.out.1 W hC)
      refine ob_det (c := .bool true) ?_ ?_
      · intro ρ W hk hC
        simp only [seen, obOp, List.getD_cons_zero]
        rintro h75
        exact rel_value (by simp [go_sem, h75]) hC
      refine ob_det (c := .agg #[.slice a0 L.secs.length p0, .slice a1 L.sigs.length p1, .slice a2 L.exits.length p2, .slice a3 L.flanks.length p3, .int .i64 L.t0, .int .i64 L.t1, .int .i64 L.t2, .int .i64 L.t3, .int .i64 L.t4, .int .i64 L.t5, .int .i64 L.t6]) ?_ ?_
      · intro ρ W hk hC
        simp only [seen, obOp, List.getD_cons_zero]
        rintro h5 h76
        replace h5 : ρ (.tmp 5) = .pointer (some ⟨w.heap.size, 0, none⟩) := h5.trans rfl
        refine ⟨fun _ => ?_, fun hn => absurd h76 hn⟩
        exact rel_value (runLoad h5 (HBX.out.below hC)) hC
      refine ob_det (c := .pointer (some ⟨w.heap.size + 1, 2, none⟩)) ?_ ?_
      · intro ρ W hk hC
        simp only [seen, obOp, List.getD_cons_zero, List.getD_cons_succ]
        rintro h6 h76
        replace h6 : ρ (.tmp 6) = .pointer (some ⟨w.heap.size + 1, 0, none⟩) := h6.trans rfl
        refine ⟨fun _ => ?_, fun hn => absurd h76 hn⟩
        exact rel_value (by simp [go_sem, h6]) hC
      refine ob_det (c := .slice A j cap) ?_ ?_
      · intro ρ W hk hC
        simp only [seen, obOp, List.getD_cons_zero, List.getD_cons_succ]
        rintro h78 h76
        refine ⟨fun _ => ?_, fun hn => absurd h76 hn⟩
        exact rel_value (by simp [go_sem, h78, q2 W hC]) hC
      refine ob_det (c := .int .i64 (k : Nat)) ?_ ?_
      · intro ρ W hk hC
        simp only [seen, obOp, List.getD_cons_zero, List.getD_cons_succ]
        rintro h4 h76
        replace h4 : ρ (.tmp 4) = .int .i64 (k : Nat) := h4.trans rfl
        refine ⟨fun _ => ?_, fun hn => absurd h76 hn⟩
        exact rel_value (by simp [go_sem, h4]) hC
      refine ob_det (c := .slice A k cap) ?_ ?_
      · intro ρ W hk hC
        simp only [seen, obOp, List.getD_cons_zero, List.getD_cons_succ]
        rintro h79 h80 h76
        refine ⟨fun _ => ?_, fun hn => absurd h76 hn⟩
        exact rel_value (by simp [go_sem, h79, h80, hkc]) hC
      refine ob_det (c := .bool true) ?_ ?_
      · intro ρ W hk hC
        simp only [seen, obOp, List.getD_cons_zero, List.getD_cons_succ]
        rintro h77 h81 h76
        refine ⟨fun _ => ?_, fun hn => absurd h76 hn⟩
        exact rel_call (f := 15) (args := #[.agg #[.slice a0 L.secs.length p0, .slice a1 L.sigs.length p1, .slice a2 L.exits.length p2, .slice a3 L.flanks.length p3, .int .i64 L.t0, .int .i64 L.t1, .int .i64 L.t2, .int .i64 L.t3, .int .i64 L.t4, .int .i64 L.t5, .int .i64 L.t6], .slice A k cap]) (by simp [go_sem, h77, h81, hk.func]) hC (HC.out.2.1 W hC)
      refine ob_det (c := .bool true) ?_ ?_
      · intro ρ W hk hC
        simp only [seen, obOp, List.getD_cons_zero, List.getD_cons_succ]
        rintro h76 h82
        exact rel_value (by simp [go_sem, h76, h82, hk.const]) hC
      refine ob_det (c := .bool true) ?_ ?_
      · intro ρ W hk hC
        simp only [seen, obOp, List.getD_cons_zero]
        rintro h83
        exact rel_value (by simp [go_sem, h83]) hC
      refine ob_det (c := .agg #[.slice a0 L.secs.length p0, .slice a1 L.sigs.length p1, .slice a2 L.exits.length p2, .slice a3 L.flanks.length p3, .int .i64 L.t0, .int .i64 L.t1, .int .i64 L.t2, .int .i64 L.t3, .int .i64 L.t4, .int .i64 L.t5, .int .i64 L.t6]) ?_ ?_
      · intro ρ W hk hC
        simp only [seen, obOp, List.getD_cons_zero]
        rintro h5 h84
        replace h5 : ρ (.tmp 5) = .pointer (some ⟨w.heap.size, 0, none⟩) := h5.trans rfl
        refine ⟨fun _ => ?_, fun hn => absurd h84 hn⟩
        exact rel_value (runLoad h5 (HBX.out.below hC)) hC
      refine ob_det (c := .pointer (some ⟨w.heap.size + 1, 2, none⟩)) ?_ ?_
      · intro ρ W hk hC
        simp only [seen, obOp, List.getD_cons_zero, List.getD_cons_succ]
        rintro h6 h84
        replace h6 : ρ (.tmp 6) = .pointer (some ⟨w.heap.size + 1, 0, none⟩) := h6.trans rfl
        refine ⟨fun _ => ?_, fun hn => absurd h84 hn⟩
        exact rel_value (by simp [go_sem, h6]) hC
      refine ob_det (c := .slice A j cap) ?_ ?_
      · intro ρ W hk hC
        simp only [seen, obOp, List.getD_cons_zero, List.getD_cons_succ]
        rintro h86 h84
        refine ⟨fun _ => ?_, fun hn => absurd h84 hn⟩
        exact rel_value (by simp [go_sem, h86, q2 W hC]) hC
      refine ob_det (c := .int .i64 (k : Nat)) ?_ ?_
      · intro ρ W hk hC
        simp only [seen, obOp, List.getD_cons_zero, List.getD_cons_succ]
        rintro h4 h84
        replace h4 : ρ (.tmp 4) = .int .i64 (k : Nat) := h4.trans rfl
        refine ⟨fun _ => ?_, fun hn => absurd h84 hn⟩
        exact rel_value (by simp [go_sem, h4]) hC
      refine ⟨fun v w' => ∃ D2, v = .slice D2 (j - k) (cap - k) ∧ At w' 3 Stp.enc D2 (xs.drop k), fun v w' w'' ⟨D2, e, h⟩ hb => ⟨D2, e, h.below hb⟩, ?_, ?_⟩
      · intro ρ W hk hC
        simp only [seen, obOp, List.getD_cons_zero, List.getD_cons_succ]
        rintro h87 h88 h84
        refine ⟨fun _ => ?_, fun hn => absurd h84 hn⟩
        obtain ⟨D2, hr, hd⟩ := slice_low (dst := some 89) (ty := 30) h87 h88 hkn hl
        rw [show (execOp ρ _).run Tryd.prog W = _ from hr _ _ _ W]
        exact ⟨hC, Below.refl _ _, D2, rfl, hd W xs HQ.out.2.1.symm (HA.out.1.below (bchain HZ.out hC))⟩
      refine ob_det (c := .bool true) ?_ ?_
      · intro ρ W hk hC
        simp only [seen, obOp, List.getD_cons_zero, List.getD_cons_succ]
        rintro h85 ⟨D2, h89, hD2⟩ h84
        refine ⟨fun _ => ?_, fun hn => absurd h84 hn⟩
        exact rel_call (f := 15) (args := #[.agg #[.slice a0 L.secs.length p0, .slice a1 L.sigs.length p1, .slice a2 L.exits.length p2, .slice a3 L.flanks.length p3, .int .i64 L.t0, .int .i64 L.t1, .int .i64 L.t2, .int .i64 L.t3, .int .i64 L.t4, .int .i64 L.t5, .int .i64 L.t6], .slice D2 (j - k) (cap - k)]) (by simp [go_sem, h85, h89, hk.func]) hC (HC.out.2.2.1 W D2 hC hD2)
      refine ob_det (c := .bool true) ?_ ?_
      · intro ρ W hk hC
        simp only [seen, obOp, List.getD_cons_zero, List.getD_cons_succ]
        rintro h84 h90
        exact rel_value (by simp [go_sem, h84, h90, hk.const]) hC
      refine ob_det (c := .bool true) ?_ ?_
      · intro ρ W hk hC
        simp only [seen, obOp, List.getD_cons_zero]
        rintro h91
        exact rel_value (by simp [go_sem, h91]) hC
      refine ob_det (c := .agg #[.slice a0 L.secs.length p0, .slice a1 L.sigs.length p1, .slice a2 L.exits.length p2, .slice a3 L.flanks.length p3, .int .i64 L.t0, .int .i64 L.t1, .int .i64 L.t2, .int .i64 L.t3, .int .i64 L.t4, .int .i64 L.t5, .int .i64 L.t6]) ?_ ?_
      · intro ρ W hk hC
        simp only [seen, obOp, List.getD_cons_zero]
        rintro h5 h92
        replace h5 : ρ (.tmp 5) = .pointer (some ⟨w.heap.size, 0, none⟩) := h5.trans rfl
        refine ⟨fun _ => ?_, fun hn => absurd h92 hn⟩
        exact rel_value (runLoad h5 (HBX.out.below hC)) hC
      refine ob_det (c := .slice BA j bc) ?_ ?_
      · intro ρ W hk hC
        simp only [seen, obOp, List.getD_cons_zero, List.getD_cons_succ]
        rintro h14 h92
        replace h14 : ρ (.tmp 14) = .slice BA j bc := h14.trans rfl
        refine ⟨fun _ => ?_, fun hn => absurd h92 hn⟩
        exact rel_value (by simp [go_sem, h14]) hC
      refine ob_det (c := .bool true) ?_ ?_
      · intro ρ W hk hC
        simp only [seen, obOp, List.getD_cons_zero, List.getD_cons_succ]
        rintro h93 h94 h92
        refine ⟨fun _ => ?_, fun hn => absurd h92 hn⟩
        exact rel_call (f := 15) (args := #[.agg #[.slice a0 L.secs.length p0, .slice a1 L.sigs.length p1, .slice a2 L.exits.length p2, .slice a3 L.flanks.length p3, .int .i64 L.t0, .int .i64 L.t1, .int .i64 L.t2, .int .i64 L.t3, .int .i64 L.t4, .int .i64 L.t5, .int .i64 L.t6], .slice BA j bc]) (by simp [go_sem, h93, h94, hk.func]) hC (HC.out.2.2.2.1 W hC)
      refine ob_det (c := .bool true) ?_ ?_
      · intro ρ W hk hC
        simp only [seen, obOp, List.getD_cons_zero, List.getD_cons_succ]
        rintro h92 h95
        exact rel_value (by simp [go_sem, h92, h95, hk.const]) hC
      refine ob_det (c := .bool true) ?_ ?_
      · intro ρ W hk hC
        simp only [seen, obOp, List.getD_cons_zero]
        rintro h96
        exact rel_value (by simp [go_sem, h96]) hC
      refine ob_det (c := .bool true) ?_ ?_
      · intro ρ W hk hC
        simp only [seen, obOp, List.getD_cons_zero]
        rintro h97
        refine ⟨fun _ => ?_, fun hn => absurd h97 hn⟩
        exact rel_call (f := 9) (args := #[]) (by simp [go_sem, hk.func]) hC (HC.out.2.2.2.2 W hC)
      refine ob_det (c := .bool true) ?_ ?_
      · intro ρ W hk hC
        simp only [seen, obOp, List.getD_cons_zero, List.getD_cons_succ]
        rintro h97 h98
        exact rel_value (by simp [go_sem, h97, h98, hk.const]) hC
      refine ob_det (c := .bool true) ?_ ?_
      · intro ρ W hk hC
        simp only [seen, obOp, List.getD_cons_zero]
        rintro h99
        exact rel_value (by simp [go_sem, h99]) hC
      intro vs5 w7 hC7
      simp only [endSeen, List.getD_cons_zero]
      intro h10
      simp only [writeAll, List.setIfInBounds_toArray, List.set_cons_zero, List.set_cons_succ, h10]
      go_wp2
      go_ret
      exact ⟨rfl, bchain HZ.out hC7⟩
end Go.Proofs.YtpcojaoeahdgcaaDoor

/-
  RouteLess: a Route path stays one with vias left out; its beginnings and ends go, and, where the layout hangs together, it goes turned about, too.
  Conditions: port.kinds and port.none (and join.end, where it is listed) start as the program's text lays them (the tied card; it ties them to the pruned copy that the seat holds).
-/
namespace Go.Proofs.YtpcojaoeahdgcaaDoor
open Go.RowKit Go.WideShapes Go.ChangeShapes Go.ChangeAt Go.WideMaps Go.WideElems Go.Joins Go.Deep

set_option maxRecDepth 100000 in
theorem routeLess_lifted (os : Os) (started : os.Started) (H : Type) (enc : TypeId × Value → H) :
    ReturnsInHanded {} Tryd.checked os 4 .any (fun w args => (Rows.routeLessSpec.pre enc Tryd.prog Tryd.f4 [] false w args ∧ laidMetH Tryd.prog laidL w) ∧ sizedMet enc Tryd.prog Tryd.f4 (OpenSpec.ofChange Rows.routeLessSpec) false w args)
      (Rows.routeLessSpec.post enc Tryd.prog Tryd.f4 false true false false) := by
  refine law_lifted_laid (C := Tryd.checked) (tb := 4) ownP started (by kernel_rfl) Tryd.func4
    (ChangeSpec.witness_shaped (enc := enc) (C := Tryd.checked) (os := os) (X := fun w _ => laidMetH Tryd.prog laidL w) false (World.doorLaid Tryd.prog 400 os) #[.agg #[.slice none 0 0, .slice none 0 0, .slice none 0 0, .slice none 0 0, .int .i64 0, .int .i64 0, .int .i64 0, .int .i64 0, .int .i64 0, .int .i64 0, .int .i64 0], .agg #[.int .i64 0, .int .i64 0, .slice none 0 0], .slice none 0 0, .int .i64 0, .int .i64 0] 8 rfl (World.shaped_of_RefB (by kernel_rfl) (by kernel_rfl)) (by kernel_rfl) (by kernel_rfl) (by kernel_rfl) (door_met os _))
    laidP (by kernel_rfl) rfl rfl Tryd.underlying4 ?_
  intro W base args ds p hval0 hA0 hlt hL
  have hval : ∀ (j : Nat) t v, Tryd.f4.params[j]? = some t → args[j]? = some v → Value.okWide Tryd.prog W .any base t v := hval0
  have hA : DataW.TrodAll enc Tryd.prog W 0 (fun _ => true) true Tryd.f4.params.toList args.toList ds p := hA0
  clear hval0 hA0
  rw [Tryd.params4] at hA hval
  obtain ⟨vs⟩ := args
  dsimp only at hA
  obtain ⟨v0, vs0, d0, ds0, p0, q0, rfl, rfl, rfl, h0, hA⟩ := trodAll_cons hA
  obtain ⟨v1, vs1, d1, ds1, p1, q1, rfl, rfl, rfl, h1, hA⟩ := trodAll_cons hA
  obtain ⟨v2, vs2, d2, ds2, p2, q2, rfl, rfl, rfl, h2, hA⟩ := trodAll_cons hA
  obtain ⟨v3, vs3, d3, ds3, p3, q3, rfl, rfl, rfl, h3, hA⟩ := trodAll_cons hA
  obtain ⟨v4, vs4, d4, ds4, p4, q4, rfl, rfl, rfl, h4, hA⟩ := trodAll_cons hA
  obtain ⟨rfl, rfl, rfl⟩ := trodAll_nil hA
  obtain ⟨L0, w0, rfl, hl0⟩ := open_layout (hval 0 29 v0 rfl rfl) h0
  obtain ⟨sg1, ex1, A1, cap1, xs1, rfl, hA1, hl1, hm1⟩ := open_path (hval 1 32 v1 rfl rfl) h1
  obtain ⟨V2, vcap2, zs2, rfl, hV2, hv2, hvm2⟩ := open_intsV (hval 2 33 v2 rfl rfl) h2
  obtain ⟨x3, rfl, rfl, rfl, b3⟩ := open_int Tryd.underlying3 (hval 3 3 v3 rfl rfl) h3
  obtain ⟨x4, rfl, rfl, rfl, b4⟩ := open_int Tryd.underlying3 (hval 4 3 v4 rfl rfl) h4
  exact ⟨⟨rfl, rfl, rfl⟩, routeLess_walk L0 w0 sg1 ex1 A1 cap1 xs1 V2 vcap2 zs2 x3 x4 W hl0 hA1 hl1 hm1 hV2 hv2 hvm2 (kinds_of_laid hL)⟩

theorem routeLess_holds : Rows.RouteLessSaid :=
  OpenClaim.holds_of_wide 4 Tryd.f4 rfl rfl rfl rfl rfl rfl rfl ⟨rfl, rfl, rfl, rfl, rfl⟩ rfl rfl rfl rfl rfl (by kernel_rfl) Tryd.func4 (by kernel_rfl)
    (of_decide_eq_true (by kernel_rfl)) (by unfold Func.isWrapper; first | (rw [if_pos (by decide +kernel)]; kernel_rfl) | (rw [if_neg (of_decide_eq_false (by kernel_rfl))]; exact ⟨rfl, rfl⟩))
    (fun os started H enc _ => routeLess_lifted os started H enc)

theorem routeLess_card : Rows.RouteLessCardSaid :=
  Claim7.holds_tied_plain_at .later [] [.data, .data, .data] true (true, "cfff4adc463c6f9ce7949ac5343bd4b581054832799839b491415a10a7ea59f5") false
    routeLess_holds (fun _ h => by cases h) (by kernel_rfl) (fun _ h => by cases h) routeLess_row_tie rfl ⟨rfl, rfl⟩ (by kernel_rfl) rfl
    (fun f fn hf hfn => by
      obtain rfl : f = 4 := Option.some.inj ((show Tryd.prog.funcNamed "lockbar/lockbarlaw11.RouteLess" = some 4 by kernel_rfl).symm.trans hf) |>.symm
      obtain rfl : fn = Tryd.f4 := (Option.some.inj (Tryd.func4.symm.trans hfn)).symm
      exact ⟨by kernel_rfl, fun j t ht => by
        rw [Tryd.params4] at ht
        have hm : t ∈ [29, 32, 33, 3, 3] := by simpa using Array.mem_of_getElem? ht
        have hall : ([29, 32, 33, 3, 3].all fun u => !Tryd.prog.wantsStandIn u) = true := by kernel_rfl
        exact (show Tryd.prog.wantsStandIn t = false by simpa using List.all_eq_true.1 hall t hm)⟩)
    (by kernel_rfl)
#print axioms routeLess_card
end Go.Proofs.YtpcojaoeahdgcaaDoor
