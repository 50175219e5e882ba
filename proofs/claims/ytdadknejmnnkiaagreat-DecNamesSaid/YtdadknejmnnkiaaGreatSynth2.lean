import Derived.Test.YtdadknejmnnkiaaGreatSynth
namespace Go.Proofs.YtdadknejmnnkiaaGreat
open Go Go.RowKit
attribute [local go_sem] Oper.semAt_some
set_option maxRecDepth 100000

theorem roundI_0 (b : Int) (h0 : 1 ≤ b) (h1 : b ≤ 62) : roundI 0 b = (0, 0) := by
  unfold roundI
  rw [if_neg (by omega), if_neg (by omega), i64_and1]
  simp [wrap64]
theorem roundI_26 : (roundI 0 26).1 = 0 := by rw [roundI_0 26 (by decide) (by decide)]
theorem getD_zero (l : List Int) (hz : ∀ x ∈ l, x = 0) (k : Nat) : l.getD k 0 = 0 := by
  rw [List.getD_eq_getElem?_getD]
  cases h : l[k]? with
  | none => rfl
  | some x => exact hz x (List.mem_of_getElem? h)
theorem sumTo_zero (l : List Int) (hz : ∀ x ∈ l, x = 0) (a b : Int) : ∀ j, (sumTo l a b j).1 = 0
  | 0 => rfl
  | j + 1 => by
    unfold sumTo
    rw [sumTo_zero l hz a b j, getD_zero l hz]
    simp [wrap64]
theorem sumI_zero (l : List Int) (hz : ∀ x ∈ l, x = 0) (arc : Nat → Int × Int) (i : Nat) : sumI l 26 arc i = 0 := by
  unfold sumI
  rw [sumTo_zero l hz]
  exact roundI_26
theorem timesI_zero (l vs : List Int) (hz : ∀ x ∈ l, x = 0) (k : Nat) : timesI l vs 26 k = 0 := by
  unfold timesI
  rw [getD_zero l hz]
  simp [wrap64, roundI_26]
theorem inverse_zero (l : List Int) (D : Nat → Prop) (v : Value) (w : World) (hv : SlV 1 intR D w v l) (hl : l.length = 256) (hz : ∀ x ∈ l, x = 0) :
    Calls Tryz.prog 64 #[v] w fun e w' => ∃ b, e = .returned (.tuple #[.slice (some ⟨b, 0, none⟩) 512 512, .int .i64 0]) ∧ w.heap.size ≤ b ∧ SlV 1 intR (fun k => k = b) w' (.slice (some ⟨b, 0, none⟩) 512 512) (List.replicate 512 0) ∧ Only (fun _ => False) w w' := by
  have hb : l.any (beyond 268435455) = false := by
    rw [List.any_eq_false]
    intro x hx
    rw [hz x hx]
    decide
  refine (inverse_any l (.inl hl) D v w hv hb).mono ?_
  rintro e w' ⟨b, rfl, h1, h2, h3⟩
  rw [hl, if_neg (by decide), row_ext (g := fun _ => 0) (fun k _ => sumI_zero l hz _ k)] at h2
  rw [hl]
  have hs := row_slV h2 (by decide)
  rw [show (List.range (2 * 256)).map (fun _ => (0 : Int)) = List.replicate 512 0 by rw [List.map_const', List.length_range]] at hs
  exact ⟨b, rfl, h1, hs, h3⟩
theorem times_zero (vs : List Int) (D D' : Nat → Prop) (v v' : Value) (w : World) (hv : SlV 1 intR D w v (List.replicate 512 0)) (hv' : SlV 1 intR D' w v' vs) (hl : vs.length = 512) :
    Calls Tryz.prog 65 #[v, v', .int .i64 26] w fun e w' => e = .returned (.slice (some ⟨w.heap.size, 0, none⟩) 512 512) ∧ Blk w' w.heap.size 3 (row (fun _ => 0) 512) ∧ Only (fun _ => False) w w' := by
  refine (times_any (List.replicate 512 0) vs 26 D D' v v' w hv hv' (by simp) (by simp [hl])).mono ?_
  rintro e w' ⟨rfl, h1, h2⟩
  rw [List.length_replicate, row_ext (g := fun _ => 0) (fun k _ => timesI_zero _ vs (fun x hx => List.eq_of_mem_replicate hx) k)] at h1
  exact ⟨by rw [List.length_replicate], h1, h2⟩
theorem sineW_len : sineW.length = 512 := by simp [sineW]

theorem synth_zero (l : List Int) (D : Nat → Prop) (v : Value) (w : World) (hv : SlV 1 intR D w v l) (hl : l.length = 256) (hz : ∀ x ∈ l, x = 0) :
    Calls Tryz.prog 34 #[.int .u8 0, .int .u8 0, .int .u8 0, v] w fun e w' => ∃ v', e = .returned (.tuple #[v', .int .i64 0]) ∧ SlV 1 intR (fun k => w.heap.size ≤ k) w' v' (List.replicate 512 0) ∧ Only (fun _ => False) w w' := by
  obtain ⟨A, n, c, rfl, hn, hc⟩ := hv.form'
  rw [hl] at hn
  subst hn
  have hb : l.any (beyond 268435455) = false := by
    rw [List.any_eq_false]
    intro x hx
    rw [hz x hx]
    decide
  have HV := Lib.hid hv
  have HB := Lib.hid hb
  have HL := Lib.hid hl
  have HZ := Lib.hid hz
  have CC := Lib.hid hc
  clear hv hl hz hb hc
  have hmk := fun (W : World) => run_mk intT .i64 .i64 512 512 (by decide) (by decide) (by decide) (by decide) W
  refine (callsIn_wide (n := 5)).1 ?_
  refine callsIn_of_wp_marks Tryz.func34 rfl trivial ?_ rfl
  simp only [Tryz.ntmps34, List.size_toArray, List.length_cons, List.length_nil, Nat.reduceAdd, Nat.reduceSub, Array.replicate_succ, Array.replicate_zero, List.push_toArray, List.append_toArray, List.nil_append, List.cons_append]
  gi_wp2_with fail
  refine ⟨trivial, callsIn_wide.2 ((asked_ok l 268435455 D _ _ (((HV.out.alloc (c1_good _) _).alloc (c1_good _) _).alloc (c1_good _) _) HL.out HB.out).mono ?_)⟩
  rintro e w1 ⟨rfl, rfl⟩
  gi_wp2_with fail
  obtain ⟨W5, hW5⟩ : ∃ W5, ((((w.alloc (.cells #[.slice A 256 c] 30)).alloc (.cells #[.slice none 0 0] 30)).alloc (.cells #[.int .i64 0] 23)).alloc (.cells (madeCells #[.int .i64 0] 512) 3)).alloc (.cells #[.slice (some ⟨w.heap.size + 1 + 1 + 1, 0, none⟩) 512 512] 30) = W5 := ⟨_, rfl⟩
  have b0 : Blk W5 w.heap.size 30 #[.slice A 256 c] := by rw [← hW5]; exact ((((Blk.new w _ _).alloc _).alloc _).alloc _).alloc _
  have b1 : Blk W5 (w.heap.size + 1) 30 #[.slice none 0 0] := by
    rw [← hW5]
    have := (((Blk.new (w.alloc (.cells #[.slice A 256 c] 30)) 30 #[.slice none 0 0]).alloc (.cells #[.int .i64 0] 23)).alloc (.cells (madeCells #[.int .i64 0] 512) 3)).alloc (.cells #[.slice (some ⟨w.heap.size + 1 + 1 + 1, 0, none⟩) 512 512] 30)
    rwa [World.size_alloc] at this
  have b2 : Blk W5 (w.heap.size + 1 + 1) 23 #[.int .i64 0] := by
    rw [← hW5]
    have := ((Blk.new ((w.alloc (.cells #[.slice A 256 c] 30)).alloc (.cells #[.slice none 0 0] 30)) 23 #[.int .i64 0]).alloc (.cells (madeCells #[.int .i64 0] 512) 3)).alloc (.cells #[.slice (some ⟨w.heap.size + 1 + 1 + 1, 0, none⟩) 512 512] 30)
    rwa [World.size_alloc, World.size_alloc] at this
  have b3 : Blk W5 (w.heap.size + 1 + 1 + 1) 3 (row (fun _ => 0) 512) := by
    rw [← hW5]
    have := (Blk.new (((w.alloc (.cells #[.slice A 256 c] 30)).alloc (.cells #[.slice none 0 0] 30)).alloc (.cells #[.int .i64 0] 23)) 3 (madeCells #[.int .i64 0] (512 * 1))).alloc (.cells #[.slice (some ⟨w.heap.size + 1 + 1 + 1, 0, none⟩) 512 512] 30)
    rw [made1, row_replicate, World.size_alloc, World.size_alloc, World.size_alloc] at this
    rw [show madeCells #[Value.int .i64 0] 512 = row (fun _ => 0) 512 from (made1 _ 512).trans (row_replicate _ _)]
    exact this
  have b4 : Blk W5 (w.heap.size + 1 + 1 + 1 + 1) 30 #[.slice (some ⟨w.heap.size + 1 + 1 + 1, 0, none⟩) 512 512] := by
    rw [← hW5]
    have := Blk.new ((((w.alloc (.cells #[.slice A 256 c] 30)).alloc (.cells #[.slice none 0 0] 30)).alloc (.cells #[.int .i64 0] 23)).alloc (.cells (madeCells #[.int .i64 0] 512) 3)) 30 #[.slice (some ⟨w.heap.size + 1 + 1 + 1, 0, none⟩) 512 512]
    rwa [World.size_alloc, World.size_alloc, World.size_alloc, World.size_alloc] at this
  have f5 : Only (fun _ => False) w W5 := by rw [← hW5]; exact (((((Only.refl _ _).alloc _).alloc _).alloc _).alloc _).alloc _
  have hS5 := Lib.hid (show W5.heap.size = w.heap.size + 5 by rw [← hW5]; simp)
  rw [hW5]
  refine ⟨trivial, callsIn_wide.2 ((windows_val W5).mono ?_)⟩
  rintro e w2 ⟨rfl, d1, d2, d3, f2⟩
  gi_wp2
  have B2 : Hid (Blk w2 w.heap.size 30 #[.slice A 256 c] ∧ Blk w2 (w.heap.size + 1) 30 #[.slice none 0 0] ∧ Blk w2 (w.heap.size + 1 + 1) 23 #[.int .i64 0] ∧ Blk w2 (w.heap.size + 1 + 1 + 1) 3 (row (fun _ => 0) 512) ∧ Blk w2 (w.heap.size + 1 + 1 + 1 + 1) 30 #[.slice (some ⟨w.heap.size + 1 + 1 + 1, 0, none⟩) 512 512] ∧ Only (fun _ => False) w w2 ∧ W5.heap.size = w.heap.size + 5) := Lib.hid ⟨b0.only f2 (fun h => h), b1.only f2 (fun h => h), b2.only f2 (fun h => h), b3.only f2 (fun h => h), b4.only f2 (fun h => h), f5.trans f2, hS5.out⟩
  have SZ : Hid (w.heap.size + 5 ≤ w2.heap.size) := Lib.hid (by have := B2.out.2.2.2.2.2.2; have := f2.size; omega)
  refine range_topG (by omega) rfl (enters_of Tryz.func117 (by kernel_rfl) rfl) (windows_iter _ _ _ w2 d1 d2 d3) (fun k => k = w.heap.size ∨ k = w.heap.size + 1 + 1 + 1 ∨ w2.heap.size ≤ k) ?hS (fun k hk => .inr (.inr hk)) ?hf ?hps
    (fun k W => (∃ u, Blk W w.heap.size 30 #[u] ∧ (k = 0 → u = .slice A 256 c)) ∧ Blk W (w.heap.size + 1) 30 #[.slice none 0 0] ∧ Blk W (w.heap.size + 1 + 1) 23 #[.int .i64 0] ∧ Blk W (w.heap.size + 1 + 1 + 1) 3 (row (fun _ => 0) 512) ∧ Blk W (w.heap.size + 1 + 1 + 1 + 1) 30 #[.slice (some ⟨w.heap.size + 1 + 1 + 1, 0, none⟩) 512 512] ∧ Only (fun _ => False) w W) (fun _ _ => False) ?hI (fun _ _ _ h _ => h) ?h0 ?round ?done ?stop
  case hS => rintro k (rfl | rfl | rfl) h <;> have := B2.out.2.2.2.2.2.2 <;> have := d1.lt <;> have := d2.lt <;> have := d3.lt <;> omega
  case hf => rintro k (rfl | rfl | rfl) <;> have := d1.lt <;> have := d2.lt <;> have := d3.lt <;> omega
  case hps => rintro k x W ⟨_, v, rfl, _⟩; rfl
  case hI =>
    rintro k X Y ⟨⟨u, h1, h1'⟩, h2, h3, h4, h5, h6⟩ hh
    exact ⟨⟨u, h1.hush hh (fun h => h), h1'⟩, h2.hush hh (fun h => h), h3.hush hh (fun h => h), h4.hush hh (fun h => h), h5.hush hh (fun h => h), h6.hush hh B2.out.2.2.2.2.2.1.size (fun _ _ h => h)⟩
  case h0 => exact ⟨⟨_, B2.out.1, fun _ => rfl⟩, B2.out.2.1, B2.out.2.2.1, B2.out.2.2.2.1, B2.out.2.2.2.2.1, B2.out.2.2.2.2.2.1⟩
  case stop => intro _ _ _ _ h; exact h.elim
  case done =>
    rintro D1 W hD1 ⟨⟨u, h1, h1'⟩, h2, h3, h4, h5, h6⟩ hK
    dsimp only
    simp only [Exit.inBlock]
    have e5 := h5.cell 0
    have e2 := h2.cell 0
    have z2 := h2.frozen 0
    have e3 := h3.cell 0
    have z3 := h3.frozen 0
    gi_wp2
    obtain ⟨W', hW'⟩ : ∃ W', (W.setCell ⟨w.heap.size + 1, 0, none⟩ (.slice (some ⟨w.heap.size + 1 + 1 + 1, 0, none⟩) 512 512)).setCell ⟨w.heap.size + 1 + 1, 0, none⟩ (.int .i64 0) = W' := ⟨_, rfl⟩
    have k2 : Blk W' (w.heap.size + 1) 30 #[.slice (some ⟨w.heap.size + 1 + 1 + 1, 0, none⟩) 512 512] := by rw [← hW']; exact (h2.set_ 0 _).far (by dsimp only; omega) _
    have k3 : Blk W' (w.heap.size + 1 + 1) 23 #[.int .i64 0] := by rw [← hW']; exact (h3.far (by dsimp only; omega) _).set_ 0 _
    have k4 : Blk W' (w.heap.size + 1 + 1 + 1) 3 (row (fun _ => 0) 512) := by rw [← hW']; exact (h4.far (by dsimp only; omega) _).far (by dsimp only; omega) _
    have k6 : Only (fun _ => False) w W' := by rw [← hW']; exact (h6.setCell (.inr (by dsimp only; omega)) _).setCell (.inr (by dsimp only; omega)) _
    have hK' : W'.heap[D1]? = some (.deferred (some [])) := by rw [← hW']; exact others_setCell _ _ _ (others_setCell _ _ _ hK rfl) rfl
    rw [hW']
    clear hW' h1 h1' h2 h3 h4 h5 h6 e5 e2 z2 e3 z3 hK
    refine ⟨by simp, .inl ⟨_, _, rfl, run_takeDeferred hK', ?_⟩⟩
    have hh := hush_putObj (B := w2.heap.size) (fun _ => False) (.deferred none) hD1 hK' rfl
    have m2 := (k2.hush hh (fun h => h)).cell 0
    have m3 := (k3.hush hh (fun h => h)).cell 0
    have M4 := Lib.hid (k4.hush hh (fun h => h))
    have M6 := Lib.hid (k6.hush hh B2.out.2.2.2.2.2.1.size (fun _ _ h => h.elim))
    generalize W'.putObj D1 (.deferred none) = W6 at *
    clear k2 k3 k4 k6 hK' hh
    refine ⟨.tuple #[.slice (some ⟨w.heap.size + 1 + 1 + 1, 0, none⟩) 512 512, .int .i64 0], ?_, _, rfl, ?_, M6.out⟩
    · unfold results
      rw [show Tryz.f34.results = #[.cell 8 30, .cell 9 23] from rfl]
      go_simp
    · have hs := row_slV M4.out (by decide)
      rw [show (List.range 512).map (fun _ => (0 : Int)) = List.replicate 512 0 by rw [List.map_const', List.length_range]] at hs
      exact hs.mono (c1_good _) (fun k _ h => by omega)
  case round =>
    rintro ll k x W ⟨rfl, v, rfl, hsv⟩ ⟨⟨u, h1, h1'⟩, h2, h3, h4, h5, h6⟩
    obtain rfl := h1' rfl
    clear h1'
    have HS := Lib.hid hsv
    clear hsv
    gi_wp2
    refine ⟨KeepsFrom.refl _ _, Kp.refl _ _, fun W2 hh hll hrec => ?_⟩
    have G1 := Lib.hid (h1.hush hh (fun h => h))
    have G2 := Lib.hid (h2.hush hh (fun h => h))
    have G3 := Lib.hid (h3.hush hh (fun h => h))
    have G4 := Lib.hid (h4.hush hh (fun h => h))
    have G5 := Lib.hid (h5.hush hh (fun h => h))
    have G6 := Lib.hid (h6.hush hh B2.out.2.2.2.2.2.1.size (fun _ _ h => h.elim))
    have GS := Lib.hid (HS.out.keep (c1_good _) (hh.keep (fun _ _ h => h)))
    clear h1 h2 h3 h4 h5 h6 HS hh hrec hll
    obtain ⟨Av, nv, cv, rfl, hnv, hcv⟩ := GS.out.form'
    rw [sineW_len] at hnv
    subst hnv
    have c0 := G1.out.cell 0
    have z0 := G1.out.frozen 0
    have c5 := G5.out.cell 0
    obtain ⟨b0, o0, rfl⟩ : ∃ b0 o0, A = some ⟨b0, o0, none⟩ := by
      have hx : l[0]? = some (l[0]'(by have := HL.out; omega)) := List.getElem?_eq_getElem _
      obtain ⟨b0, o0, h, _⟩ := HV.out.at_ hx
      exact ⟨b0, o0, h⟩
    have hcc : c = 256 ∨ 256 < c := by have := CC.out; omega
    have hcc' : (c = 256 ∨ 256 < c) := hcc
    rcases hcc with rfl | hcc
    all_goals clear hcc'
    all_goals
      gi_wp2_with fail
      refine ⟨trivial, (CallsIn.inRound ll (callsIn_wide.2 (inverse_zero l D _ W2 (HV.out.quiet (c1_good _) G6.out) HL.out HZ.out))).mono ?_⟩
      rintro e w3 ⟨b, rfl, hb3, s3, f3⟩
      have K1 := (G1.out.only f3 (fun h => h))
      replace c0 := K1.cell 0
      replace z0 := K1.frozen 0
      have F3 := Lib.hid f3
      have S3 := Lib.hid s3
      have KK1 := Lib.hid K1
      have HB3 := Lib.hid hb3
      clear f3 s3 K1 c5 hcv hb3
      gi_wp2_with fail
      generalize hW4 : World.setCell _ _ _ = W4
      obtain ⟨u4, hu4⟩ : ∃ u, Blk W4 w.heap.size 30 #[u] := ⟨_, by rw [← hW4]; exact KK1.out.set_ 0 _⟩
      have o4 : Only (fun j => j = w.heap.size) W2 W4 := by rw [← hW4]; exact (F3.out.mono (T := fun j => j = w.heap.size) (fun _ _ h => h.elim)).setCell (p := ⟨w.heap.size, 0, none⟩) (.inl rfl) _
      have hlt := G1.out.lt
      have s4 : SlV 1 intR (fun k => k = b) W4 (.slice (some ⟨b, 0, none⟩) 512 512) (List.replicate 512 0) := by
        rw [← hW4]
        exact S3.out.only (c1_good _) ((Only.refl (fun j => j = w.heap.size) w3).setCell (p := ⟨w.heap.size, 0, none⟩) (.inl rfl) _) (fun k hk _ hs => by have := HB3.out; omega)
      have O4 := Lib.hid o4
      have S4 := Lib.hid s4
      have U4 := Lib.hid hu4
      have LT4 : Hid (w.heap.size + 1 + 1 + 1 < W4.heap.size) := Lib.hid (Nat.lt_of_lt_of_le G4.out.lt o4.size)
      clear hW4 o4 s4 hu4 hlt F3 S3 KK1 HB3 c0 z0
      refine ⟨trivial, (CallsIn.inRound ll (callsIn_wide.2 (times_zero sineW _ (fun j => w2.heap.size ≤ j) _ _ W4 S4.out (GS.out.only (c1_good _) O4.out (fun k hk _ hs => by have := SZ.out; omega)) sineW_len))).mono ?_⟩
      rintro e w5 ⟨rfl, b5, f5⟩
      have B5 := Lib.hid b5
      have O5 := Lib.hid (O4.out.trans' f5 (fun _ _ h => h.elim))
      have U5 := Lib.hid (U4.out.only f5 (fun h => h))
      clear b5 f5 O4 S4 U4
      gi_wp2
      gi_loopw [54] (fun i W => ∃ k : Nat, k ≤ 512 ∧ i = .int .i64 k ∧ Hid (Blk W W4.heap.size 3 (row (fun _ => 0) 512)) ∧ Hid (Blk W (w.heap.size + 1 + 1 + 1) 3 (row (fun _ => 0) 512)) ∧ Hid (∃ u, Blk W w.heap.size 30 #[u]) ∧ Hid (Only (fun j => j = w.heap.size ∨ j = w.heap.size + 1 + 1 + 1) W2 W)) (fun i _ => 512 - (intOf i).toNat)
      case atStart =>
        refine ⟨0, by decide, rfl, B5, Lib.hid ?_, Lib.hid ⟨_, U5.out⟩, Lib.hid (O5.out.mono (fun _ _ h => .inl h))⟩
        exact G4.out.only O5.out (fun h => by omega)
      case round =>
        clear B5 U5 O5
        obtain ⟨k, hk, rfl, hb, hq, hu, ho⟩ := hrel
        by_cases hlt : k < 512
        · have x1 := hb.out.cell k
          rw [row_get _ _ _ hlt] at x1
          have x2 := hq.out.cell k
          rw [row_get _ _ _ hlt] at x2
          have z2 := hq.out.frozen k
          have x3 := (G5.out.only ho.out (fun h => by omega)).cell 0
          have Q1 : Hid (row (fun _ => 0) 512 = (row (fun _ => 0) 512).setIfInBounds k (.int .i64 0)) := Lib.hid (by rw [row_set]; exact row_ext fun j _ => by split <;> rfl)
          gi_wp2
          go_roundw
          case rel =>
            refine ⟨k + 1, by omega, by go_num, Lib.hid (hb.out.far (by have := LT4.out; dsimp only; omega) _), Lib.hid ?_, Lib.hid ?_, Lib.hid (ho.out.setCell (.inl (.inr rfl)) _)⟩
            · have := hq.out.set_ k (.int .i64 0)
              rw [← Q1.out] at this
              exact this
            · obtain ⟨u, hu⟩ := hu.out
              exact ⟨u, hu.far (by dsimp only; omega) _⟩
          case measure => simp [intOf]; omega
        · obtain rfl : k = 512 := by omega
          gi_wp2
          have P : Only (fun k => k = w.heap.size ∨ k = w.heap.size + 1 + 1 + 1 ∨ w2.heap.size ≤ k) W2 wr := ho.out.mono (fun _ _ h => by rcases h with h | h <;> simp [h])
          refine ⟨P.keepsFrom _, P.kp, ?_, ?_, ?_, ?_, ?_, ?_⟩
          · obtain ⟨u, hu⟩ := hu.out
            exact ⟨u, hu, fun h => by omega⟩
          · exact G2.out.only ho.out (fun h => by omega)
          · exact G3.out.only ho.out (fun h => by omega)
          · exact hq.out
          · exact G5.out.only ho.out (fun h => by omega)
          · exact G6.out.trans' ho.out (fun i hi h => by rcases h with h | h <;> omega)
end Go.Proofs.YtdadknejmnnkiaaGreat
