import Derived.Test.YtdadknejmnnkiaaGreatBoth
import Derived.Test.YtdadknejmnnkiaaGreatCelly
namespace Go.Proofs.YtdadknejmnnkiaaGreat
open Go Go.RowKit
attribute [local go_sem] Oper.semAt_some
set_option maxRecDepth 100000

theorem roundI_4 : roundI 0 4 = (0, 0) := roundI_0 4 (by decide) (by decide)
theorem both_zero (l1 l2 : List Int) (h1 : ∀ x ∈ l1, x = 0) (h2 : ∀ x ∈ l2, x = 0) : ∀ x ∈ bothI l1 l2, x = 0 := by
  intro x hx
  obtain ⟨i, hi⟩ := List.getElem?_of_mem hx
  unfold bothI at hi
  rw [List.getElem?_zipWith] at hi
  split at hi
  · rename_i a b ha hb
    cases hi
    rw [h1 a (List.mem_of_getElem? ha), h2 b (List.mem_of_getElem? hb)]
    rfl
  · cases hi
/-- a piece of code that does not panic -/
theorem wpIn_noPanic {F : Fence} {n : Nat} {P : Program} {c : Code} {K : Act → World → Prop} {Q' : Exit → Act → World → Prop} {a : Act} {w : World} (h : c.wpIn F n P (Exit.then K (fun _ _ _ => False)) a w) : c.wpIn F n P (Exit.then K Q') a w :=
  wpIn_mono h (by rintro e a w hp; cases e <;> first | exact hp | exact hp.elim)
/-- the list from a place on -/
theorem SlV.drop1 {α : Type} {R : Rep α} {D : Nat → Prop} {w : World} {b o n c : Nat} {l : List α} (h : SlV 1 R D w (.slice (some ⟨b, o, none⟩) n c) l) (k m : Nat) (hk : k + m = n) : SlV 1 R D w (.slice (some ⟨b, o + k, none⟩) m (c - k)) (l.drop k) := by
  obtain ⟨A, c', hv, hl, hc, h⟩ := h
  injection hv with hA hn hc'
  subst hA hc'
  have hm : m = (l.drop k).length := by rw [List.length_drop]; omega
  refine ⟨_, _, by rw [← hm], by omega, by omega, fun hne => ?_⟩
  have hl0 : l ≠ [] := by rintro rfl; exact hne (by simp)
  obtain ⟨b', o', h1, h2⟩ := h hl0
  injection h1 with h1
  injection h1 with h1 h3 _
  subst h1 h3
  refine ⟨b, o + k, rfl, fun j x hx => ?_⟩
  rw [List.getElem?_drop] at hx
  have := h2 (k + j) x hx
  rwa [show o + (k + j) * 1 = o + k + j * 1 by omega] at this
/-- nothing but zeros -/
theorem rep_zero (n : Nat) : ∀ x ∈ List.replicate n (0 : Int), x = 0 := fun _ h => List.eq_of_mem_replicate h
theorem zero_any (m : Int) (h0 : 0 ≤ m) (l : List Int) (hz : ∀ x ∈ l, x = 0) : l.any (beyond m) = false := by
  rw [List.any_eq_false]
  intro x hx
  rw [hz x hx]
  unfold beyond
  simp
  omega

theorem lapNext_zero (l : List Int) (D1 D2 : Nat → Prop) (vt vx : Value) (w : World) (ht : SlV 1 intR D1 w vt (List.replicate 256 0)) (hD1 : ∀ k, D1 k → k < w.heap.size) (hx : SlV 1 intR D2 w vx l) (hl : l.length = 256) (hz : ∀ x ∈ l, x = 0) :
    Calls Tryz.prog 18 #[.agg #[vt, .int .u8 0, .int .u8 0], .int .u8 0, .int .u8 0, vx] w fun e w' => ∃ v1 v2, e = .returned (.tuple #[.agg #[v1, .int .u8 0, .int .u8 0], v2, .int .i64 0]) ∧ SlV 1 intR (fun k => w.heap.size ≤ k) w' v1 (List.replicate 256 0) ∧ SlV 1 intR (fun k => w.heap.size ≤ k) w' v2 (List.replicate 256 0) ∧ Only (fun _ => False) w w' := by
  obtain ⟨A, n, c, rfl, hn, hc⟩ := ht.form'
  obtain ⟨A2, n2, c2, rfl, hn2, hc2⟩ := hx.form'
  rw [List.length_replicate] at hn
  rw [hl] at hn2
  subst hn hn2
  have HT := Lib.hid ht
  have HX := Lib.hid hx
  have HL := Lib.hid hl
  have HZ := Lib.hid hz
  have HD := Lib.hid hD1
  clear ht hx hl hz hc hc2 hD1
  refine (callsIn_wide (n := 5)).1 ?_
  refine callsIn_of_wp_marks Tryz.func18 rfl trivial ?_ rfl
  simp only [Tryz.ntmps18, List.size_toArray, List.length_cons, List.length_nil, Nat.reduceAdd, Nat.reduceSub, Array.replicate_succ, Array.replicate_zero, List.push_toArray, List.append_toArray, List.nil_append, List.cons_append]
  gi_wp2_with fail
  generalize hW : World.alloc _ _ = W1
  obtain ⟨b0, b1, b2, f1⟩ := news3 hW
  clear hW
  refine ⟨trivial, callsIn_wide.2 ((lapCheck_ok (List.replicate 256 0) D1 _ W1 (HT.out.quiet (c1_good _) f1) (by simp) (zero_any _ (by decide) _ (rep_zero _))).mono ?_)⟩
  rintro e w1 ⟨rfl, f2⟩
  replace b0 := mv f2 b0
  replace b1 := mv f2 b1
  replace b2 := mv f2 b2
  replace f1 := f1.trans f2
  obtain ⟨c0, c1, c2⟩ := cells3 b0
  have B1 := Lib.hid (And.intro b0 (And.intro b1 (And.intro b2 f1)))
  clear b0 b1 b2 f1 f2
  gi_wp2_with fail
  refine ⟨trivial, callsIn_wide.2 ((synth_zero l D2 _ w1 (HX.out.quiet (c1_good _) B1.out.2.2.2) HL.out HZ.out).mono ?_)⟩
  rintro e w2 ⟨vy, rfl, sy, f3⟩
  obtain ⟨Ay, ny, cy, rfl, hny, hcy⟩ := sy.form'
  rw [List.length_replicate] at hny
  subst hny
  have B2 := Lib.hid (And.intro (mv f3 B1.out.1) (And.intro (mv f3 B1.out.2.1) (And.intro (mv f3 B1.out.2.2.1) (B1.out.2.2.2.trans f3))))
  replace c0 := (cells3 B2.out.1).1
  have SY := Lib.hid sy
  have LT : Hid (w.heap.size + 1 + 1 < w1.heap.size) := Lib.hid B1.out.2.2.1.lt
  have SZ2 := Lib.hid f3.size
  clear sy f3 B1 c1 c2 hcy
  gi_wp2_with fail
  refine ⟨trivial, callsIn_wide.2 ((both_val _ _ _ _ _ _ _).mono ?_)⟩
  rintro e w3 ⟨rfl, p1, p2, f4⟩
  have B3 := Lib.hid (And.intro (mv f4 B2.out.1) (And.intro (mv f4 B2.out.2.1) (And.intro (mv f4 B2.out.2.2.1) (B2.out.2.2.2.trans f4))))
  have SY3 := Lib.hid ((SY.out.quiet (c1_good _) f4).mono (D' := fun k => w1.heap.size ≤ k ∧ k < w3.heap.size) (c1_good _) (fun k hk h => ⟨h, hk⟩))
  have LT3 : Hid (w1.heap.size ≤ w2.heap.size ∧ w2.heap.size ≤ w3.heap.size ∧ w2.heap.size + 1 < w3.heap.size) := Lib.hid ⟨SZ2.out, f4.size, p2.lt⟩
  have P := Lib.hid (And.intro p1 p2)
  clear B2 SY f4 p1 p2 c0
  gi_wp2
  refine range_top (by omega) rfl (enters_of Tryz.func66 (by kernel_rfl) rfl) (both1_iter (List.replicate 256 0) (List.replicate 512 0) D1 (fun k => w1.heap.size ≤ k ∧ k < w3.heap.size) _ _ _ _ w3 P.out.1 P.out.2 (HT.out.quiet (c1_good _) B3.out.2.2.2) SY3.out (by rw [List.length_replicate]; decide) (by rw [List.length_replicate]; decide))
    (fun k => k = w.heap.size + 1 + 1 ∨ w3.heap.size ≤ k) ?hS (fun k hk => .inr hk) ?hf (fun _ => rfl)
    (fun k W => ∃ u, Blk W (w.heap.size + 1 + 1) 30 #[u] ∧ Own W w3.heap.size 3 1 u ((List.replicate k (0 : Int)).map i2v) ∧ Only (fun j => j = w.heap.size + 1 + 1) w3 W) (fun _ _ => False) ?hI (fun _ _ _ h _ => h) ?h0 ?round ?done ?stop
  case hS =>
    have h1 := LT.out
    have h2 := LT3.out
    have h3 := B3.out.2.2.1.lt
    rintro k (rfl | rfl | hk | hk) h
    · omega
    · omega
    · have := HD.out k hk; omega
    · omega
  case hf =>
    have h2 := LT3.out
    rintro k (rfl | rfl | hk | hk)
    · omega
    · omega
    · have := HD.out k hk; have := LT.out; omega
    · exact hk.2
  case hI =>
    rintro k X Y ⟨u, h1, h2, h3⟩ hh
    exact ⟨u, h1.hush hh (fun h => h), h2.hush hh (fun _ _ h => h), h3.hush hh (Nat.le_refl _) (fun _ _ h => h.elim)⟩
  case h0 => exact ⟨_, B3.out.2.2.1, Own.nil_ _ _ _ _, Only.refl _ _⟩
  case stop => exact fun _ _ _ _ h => h.elim
  case round =>
    rintro ll k x W hx ⟨u, h1, h2, h3⟩
    obtain rfl : x = 0 := both_zero _ _ (rep_zero _) (rep_zero _) x (List.mem_of_getElem? hx)
    have hk : k < 256 := by have := get_lt hx; unfold bothI at this; rw [List.length_zipWith, List.length_replicate, List.length_replicate] at this; omega
    clear hx
    have H1 := Lib.hid h1
    have H2 := Lib.hid h2
    have H3 := Lib.hid h3
    clear h1 h2 h3
    gi_wp2
    refine ⟨KeepsFrom.refl _ _, Kp.refl _ _, fun W2 hh hll hrec => ?_⟩
    have G1 := Lib.hid (H1.out.hush hh (fun h => h))
    have G2 := Lib.hid (H2.out.hush hh (fun _ _ h => h))
    have G3 := Lib.hid (H3.out.hush hh (Nat.le_refl _) (fun _ _ h => h.elim))
    clear hh hrec H1 H2 H3
    obtain ⟨A', n', c', rfl⟩ := G2.out.form
    have hn' : n' = k := by have := G2.out.len; simpa using this
    subst hn'
    gi_wp2_with fail
    refine ⟨trivial, (CallsIn.inRound ll (callsIn_wide.2 (round_any 0 4 W2))).mono ?_⟩
    rintro e w4 ⟨rfl, f4⟩
    rw [roundI_4]
    have K1 := Lib.hid (mv f4 G1.out)
    have K2 := Lib.hid (mv f4 G2.out)
    have K3 := Lib.hid (G3.out.trans' f4 (fun _ _ h => h.elim))
    have F4 := Lib.hid f4
    clear f4
    gi_wp2_with fail
    refine ⟨trivial, (CallsIn.inRound ll (callsIn_wide.2 (clip16 0 w4))).mono ?_⟩
    rintro e w5 ⟨rfl, rfl⟩
    rw [show min (max (0 : Int) (-32768)) 32767 = 0 from by decide]
    have q1 := K1.out.cell 0
    have z1 := K1.out.frozen 0
    have hsz := K3.out.size
    gi_wp2_with (gi_at_builtin; refine wpListIn_app intT rfl (.tmp 45) (.tmp 47) rfl w3.heap.size _ _ _ rfl (K2.out.row.alloc _) ⟨w4.heap.size, 0, none⟩ 1 1 [.int .i64 0] rfl rfl (cell_one_new _ _ _) (by simp [Value.oneCell']) (by simp only [maxLen]; omega) (by omega) (by simp; omega) ?_; intro u' W3 g1 g2 g3; obtain ⟨A3, c3, rfl⟩ := own_form g1; have hb3 := (K1.out.alloc _).app g2 (K2.out.row.alloc _) (by decide); have hc3 := hb3.cell 0; have hf3 := hb3.frozen 0)
    have hO : Only (fun j => j = w.heap.size + 1 + 1 ∨ w3.heap.size ≤ j) W2 (W3.setCell ⟨w.heap.size + 1 + 1, 0, none⟩ (.slice A3 (n' + 1) c3)) :=
      (((F4.out.mono (T := fun j => j = w.heap.size + 1 + 1 ∨ w3.heap.size ≤ j) (fun _ _ h => h.elim)).alloc _).app g2 (K2.out.row.alloc _) (fun j hj => .inl (.inr (K2.out.lt j hj).1))).setCell (.inl (.inl rfl)) _
    refine ⟨hO.keepsFrom _, hO.kp, .slice A3 (n' + 1) c3, hb3.set_ 0 _, ?_, G3.out.trans' hO (fun i hi h => by rcases h with h | h; exact h; omega)⟩
    rw [List.replicate_succ', List.map_append]
    exact ⟨_, own_far g1 (fun e => own_ne g1 hb3 (by decide) e.symm) _⟩
  case done =>
    rintro D W hD ⟨u, h1, h2, h3⟩ hK
    rw [show (bothI (List.replicate 256 0) (List.replicate 512 0)).length = 256 by unfold bothI; rw [List.length_zipWith, List.length_replicate, List.length_replicate]; rfl] at h2
    have N1 : w.heap.size + 1 < w.heap.size + 1 + 1 := by omega
    have G0 := Lib.hid (B3.out.1.only h3 (fun h => by omega))
    have G1 := Lib.hid (B3.out.2.1.only h3 (fun h => by omega))
    have G2 := Lib.hid h1
    have GO := Lib.hid h2
    have G3 := Lib.hid h3
    have GK := Lib.hid hK
    have GD := Lib.hid hD
    have LB := Lib.hid B3.out.2.2.1.lt
    have GY := Lib.hid (SY3.out.only (c1_good _) h3 (fun k hk _ hs => by have := LT.out; omega))
    have FW : Hid (Only (fun _ => False) w W) := Lib.hid (B3.out.2.2.2.trans' h3 (fun i hi h => by omega))
    clear h1 h2 h3 hK hD N1
    obtain ⟨A4, n4, c4, rfl⟩ := GO.out.form
    have hn4 : n4 = 256 := by have := GO.out.len; simpa using this
    subst hn4
    have q1 := G2.out.cell 0
    have z1 := G2.out.frozen 0
    have q0 := G1.out.cell 0
    dsimp only
    simp only [Exit.inBlock]
    obtain ⟨by_, oy, rfl⟩ : ∃ b o, Ay = some ⟨b, o, none⟩ := by
      obtain ⟨b, o, h, _⟩ := GY.out.at_ (k := 0) (x := 0) (by simp)
      exact ⟨b, o, h⟩
    have hcy : 512 ≤ cy := by obtain ⟨_, _, h, hle, _⟩ := GY.out; injection h with _ h2 h3; rw [List.length_replicate] at hle; omega
    have hc1 : ¬ cy = 256 := by omega
    have hc2 : 256 < cy := by omega
    have ZY := Lib.hid (GY.out.drop1 256 256 rfl)
    have z0 := G1.out.frozen 0
    have z0' := G1.out.frozen 1
    have z0'' := G1.out.frozen 2
    clear hcy
    gi_wp2
    refine wpIn_noPanic ?_
    gi_region_with ((try refine ⟨trivial, ?_⟩); gi_at_call 38; refine (callsIn_wide.2 (clone_int ((List.replicate 512 (0 : Int)).drop 256) _ _ W.drew ZY.out (by simp))).mono ?_; rintro e w6 ⟨v6, rfl, o6, f6⟩; have O6 := Lib.hid o6; have F6 := Lib.hid f6; have K2 := Lib.hid (mv f6 (G2.out.drew)); have K1 := Lib.hid (mv f6 (G1.out.drew)); have r1 := K2.out.cell 0; have r2 := K2.out.frozen 0; have r3 := K1.out.frozen 0; have r4 := K1.out.frozen 1; have r5 := K1.out.frozen 2; have r6 := K1.out.cell 0; have r7 := K1.out.cell 1; have r8 := K1.out.cell 2; obtain ⟨A6, n6, c6, rfl⟩ := o6.form; clear o6 f6)
    all_goals
      clear r1 r2 r3 r4 r5 r6 r7 r8 q0 q1 z0 z0' z0'' z1
    all_goals gi_wp2
    all_goals
      generalize hW : World.setCell _ _ _ = W7
      have k1 : Blk W7 (w.heap.size + 1) 54 #[.slice A6 n6 c6, .int .u8 0, .int .u8 0] := by rw [← hW]; exact (((K1.out.set_ 0 _).set_ 1 _).set_ 2 _).far (by dsimp only; omega) _
      have k2 : Blk W7 (w.heap.size + 1 + 1) 30 #[.slice A4 256 c4] := by rw [← hW]; exact (((K2.out.far (by dsimp only; omega) _).far (by dsimp only; omega) _).far (by dsimp only; omega) _).set_ 0 _
      have o7 : Only (fun j => j = w.heap.size + 1 ∨ j = w.heap.size + 1 + 1) w6 W7 := by
        rw [← hW]
        exact ((((Only.refl (fun j => j = w.heap.size + 1 ∨ j = w.heap.size + 1 + 1) w6).setCell (.inl (.inl rfl)) _).setCell (.inl (.inl rfl)) _).setCell (.inl (.inl rfl)) _).setCell (.inl (.inr rfl)) _
      have hK7 : W7.heap[D]? = some (.deferred (some [])) := o7.others _ _ (F6.out.others _ _ GK.out rfl) rfl
      have hsW : w3.heap.size ≤ W.heap.size := G3.out.size
      have hp : Own W7 w3.heap.size 3 1 (.slice A4 256 c4) ((List.replicate 256 (0 : Int)).map i2v) :=
        (GO.out.only (S := fun _ => False) (((Only.refl _ W).drew).trans F6.out) (fun _ _ h => h)).only o7 (fun k hk h => by have := (GO.out.lt k hk).1; have := LB.out; omega)
      have hq : Own W7 W.heap.size 3 1 (.slice A6 n6 c6) (((List.replicate 512 (0 : Int)).drop 256).map i2v) :=
        O6.out.only o7 (fun k hk h => by have h1 : W.heap.size ≤ k := (O6.out.lt k hk).1; have := LB.out; omega)
      have f7 : Only (fun _ => False) w W7 := (FW.out.trans (((Only.refl _ W).drew).trans F6.out)).trans' o7 (fun i hi h => by omega)
      have hh := hush_putObj (B := w3.heap.size) (fun _ => False) (.deferred none) GD.out hK7 rfl
      refine ⟨by simp, .inl ⟨_, _, rfl, run_takeDeferred hK7, ?_⟩⟩
      have m1 := cells3 (mvH hh k1)
      have m2 := cells1 (mvH hh k2)
      have M3 := Lib.hid (mvH hh hp)
      have M4 := Lib.hid (mvH hh hq)
      have M5 := Lib.hid (f7.hush hh B3.out.2.2.2.size (fun _ _ h => h.elim))
      obtain ⟨m10, m11, m12⟩ := m1
      have HSW := Lib.hid hsW
      generalize W7.putObj D (.deferred none) = W8 at *
      clear hh k1 k2 o7 hK7 hp hq f7 hW hsW
      refine ⟨.tuple #[.agg #[.slice A6 n6 c6, .int .u8 0, .int .u8 0], .slice A4 256 c4, .int .i64 0], ?_, _, _, rfl, ?_, ?_, M5.out⟩
      · unfold results
        rw [show Tryz.f18.results = #[.cell 8 54, .cell 9 30, .tmp 10] from rfl]
        go_simp
      · have := M4.out.slV
        rw [List.drop_replicate] at this
        exact this.mono (c1_good _) (fun k _ h => by have := HSW.out; have := LB.out; omega)
      · exact M3.out.slV.mono (c1_good _) (fun k _ h => by have := LB.out; omega)
end Go.Proofs.YtdadknejmnnkiaaGreat
