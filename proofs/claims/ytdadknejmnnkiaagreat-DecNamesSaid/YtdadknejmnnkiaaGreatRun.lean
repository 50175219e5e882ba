import Derived.Test.YtdadknejmnnkiaaGreatPut
import Derived.Test.YtdadknejmnnkiaaGreatCelly
import Derived.LoopN
import Derived.Deep.RegionWith
namespace Go.Proofs.YtdadknejmnnkiaaGreat
open Go Go.RowKit
set_option maxRecDepth 100000

theorem sides_out (P : Nat) (A : Option Addr) (n c : Nat) (la pc : Value) (at_ : Int) (w : World) (hp : Blk w P 46 #[.int .i64 0, .int .i64 1, .bool false, .int .i64 0, .slice A n c, la, pc]) (h : at_ < 0 ∨ (n : Int) ≤ at_) :
    Calls Tryz.prog 15 #[.pointer (some ⟨P, 0, none⟩), .int .i64 at_] w fun e w' => ∃ g, e = .returned (.slice (some ⟨g, 0, none⟩) 1 1) ∧ w.heap.size ≤ g ∧ Blk w' g 30 #[.slice none 0 0] ∧ Only (fun _ => False) w w' := by
  have hmk := fun (W : World) => run_mk listT .i64 .i64 1 1 (by decide) (by decide) (by decide) (by decide) W
  obtain ⟨e0, e1, e2, e3, e4, e5, e6⟩ := cells7 hp
  have p4 := (hp.alloc (.cells (madeCells #[.slice none 0 0] 1) 30)).cell 4
  have hb : Blk (w.alloc (.cells (madeCells #[.slice none 0 0] 1) 30)) w.heap.size 30 #[.slice none 0 0] := by
    have := Blk.new w 30 (madeCells #[.slice none 0 0] (1 * 1))
    rw [made1] at this
    rw [show madeCells #[Value.slice none 0 0] 1 = (List.replicate 1 (Value.slice none 0 0)).toArray from made1 _ 1]
    exact this
  have HB := Lib.hid hb
  clear hp hb
  by_cases h0 : at_ < 0
  · go_enter Tryz.func15, Tryz.ntmps15
    go_wp2
    go_ret
    exact ⟨_, rfl, Nat.le_refl _, HB.out, (Only.refl _ _).alloc _⟩
  · have h1 : (n : Int) ≤ at_ := by omega
    go_enter Tryz.func15, Tryz.ntmps15
    go_wp2
    go_ret
    exact ⟨_, rfl, Nat.le_refl _, HB.out, (Only.refl _ _).alloc _⟩

instance int_goodR : GoodR intR := ⟨c1_good _⟩
/-- where a player with one channel stands: its slots, its lap (silence), its samples; X: blocks in which the lap does not lie -/
structure PSt1 (X : Nat → Prop) (B P Q L : Nat) (A : Option Addr) (n c lc m : Nat) (t u : Value) (W : World) : Prop where
  hp : Blk W P 46 #[.int .i64 0, .int .i64 1, .bool false, .int .i64 0, .slice A n c, .slice (some ⟨L, 0, none⟩) 1 lc, .slice (some ⟨Q, 0, none⟩) 1 1]
  hl : ∃ cur, Blk W L 54 cur ∧ cur[0]? = some t ∧ cur[1]? = some (.int .u8 0) ∧ cur[2]? = some (.int .u8 0)
  ht : SlV 1 intR (fun k => (B ≤ k ∧ u.ownBlock ≠ some k) ∧ ¬ X k) W t (List.replicate 256 0)
  hq : Blk W Q 30 #[u]
  hu : Own W B 3 1 u ((List.replicate m (0 : Int)).map i2v)
  bp : B ≤ P
  bq : B ≤ Q
  bl : B ≤ L
  xl : X L
  xq : X Q
section
variable {X : Nat → Prop} {B P Q L : Nat} {A : Option Addr} {n c lc m : Nat} {t u : Value} {w w' : World}
instance mv_pst1 (w w' : World) (X : Nat → Prop) (B P Q L : Nat) (A : Option Addr) (n c lc m : Nat) (t u : Value) : Mv w w' (PSt1 X B P Q L A n c lc m t u w) (PSt1 X B P Q L A n c lc m t u w') :=
  ⟨fun k h => ⟨(mv_blk ..).go k h.hp, (by obtain ⟨cur, h1, h2⟩ := h.hl; exact ⟨cur, (mv_blk ..).go k h1, h2⟩), (mv_slV ..).go k h.ht, (mv_blk ..).go k h.hq, (mv_own ..).go k h.hu, h.bp, h.bq, h.bl, h.xl, h.xq⟩⟩
theorem PSt1.mv_ (f : Only (fun _ => False) w w') (h : PSt1 X B P Q L A n c lc m t u w) : PSt1 X B P Q L A n c lc m t u w' := mv f h
theorem PSt1.more (h : PSt1 X B P Q L A n c lc m t u w) {Y : Nat → Prop} (hy : ∀ k, k < w.heap.size → Y k → X k) (yl : Y L) (yq : Y Q) : PSt1 Y B P Q L A n c lc m t u w :=
  ⟨h.hp, h.hl, h.ht.mono (c1_good _) (fun k hk hd => ⟨hd.1, fun hyk => hd.2 (hy k hk hyk)⟩), h.hq, h.hu, h.bp, h.bq, h.bl, yl, yq⟩
theorem PSt1.far_ (h : PSt1 X B P Q L A n c lc m t u w) {g : Nat} {cs : Array Value} (hg : Blk w g 30 cs) (hx : X g) (hq : Q ≠ g) (v : Value) : PSt1 X B P Q L A n c lc m t u (w.setCell ⟨g, 0, none⟩ v) := by
  obtain ⟨cur, l1, l2⟩ := h.hl
  refine ⟨h.hp.far (h.hp.ne_ hg (by decide)) _, ⟨cur, l1.far (l1.ne_ hg (by decide)) _, l2⟩, ?_, h.hq.far hq _, h.hu.far (h.hu.ne hg (by decide)) _, h.bp, h.bq, h.bl, h.xl, h.xq⟩
  exact h.ht.only (c1_good _) ((Only.refl (fun j => j = g) w).setCell (p := ⟨g, 0, none⟩) (.inl rfl) _) (fun k hk _ hs => hk.2 (hs ▸ hx))
theorem PSt1.drew_ (h : PSt1 X B P Q L A n c lc m t u w) : PSt1 X B P Q L A n c lc m t u w.drew := mv ((Only.refl (fun _ => False) w).drew) h
/-- what lay apart from the samples lies apart from them behind a put, too -/
theorem slv_put {v u' : Value} {l : List Int} (h : SlV 1 intR (fun k => (B ≤ k ∧ u.ownBlock ≠ some k) ∧ ¬ X k) w v l) (xq : X Q) (f : Only (fun j => j = Q ∨ u.ownBlock = some j) w w') (hu : u'.ownBlock = u.ownBlock ∨ u'.ownBlock = some w.heap.size) :
    SlV 1 intR (fun k => (B ≤ k ∧ u'.ownBlock ≠ some k) ∧ ¬ X k) w' v l := by
  refine ((h.mono (D' := fun k => ((B ≤ k ∧ u'.ownBlock ≠ some k) ∧ ¬ X k) ∧ ¬ (k = Q ∨ u.ownBlock = some k)) (c1_good _) (fun k hk hd => ⟨⟨⟨hd.1.1, ?_⟩, hd.2⟩, ?_⟩)).only (c1_good _) f (fun k hk _ hs => hk.2 hs)).mono (c1_good _) (fun k _ hd => hd.1)
  · rcases hu with hu | hu
    · rw [hu]; exact hd.1.2
    · rw [hu]; intro e; injection e with e; omega
  · rintro (h | h)
    · exact hd.2 (h ▸ xq)
    · exact hd.1.2 h
theorem PSt1.put_ (h : PSt1 X B P Q L A n c lc m t u w) {u' : Value} (h1 : Blk w' Q 30 #[u']) (h2 : Own w' B 3 1 u' ((List.replicate m (0 : Int) ++ List.replicate 256 0).map i2v)) (f : Only (fun j => j = Q ∨ u.ownBlock = some j) w w') (hu : u'.ownBlock = u.ownBlock ∨ u'.ownBlock = some w.heap.size) :
    PSt1 X B P Q L A n c lc (m + 256) t u' w' := by
  obtain ⟨cur, l1, l2⟩ := h.hl
  refine ⟨h.hp.only f ?_, ⟨cur, l1.only f ?_, l2⟩, slv_put h.ht h.xq f hu, h1, ?_, h.bp, h.bq, h.bl, h.xl, h.xq⟩
  · rintro (e | e)
    · exact h.hp.ne_ h.hq (by decide) e
    · exact h.hu.ne h.hp (by decide) e
  · rintro (e | e)
    · exact l1.ne_ h.hq (by decide) e
    · exact h.hu.ne l1 (by decide) e
  · rwa [List.replicate_append_replicate] at h2
/-- the lap is another one -/
theorem PSt1.lap_ (h : PSt1 X B P Q L A n c lc m t u w) (t' : Value) (ht : SlV 1 intR (fun k => (B ≤ k ∧ u.ownBlock ≠ some k) ∧ ¬ X k) w t' (List.replicate 256 0)) :
    PSt1 X B P Q L A n c lc m t' u (((w.setCell ⟨L, 0, none⟩ t').setCell ⟨L, 1, none⟩ (.int .u8 0)).setCell ⟨L, 2, none⟩ (.int .u8 0)) := by
  obtain ⟨cur, l1, l2, l3, l4⟩ := h.hl
  have hne : P ≠ L := h.hp.ne_ l1 (by decide)
  have hne2 : Q ≠ L := h.hq.ne_ l1 (by decide)
  have s0 : 0 < cur.size := (Array.getElem?_eq_some_iff.1 l2).1
  have s1 : 1 < cur.size := (Array.getElem?_eq_some_iff.1 l3).1
  have s2 : 2 < cur.size := (Array.getElem?_eq_some_iff.1 l4).1
  have ho : Only (fun j => j = L) w (((w.setCell ⟨L, 0, none⟩ t').setCell ⟨L, 1, none⟩ (.int .u8 0)).setCell ⟨L, 2, none⟩ (.int .u8 0)) :=
    (((Only.refl (fun j => j = L) w).setCell (p := ⟨L, 0, none⟩) (.inl rfl) _).setCell (p := ⟨L, 1, none⟩) (.inl rfl) _).setCell (p := ⟨L, 2, none⟩) (.inl rfl) _
  refine ⟨h.hp.only ho hne, ⟨_, ((l1.set_ 0 _).set_ 1 _).set_ 2 _, ?_, ?_, ?_⟩, ?_, h.hq.only ho hne2, h.hu.only ho (fun k hk he => h.hu.ne l1 (by decide) (he ▸ hk)), h.bp, h.bq, h.bl, h.xl, h.xq⟩
  · simp [s0]
  · simp [s1]
  · simp [s2]
  · exact ht.only (c1_good _) ho (fun k hk _ hs => hk.2 (hs ▸ h.xl))
end
theorem shr_zero (a : Int) : row (shrI (List.replicate 256 0) a) 256 = row (fun _ => 0) 256 := row_ext fun k _ => by
  unfold shrI
  rw [getD_zero _ (rep_zero _)]
  simp
set_option maxHeartbeats 3200000 in
theorem run_zero (B P Q L : Nat) (A : Option Addr) (c lc : Nat) (t u : Value) (w : World) (h : PSt1 (fun k => k = L ∨ k = Q) B P Q L A 2 c lc 0 t u w) :
    Calls Tryz.prog 10 #[.pointer (some ⟨P, 0, none⟩), .int .i64 0, .int .i64 2] w fun e w' => e = .returned (.int .i64 0) ∧ (∃ t' u', PSt1 (fun k => k = L ∨ k = Q) B P Q L A 2 c lc 512 t' u' w') ∧ Only (fun k => B ≤ k) w w' := by
  have H := Lib.hid h
  clear h
  go_enter Tryz.func10, Tryz.ntmps10
  go_wp2_with fail
  refine (sides_out P A 2 c _ _ (-1) w H.out.hp (by omega)).mono ?_
  rintro e w1 ⟨g1, rfl, hg1, b1, f1⟩
  have H1 := Lib.hid (H.out.mv_ f1)
  have F1 := Lib.hid f1
  have B1 := Lib.hid (And.intro hg1 b1)
  have HG1 := Lib.hid hg1
  clear hg1 b1 f1
  go_wp2_with fail
  refine (sides_out P A 2 c _ _ 2 w1 H1.out.hp (by omega)).mono ?_
  rintro e w2 ⟨g2, rfl, hg2, b2, f2⟩
  have H2 := Lib.hid (H1.out.mv_ f2)
  have F2 := Lib.hid (F1.out.trans f2)
  have B2 := Lib.hid (And.intro B1.out.1 (And.intro (mv f2 B1.out.2) (And.intro hg2 (And.intro b2 B1.out.2.lt))))
  clear hg2 b2 f2 H1 F1 B1
  go_wp2
  go_loopw [9] (fun a W => ∃ k : Nat, k ≤ 2 ∧ a = .int .i64 k ∧ Hid (∃ t u ub, PSt1 (fun k => k = L ∨ k = Q ∨ k = g1 ∨ k = g2) B P Q L A 2 c lc (256 * k) t u W ∧ Blk W g1 30 #[ub] ∧ Blk W g2 30 #[.slice none 0 0] ∧ Only (fun j => B ≤ j) w W ∧
    (k = 0 → ub = .slice none 0 0) ∧ (k ≠ 0 → SlV 1 intR (fun j => (B ≤ j ∧ u.ownBlock ≠ some j) ∧ ¬ (j = L ∨ j = Q ∨ j = g1 ∨ j = g2)) W ub (List.replicate 256 0)))) (fun a _ => 2 - (intOf a).toNat)
  case atStart =>
    exact ⟨0, by decide, rfl, Lib.hid ⟨t, u, _, mv F2.out (H.out.more (Y := fun k => k = L ∨ k = Q ∨ k = g1 ∨ k = g2) (fun k hk h => by have h1 := HG1.out; have h2 := B2.out.2.2.1; have h3 := B2.out.2.2.2.2; rcases h with h | h | h | h; exact .inl h; exact .inr h; omega; omega) (.inl rfl) (.inr (.inl rfl))), B2.out.2.1, B2.out.2.2.2.1, F2.out.mono (fun _ _ h => h.elim), fun _ => rfl, fun h => absurd rfl h⟩⟩
  case round =>
    obtain ⟨k, hk, rfl, hs⟩ := hrel
    obtain ⟨t', u', ub, h1, h2, h3, h4, h5, h6⟩ := hs.out
    clear hs
    obtain ⟨At, nt, ct, rfl, hnt, hct⟩ := h1.ht.form'
    rw [List.length_replicate] at hnt
    subst hnt
    obtain ⟨Au, nu, cu, rfl⟩ := h1.hu.form
    obtain ⟨e0, e1, e2, e3, e4, e5, e6⟩ := cells7 h1.hp
    obtain ⟨cur, l0, l1, l2, l3⟩ := h1.hl
    have d0 := (l0.cell 0).trans l1
    have d1 := (l0.cell 1).trans l2
    have d2 := (l0.cell 2).trans l3
    have hg12 : g2 ≠ g1 := by have := B2.out.2.2.1; have := B2.out.2.2.2.2; omega
    have q1 := h2.alloc (.cells #[.slice At 256 ct, .int .u8 0, .int .u8 0] 54)
    have q3 := h3.alloc (.cells #[.slice At 256 ct, .int .u8 0, .int .u8 0] 54)
    have k3 := q3.cell 0
    have q5 := Blk.new wr 54 #[.slice At 256 ct, .int .u8 0, .int .u8 0]
    have HS := Lib.hid (And.intro h1 (And.intro h2 (And.intro h3 h4)))
    have hc : k = 0 ∨ k = 1 ∨ k = 2 := by omega
    have HQ := Lib.hid (And.intro q1 (And.intro q3 q5))
    have FA := Lib.hid ((Only.refl (fun _ => False) wr).alloc (.cells #[.slice At 256 ct, .int .u8 0, .int .u8 0] 54))
    have hmk := fun (W : World) => run_mk intT .i64 .i64 256 256 (by decide) (by decide) (by decide) (by decide) W
    clear h1 l0 l1 l2 l3 h2 h3 h4 q3 q5 hct
    rcases hc with rfl | rfl | rfl
    · obtain rfl := h5 rfl
      clear h5 h6
      have k1 := q1.cell 0
      have q2 := q1.alloc (.cells (madeCells #[.int .i64 0] 256) 3)
      have q4 := (HQ.out.2.1.alloc (.cells (madeCells #[.int .i64 0] 256) 3)).far (p := ⟨g1, 0, none⟩) hg12 (.slice (some ⟨wr.heap.size + 1, 0, none⟩) 256 256)
      have m1 := q2.cell 0
      have m2 := q2.frozen 0
      have m3 := (q2.set_ 0 (.slice (some ⟨wr.heap.size + 1, 0, none⟩) 256 256)).cell 0
      have m4 := q4.cell 0
      have HX := Lib.hid (q2.set_ 0 (.slice (some ⟨wr.heap.size + 1, 0, none⟩) 256 256))
      have HX4 := Lib.hid q4
      clear hg12 q2 q4 q1
      go_wp2
      refine wp_loop_rounds 2 ?_
      rw [rounds_succ]
      go_wp2
      clear m1 m2 m3 m4 k1 k3 hmk d0 d1 d2 e0 e1 e2 e3 e4 e5 e6
      obtain ⟨W3, hW3⟩ : ∃ W3, ((wr.alloc (.cells #[.slice At 256 ct, .int .u8 0, .int .u8 0] 54)).alloc (.cells (madeCells #[.int .i64 0] 256) 3)).setCell ⟨g1, 0, none⟩ (.slice (some ⟨wr.heap.size + 1, 0, none⟩) 256 256) = W3 := ⟨_, rfl⟩
      have F3 : Hid (Only (fun j => j = g1) wr W3) := Lib.hid (by rw [← hW3]; exact ((((Only.refl (fun j => j = g1) wr).alloc _).alloc _).setCell (.inl rfl) _))
      have nb : Blk W3 (wr.heap.size + 1) 3 (row (fun _ => 0) 256) := by
        rw [← hW3]
        have := (Blk.new (wr.alloc (.cells #[.slice At 256 ct, .int .u8 0, .int .u8 0] 54)) 3 (madeCells #[.int .i64 0] (256 * 1))).far (p := ⟨g1, 0, none⟩) (by have := HS.out.2.1.lt; rw [World.size_alloc]; dsimp only; omega) (.slice (some ⟨wr.heap.size + 1, 0, none⟩) 256 256)
        rw [made1, row_replicate, World.size_alloc] at this
        rw [show madeCells #[Value.int .i64 0] 256 = row (fun _ => 0) 256 from (made1 _ 256).trans (row_replicate _ _)]
        exact this
      have FB := Lib.hid (FA.out.alloc (.cells (madeCells #[.int .i64 0] 256) 3))
      have S3 : Hid (PSt1 (fun k => k = L ∨ k = Q ∨ k = g1 ∨ k = g2) B P Q L A 2 c lc 0 (.slice At 256 ct) (.slice Au nu cu) W3) := Lib.hid (by
        rw [← hW3]
        exact (mv FB.out HS.out.1).far_ (mv FB.out HS.out.2.1) (.inr (.inr (.inl rfl))) (by have := H.out.hq.lt; have := HG1.out; omega) _)
      have A3 : Hid (Blk W3 wr.heap.size 54 #[.slice At 256 ct, .int .u8 0, .int .u8 0]) := Lib.hid (by
        rw [← hW3]
        exact (HQ.out.2.2.alloc _).far (by have := HS.out.2.1.lt; dsimp only; omega) _)
      have U3 : Hid (Blk W3 g1 30 #[.slice (some ⟨wr.heap.size + 1, 0, none⟩) 256 256] ∧ SlV 1 intR (fun j => (B ≤ j ∧ (Value.slice Au nu cu).ownBlock ≠ some j) ∧ ¬ (j = L ∨ j = Q ∨ j = g1 ∨ j = g2)) W3 (.slice (some ⟨wr.heap.size + 1, 0, none⟩) 256 256) (List.replicate 256 0)) := Lib.hid (by
        refine ⟨by rw [← hW3]; exact HX.out, ?_⟩
        have hs := row_slV nb (by decide)
        rw [show (List.range 256).map (fun _ => (0 : Int)) = List.replicate 256 0 by rw [List.map_const', List.length_range]] at hs
        refine hs.mono (c1_good _) (fun k hk h => ?_)
        subst h
        obtain ⟨h1, h2, h3, h4⟩ := HS.out
        obtain ⟨cur', l1', _⟩ := h1.hl
        have := h1.hq.lt
        have := h2.lt
        have := h3.lt
        have := l1'.lt
        have := h1.bl
        refine ⟨⟨by omega, fun hu => ?_⟩, by omega⟩
        have := (h1.hu.lt _ hu).2
        omega)
      have Z3 : Hid (Blk W3 g2 30 #[.slice none 0 0]) := Lib.hid (by rw [← hW3]; exact HX4.out)
      have O3 : Hid (Only (fun j => B ≤ j) w W3) := Lib.hid (HS.out.2.2.2.trans' F3.out (fun i hi h => by have := HG1.out; have := H.out.bp; have := H.out.hp.lt; omega))
      rw [hW3]
      clear hW3 nb F3 HX HX4 HQ FA FB HS
      have r1 := U3.out.1.cell 0
      have r2 := Z3.out.cell 0
      go_region_with (go_at_call 16; refine (loseShr (List.replicate 256 0) _ _ _ _ W3.drew U3.out.2 (by simp) (zero_any _ (by decide) _ (rep_zero _)) (by decide) (by decide) (by decide) (by decide)).mono ?_; rintro e w4 ⟨g4, rfl, hg4, b4, f4⟩; have HG4 := Lib.hid hg4; have B4 := Lib.hid b4; have F4 := Lib.hid (((Only.refl (fun _ => False) W3).drew).trans f4); clear hg4 b4 f4)
      all_goals
        clear r1 r2
        have S4 := Lib.hid (mv F4.out S3.out)
        have A4 := Lib.hid (mv F4.out A3.out)
        have U4 := Lib.hid (mv F4.out U3.out)
        have Z4 := Lib.hid (mv F4.out Z3.out)
        have O4 := Lib.hid (O3.out.trans' F4.out (fun _ _ h => h.elim))
        have X4 : Hid (SlV 1 intR (fun k => k = g4) w4 (.slice (some ⟨g4, 0, none⟩) 256 256) (List.replicate 256 0)) := Lib.hid (by
          have hs := B4.out
          rw [shr_zero] at hs
          have hs := row_slV hs (by decide)
          rwa [show (List.range 256).map (fun _ => (0 : Int)) = List.replicate 256 0 by rw [List.map_const', List.length_range]] at hs)
        have LA : Hid (wr.heap.size < w4.heap.size) := Lib.hid A4.out.lt
        have FR : Hid (∀ k, w4.heap.size ≤ k → (B ≤ k ∧ (Value.slice Au nu cu).ownBlock ≠ some k) ∧ ¬ (k = L ∨ k = Q ∨ k = g1 ∨ k = g2)) := Lib.hid (fun k hk => by
          obtain ⟨cur4, l4, _⟩ := S4.out.hl
          have h1 := S4.out.hq.lt
          have h2 := l4.lt
          have h3 := U4.out.1.lt
          have h4 := Z4.out.lt
          have h5 := S4.out.bq
          refine ⟨⟨by omega, fun hu => ?_⟩, by omega⟩
          have := (S4.out.hu.lt _ hu).2
          omega)
        clear S3 A3 U3 Z3 O3 B4 F4 HG4
        obtain ⟨a0, a1, a2⟩ := cells3 A4.out
        go_wp2_with fail
        refine (loseSeq_zero _).mono ?_
        rintro e w5 ⟨rfl, rfl⟩
        go_wp2_with fail
        refine (lapNext_zero (List.replicate 256 0) (fun k => k < w4.heap.size) _ _ _ w4 (S4.out.ht.mono (c1_good _) (fun k hk _ => hk)) (fun _ h => h) X4.out (by simp) (rep_zero _)).mono ?_
        rintro e w6 ⟨v1, v2, rfl, s1, s2, f6⟩
        obtain ⟨Av, nv, cv, rfl, hnv, hcv⟩ := s1.form'
        rw [List.length_replicate] at hnv
        subst hnv
        obtain ⟨Aw, nw, cw, rfl, hnw, hcw⟩ := s2.form'
        rw [List.length_replicate] at hnw
        subst hnw
        have S6 := Lib.hid (mv f6 S4.out)
        have U6 := Lib.hid (mv f6 U4.out)
        have Z6 := Lib.hid (mv f6 Z4.out)
        have O6 := Lib.hid (O4.out.trans' f6 (fun _ _ h => h.elim))
        have V1 := Lib.hid s1
        have V2 := Lib.hid s2
        have L6 := Lib.hid f6.size
        clear S4 A4 U4 Z4 O4 X4 s1 s2 f6 hcv hcw a0 a1 a2
        have P6 := S6.out.hp.alloc (.cells #[.slice Av 256 cv, .int .u8 0, .int .u8 0] 54)
        have p5 := P6.cell 5
        obtain ⟨cur6, l0, l1, l2, l3⟩ := S6.out.hl
        have L7 := l0.alloc (.cells #[.slice Av 256 cv, .int .u8 0, .int .u8 0] 54)
        have d0 := (L7.cell 0).trans l1
        have d1 := (L7.cell 1).trans l2
        have d2 := (L7.cell 2).trans l3
        have z0 := L7.frozen 0
        have z1 := L7.frozen 1
        have z2 := L7.frozen 2
        clear P6 l0 l1 l2 l3 L7
        go_wp2
        generalize hW7 : World.alloc _ _ = W7 at *
        have S7 : Hid (PSt1 (fun k => k = L ∨ k = Q ∨ k = g1 ∨ k = g2) B P Q L A 2 c lc _ (.slice At 256 ct) (.slice Au nu cu) W7) := Lib.hid (by rw [← hW7]; exact mv ((Only.refl _ w6).alloc _) S6.out)
        have U7 := Lib.hid (mv ((Only.refl _ w6).alloc (.cells #[.slice Av 256 cv, .int .u8 0, .int .u8 0] 54)) U6.out)
        rw [hW7] at U7
        have Z7 := Lib.hid (mv ((Only.refl _ w6).alloc (.cells #[.slice Av 256 cv, .int .u8 0, .int .u8 0] 54)) Z6.out)
        rw [hW7] at Z7
        have V17 := Lib.hid (V1.out.alloc (c1_good _) (.cells #[.slice Av 256 cv, .int .u8 0, .int .u8 0] 54))
        rw [hW7] at V17
        have V27 := Lib.hid (V2.out.alloc (c1_good _) (.cells #[.slice Av 256 cv, .int .u8 0, .int .u8 0] 54))
        rw [hW7] at V27
        have O7 := Lib.hid (O6.out.alloc (.cells #[.slice Av 256 cv, .int .u8 0, .int .u8 0] 54))
        rw [hW7] at O7
        have E7 : Hid (Blk W7 w6.heap.size 54 #[.slice Av 256 cv, .int .u8 0, .int .u8 0]) := Lib.hid (by rw [← hW7]; exact Blk.new _ _ _)
        obtain ⟨a0, a1, a2⟩ := cells3 E7.out
        clear hW7 S6 U6 Z6 V1 V2 O6
        go_region
        clear a0 a1 a2 d0 d1 d2 z0 z1 z2 p5
        obtain ⟨W8, hW8⟩ : ∃ W8, (((W7.setCell ⟨L, 0, none⟩ (.slice Av 256 cv)).setCell ⟨L, 1, none⟩ (.int .u8 0)).setCell ⟨L, 2, none⟩ (.int .u8 0)).drew = W8 := ⟨_, rfl⟩
        have OL : Hid (Only (fun j => j = L) W7 W8) := Lib.hid (by rw [← hW8]; exact ((((Only.refl (fun j => j = L) W7).setCell (p := ⟨L, 0, none⟩) (.inl rfl) _).setCell (p := ⟨L, 1, none⟩) (.inl rfl) _).setCell (p := ⟨L, 2, none⟩) (.inl rfl) _).drew)
        have hfr : ∀ k, w4.heap.size ≤ k → (B ≤ k ∧ (Value.slice Au nu cu).ownBlock ≠ some k) ∧ ¬ (k = L ∨ k = Q ∨ k = g1 ∨ k = g2) := FR.out
        have S8 : Hid (PSt1 (fun k => k = L ∨ k = Q ∨ k = g1 ∨ k = g2) B P Q L A 2 c lc _ (.slice Av 256 cv) (.slice Au nu cu) W8) := Lib.hid (by
          rw [← hW8]
          exact (S7.out.lap_ _ (V17.out.mono (c1_good _) (fun k _ h => hfr k h))).drew_)
        have hLg : L ≠ g1 ∧ L ≠ g2 := by
          obtain ⟨cur7, l7, _⟩ := S7.out.hl
          exact ⟨l7.ne_ U7.out.1 (by decide), l7.ne_ Z7.out (by decide)⟩
        have U8 : Hid (Blk W8 g1 30 #[_] ∧ SlV 1 intR (fun j => (B ≤ j ∧ (Value.slice Au nu cu).ownBlock ≠ some j) ∧ ¬ (j = L ∨ j = Q ∨ j = g1 ∨ j = g2)) W8 _ (List.replicate 256 0)) := Lib.hid ⟨U7.out.1.only OL.out (Ne.symm hLg.1), U7.out.2.only (c1_good _) OL.out (fun k hk _ hs => hk.2 (.inl hs))⟩
        have Z8 := Lib.hid (Z7.out.only OL.out (Ne.symm hLg.2))
        have V28 := Lib.hid (V27.out.only (c1_good _) OL.out (fun k hk _ hs => (hfr k hk).2 (.inl hs)))
        have O8 := Lib.hid (O7.out.trans' OL.out (fun i hi h => by subst h; exact S7.out.bl))
        rw [hW8]
        clear hW8 hfr hLg S7 U7 Z7 V17 V27 O7 OL E7
        go_wp2_with fail
        refine (put_any P Q _ _ _ _ _ _ 1 #[.slice Au nu cu] 0 (.slice Au nu cu) (List.replicate _ 0) (List.replicate 256 0) B (fun k => w4.heap.size ≤ k) _ W8 S8.out.hp S8.out.hq rfl (by decide) S8.out.hu (by have := S8.out.hq.lt; have := S8.out.bq; omega) V28.out (by first | (rw [List.length_replicate, List.length_replicate]; decide) | decide)).mono ?_
        rintro e w9 ⟨rfl, u9, q9, o9, f9, hu9⟩
        have S9 := Lib.hid (S8.out.put_ q9 o9 f9 hu9)
        have U9 := Lib.hid (And.intro (U8.out.1.only f9 (fun h => by rcases h with h | h; exact (show g1 ≠ Q from (by have := H.out.hq.lt; have := HG1.out; omega)) h; exact S8.out.hu.ne U8.out.1 (by decide) h)) (slv_put U8.out.2 S8.out.xq f9 hu9))
        have Z9 := Lib.hid (Z8.out.only f9 (fun h => by rcases h with h | h; exact (show g2 ≠ Q from (by have := H.out.hq.lt; have := HG1.out; have := B2.out.2.2.1; have := B2.out.2.2.2.2; omega)) h; exact S8.out.hu.ne Z8.out (by decide) h))
        have O9 := Lib.hid (O8.out.trans' f9 (fun i hi h => by
          rcases h with h | h
          · subst h; exact S8.out.bq
          · exact (S8.out.hu.lt _ h).1))
        clear q9 o9 f9 hu9 S8 U8 Z8 V28 O8
        go_wp2
        rw [rounds_succ]
        go_wp2
        first
          | exact ⟨⟨1, by decide, rfl, Lib.hid ⟨_, _, _, S9.out, U9.out.1, Z9.out, O9.out, (fun h => absurd h (by decide)), fun _ => U9.out.2⟩⟩, by decide⟩
          | exact ⟨⟨2, by decide, rfl, Lib.hid ⟨_, _, _, S9.out, U9.out.1, Z9.out, O9.out, (fun h => absurd h (by decide)), fun _ => U9.out.2⟩⟩, by decide⟩
    · have hs := h6 (by decide)
      obtain ⟨Ab, nb, cb, rfl, hnb, hcb⟩ := hs.form'
      rw [List.length_replicate] at hnb
      subst hnb
      have k1 := q1.cell 0
      have HB := Lib.hid hs
      clear h5 h6 hs hg12 q1 hcb
      go_wp2
      refine wp_loop_rounds 2 ?_
      rw [rounds_succ]
      go_wp2
      clear k1 k3 hmk d0 d1 d2 e0 e1 e2 e3 e4 e5 e6
      obtain ⟨W3, hW3⟩ : ∃ W3, wr.alloc (.cells #[.slice At 256 ct, .int .u8 0, .int .u8 0] 54) = W3 := ⟨_, rfl⟩
      have S3 : Hid (PSt1 (fun k => k = L ∨ k = Q ∨ k = g1 ∨ k = g2) B P Q L A 2 c lc 256 (.slice At 256 ct) (.slice Au nu cu) W3) := Lib.hid (by rw [← hW3]; exact mv FA.out HS.out.1)
      have A3 : Hid (Blk W3 wr.heap.size 54 #[.slice At 256 ct, .int .u8 0, .int .u8 0]) := Lib.hid (by rw [← hW3]; exact HQ.out.2.2)
      have U3 : Hid (Blk W3 g1 30 #[.slice Ab 256 cb] ∧ SlV 1 intR (fun j => (B ≤ j ∧ (Value.slice Au nu cu).ownBlock ≠ some j) ∧ ¬ (j = L ∨ j = Q ∨ j = g1 ∨ j = g2)) W3 (.slice Ab 256 cb) (List.replicate 256 0)) := Lib.hid (by rw [← hW3]; exact ⟨HQ.out.1, HB.out.alloc (c1_good _) _⟩)
      have Z3 : Hid (Blk W3 g2 30 #[.slice none 0 0]) := Lib.hid (by rw [← hW3]; exact HQ.out.2.1)
      have O3 : Hid (Only (fun j => B ≤ j) w W3) := Lib.hid (by rw [← hW3]; exact HS.out.2.2.2.alloc _)
      rw [hW3]
      clear hW3 HB HQ FA HS
      have r1 := U3.out.1.cell 0
      have r2 := Z3.out.cell 0
      go_region_with (go_at_call 16; refine (loseShr (List.replicate 256 0) _ _ _ _ W3.drew U3.out.2 (by simp) (zero_any _ (by decide) _ (rep_zero _)) (by decide) (by decide) (by decide) (by decide)).mono ?_; rintro e w4 ⟨g4, rfl, hg4, b4, f4⟩; have HG4 := Lib.hid hg4; have B4 := Lib.hid b4; have F4 := Lib.hid (((Only.refl (fun _ => False) W3).drew).trans f4); clear hg4 b4 f4)
      all_goals
        clear r1 r2
        have S4 := Lib.hid (mv F4.out S3.out)
        have A4 := Lib.hid (mv F4.out A3.out)
        have U4 := Lib.hid (mv F4.out U3.out)
        have Z4 := Lib.hid (mv F4.out Z3.out)
        have O4 := Lib.hid (O3.out.trans' F4.out (fun _ _ h => h.elim))
        have X4 : Hid (SlV 1 intR (fun k => k = g4) w4 (.slice (some ⟨g4, 0, none⟩) 256 256) (List.replicate 256 0)) := Lib.hid (by
          have hs := B4.out
          rw [shr_zero] at hs
          have hs := row_slV hs (by decide)
          rwa [show (List.range 256).map (fun _ => (0 : Int)) = List.replicate 256 0 by rw [List.map_const', List.length_range]] at hs)
        have LA : Hid (wr.heap.size < w4.heap.size) := Lib.hid A4.out.lt
        have FR : Hid (∀ k, w4.heap.size ≤ k → (B ≤ k ∧ (Value.slice Au nu cu).ownBlock ≠ some k) ∧ ¬ (k = L ∨ k = Q ∨ k = g1 ∨ k = g2)) := Lib.hid (fun k hk => by
          obtain ⟨cur4, l4, _⟩ := S4.out.hl
          have h1 := S4.out.hq.lt
          have h2 := l4.lt
          have h3 := U4.out.1.lt
          have h4 := Z4.out.lt
          have h5 := S4.out.bq
          refine ⟨⟨by omega, fun hu => ?_⟩, by omega⟩
          have := (S4.out.hu.lt _ hu).2
          omega)
        clear S3 A3 U3 Z3 O3 B4 F4 HG4
        obtain ⟨a0, a1, a2⟩ := cells3 A4.out
        go_wp2_with fail
        refine (loseSeq_zero _).mono ?_
        rintro e w5 ⟨rfl, rfl⟩
        go_wp2_with fail
        refine (lapNext_zero (List.replicate 256 0) (fun k => k < w4.heap.size) _ _ _ w4 (S4.out.ht.mono (c1_good _) (fun k hk _ => hk)) (fun _ h => h) X4.out (by simp) (rep_zero _)).mono ?_
        rintro e w6 ⟨v1, v2, rfl, s1, s2, f6⟩
        obtain ⟨Av, nv, cv, rfl, hnv, hcv⟩ := s1.form'
        rw [List.length_replicate] at hnv
        subst hnv
        obtain ⟨Aw, nw, cw, rfl, hnw, hcw⟩ := s2.form'
        rw [List.length_replicate] at hnw
        subst hnw
        have S6 := Lib.hid (mv f6 S4.out)
        have U6 := Lib.hid (mv f6 U4.out)
        have Z6 := Lib.hid (mv f6 Z4.out)
        have O6 := Lib.hid (O4.out.trans' f6 (fun _ _ h => h.elim))
        have V1 := Lib.hid s1
        have V2 := Lib.hid s2
        have L6 := Lib.hid f6.size
        clear S4 A4 U4 Z4 O4 X4 s1 s2 f6 hcv hcw a0 a1 a2
        have P6 := S6.out.hp.alloc (.cells #[.slice Av 256 cv, .int .u8 0, .int .u8 0] 54)
        have p5 := P6.cell 5
        obtain ⟨cur6, l0, l1, l2, l3⟩ := S6.out.hl
        have L7 := l0.alloc (.cells #[.slice Av 256 cv, .int .u8 0, .int .u8 0] 54)
        have d0 := (L7.cell 0).trans l1
        have d1 := (L7.cell 1).trans l2
        have d2 := (L7.cell 2).trans l3
        have z0 := L7.frozen 0
        have z1 := L7.frozen 1
        have z2 := L7.frozen 2
        clear P6 l0 l1 l2 l3 L7
        go_wp2
        generalize hW7 : World.alloc _ _ = W7 at *
        have S7 : Hid (PSt1 (fun k => k = L ∨ k = Q ∨ k = g1 ∨ k = g2) B P Q L A 2 c lc _ (.slice At 256 ct) (.slice Au nu cu) W7) := Lib.hid (by rw [← hW7]; exact mv ((Only.refl _ w6).alloc _) S6.out)
        have U7 := Lib.hid (mv ((Only.refl _ w6).alloc (.cells #[.slice Av 256 cv, .int .u8 0, .int .u8 0] 54)) U6.out)
        rw [hW7] at U7
        have Z7 := Lib.hid (mv ((Only.refl _ w6).alloc (.cells #[.slice Av 256 cv, .int .u8 0, .int .u8 0] 54)) Z6.out)
        rw [hW7] at Z7
        have V17 := Lib.hid (V1.out.alloc (c1_good _) (.cells #[.slice Av 256 cv, .int .u8 0, .int .u8 0] 54))
        rw [hW7] at V17
        have V27 := Lib.hid (V2.out.alloc (c1_good _) (.cells #[.slice Av 256 cv, .int .u8 0, .int .u8 0] 54))
        rw [hW7] at V27
        have O7 := Lib.hid (O6.out.alloc (.cells #[.slice Av 256 cv, .int .u8 0, .int .u8 0] 54))
        rw [hW7] at O7
        have E7 : Hid (Blk W7 w6.heap.size 54 #[.slice Av 256 cv, .int .u8 0, .int .u8 0]) := Lib.hid (by rw [← hW7]; exact Blk.new _ _ _)
        obtain ⟨a0, a1, a2⟩ := cells3 E7.out
        clear hW7 S6 U6 Z6 V1 V2 O6
        go_region
        clear a0 a1 a2 d0 d1 d2 z0 z1 z2 p5
        obtain ⟨W8, hW8⟩ : ∃ W8, (((W7.setCell ⟨L, 0, none⟩ (.slice Av 256 cv)).setCell ⟨L, 1, none⟩ (.int .u8 0)).setCell ⟨L, 2, none⟩ (.int .u8 0)).drew = W8 := ⟨_, rfl⟩
        have OL : Hid (Only (fun j => j = L) W7 W8) := Lib.hid (by rw [← hW8]; exact ((((Only.refl (fun j => j = L) W7).setCell (p := ⟨L, 0, none⟩) (.inl rfl) _).setCell (p := ⟨L, 1, none⟩) (.inl rfl) _).setCell (p := ⟨L, 2, none⟩) (.inl rfl) _).drew)
        have hfr : ∀ k, w4.heap.size ≤ k → (B ≤ k ∧ (Value.slice Au nu cu).ownBlock ≠ some k) ∧ ¬ (k = L ∨ k = Q ∨ k = g1 ∨ k = g2) := FR.out
        have S8 : Hid (PSt1 (fun k => k = L ∨ k = Q ∨ k = g1 ∨ k = g2) B P Q L A 2 c lc _ (.slice Av 256 cv) (.slice Au nu cu) W8) := Lib.hid (by
          rw [← hW8]
          exact (S7.out.lap_ _ (V17.out.mono (c1_good _) (fun k _ h => hfr k h))).drew_)
        have hLg : L ≠ g1 ∧ L ≠ g2 := by
          obtain ⟨cur7, l7, _⟩ := S7.out.hl
          exact ⟨l7.ne_ U7.out.1 (by decide), l7.ne_ Z7.out (by decide)⟩
        have U8 : Hid (Blk W8 g1 30 #[_] ∧ SlV 1 intR (fun j => (B ≤ j ∧ (Value.slice Au nu cu).ownBlock ≠ some j) ∧ ¬ (j = L ∨ j = Q ∨ j = g1 ∨ j = g2)) W8 _ (List.replicate 256 0)) := Lib.hid ⟨U7.out.1.only OL.out (Ne.symm hLg.1), U7.out.2.only (c1_good _) OL.out (fun k hk _ hs => hk.2 (.inl hs))⟩
        have Z8 := Lib.hid (Z7.out.only OL.out (Ne.symm hLg.2))
        have V28 := Lib.hid (V27.out.only (c1_good _) OL.out (fun k hk _ hs => (hfr k hk).2 (.inl hs)))
        have O8 := Lib.hid (O7.out.trans' OL.out (fun i hi h => by subst h; exact S7.out.bl))
        rw [hW8]
        clear hW8 hfr hLg S7 U7 Z7 V17 V27 O7 OL E7
        go_wp2_with fail
        refine (put_any P Q _ _ _ _ _ _ 1 #[.slice Au nu cu] 0 (.slice Au nu cu) (List.replicate _ 0) (List.replicate 256 0) B (fun k => w4.heap.size ≤ k) _ W8 S8.out.hp S8.out.hq rfl (by decide) S8.out.hu (by have := S8.out.hq.lt; have := S8.out.bq; omega) V28.out (by first | (rw [List.length_replicate, List.length_replicate]; decide) | decide)).mono ?_
        rintro e w9 ⟨rfl, u9, q9, o9, f9, hu9⟩
        have S9 := Lib.hid (S8.out.put_ q9 o9 f9 hu9)
        have U9 := Lib.hid (And.intro (U8.out.1.only f9 (fun h => by rcases h with h | h; exact (show g1 ≠ Q from (by have := H.out.hq.lt; have := HG1.out; omega)) h; exact S8.out.hu.ne U8.out.1 (by decide) h)) (slv_put U8.out.2 S8.out.xq f9 hu9))
        have Z9 := Lib.hid (Z8.out.only f9 (fun h => by rcases h with h | h; exact (show g2 ≠ Q from (by have := H.out.hq.lt; have := HG1.out; have := B2.out.2.2.1; have := B2.out.2.2.2.2; omega)) h; exact S8.out.hu.ne Z8.out (by decide) h))
        have O9 := Lib.hid (O8.out.trans' f9 (fun i hi h => by
          rcases h with h | h
          · subst h; exact S8.out.bq
          · exact (S8.out.hu.lt _ h).1))
        clear q9 o9 f9 hu9 S8 U8 Z8 V28 O8
        go_wp2
        rw [rounds_succ]
        go_wp2
        first
          | exact ⟨⟨1, by decide, rfl, Lib.hid ⟨_, _, _, S9.out, U9.out.1, Z9.out, O9.out, (fun h => absurd h (by decide)), fun _ => U9.out.2⟩⟩, by decide⟩
          | exact ⟨⟨2, by decide, rfl, Lib.hid ⟨_, _, _, S9.out, U9.out.1, Z9.out, O9.out, (fun h => absurd h (by decide)), fun _ => U9.out.2⟩⟩, by decide⟩
    · clear h5 h6 q1 k3 hg12
      go_wp2
      go_ret
      obtain ⟨h1, h2, h3, h4⟩ := HS.out
      exact ⟨rfl, ⟨_, _, h1.more (fun k _ h => by rcases h with h | h <;> simp [h]) (.inl rfl) (.inr rfl)⟩, h4⟩
end Go.Proofs.YtdadknejmnnkiaaGreat
