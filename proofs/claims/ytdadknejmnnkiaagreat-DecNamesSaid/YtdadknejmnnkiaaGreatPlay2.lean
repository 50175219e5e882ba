import Derived.Test.YtdadknejmnnkiaaGreatRun
namespace Go.Proofs.YtdadknejmnnkiaaGreat
open Go Go.RowKit
set_option maxRecDepth 100000

/-- two lost slots -/
def lost2 : Array Value := #[.int .i64 0, .int .i64 0, .bool true, .slice none 0 0, .bool false, .int .i64 0, .slice none 0 0, .slice none 0 0, .int .i64 0, .int .i64 0, .bool true, .slice none 0 0, .bool false, .int .i64 0, .slice none 0 0, .slice none 0 0]
/-- an own row of three cells, as a block -/
theorem own3 {w : World} {base : Nat} {e : TypeId} {v x y z : Value} (h : Own w base e 3 v [x, y, z]) : ∃ L c cur, v = .slice (some ⟨L, 0, none⟩) 1 c ∧ base ≤ L ∧ Blk w L e cur ∧ cur[0]? = some x ∧ cur[1]? = some y ∧ cur[2]? = some z := by
  obtain ⟨n, h1, h2⟩ := h
  have hn : n = 1 := by simp at h1; omega
  subst hn
  rcases h2 with ⟨_, h0⟩ | ⟨g, cap, cur, hv, hb, hh, _, _, _, ht⟩
  · cases h0
  · refine ⟨g, cap, cur, hv, hb, hh, ?_, ?_, ?_⟩
    · have := congrArg (fun l => l[0]?) ht; simpa using this
    · have := congrArg (fun l => l[1]?) ht; simpa using this
    · have := congrArg (fun l => l[2]?) ht; simpa using this

set_option maxHeartbeats 1600000 in
theorem playLost (G : Nat) (w : World) (hb : Blk w G 39 lost2) :
    Calls Tryz.prog 4 #[.agg #[.int .i64 0, .int .i64 1, .bool false, .int .i64 0], .slice (some ⟨G, 0, none⟩) 2 2] w fun e w' => ∃ Q u, e = .returned (.tuple #[.slice (some ⟨Q, 0, none⟩) 1 1, .int .i64 0]) ∧ Blk w' Q 30 #[u] ∧ Own w' w.heap.size 3 1 u ((List.replicate 512 (0 : Int)).map i2v) ∧ Only (fun _ => False) w w' := by
  have hmk := fun (W : World) => run_mk listT .i64 .i64 1 1 (by decide) (by decide) (by decide) (by decide) W
  have HB := Lib.hid hb
  clear hb
  go_enter Tryz.func4, Tryz.ntmps4
  go_wp2_with fail
  generalize hW : World.alloc _ _ = W1
  obtain ⟨b1, f0⟩ := news1 hW
  clear hW
  refine (decOdd_one _).mono ?_
  rintro e w1 ⟨rfl, f1⟩
  replace b1 := mv f1 b1
  obtain ⟨c0, c1, c2, c3⟩ := cells4 b1
  have g1 := mv (f0.trans f1) HB.out
  have B1 := Lib.hid (And.intro b1 (And.intro g1 (f0.trans f1)))
  have s0 : w1.cell? ⟨G, 0, none⟩ = some (.int .i64 0) := g1.cell 0
  have s1 : w1.cell? ⟨G, 1, none⟩ = some (.int .i64 0) := g1.cell 1
  have s2 : w1.cell? ⟨G, 2, none⟩ = some (.bool true) := g1.cell 2
  have s3 : w1.cell? ⟨G, 3, none⟩ = some (.slice none 0 0) := g1.cell 3
  have s4 : w1.cell? ⟨G, 4, none⟩ = some (.bool false) := g1.cell 4
  have s5 : w1.cell? ⟨G, 5, none⟩ = some (.int .i64 0) := g1.cell 5
  have s6 : w1.cell? ⟨G, 6, none⟩ = some (.slice none 0 0) := g1.cell 6
  have s7 : w1.cell? ⟨G, 7, none⟩ = some (.slice none 0 0) := g1.cell 7
  have G1 := Lib.hid g1
  clear f0 f1 g1 b1
  go_wp2
  refine wp_loop_rounds 3 ?_
  rw [rounds_succ]
  go_wp2
  obtain ⟨W2, hW2⟩ : ∃ W2, w1.alloc (.cells #[.int .i64 0, .int .i64 0, .bool true, .slice none 0 0, .bool false, .int .i64 0, .slice none 0 0, .slice none 0 0] 39) = W2 := ⟨_, rfl⟩
  rw [hW2]
  have FW2 : Hid (Only (fun _ => False) w1 W2) := Lib.hid (by rw [← hW2]; exact (Only.refl _ _).alloc _)
  have g2 := mv FW2.out G1.out
  clear s0 s1 s2 s3 s4 s5 s6 s7 c0 c1 c2 c3 hW2
  have r0 : W2.cell? ⟨G, 8, none⟩ = some (.int .i64 0) := g2.cell 8
  have r1 : W2.cell? ⟨G, 9, none⟩ = some (.int .i64 0) := g2.cell 9
  have r2 : W2.cell? ⟨G, 10, none⟩ = some (.bool true) := g2.cell 10
  have r3 : W2.cell? ⟨G, 11, none⟩ = some (.slice none 0 0) := g2.cell 11
  have r4 : W2.cell? ⟨G, 12, none⟩ = some (.bool false) := g2.cell 12
  have r5 : W2.cell? ⟨G, 13, none⟩ = some (.int .i64 0) := g2.cell 13
  have r6 : W2.cell? ⟨G, 14, none⟩ = some (.slice none 0 0) := g2.cell 14
  have r7 : W2.cell? ⟨G, 15, none⟩ = some (.slice none 0 0) := g2.cell 15
  have x1 : (W2.alloc (.cells #[.int .i64 0, .int .i64 0, .bool true, .slice none 0 0, .bool false, .int .i64 0, .slice none 0 0, .slice none 0 0] 39)).cell? ⟨w.heap.size, 1, none⟩ = some (.int .i64 1) := ((mv FW2.out B1.out.1).alloc (.cells #[.int .i64 0, .int .i64 0, .bool true, .slice none 0 0, .bool false, .int .i64 0, .slice none 0 0, .slice none 0 0] 39)).cell 1
  clear g2
  rw [rounds_succ]
  go_wp2
  rw [rounds_succ]
  go_wp2_with fail
  obtain ⟨W3, hW3⟩ : ∃ W3, W2.alloc (.cells #[.int .i64 0, .int .i64 0, .bool true, .slice none 0 0, .bool false, .int .i64 0, .slice none 0 0, .slice none 0 0] 39) = W3 := ⟨_, rfl⟩
  rw [hW3]
  have F3 : Hid (Only (fun _ => False) w1 W3) := Lib.hid (by rw [← hW3]; exact FW2.out.alloc _)
  clear r0 r1 r2 r3 r4 r5 r6 r7 x1 hW3 FW2 G1
  refine (synthNew_one _).mono ?_
  rintro e w2 ⟨v, g, rfl, hg, b2, o2, f2⟩
  have B2 := Lib.hid (mv (F3.out.trans f2) B1.out.1)
  have G2 := Lib.hid (mv (F3.out.trans f2) B1.out.2.1)
  have F2 := Lib.hid (B1.out.2.2.trans (F3.out.trans f2))
  have HG := Lib.hid (Nat.le_trans (size_le (B1.out.2.2.trans F3.out)) hg)
  have HP := Lib.hid b2
  obtain ⟨L, lc, cur, rfl, hL, bL, l1, l2, l3⟩ := own3 o2
  have HO := Lib.hid (show ∃ cur, Blk w2 L 54 cur ∧ cur[0]? = some (.slice (some ⟨g, 0, none⟩) 256 256) ∧ cur[1]? = some (.int .u8 0) ∧ cur[2]? = some (.int .u8 0) from ⟨cur, bL, l1, l2, l3⟩)
  have HO2 := Lib.hid o2
  have HL := Lib.hid (Nat.le_trans (size_le (B1.out.2.2.trans F3.out)) hL)
  obtain ⟨c0, c1, c2, c3⟩ := cells4 B2.out
  obtain ⟨d0, d1, d2, d3⟩ := cells4 (B2.out.alloc (.cells (madeCells #[.slice none 0 0] 1) 30))
  clear hg b2 o2 f2 bL l1 l2 l3 hL B1 F3
  go_wp2
  go_region
  obtain ⟨W4, hW4⟩ : ∃ W4, ((w2.alloc (.cells (madeCells #[.slice none 0 0] 1) 30)).alloc (.cells #[.int .i64 0, .int .i64 1, .bool false, .int .i64 0, .slice (some ⟨G, 0, none⟩) 2 2, .slice (some ⟨L, 0, none⟩) 1 lc, .slice (some ⟨w2.heap.size, 0, none⟩) 1 1] 46)).drew = W4 := ⟨_, rfl⟩
  rw [hW4]
  have F4 : Hid (Only (fun _ => False) w2 W4) := Lib.hid (by rw [← hW4]; exact (((Only.refl _ _).alloc _).alloc _).drew)
  have S4 : Hid (PSt1 (fun k => k = L ∨ k = w2.heap.size) w.heap.size (w2.heap.size + 1) w2.heap.size L (some ⟨G, 0, none⟩) 2 2 lc 0 (.slice (some ⟨g, 0, none⟩) 256 256) (.slice none 0 0) W4) := Lib.hid (by
    refine ⟨?_, mv F4.out HO.out, ?_, ?_, Own.nil_ _ _ _ _, ?_, ?_, HL.out, .inl rfl, .inr rfl⟩
    · rw [← hW4]
      have := Blk.new (w2.alloc (.cells (madeCells #[.slice none 0 0] 1) 30)) 46 #[.int .i64 0, .int .i64 1, .bool false, .int .i64 0, .slice (some ⟨G, 0, none⟩) 2 2, .slice (some ⟨L, 0, none⟩) 1 lc, .slice (some ⟨w2.heap.size, 0, none⟩) 1 1]
      rw [World.size_alloc] at this
      exact this.drew
    · have hs := row_slV (mv F4.out HP.out) (by decide)
      rw [show (List.range 256).map (fun _ => (0 : Int)) = List.replicate 256 0 by rw [List.map_const', List.length_range]] at hs
      refine hs.mono (c1_good _) (fun k hk h => ?_)
      subst h
      obtain ⟨cur, hc, _⟩ := HO.out
      refine ⟨⟨HG.out, fun h => by cases h⟩, ?_⟩
      rintro (h | h)
      · exact HP.out.ne_ hc (by decide) h
      · have := HP.out.lt; omega
    · rw [← hW4]
      have := ((Blk.new w2 30 (madeCells #[.slice none 0 0] (1 * 1))).alloc (.cells #[.int .i64 0, .int .i64 1, .bool false, .int .i64 0, .slice (some ⟨G, 0, none⟩) 2 2, .slice (some ⟨L, 0, none⟩) 1 lc, .slice (some ⟨w2.heap.size, 0, none⟩) 1 1] 46)).drew
      rw [made1] at this
      rw [show madeCells #[Value.slice none 0 0] 1 = (List.replicate 1 (Value.slice none 0 0)).toArray from made1 _ 1]
      exact this
    · have := F2.out.size; omega
    · have := F2.out.size; omega)
  have G4 := Lib.hid (mv F4.out G2.out)
  have O4 := Lib.hid (F2.out.trans F4.out)
  clear hW4 c0 c1 c2 c3 d0 d1 d2 d3 hmk B2 G2 HO HO2 HP F4 HG HL
  have s0 : W4.cell? ⟨G, 2, none⟩ = some (.bool true) := G4.out.cell 2
  have s1 : W4.cell? ⟨G, 10, none⟩ = some (.bool true) := G4.out.cell 10
  go_wp2
  refine wp_loop_rounds 2 ?_
  rw [rounds_succ]
  go_wp2
  refine wp_loop_rounds 3 ?_
  rw [rounds_succ]
  go_wp2
  rw [rounds_succ]
  go_wp2
  rw [rounds_succ]
  go_wp2_with fail
  refine (run_zero w.heap.size (w2.heap.size + 1) w2.heap.size L _ 2 lc _ _ W4 S4.out).mono ?_
  rintro e w5 ⟨rfl, ⟨t5, u5, s5⟩, f5⟩
  have S5 := Lib.hid s5
  have O5 := Lib.hid (O4.out.trans' f5 (fun i hi h => by omega))
  have e6 := s5.hp.cell 6
  clear s5 f5 s0 s1
  go_wp2
  rw [rounds_succ]
  go_wp2
  go_ret2
  exact ⟨_, _, rfl, S5.out.hq, S5.out.hu, O5.out⟩
end Go.Proofs.YtdadknejmnnkiaaGreat
