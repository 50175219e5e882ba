import Derived.Test.YtdadknejmnnkiaaGreatBlock
import Derived.LoopN
namespace Go.Proofs.YtdadknejmnnkiaaGreat
open Go Go.RowKit
set_option maxRecDepth 100000

theorem index4 (a b c d : Value) (W : World) : (Instr.index 312 (.agg #[a, b, c, d]) (.int .u8 0)).run Tryz.prog W = .ok a W := by
  unfold Instr.index
  go_simp
theorem pieces_long (w : World) :
    Calls Tryz.prog 198 #[.int .u8 0] w fun e w' => e = .returned (.slice (some ⟨w.heap.size, 0, none⟩) 2 2) ∧ Blk w' w.heap.size 3 #[.int .i64 0, .int .i64 4] ∧ Only (fun _ => False) w w' := by
  have hix := index4
  go_enter Tryz.func198, Tryz.ntmps198
  go_wp2
  go_ret
  exact ⟨rfl, (((Blk.new w _ _).alloc _).alloc _), (((Only.refl _ _).alloc _).alloc _).alloc _⟩

/-- the long window of sines -/
def sineW : List Int := (List.range 256).map (sineI 1) ++ (List.range 256).map (fun j => sineI 1 (255 - j))
set_option maxHeartbeats 1600000 in
theorem window_long (w : World) :
    Calls Tryz.prog 118 #[.int .u8 0, .int .u8 0, .int .u8 0] w fun e w' => ∃ v, e = .returned (.tuple #[v, .int .i64 0]) ∧ Own w' w.heap.size 3 1 v (sineW.map i2v) ∧ Only (fun _ => False) w w' := by
  obtain ⟨l1, h1⟩ : ∃ l, (List.range 256).map (sineI 1) = l := ⟨_, rfl⟩
  obtain ⟨l2, h2⟩ : ∃ l, (List.range 256).map (fun j => sineI 1 (255 - j)) = l := ⟨_, rfl⟩
  have n1 : Hid (l1.length = 256) := Lib.hid (by rw [← h1]; simp)
  have n2 : Hid (l2.length = 256) := Lib.hid (by rw [← h2]; simp)
  have HW : Hid (sineW = l1 ++ l2) := Lib.hid (by unfold sineW; rw [h1, h2])
  have H1 := Lib.hid h1
  have H2 := Lib.hid h2
  clear h1 h2
  go_enter Tryz.func118, Tryz.ntmps118
  go_wp2_with fail
  refine (shaped_any _ _ _).mono ?_
  rintro e w0 ⟨rfl, rfl⟩
  go_wp2_with fail
  refine (pieces_long _).mono ?_
  rintro e w1 ⟨rfl, b1, f1⟩
  have c0 := b1.cell 0
  have B1 := Lib.hid b1
  have F1 := Lib.hid f1
  clear b1 f1
  go_wp2
  refine wp_loop_rounds 3 ?_
  rw [rounds_succ]
  go_wp2_with fail
  refine (halfB_sine _).mono ?_
  rintro e w2 ⟨rfl, b2, f2⟩
  have S2 : Hid (Src w2 (some ⟨w1.heap.size, 0, none⟩) (l1.map i2v)) := Lib.hid (by rw [← H1.out]; exact (row_slV b2 (by decide)).src)
  have C2 := Lib.hid (B1.out.only f2 (fun h => h))
  have F2 := Lib.hid (F1.out.trans f2)
  clear b2 f2 B1 F1 c0
  go_wp2_with (at_builtin; refine wpList_appS intT rfl (.tmp 53) (.tmp 54) rfl w.heap.size (.slice none 0 0) 0 [] rfl (World.ownsRow_nil _ _ _ _) (some ⟨w1.heap.size, 0, none⟩) 256 256 (l1.map i2v) rfl (by rw [List.length_map, n1.out]) S2.out (one_map _ _ (fun _ => rfl)) (by decide) (by decide) F2.out.size ?_; intro v3 w3 g1 g2 g3; obtain ⟨A3, c3, rfl⟩ := own_form g1)
  have F3 := Lib.hid (F2.out.app g2 (World.ownsRow_nil w2 w.heap.size 3 1) (fun k hk => by cases hk))
  have G1 := Lib.hid g1
  have C3 : Hid (Blk w3 w.heap.size 3 #[.int .i64 0, .int .i64 4]) := Lib.hid ((g2.block _ C2.out.lt (fun h => by cases h)).trans C2.out)
  have c1 := C3.out.cell 1
  have L3 := Lib.hid F3.out.size
  clear g1 g2 g3 F2 C2 S2
  rw [rounds_succ]
  go_wp2_with fail
  refine (fallB_sine _).mono ?_
  rintro e w4 ⟨rfl, b4, f4⟩
  have S4 : Hid (Src w4 (some ⟨w3.heap.size, 0, none⟩) (l2.map i2v)) := Lib.hid (by rw [← H2.out]; exact (row_slV b4 (by decide)).src)
  have G4 : Hid (w4.ownsRow w.heap.size 3 1 (.slice A3 256 c3) 256 (l1.map i2v)) := Lib.hid (by
    have h : Own w3 w.heap.size 3 1 (.slice A3 256 c3) (l1.map i2v) := ⟨_, by have := G1.out; rw [Nat.zero_add, List.nil_append] at this; exact this⟩
    exact (h.only f4 (fun _ _ h => h)).row)
  have F4 := Lib.hid (F3.out.trans f4)
  clear b4 f4 F3 C3 c1 G1
  go_wp2_with (at_builtin; refine wpList_appS intT rfl (.tmp 53) (.tmp 54) rfl w.heap.size (.slice A3 256 c3) 256 (l1.map i2v) rfl G4.out (some ⟨w3.heap.size, 0, none⟩) 256 256 (l2.map i2v) rfl (by rw [List.length_map, n2.out]) S4.out (one_map _ _ (fun _ => rfl)) (by decide) (by decide) F4.out.size ?_; intro v5 w5 g1 g2 g3; obtain ⟨A5, c5, rfl⟩ := own_form g1)
  have F5 := Lib.hid (F4.out.app g2 G4.out (fun k hk => .inr (G4.out.lt k hk).1))
  have G5 : Hid (Own w5 w.heap.size 3 1 (.slice A5 512 c5) (sineW.map i2v)) := Lib.hid ⟨_, by rw [HW.out, List.map_append]; exact g1⟩
  clear g1 g2 g3 F4 G4 S4
  rw [rounds_succ]
  go_wp2
  go_ret2
  exact ⟨_, rfl, G5.out, F5.out⟩
end Go.Proofs.YtdadknejmnnkiaaGreat
