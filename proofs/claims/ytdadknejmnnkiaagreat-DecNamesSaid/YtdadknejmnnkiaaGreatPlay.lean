import Derived.Test.YtdadknejmnnkiaaGreatScan
namespace Go.Proofs.YtdadknejmnnkiaaGreat
open Go Go.RowKit
set_option maxRecDepth 100000

theorem listT : ElemT Tryz.prog 22 30 (.slice none 0 0) 1 24 := ElemT.of Tryz.underlying22 (by kernel_rfl) rfl (by decide)
theorem playNil (w : World) :
    Calls Tryz.prog 4 #[.agg #[.int .i64 0, .int .i64 1, .bool false, .int .i64 0], .slice none 0 0] w fun e w' => ∃ g, e = .returned (.tuple #[.slice (some ⟨g, 0, none⟩) 1 1, .int .i64 0]) ∧ w.heap.size ≤ g ∧ Blk w' g 30 #[.slice none 0 0] ∧ Only (fun _ => False) w w' := by
  have hmk := fun (W : World) => run_mk listT .i64 .i64 1 1 (by decide) (by decide) (by decide) (by decide) W
  go_enter Tryz.func4, Tryz.ntmps4
  go_wp2_with fail
  refine (decOdd_one _).mono ?_
  rintro e w1 ⟨rfl, f1⟩
  have b1 := (Blk.new w 27 #[.int .i64 0, .int .i64 1, .bool false, .int .i64 0]).only f1 (fun h => h)
  have c0 := b1.cell 0
  have c1 := b1.cell 1
  have c2 := b1.cell 2
  have c3 := b1.cell 3
  have B1 := Lib.hid b1
  have F1 := Lib.hid (((Only.refl (fun _ => False) w).alloc (.cells #[.int .i64 0, .int .i64 1, .bool false, .int .i64 0] 27)).trans f1)
  clear f1 b1
  go_wp2
  refine wp_loop_rounds 1 ?_
  rw [rounds_succ]
  go_wp2_with fail
  refine (synthNew_one _).mono ?_
  rintro e w2 ⟨v, g, rfl, hg, b2, o2, f2⟩
  have b1 := B1.out.only f2 (fun h => h)
  replace c0 := b1.cell 0
  replace c1 := b1.cell 1
  replace c2 := b1.cell 2
  replace c3 := b1.cell 3
  have b1' := b1.alloc (.cells (madeCells #[.slice none 0 0] 1) 30)
  have d0 := b1'.cell 0
  have d1 := b1'.cell 1
  have d2 := b1'.cell 2
  have d3 := b1'.cell 3
  clear b1'
  have F2 := Lib.hid (F1.out.trans f2)
  obtain ⟨A, n, c, rfl⟩ := o2.form
  clear b1 b2 o2 f2 hg B1 F1
  go_wp2
  go_region
  obtain ⟨W3, hW3⟩ : ∃ W3, ((w2.alloc (.cells (madeCells #[.slice none 0 0] 1) 30)).alloc (.cells #[.int .i64 0, .int .i64 1, .bool false, .int .i64 0, .slice none 0 0, .slice A n c, .slice (some ⟨w2.heap.size, 0, none⟩) 1 1] 46)).drew = W3 := ⟨_, rfl⟩
  have bp : Blk W3 (w2.heap.size + 1) 46 #[.int .i64 0, .int .i64 1, .bool false, .int .i64 0, .slice none 0 0, .slice A n c, .slice (some ⟨w2.heap.size, 0, none⟩) 1 1] := by
    rw [← hW3]
    have := Blk.new (w2.alloc (.cells (madeCells #[.slice none 0 0] 1) 30)) 46 #[.int .i64 0, .int .i64 1, .bool false, .int .i64 0, .slice none 0 0, .slice A n c, .slice (some ⟨w2.heap.size, 0, none⟩) 1 1]
    rw [World.size_alloc] at this
    exact this.drew
  have bo : Blk W3 w2.heap.size 30 #[.slice none 0 0] := by
    rw [← hW3]
    have := ((Blk.new w2 30 (madeCells #[.slice none 0 0] (1 * 1))).alloc (.cells #[.int .i64 0, .int .i64 1, .bool false, .int .i64 0, .slice none 0 0, .slice A n c, .slice (some ⟨w2.heap.size, 0, none⟩) 1 1] 46)).drew
    rw [made1] at this
    rw [show madeCells #[Value.slice none 0 0] 1 = (List.replicate 1 (Value.slice none 0 0)).toArray from made1 _ 1]
    exact this
  have F3 : Hid (Only (fun _ => False) w W3) := Lib.hid (by rw [← hW3]; exact ((F2.out.alloc _).alloc _).drew)
  rw [hW3]
  have e6 := bp.cell 6
  have BO := Lib.hid bo
  clear hW3 bp bo c0 c1 c2 c3 d0 d1 d2 d3 hmk
  go_wp2
  refine wp_loop_rounds 1 ?_
  rw [rounds_succ]
  go_wp2
  go_ret2
  exact ⟨_, rfl, F2.out.size, BO.out, F3.out⟩
end Go.Proofs.YtdadknejmnnkiaaGreat
