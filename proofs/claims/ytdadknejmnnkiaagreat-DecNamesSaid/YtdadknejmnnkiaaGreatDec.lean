import Derived.Test.YtdadknejmnnkiaaGreatPlay
namespace Go.Proofs.YtdadknejmnnkiaaGreat
open Go Go.RowKit
set_option maxRecDepth 100000

theorem decodeNil (w : World) :
    Calls Tryz.prog 5 #[.agg #[.int .i64 0, .int .i64 1, .bool false, .int .i64 0], .slice none 0 0] w fun e w' => ∃ g, e = .returned (.tuple #[.slice (some ⟨g, 0, none⟩) 1 1, .int .i64 0]) ∧ w.heap.size ≤ g ∧ Blk w' g 30 #[.slice none 0 0] ∧ Only (fun _ => False) w w' := by
  go_enter Tryz.func5, Tryz.ntmps5
  go_wp2_with fail
  refine (decOdd_one _).mono ?_
  rintro e w1 ⟨rfl, f1⟩
  have b1 := (Blk.new w 27 #[.int .i64 0, .int .i64 1, .bool false, .int .i64 0]).only f1 (fun h => h)
  have c0 := b1.cell 0
  have c1 := b1.cell 1
  have c2 := b1.cell 2
  have c3 := b1.cell 3
  have B1 := Lib.hid b1
  have F1 := Lib.hid (((Only.refl (fun _ => False) w).alloc (.cells #[.int .i64 0, .int .i64 1, .bool false, .int .i64 0] 27)).trans f1)
  clear f1 b1
  go_wp2_with fail
  refine (scan_none _).mono ?_
  rintro e w2 ⟨rfl, f2⟩
  have b2 := B1.out.only f2 (fun h => h)
  replace c0 := b2.cell 0
  replace c1 := b2.cell 1
  replace c2 := b2.cell 2
  replace c3 := b2.cell 3
  have F2 := Lib.hid (F1.out.trans f2)
  clear f2 b2 B1 F1
  go_wp2_with fail
  refine (playNil _).mono ?_
  rintro e w3 ⟨g, rfl, hg, b3, f3⟩
  have HG := Lib.hid (Nat.le_trans F2.out.size hg)
  have B3 := Lib.hid b3
  have F3 := Lib.hid (F2.out.trans f3)
  clear hg b3 f3 F2 c0 c1 c2 c3
  go_wp2
  go_ret2
  exact ⟨g, rfl, HG.out, B3.out, F3.out⟩
theorem decodeThree (w : World) :
    Calls Tryz.prog 5 #[.agg #[.int .i64 0, .int .i64 3, .bool false, .int .i64 0], .slice none 0 0] w fun e w' => e = .returned (.tuple #[.slice none 0 0, .int .i64 2]) ∧ Only (fun _ => False) w w' := by
  go_enter Tryz.func5, Tryz.ntmps5
  go_wp2_with fail
  refine (decOdd_three _).mono ?_
  rintro e w1 ⟨rfl, f1⟩
  have F1 := Lib.hid (((Only.refl (fun _ => False) w).alloc (.cells #[.int .i64 0, .int .i64 3, .bool false, .int .i64 0] 27)).trans f1)
  clear f1
  go_wp2
  go_ret2
  exact ⟨rfl, F1.out⟩
end Go.Proofs.YtdadknejmnnkiaaGreat
