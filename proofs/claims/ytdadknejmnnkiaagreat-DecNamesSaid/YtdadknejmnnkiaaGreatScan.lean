import Derived.Test.YtdadknejmnnkiaaGreatWins
import Derived.Deep.RegionWith
namespace Go.Proofs.YtdadknejmnnkiaaGreat
open Go Go.RowKit
set_option maxRecDepth 100000

/-- one channel, all else nought -/
def cfg1 : Value := .agg #[.int .i64 0, .int .i64 1, .bool false, .int .i64 0]
def noFrame : Value := .agg #[.slice none 0 0, .bool false, .int .i64 0, .slice none 0 0, .slice none 0 0]
theorem decOdd_one (w : World) :
    Calls Tryz.prog 7 #[.agg #[.int .i64 0, .int .i64 1, .bool false, .int .i64 0]] w fun e w' => e = .returned (.bool false) ∧ Only (fun _ => False) w w' := by
  go_enter Tryz.func7, Tryz.ntmps7
  go_wp2
  go_ret
  exact ⟨rfl, (Only.refl _ _).alloc _⟩
theorem decOdd_three (w : World) :
    Calls Tryz.prog 7 #[.agg #[.int .i64 0, .int .i64 3, .bool false, .int .i64 0]] w fun e w' => e = .returned (.bool true) ∧ Only (fun _ => False) w w' := by
  go_enter Tryz.func7, Tryz.ntmps7
  go_wp2
  go_ret
  exact ⟨rfl, (Only.refl _ _).alloc _⟩
theorem rawConfig_one (w : World) :
    Calls Tryz.prog 24 #[.agg #[.int .i64 0, .int .i64 1, .bool false, .int .i64 0]] w fun e w' => e = .returned (.bool true) ∧ Only (fun _ => False) w w' := by
  go_enter Tryz.func24, Tryz.ntmps24
  go_wp2
  go_ret
  exact ⟨rfl, (Only.refl _ _).alloc _⟩
theorem rawRight_none (w : World) :
    Calls Tryz.prog 25 #[.agg #[.int .i64 0, .int .i64 1, .bool false, .int .i64 0], .agg #[.slice none 0 0, .bool false, .int .i64 0, .slice none 0 0, .slice none 0 0]] w fun e w' => e = .returned (.bool false) ∧ Only (fun _ => False) w w' := by
  go_enter Tryz.func25, Tryz.ntmps25
  go_wp2
  go_ret
  exact ⟨rfl, ((Only.refl _ _).alloc _).alloc _⟩
theorem rawBits_none (w : World) :
    Calls Tryz.prog 13 #[.agg #[.int .i64 0, .int .i64 1, .bool false, .int .i64 0], .agg #[.slice none 0 0, .bool false, .int .i64 0, .slice none 0 0, .slice none 0 0]] w fun e w' => e = .returned (.tuple #[.int .i64 0, .int .i64 8]) ∧ Only (fun _ => False) w w' := by
  go_enter Tryz.func13, Tryz.ntmps13
  go_wp2_with fail
  obtain ⟨W2, hW2⟩ : ∃ W2, (w.alloc (.cells #[.int .i64 0, .int .i64 1, .bool false, .int .i64 0] 27)).alloc (.cells #[.slice none 0 0, .bool false, .int .i64 0, .slice none 0 0, .slice none 0 0] 37) = W2 := ⟨_, rfl⟩
  have b0 : Blk W2 w.heap.size 27 #[.int .i64 0, .int .i64 1, .bool false, .int .i64 0] := by rw [← hW2]; exact (Blk.new w _ _).alloc _
  have b1 : Blk W2 (w.heap.size + 1) 37 #[.slice none 0 0, .bool false, .int .i64 0, .slice none 0 0, .slice none 0 0] := by
    rw [← hW2]
    have := Blk.new (w.alloc (.cells #[.int .i64 0, .int .i64 1, .bool false, .int .i64 0] 27)) 37 #[.slice none 0 0, .bool false, .int .i64 0, .slice none 0 0, .slice none 0 0]
    rwa [World.size_alloc] at this
  have f0 : Only (fun _ => False) w W2 := by rw [← hW2]; exact ((Only.refl _ _).alloc _).alloc _
  rw [hW2]
  clear hW2
  refine (rawConfig_one _).mono ?_
  rintro e w1 ⟨rfl, f1⟩
  have d0 := b0.only f1 (fun h => h)
  have d1 := b1.only f1 (fun h => h)
  have c0 := d0.cell 0
  have c1 := d0.cell 1
  have c2 := d0.cell 2
  have c3 := d0.cell 3
  have e0 := d1.cell 0
  have e1 := d1.cell 1
  have e2 := d1.cell 2
  have e3 := d1.cell 3
  have e4 := d1.cell 4
  have F1 := Lib.hid (f0.trans f1)
  clear b0 b1 d0 d1 f0 f1
  go_wp2_with fail
  refine (rawRight_none _).mono ?_
  rintro e w3 ⟨rfl, f3⟩
  have F3 := Lib.hid (F1.out.trans f3)
  clear f3 F1
  go_wp2
  go_ret2
  exact ⟨rfl, F3.out⟩

def noHead : Array Value := #[.int .i64 0, .int .i64 0, .bool false, .int .i64 0, .int .i64 0]
theorem head_none (w : World) :
    Calls Tryz.prog 39 #[.slice none 0 0] w fun e w' => e = .returned (.tuple #[.agg noHead, .int .i64 5]) ∧ Only (fun _ => False) w w' := by
  go_enter Tryz.func39, Tryz.ntmps39
  go_wp2
  have b0 := Blk.new w 68 #[.int .i64 0, .int .i64 0, .bool false, .int .i64 0, .int .i64 0]
  have c0 := b0.cell 0
  have c1 := b0.cell 1
  have c2 := b0.cell 2
  have c3 := b0.cell 3
  have c4 := b0.cell 4
  clear b0
  refine bodyPost_ret (v := .tuple #[.agg noHead, .int .i64 5]) ?_ rfl ?_
  · unfold results noHead
    rw [show Tryz.f39.results = #[.cell 2 68, .tmp 3] from rfl]
    go_simp
  · exact ⟨rfl, (Only.refl _ _).alloc _⟩
theorem stands_none (w : World) :
    Calls Tryz.prog 21 #[.agg #[.int .i64 0, .int .i64 1, .bool false, .int .i64 0], .slice none 0 0] w fun e w' => e = .returned (.int .i64 0) ∧ Only (fun _ => False) w w' := by
  go_enter Tryz.func21, Tryz.ntmps21
  go_wp2_with fail
  refine (head_none _).mono ?_
  rintro e w1 ⟨rfl, f1⟩
  unfold noHead
  have F1 := Lib.hid (((Only.refl (fun _ => False) w).alloc (.cells #[.int .i64 0, .int .i64 1, .bool false, .int .i64 0] 27)).trans f1)
  clear f1
  go_wp2
  go_ret
  exact ⟨rfl, F1.out.alloc _⟩
theorem scan_none (w : World) :
    Calls Tryz.prog 12 #[.agg #[.int .i64 0, .int .i64 1, .bool false, .int .i64 0], .slice none 0 0] w fun e w' => e = .returned (.tuple #[.slice none 0 0, .int .i64 0]) ∧ Only (fun _ => False) w w' := by
  go_enter Tryz.func12, Tryz.ntmps12
  go_wp2
  go_step3
  go_wp2_with fail
  refine (rawBits_none _).mono ?_
  rintro e w1 ⟨rfl, f1⟩
  have b0 := (Blk.new w 27 #[.int .i64 0, .int .i64 1, .bool false, .int .i64 0]).only f1 (fun h => h)
  have c0 := b0.cell 0
  have c1 := b0.cell 1
  have c2 := b0.cell 2
  have c3 := b0.cell 3
  have F1 := Lib.hid (((Only.refl (fun _ => False) w).alloc (.cells #[.int .i64 0, .int .i64 1, .bool false, .int .i64 0] 27)).trans f1)
  clear b0 f1
  go_wp2
  refine wp_label ?_
  simp only [Exit.then]
  go_wp2
  refine wp_loop_rounds 1 ?_
  rw [rounds_succ]
  go_wp2
  go_region_with (go_at_call 21; refine (stands_none _).mono ?_; rintro e w2 ⟨rfl, f2⟩; have F2 := Lib.hid ((F1.out.drew).trans f2))
  clear c0 c1 c2 c3
  go_wp2
  refine wp_loop_rounds 1 ?_
  rw [rounds_succ]
  go_wp2
  rw [Exit.noGoto_ret]
  go_ret2
  exact ⟨rfl, F2.out⟩
end Go.Proofs.YtdadknejmnnkiaaGreat
