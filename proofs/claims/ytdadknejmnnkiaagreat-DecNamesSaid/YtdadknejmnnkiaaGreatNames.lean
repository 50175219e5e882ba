import Derived.Test.YtdadknejmnnkiaaGreatPlay2
namespace Go.Proofs.YtdadknejmnnkiaaGreat
open Go Go.RowKit
set_option maxRecDepth 100000

theorem alive_true (w : World) :
    Calls Tryz.prog 6 #[] w fun e w' => e = .returned (.bool true) ∧ Only (fun _ => False) w w' := by
  go_enter Tryz.func6, Tryz.ntmps6
  go_wp2_with fail
  generalize hW : World.alloc _ _ = W1
  obtain ⟨b1, f0⟩ := news1 hW
  clear hW
  refine (playLost w.heap.size W1 b1).mono ?_
  rintro e w1 ⟨Q, u, rfl, hq, ho, f1⟩
  obtain ⟨A, n, c, rfl⟩ := ho.form
  have hn : n = 512 := by have := ho.len; simpa using this
  subst hn
  have q0 := hq.cell 0
  have HO := Lib.hid ho.slV
  have HF := Lib.hid (f0.trans f1)
  clear hq ho b1 f0 f1
  go_wp2
  go_loop [3] (fun i => ∃ k : Nat, k ≤ 512 ∧ i = .int .i64 k) (fun i => 512 - (intOf i).toNat)
  case atStart => exact ⟨0, by decide, rfl⟩
  case round =>
    obtain ⟨k, hk, rfl⟩ := hrel
    by_cases hlt : k < 512
    · obtain ⟨b, o, rfl, hx⟩ := HO.out.at_ (k := k) (x := 0) (by rw [List.getElem?_replicate, if_pos hlt])
      have c1 := cell1 hx
      unfold i2v at c1
      clear hx
      go_wp2
      go_round
      case rel => exact ⟨k + 1, by omega, by go_num⟩
      case measure => simp [intOf]; omega
    · go_wp2
      go_ret
      exact ⟨rfl, HF.out⟩
theorem decNames_true (w : World) :
    Calls Tryz.prog 3 #[] w fun e w' => e = .returned (.bool true) ∧ Only (fun _ => False) w w' := by
  go_enter Tryz.func3, Tryz.ntmps3
  go_wp2_with fail
  refine (playNil _).mono ?_
  rintro e w1 ⟨g1, rfl, hg1, b1, f1⟩
  have B1 := Lib.hid b1
  have F1 := Lib.hid f1
  clear hg1 b1 f1
  go_wp2_with fail
  refine (decodeNil _).mono ?_
  rintro e w2 ⟨g2, rfl, hg2, b2, f2⟩
  have B2 := Lib.hid (And.intro (mv f2 B1.out) b2)
  have F2 := Lib.hid (F1.out.trans f2)
  clear hg2 b2 f2 B1 F1
  go_wp2_with fail
  refine (decodeThree _).mono ?_
  rintro e w3 ⟨rfl, f3⟩
  have B3 := Lib.hid (mv f3 B2.out)
  have F3 := Lib.hid (F2.out.trans f3)
  clear f3 B2 F2
  go_wp2_with fail
  refine (alive_true _).mono ?_
  rintro e w4 ⟨rfl, f4⟩
  have B4 := mv f4 B3.out
  have F4 := Lib.hid (F3.out.trans f4)
  have e1 := B4.1.cell 0
  have e2 := B4.2.cell 0
  clear f4 B3 F3 B4
  go_wp2
  go_ret
  exact ⟨rfl, F4.out⟩
end Go.Proofs.YtdadknejmnnkiaaGreat
