import Derived.Test.YtdadknejmnnkiaaGreatTrig
namespace Go.Proofs.YtdadknejmnnkiaaGreat
open Go Go.RowKit
set_option maxRecDepth 100000

/-! window.Half: the sine window. -/
def sineI (step : Int) (n : Nat) : Int := (roundI (sinI ((2 * n + 1) * step)) 4).1
theorem halfSine_long (w : World) :
    Calls Tryz.prog 199 #[.int .u8 0, .bool false] w fun e w' => e = .returned (.tuple #[.slice (some ⟨w.heap.size, 0, none⟩) 256 256, .int .i64 0]) ∧ Blk w' w.heap.size 3 (((List.range 256).map (sineI 1)).map i2v).toArray ∧ w.heap.size < w'.heap.size ∧ Only (fun _ => False) w w' := by
  have hmk := run_mk intT .i64 .i64 256 256 (by decide) (by decide) (by decide) (by decide)
  rw [show ((256 : Int).toNat) = 256 from rfl] at hmk
  have hm1 : (Value.int .i64 0).cells = #[.int .i64 0] := rfl
  rw [hm1, made1] at hmk
  go_enter Tryz.func199, Tryz.ntmps199
  go_wp2
  clear hmk
  have b0 := Blk.new w 3 (List.replicate 256 (.int .i64 0)).toArray
  have f0 : Only (fun _ => False) w (w.alloc (.cells (List.replicate 256 (.int .i64 0)).toArray 3)) := (Only.refl _ _).alloc _
  have B0 := Lib.hid b0
  have F0 := Lib.hid f0
  clear b0 f0
  go_loopw [19] (fun i W => ∃ k : Nat, k ≤ 256 ∧ i = .int .i64 k ∧ Hid (Blk W w.heap.size 3 (part i2v (sineI 1) 0 256 k)) ∧ Hid (Only (fun _ => False) w W)) (fun i _ => 256 - (intOf i).toNat)
  case atStart => exact ⟨0, by decide, rfl, by rw [part_zero]; exact B0, F0⟩
  case round =>
    clear B0 F0
    obtain ⟨k, hk, rfl, hb, hf⟩ := hrel
    by_cases hlt : k < 256
    · go_wp2_with fail
      refine (sin_any _ _).mono ?_
      rintro e w1 ⟨rfl, f1⟩
      go_wp2_with fail
      refine (round_any _ _ _).mono ?_
      rintro e w2 ⟨rfl, f2⟩
      have b2 := (hb.out.only f1 (fun h => h)).only f2 (fun h => h)
      have c2 := b2.cell k
      rw [part_get _ _ _ _ _ hlt] at c2
      unfold i2v at c2
      have z2 := b2.frozen k
      have B2 := Lib.hid b2
      have F2 := Lib.hid ((hf.out.trans f1).trans f2)
      have hv : (roundI (sinI (2 * (k : Int) + 1)) 4).1 = sineI 1 k := by unfold sineI; rw [Int.mul_one]
      rw [hv]
      clear hb hf f1 f2 b2 hv
      go_wp2
      go_roundw
      case rel => exact ⟨k + 1, by omega, by go_num, by rw [← part_set _ _ _ _ _ hlt]; exact B2.out.set_ k _, F2.out.setCell (.inr (Nat.le_refl _)) _⟩
      case measure => simp [intOf]; omega
    · have hk : k = 256 := by omega
      subst hk
      go_wp2
      go_ret2
      exact ⟨rfl, by rw [← part_full _ _ 0]; exact hb.out, hb.out.lt, hf.out⟩
end Go.Proofs.YtdadknejmnnkiaaGreat
