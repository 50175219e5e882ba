import Derived.Test.YtdadknejmnnkiaaGreatBlock2
namespace Go.Proofs.YtdadknejmnnkiaaGreat
open Go Go.RowKit
set_option maxRecDepth 100000

/-! lose -/
theorem loseSeq_zero (w : World) :
    Calls Tryz.prog 17 #[.int .u8 0] w fun e w' => e = .returned (.tuple #[.int .u8 0, .int .i64 0]) ∧ w = w' := by
  go_enter Tryz.func17, Tryz.ntmps17
  go_wp2
  go_ret2
  exact ⟨rfl, rfl⟩
theorem lap_far (x : Int) (W : World) :
    Calls Tryz.prog 61 (#[.int .i64 x] ++ #[]) W fun e w' => e = .returned (.bool (beyond 1099511627776 x)) ∧ Only (fun _ => False) W w' := by
  show Calls Tryz.prog 61 #[.int .i64 x] W _
  by_cases h : x < -1099511627776
  · have hr : beyond 1099511627776 x = true := by unfold beyond; simp [h]
    rw [hr]
    clear hr
    go_enter Tryz.func61, Tryz.ntmps61
    go_wp2
    go_ret
    exact ⟨rfl, Only.refl _ _⟩
  · by_cases h2 : x > 1099511627776
    · have hr : beyond 1099511627776 x = true := by unfold beyond; simp [h2]
      rw [hr]
      clear hr
      go_enter Tryz.func61, Tryz.ntmps61
      go_wp2
      go_ret
      exact ⟨rfl, Only.refl _ _⟩
    · have hr : beyond 1099511627776 x = false := by unfold beyond; simp [h2, h]
      rw [hr]
      clear hr
      go_enter Tryz.func61, Tryz.ntmps61
      go_wp2
      go_ret
      exact ⟨rfl, Only.refl _ _⟩
theorem enters_far : Enters Tryz.prog 61 := enters_of Tryz.func61 (by kernel_rfl) rfl
theorem lapCheck_ok (l : List Int) (D : Nat → Prop) (v : Value) (w : World) (hv : SlV 1 intR D w v l) (hl : l.length = 256) (hb : l.any (beyond 1099511627776) = false) :
    Calls Tryz.prog 33 #[.agg #[v, .int .u8 0, .int .u8 0]] w fun e w' => e = .returned (.int .i64 0) ∧ Only (fun _ => False) w w' := by
  obtain ⟨A, n, c, rfl, hn, hc⟩ := hv.form'
  rw [hl] at hn
  subst hn
  have HV := Lib.hid hv
  have HB := Lib.hid hb
  have HL : Hid (l.length ≤ lim) := Lib.hid (by rw [hl]; decide)
  clear hv hb hl hc
  go_enter Tryz.func33, Tryz.ntmps33
  go_wp2_with fail
  refine (containsFunc_int l (beyond 1099511627776) _ #[] D _ _ (HV.out.alloc (c1_good _) _) HL.out enters_far (fun x W _ => lap_far x W)).mono ?_
  rw [HB.out]
  rintro e w1 ⟨rfl, f1⟩
  have b1 := (Blk.new w 54 #[.slice A 256 c, .int .u8 0, .int .u8 0]).only f1 (fun h => h)
  have c1 := b1.cell 1
  have c2 := b1.cell 2
  have F1 := Lib.hid (((Only.refl (fun _ => False) w).alloc (.cells #[.slice A 256 c, .int .u8 0, .int .u8 0] 54)).trans f1)
  clear f1 b1
  go_wp2
  go_ret
  exact ⟨rfl, F1.out⟩
theorem lapNew_any (w : World) :
    Calls Tryz.prog 14 #[] w fun e w' => ∃ g, e = .returned (.agg #[.slice (some ⟨g, 0, none⟩) 256 256, .int .u8 0, .int .u8 0]) ∧ w.heap.size ≤ g ∧ Blk w' g 3 (row (fun _ => 0) 256) ∧ Only (fun _ => False) w w' := by
  have hmk := run_mk intT .i64 .i64 256 256 (by decide) (by decide) (by decide) (by decide)
  rw [show ((256 : Int).toNat) = 256 from rfl, show (Value.int .i64 0).cells = #[.int .i64 0] from rfl, made1, row_replicate] at hmk
  go_enter Tryz.func14, Tryz.ntmps14
  go_wp2
  have b0 := (Blk.new w 54 #[.slice (some ⟨w.heap.size + 1, 0, none⟩) 256 256, .int .u8 0, .int .u8 0]).alloc (.cells (row (fun _ => 0) 256) 3)
  have c0 := b0.cell 0
  have c1 := b0.cell 1
  have c2 := b0.cell 2
  have b1 := Blk.new (w.alloc (.cells #[.slice (some ⟨w.heap.size + 1, 0, none⟩) 256 256, .int .u8 0, .int .u8 0] 54)) 3 (row (fun _ => 0) 256)
  rw [World.size_alloc] at b1
  have B1 := Lib.hid b1
  clear b0 b1
  refine bodyPost_ret (v := .agg #[.slice (some ⟨w.heap.size + 1, 0, none⟩) 256 256, .int .u8 0, .int .u8 0]) ?_ rfl ?_
  · unfold results
    rw [show Tryz.f14.results = #[.cell 0 54] from rfl]
    go_simp
  · exact ⟨w.heap.size + 1, rfl, by omega, B1.out, ((Only.refl _ _).alloc _).alloc _⟩
end Go.Proofs.YtdadknejmnnkiaaGreat
