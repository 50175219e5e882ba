import Derived.Test.YtdadknejmnnkiaaGreatFun
namespace Go.Proofs.YtdadknejmnnkiaaGreat
open Go Go.RowKit
set_option maxRecDepth 100000

/-! mdct -/
theorem circle_zero : Tryz.zeroCells315 = row (fun _ => 0) 2048 := by kernel_rfl
/-- a row, filled from the left -/
def upTo (f : Nat → Int) (k j : Nat) : Int := if j < k then f j else 0
theorem upTo_zero (f : Nat → Int) (n : Nat) : row (fun _ => 0) n = row (upTo f 0) n := row_ext fun j _ => by unfold upTo; rw [if_neg (Nat.not_lt_zero _)]
theorem upTo_set (f : Nat → Int) (n k : Nat) : (row (upTo f k) n).setIfInBounds k (.int .i64 (f k)) = row (upTo f (k + 1)) n := by
  rw [row_set]
  refine row_ext fun j _ => ?_
  unfold upTo
  by_cases h : j = k
  · subst h; rw [if_pos rfl, if_pos (by omega)]
  · rw [if_neg h]
    by_cases h2 : j < k
    · rw [if_pos h2, if_pos (by omega)]
    · rw [if_neg h2, if_neg (by omega)]
theorem upTo_full (f : Nat → Int) (n : Nat) : row (upTo f n) n = row f n := row_ext fun j hj => by unfold upTo; rw [if_pos hj]
theorem made_any (w : World) :
    Calls Tryz.prog 202 #[] w fun e w' => e = .returned (.pointer (some ⟨w.heap.size, 0, none⟩)) ∧ Blk w' w.heap.size 315 (row (fun k => cosI k) 2048) ∧ Only (fun _ => False) w w' := by
  go_enter Tryz.func202, Tryz.ntmps202
  go_wp2
  have b0 := Blk.new w 315 Tryz.zeroCells315
  rw [circle_zero, upTo_zero (fun k => cosI k)] at b0
  rw [circle_zero, upTo_zero (fun k => cosI k)]
  have B0 := Lib.hid b0
  have F0 := Lib.hid ((Only.refl (fun _ => False) w).alloc (.cells (row (upTo (fun k => cosI k) 0) 2048) 315))
  clear b0
  go_loopw [3] (fun i W => ∃ k : Nat, k ≤ 2048 ∧ i = .int .i64 k ∧ Hid (Blk W w.heap.size 315 (row (upTo (fun k => cosI k) k) 2048)) ∧ Hid (Only (fun _ => False) w W)) (fun i _ => 2048 - (intOf i).toNat)
  case atStart => exact ⟨0, by decide, rfl, B0, F0⟩
  case round =>
    clear B0 F0
    obtain ⟨k, hk, rfl, hb, hf⟩ := hrel
    by_cases hlt : k < 2048
    · go_wp2_with fail
      refine (cos_any _ _).mono ?_
      rintro e w1 ⟨rfl, f1⟩
      have b1 := hb.out.only f1 (fun h => h)
      have c1 := b1.cell k
      rw [row_get _ _ _ hlt] at c1
      have z1 := b1.frozen k
      have B1 := Lib.hid b1
      have F1 := Lib.hid (hf.out.trans f1)
      clear hb hf f1 b1
      go_wp2
      go_roundw
      case rel => exact ⟨k + 1, by omega, by go_num, by rw [← upTo_set]; exact B1.out.set_ k _, F1.out.setCell (.inr (Nat.le_refl _)) _⟩
      case measure => simp [intOf]; omega
    · have hk : k = 2048 := by omega
      subst hk
      go_wp2
      go_ret
      exact ⟨rfl, by rw [← upTo_full]; exact hb.out, hf.out⟩
theorem scale_any (m : Int) (w : World) :
    Calls Tryz.prog 124 #[.int .i64 m] w fun e w' => e = .returned (.int .i64 (if m = 32 then 8 else 1)) ∧ w = w' := by
  by_cases h : m = 32
  · subst h
    go_enter Tryz.func124, Tryz.ntmps124
    go_wp2
    go_ret
    exact ⟨rfl, rfl⟩
  · have h' : (m == 32) = false := by simpa using h
    rw [if_neg h]
    go_enter Tryz.func124, Tryz.ntmps124
    go_wp2
    go_ret
    exact ⟨rfl, rfl⟩
theorem enters_odd : Enters Tryz.prog 201 := enters_of Tryz.func201 (by kernel_rfl) rfl
/-- is a number beyond 'most'? -/
def beyond (most x : Int) : Bool := decide (x < -most) || decide (x > most)
theorem odd1_any (most x : Int) (g : Nat) (W : World) (hb : Blk W g 3 #[.int .i64 most]) (h0 : 0 ≤ most) (h1 : most ≤ 1152921504606846976) :
    Calls Tryz.prog 201 (#[.int .i64 x] ++ #[.pointer (some ⟨g, 0, none⟩)]) W fun e w' => e = .returned (.bool (beyond most x)) ∧ Only (fun _ => False) W w' := by
  have c0 := hb.cell 0
  clear hb
  show Calls Tryz.prog 201 #[.int .i64 x, .pointer (some ⟨g, 0, none⟩)] W _
  by_cases h : x < -most
  · have hr : beyond most x = true := by unfold beyond; simp [h]
    rw [hr]
    clear hr
    go_enter Tryz.func201, Tryz.ntmps201
    go_wp2
    go_ret
    exact ⟨rfl, Only.refl _ _⟩
  · by_cases h2 : x > most
    · have hr : beyond most x = true := by unfold beyond; simp [h2]
      rw [hr]
      clear hr
      go_enter Tryz.func201, Tryz.ntmps201
      go_wp2
      go_ret
      exact ⟨rfl, Only.refl _ _⟩
    · have hr : beyond most x = false := by unfold beyond; simp [h2, h]
      rw [hr]
      clear hr
      go_enter Tryz.func201, Tryz.ntmps201
      go_wp2
      go_ret
      exact ⟨rfl, Only.refl _ _⟩
theorem odd_any (most : Int) (l : List Int) (D : Nat → Prop) (v : Value) (w : World) (hv : SlV 1 intR D w v l) (hl : l.length ≤ lim) (h0 : 0 ≤ most) (h1 : most ≤ 1152921504606846976) :
    Calls Tryz.prog 121 #[v, .int .i64 most] w fun e w' => e = .returned (.bool (l.any (beyond most))) ∧ Only (fun _ => False) w w' := by
  obtain ⟨A, n, c, rfl, hn, hc⟩ := hv.form'
  have HV := Lib.hid hv
  have HL := Lib.hid hl
  clear hv hl hn hc
  obtain ⟨r, hr⟩ : ∃ r, l.any (beyond most) = r := ⟨_, rfl⟩
  rw [hr]
  have HR := Lib.hid hr
  clear hr
  go_enter Tryz.func121, Tryz.ntmps121
  go_wp2_with fail
  refine (containsFunc_int l (beyond most) _ _ D _ _ (HV.out.alloc (c1_good _) _) HL.out enters_odd ?_).mono ?_
  · intro x W f
    exact odd1_any most x _ W ((Blk.new w _ _).only f (fun h => h)) h0 h1
  · rintro e w1 ⟨rfl, f1⟩
    rw [HR.out]
    have F1 := Lib.hid (((Only.refl (fun _ => False) w).alloc (.cells #[.int .i64 most] 3)).trans f1)
    clear f1
    go_wp2
    go_ret
    exact ⟨rfl, F1.out⟩
end Go.Proofs.YtdadknejmnnkiaaGreat
