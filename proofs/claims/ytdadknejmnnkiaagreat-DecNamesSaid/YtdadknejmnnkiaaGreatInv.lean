import Derived.Test.YtdadknejmnnkiaaGreatSums
namespace Go.Proofs.YtdadknejmnnkiaaGreat
open Go Go.RowKit
set_option maxRecDepth 100000

/-! mdct.Inverse -/
def invArc (m : Int) (n : Nat) : Int × Int := ((2 * n + 1 + m) * (if m = 32 then 8 else 1), 2 * ((2 * n + 1 + m) * (if m = 32 then 8 else 1)))
theorem enters_inv1 : Enters Tryz.prog 123 := enters_of Tryz.func123 (by kernel_rfl) rfl
theorem inv1_any (m : Int) (hm : m = 256 ∨ m = 32) (n : Nat) (hn : n < 512) (g : Nat) (W : World) (hb : Blk W g 3 #[.int .i64 m]) :
    Calls Tryz.prog 123 (#[.int .i64 n] ++ #[.pointer (some ⟨g, 0, none⟩)]) W fun e w' => e = .returned (.tuple #[.int .i64 (invArc m n).1, .int .i64 (invArc m n).2]) ∧ Only (fun _ => False) W w' := by
  have c0 := hb.cell 0
  clear hb
  show Calls Tryz.prog 123 #[.int .i64 n, .pointer (some ⟨g, 0, none⟩)] W _
  unfold invArc
  have h1 : 0 ≤ m := by omega
  have h2 : m ≤ 256 := by omega
  obtain ⟨s, hs⟩ : ∃ s : Int, (if m = 32 then (8 : Int) else 1) = s := ⟨_, rfl⟩
  have s0 : s = 8 ∨ s = 1 := by rw [← hs]; split <;> simp
  rw [hs]
  have HS := Lib.hid hs
  clear hs hm
  have p0 : 0 ≤ (2 * (n : Int) + 1 + m) * s := Int.mul_nonneg (by omega) (by omega)
  have p1 : (2 * (n : Int) + 1 + m) * s ≤ 12000 := by rcases s0 with rfl | rfl <;> omega
  clear s0
  have hscale : ∀ W, Calls Tryz.prog 124 #[.int .i64 m] W fun e w' => e = .returned (.int .i64 s) ∧ w' = W := fun W => (scale_any m W).mono fun e w' ⟨h, h'⟩ => ⟨by rw [← HS.out]; exact h, h'.symm⟩
  go_enter Tryz.func123, Tryz.ntmps123
  go_wp2
  go_quiet ((go_at_call 124; refine Calls.quiet_of_same (hscale _)))
  clear hscale c0
  go_wp2
  go_ret2
  exact ⟨rfl, (Only.refl _ _).drewN _⟩

theorem inverse_any (l : List Int) (hm : l.length = 256 ∨ l.length = 32) (D : Nat → Prop) (v : Value) (w : World) (hv : SlV 1 intR D w v l) (hb : l.any (beyond 268435455) = false) :
    Calls Tryz.prog 64 #[v] w fun e w' => ∃ b, e = .returned (.tuple #[.slice (some ⟨b, 0, none⟩) (2 * l.length) (2 * l.length), .int .i64 0]) ∧ w.heap.size ≤ b ∧ Blk w' b 3 (row (sumI l (if l.length = 32 then 23 else 26) (invArc l.length)) (2 * l.length)) ∧ Only (fun _ => False) w w' := by
  obtain ⟨A, n, c, rfl, hn, hc⟩ := hv.form'
  rw [← hn] at hm
  have HL : Hid (l.length ≤ lim) := Lib.hid (by have := lim_eq; omega)
  have HV := Lib.hid hv
  have HB := Lib.hid hb
  have HN := Lib.hid hn
  rw [← hn]
  clear hv hb hn hc
  have hsum : ∀ (bits : Int) (W : World), Only (fun _ => False) w W → Blk W w.heap.size 3 #[.int .i64 n] → Calls Tryz.prog 122 #[.slice A n c, .int .i64 (2 * n), .int .i64 bits, .func (.func 123) #[] #[.pointer (some ⟨w.heap.size, 0, none⟩)]] W fun e w' => ∃ b, e = .returned (.slice (some ⟨b, 0, none⟩) (2 * n) (2 * n)) ∧ W.heap.size ≤ b ∧ Blk w' b 3 (row (sumI l bits (invArc n)) (2 * n)) ∧ Only (fun _ => False) W w' := by
    intro bits W f hb
    have h := sums_any l (2 * n) bits 123 #[.pointer (some ⟨w.heap.size, 0, none⟩)] (invArc n) D _ W (HV.out.quiet (c1_good _) f) HL.out (by omega) enters_inv1 (fun i W' hi f' => inv1_any n (by omega) i (by omega) _ W' (hb.only f' (fun h => h)))
    rw [show (((2 * n : Nat) : Int)) = 2 * (n : Int) by omega] at h
    exact h
  have HS := Lib.hid hsum
  clear hsum
  rcases hm with rfl | rfl
  · rw [if_neg (by decide)]
    go_enter Tryz.func64, Tryz.ntmps64
    go_wp2_with fail
    refine (odd_any _ l D _ _ (HV.out.alloc (c1_good _) _) HL.out (by decide) (by decide)).mono ?_
    rw [HB.out]
    rintro e w1 ⟨rfl, f1⟩
    have b1 := (Blk.new w 3 #[.int .i64 256]).only f1 (fun h => h)
    have c1 := b1.cell 0
    have B1 := Lib.hid b1
    have F1 := Lib.hid (((Only.refl (fun _ => False) w).alloc (.cells #[.int .i64 256] 3)).trans f1)
    clear f1 b1
    go_wp2_with fail
    refine (HS.out 26 _ F1.out B1.out).mono ?_
    rintro e w2 ⟨b, rfl, hb0, hb, f2⟩
    have H0 := Lib.hid (Nat.le_trans F1.out.size hb0)
    have HB2 := Lib.hid hb
    have F2 := Lib.hid (F1.out.trans f2)
    clear hb0 hb f2 c1
    go_wp2
    go_ret2
    exact ⟨b, rfl, H0.out, HB2.out, F2.out⟩
  · rw [if_pos rfl]
    go_enter Tryz.func64, Tryz.ntmps64
    go_wp2_with fail
    refine (odd_any _ l D _ _ (HV.out.alloc (c1_good _) _) HL.out (by decide) (by decide)).mono ?_
    rw [HB.out]
    rintro e w1 ⟨rfl, f1⟩
    have b1 := (Blk.new w 3 #[.int .i64 32]).only f1 (fun h => h)
    have c1 := b1.cell 0
    have B1 := Lib.hid b1
    have F1 := Lib.hid (((Only.refl (fun _ => False) w).alloc (.cells #[.int .i64 32] 3)).trans f1)
    clear f1 b1
    go_wp2_with fail
    refine (HS.out 23 _ F1.out B1.out).mono ?_
    rintro e w2 ⟨b, rfl, hb0, hb, f2⟩
    have H0 := Lib.hid (Nat.le_trans F1.out.size hb0)
    have HB2 := Lib.hid hb
    have F2 := Lib.hid (F1.out.trans f2)
    clear hb0 hb f2 c1
    go_wp2
    go_ret2
    exact ⟨b, rfl, H0.out, HB2.out, F2.out⟩
end Go.Proofs.YtdadknejmnnkiaaGreat
