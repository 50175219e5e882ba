import Derived.Test.YtdadknejmnnkiaaGreatInv
namespace Go.Proofs.YtdadknejmnnkiaaGreat
open Go Go.RowKit
set_option maxRecDepth 100000

/-! block -/
def timesI (l vs : List Int) (bits : Int) (k : Nat) : Int := (roundI (wrap64 (l.getD k 0 * vs.getD k 0)) bits).1
theorem times_any (l vs : List Int) (bits : Int) (D D' : Nat → Prop) (v v' : Value) (w : World) (hv : SlV 1 intR D w v l) (hv' : SlV 1 intR D' w v' vs) (hl : l.length ≤ 1000000) (hle : l.length ≤ vs.length) :
    Calls Tryz.prog 65 #[v, v', .int .i64 bits] w fun e w' => e = .returned (.slice (some ⟨w.heap.size, 0, none⟩) l.length l.length) ∧ Blk w' w.heap.size 3 (row (timesI l vs bits) l.length) ∧ Only (fun _ => False) w w' := by
  obtain ⟨A, n, c, rfl, hn, hc⟩ := hv.form'
  obtain ⟨A', n', c', rfl, hn', hc'⟩ := hv'.form'
  have hn1 : n ≤ 1000000 := by omega
  have hn2 : n ≤ n' := by omega
  have HV := Lib.hid hv
  have HV' := Lib.hid hv'
  have HN := Lib.hid hn
  have HN' := Lib.hid hn'
  rw [← hn]
  clear hv hv' hl hn hn' hc hc' hle
  have hmk := run_mk intT .i64 .i64 n n (by omega) (by omega) (by omega) (by omega)
  rw [show ((n : Int).toNat) = n by omega, show (Value.int .i64 0).cells = #[.int .i64 0] from rfl, made1, row_replicate, upTo_zero (timesI l vs bits)] at hmk
  go_enter Tryz.func65, Tryz.ntmps65
  go_wp2
  clear hmk
  have B0 := Lib.hid (Blk.new w 3 (row (upTo (timesI l vs bits) 0) n))
  have F0 := Lib.hid ((Only.refl (fun _ => False) w).alloc (.cells (row (upTo (timesI l vs bits) 0) n) 3))
  go_loopw [15] (fun i W => ∃ k : Nat, k ≤ n ∧ i = .int .i64 k ∧ Hid (Blk W w.heap.size 3 (row (upTo (timesI l vs bits) k) n)) ∧ Hid (Only (fun _ => False) w W)) (fun i _ => n - (intOf i).toNat)
  case atStart => exact ⟨0, Nat.zero_le _, rfl, B0, F0⟩
  case round =>
    clear B0 F0
    obtain ⟨k, hk, rfl, hb, hf⟩ := hrel
    by_cases hlt : k < n
    · have hx : l[k]? = some (l[k]'(by have := HN.out; omega)) := List.getElem?_eq_getElem _
      have hy : vs[k]? = some (vs[k]'(by have := HN'.out; omega)) := List.getElem?_eq_getElem _
      generalize l[k]'(by have := HN.out; omega) = x at hx
      generalize vs[k]'(by have := HN'.out; omega) = y at hy
      have HT : Hid (timesI l vs bits k = (roundI (wrap64 (x * y)) bits).1) := Lib.hid (by unfold timesI; rw [List.getD_eq_getElem?_getD, hx, List.getD_eq_getElem?_getD, hy]; rfl)
      obtain ⟨b1, o1, rfl, hx2⟩ := (HV.out.only (c1_good _) hf.out (fun _ _ _ h => h)).at_ hx
      obtain ⟨b2, o2, rfl, hy2⟩ := (HV'.out.only (c1_good _) hf.out (fun _ _ _ h => h)).at_ hy
      have c1 := cell1 hx2
      have c2 := cell1 hy2
      unfold i2v at c1 c2
      clear hx hy hx2 hy2
      go_wp2_with fail
      refine (round_any _ _ _).mono ?_
      rintro e w1 ⟨rfl, f1⟩
      rw [← HT.out]
      have b1' := hb.out.only f1 (fun h => h)
      have c3 := b1'.cell k
      rw [row_get _ _ _ hlt] at c3
      have z3 := b1'.frozen k
      have B1 := Lib.hid b1'
      have F1 := Lib.hid (hf.out.trans f1)
      clear hb hf f1 b1' c1 c2
      go_wp2
      go_roundw
      case rel => exact ⟨k + 1, by omega, by go_num, Lib.hid (by rw [← upTo_set]; exact B1.out.set_ k _), Lib.hid (F1.out.setCell (.inr (Nat.le_refl _)) _)⟩
      case measure => simp [intOf]; omega
    · have hkn : k = n := by omega
      subst hkn
      go_wp2
      go_ret
      exact ⟨rfl, by rw [← upTo_full]; exact hb.out, hf.out⟩

theorem shaped_any (a b : Int) (w : World) :
    Calls Tryz.prog 114 #[.int .u8 a, .int .u8 b] w fun e w' => e = .returned (.bool (decide (a ≤ 1) && decide (b ≤ 1))) ∧ w = w' := by
  by_cases h : a ≤ 1
  · simp only [h, decide_true, Bool.true_and]
    go_enter Tryz.func114, Tryz.ntmps114
    go_wp2
    go_ret
    exact ⟨rfl, rfl⟩
  · simp only [h, decide_false, Bool.false_and]
    go_enter Tryz.func114, Tryz.ntmps114
    go_wp2
    go_ret
    exact ⟨rfl, rfl⟩

theorem halfB_sine (w : World) :
    Calls Tryz.prog 119 #[.int .u8 0, .bool false] w fun e w' => e = .returned (.slice (some ⟨w.heap.size, 0, none⟩) 256 256) ∧ Blk w' w.heap.size 3 (row (sineI 1) 256) ∧ Only (fun _ => False) w w' := by
  go_enter Tryz.func119, Tryz.ntmps119
  go_wp2_with fail
  refine (halfSine_long w).mono ?_
  rintro e w1 ⟨rfl, b1, _, f1⟩
  have B1 := Lib.hid b1
  have F1 := Lib.hid f1
  clear b1 f1
  go_wp2
  go_ret
  exact ⟨rfl, B1.out, F1.out⟩
theorem fallB_sine (w : World) :
    Calls Tryz.prog 120 #[.int .u8 0, .bool false] w fun e w' => e = .returned (.slice (some ⟨w.heap.size, 0, none⟩) 256 256) ∧ Blk w' w.heap.size 3 (row (fun j => sineI 1 (255 - j)) 256) ∧ Only (fun _ => False) w w' := by
  go_enter Tryz.func120, Tryz.ntmps120
  go_wp2_with fail
  refine (halfB_sine w).mono ?_
  rintro e w1 ⟨rfl, b1, f1⟩
  have B1 := Lib.hid b1
  have F1 := Lib.hid f1
  clear b1 f1
  go_wp2_with fail
  refine (rev_any _ 256 _ _ B1.out (by decide) (by decide)).mono ?_
  rintro e w2 ⟨rfl, b2, f2⟩
  have B2 := Lib.hid b2
  have F2 := Lib.hid (F1.out.trans' f2 (fun i hi e => by omega))
  clear b2 f2
  go_wp2
  go_ret
  exact ⟨rfl, B2.out, F2.out⟩
end Go.Proofs.YtdadknejmnnkiaaGreat
