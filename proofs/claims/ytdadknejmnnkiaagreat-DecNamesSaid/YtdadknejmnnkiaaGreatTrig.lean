import Derived.Test.YtdadknejmnnkiaaGreatFix
import Derived.Test.YtdadknejmnnkiaaGreatRep
namespace Go.Proofs.YtdadknejmnnkiaaGreat
open Go Go.RowKit
set_option maxRecDepth 100000

/-! trig: cosines in whole numbers. -/
def roundedI (n b : Int) : Int := wrap64 (n + wrap64 (2 ^ (b.toNat - 1))) / 2 ^ b.toNat
theorem rounded_any (n b : Int) (w : World) (h0 : 1 ≤ b) (h1 : b ≤ 62) :
    Calls Tryz.prog 274 #[.int .i64 n, .int .i64 b] w fun e w' => e = .returned (.int .i64 (roundedI n b)) ∧ w = w' := by
  have hw : wrap64 (b - 1) = b - 1 := by unfold wrap64; omega
  have h2 : 0 ≤ b := by omega
  have h3 : 0 ≤ b - 1 := by omega
  go_enter Tryz.func274, Tryz.ntmps274
  go_wp2
  go_ret
  exact ⟨rfl, rfl⟩

def serTo (sq first : Int) (l : List Int) : Nat → Int × Int
  | 0 => (first, first)
  | k + 1 => (wrap64 ((roundedI (wrap64 ((serTo sq first l k).1 * sq)) 30).tdiv (l.getD k 0)),
      if k % 2 = 0 then wrap64 ((serTo sq first l k).2 - wrap64 ((roundedI (wrap64 ((serTo sq first l k).1 * sq)) 30).tdiv (l.getD k 0)))
      else wrap64 ((serTo sq first l k).2 + wrap64 ((roundedI (wrap64 ((serTo sq first l k).1 * sq)) 30).tdiv (l.getD k 0))))
def seriesI (first sq : Int) (l : List Int) : Int := (serTo sq first l l.length).2

theorem series_any (first sq : Int) (l : List Int) (D : Nat → Prop) (v : Value) (w : World) (hv : SlV 1 intR D w v l) (h0 : ∀ d ∈ l, d ≠ 0) (hl : l.length ≤ lim) :
    Calls Tryz.prog 275 #[.int .i64 first, .int .i64 sq, v] w fun e w' => e = .returned (.int .i64 (seriesI first sq l)) ∧ w = w' := by
  obtain ⟨A, n, c, rfl, hn, hc⟩ := hv.form'
  have hn1 : n ≤ 1099511627776 := by have := lim_eq; omega
  have HV := Lib.hid hv
  have HN := Lib.hid hn
  have H0 := Lib.hid h0
  clear hv hn hl hc h0
  go_enter Tryz.func275, Tryz.ntmps275
  go_wp2
  go_loopw [0, 7, 13] (fun f s i W => ∃ k : Nat, k ≤ n ∧ f = .int .i64 (serTo sq first l k).1 ∧ s = .int .i64 (serTo sq first l k).2 ∧ i = .int .i64 k ∧ W = w) (fun _ _ i _ => n - (intOf i).toNat)
  case atStart => exact ⟨0, Nat.zero_le _, rfl, rfl, rfl, rfl⟩
  case round =>
    obtain ⟨k, hk, rfl, rfl, rfl, rfl⟩ := hrel
    by_cases hlt : k < n
    · have hx : l[k]? = some (l[k]'(by have := HN.out; omega)) := List.getElem?_eq_getElem _
      generalize l[k]'(by have := HN.out; omega) = x at hx
      have hxd : x ≠ 0 := H0.out x (List.mem_of_getElem? hx)
      have hgd : l.getD k 0 = x := by rw [List.getD_eq_getElem?_getD, hx]; rfl
      obtain ⟨b1, o1, rfl, hx2⟩ := HV.out.at_ hx
      have c1 := cell1 hx2
      unfold i2v at c1
      have hs1 : (serTo sq first l (k + 1)).1 = wrap64 ((roundedI (wrap64 ((serTo sq first l k).1 * sq)) 30).tdiv x) := by rw [← hgd]; rfl
      have hs2 : (serTo sq first l (k + 1)).2 = if k % 2 = 0 then wrap64 ((serTo sq first l k).2 - (serTo sq first l (k + 1)).1) else wrap64 ((serTo sq first l k).2 + (serTo sq first l (k + 1)).1) := rfl
      have HS1 := Lib.hid hs1
      have HS2 := Lib.hid hs2
      clear hx hx2 hgd hs1 hs2
      generalize (serTo sq first l k).1 = f at *
      generalize (serTo sq first l k).2 = s at *
      by_cases hk2 : k % 2 = 0
      · have hq : ((k : Int) % 2 == 0) = true := by simp; omega
        have HK := Lib.hid hk2
        clear hk2
        go_wp2_with (go_at_call 274; refine (rounded_any _ _ _ (by decide) (by decide)).mono ?_; rintro e w1 ⟨rfl, rfl⟩)
        go_roundw
        case rel => exact ⟨k + 1, by omega, by rw [HS1.out], by rw [HS2.out, if_pos HK.out, HS1.out], by go_num, trivial⟩
        case measure => simp [intOf]; omega
      · have hq : ((k : Int) % 2 == 0) = false := by simp; omega
        have HK := Lib.hid hk2
        clear hk2
        go_wp2_with (go_at_call 274; refine (rounded_any _ _ _ (by decide) (by decide)).mono ?_; rintro e w1 ⟨rfl, rfl⟩)
        go_roundw
        case rel => exact ⟨k + 1, by omega, by rw [HS1.out], by rw [HS2.out, if_neg HK.out, HS1.out], by go_num, trivial⟩
        case measure => simp [intOf]; omega
    · have hkn : (serTo sq first l k).2 = seriesI first sq l := by
        have hkn : k = l.length := by have := HN.out; omega
        unfold seriesI
        rw [hkn]
      have HK := Lib.hid hkn
      clear hkn
      go_wp2
      go_ret
      exact ⟨by rw [← HK.out]; rfl, rfl⟩

def quarterI (n : Int) : Int :=
  if n > 256 then
    let a := roundedI (wrap64 (wrap64 (512 - n) * 3454217652358)) 20
    roundedI (seriesI a (roundedI (wrap64 (a * a)) 30) [6, 20, 42, 72, 110, 156, 210]) 4
  else
    let a := roundedI (wrap64 (n * 3454217652358)) 20
    roundedI (seriesI 1073741824 (roundedI (wrap64 (a * a)) 30) [2, 12, 30, 56, 90, 132, 182]) 4

theorem quarter_any (n : Int) (w : World) :
    Calls Tryz.prog 269 #[.int .i64 n] w fun e w' => e = .returned (.int .i64 (quarterI n)) ∧ Only (fun _ => False) w w' := by
  by_cases h : n > 256
  · have hr : quarterI n = roundedI (seriesI (roundedI (wrap64 (wrap64 (512 - n) * 3454217652358)) 20) (roundedI (wrap64 (roundedI (wrap64 (wrap64 (512 - n) * 3454217652358)) 20 * roundedI (wrap64 (wrap64 (512 - n) * 3454217652358)) 20)) 30) [6, 20, 42, 72, 110, 156, 210]) 4 := by unfold quarterI; rw [if_pos h]
    rw [hr]
    clear hr
    go_enter Tryz.func269, Tryz.ntmps269
    go_wp2_with fail
    refine (rounded_any _ _ _ (by decide) (by decide)).mono ?_
    rintro e w1 ⟨rfl, rfl⟩
    go_wp2_with fail
    refine (rounded_any _ _ _ (by decide) (by decide)).mono ?_
    rintro e w1 ⟨rfl, rfl⟩
    go_wp2_with fail
    refine (series_any _ _ [6, 20, 42, 72, 110, 156, 210] _ _ _ (slv_lit' i2v [6, 20, 42, 72, 110, 156, 210] w 3 w.heap.size 7 _ rfl rfl rfl (by decide)) (by decide) (by decide)).mono ?_
    rintro e w1 ⟨rfl, rfl⟩
    go_wp2_with fail
    refine (rounded_any _ _ _ (by decide) (by decide)).mono ?_
    rintro e w1 ⟨rfl, rfl⟩
    go_wp2
    go_ret
    exact ⟨rfl, (Only.refl _ _).alloc _⟩
  · have hr : quarterI n = roundedI (seriesI 1073741824 (roundedI (wrap64 (roundedI (wrap64 (n * 3454217652358)) 20 * roundedI (wrap64 (n * 3454217652358)) 20)) 30) [2, 12, 30, 56, 90, 132, 182]) 4 := by unfold quarterI; rw [if_neg h]
    rw [hr]
    clear hr
    go_enter Tryz.func269, Tryz.ntmps269
    go_wp2_with fail
    refine (rounded_any _ _ _ (by decide) (by decide)).mono ?_
    rintro e w1 ⟨rfl, rfl⟩
    go_wp2_with fail
    refine (rounded_any _ _ _ (by decide) (by decide)).mono ?_
    rintro e w1 ⟨rfl, rfl⟩
    go_wp2_with fail
    refine (series_any _ _ [2, 12, 30, 56, 90, 132, 182] _ _ _ (slv_lit' i2v [2, 12, 30, 56, 90, 132, 182] w 3 w.heap.size 7 _ rfl rfl rfl (by decide)) (by decide) (by decide)).mono ?_
    rintro e w1 ⟨rfl, rfl⟩
    go_wp2_with fail
    refine (rounded_any _ _ _ (by decide) (by decide)).mono ?_
    rintro e w1 ⟨rfl, rfl⟩
    go_wp2
    go_ret
    exact ⟨rfl, (Only.refl _ _).alloc _⟩

theorem and_mask (n : Int) : Go.bits .and .i64 n 2047 = n % 2048 := by
  have h1 : (BitVec.ofInt 64 n &&& BitVec.ofInt 64 2047).toNat = (n % 2048).toNat := by
    rw [BitVec.toNat_and, BitVec.toNat_ofInt, show (BitVec.ofInt 64 2047).toNat = 2 ^ 11 - 1 from rfl, Nat.and_two_pow_sub_one_eq_mod]
    omega
  have h2 : 0 ≤ n % 2048 ∧ n % 2048 < 2048 := by omega
  show IntKind.i64.wrap ((BitVec.ofInt 64 n &&& BitVec.ofInt 64 2047).toNat : Int) = _
  rw [h1]
  have h3 : (((n % 2048).toNat : Nat) : Int) = n % 2048 := by omega
  rw [h3]
  rw [IntKind.wrap_i64]
  omega
def cosI (n : Int) : Int :=
  let m := n % 2048
  let k := if m > 1024 then 2048 - m else m
  if k > 512 then wrap64 (-quarterI (1024 - k)) else quarterI k
theorem cos_any (n : Int) (w : World) :
    Calls Tryz.prog 253 #[.int .i64 n] w fun e w' => e = .returned (.int .i64 (cosI n)) ∧ Only (fun _ => False) w w' := by
  obtain ⟨m, hm⟩ : ∃ m, n % 2048 = m := ⟨_, rfl⟩
  have hb := and_mask n
  rw [hm] at hb
  have m0 : 0 ≤ m := by omega
  have m1 : m < 2048 := by omega
  unfold cosI
  rw [hm]
  clear hm
  by_cases h1 : m > 1024
  · simp only [if_pos h1]
    by_cases h2 : 2048 - m > 512
    · rw [if_pos h2]
      go_enter Tryz.func253, Tryz.ntmps253
      go_wp2_with (go_at_call 269; refine (quarter_any _ _).mono ?_; rintro e w1 ⟨rfl, f1⟩)
      go_ret
      exact ⟨rfl, f1⟩
    · rw [if_neg h2]
      go_enter Tryz.func253, Tryz.ntmps253
      go_wp2_with (go_at_call 269; refine (quarter_any _ _).mono ?_; rintro e w1 ⟨rfl, f1⟩)
      go_ret
      exact ⟨rfl, f1⟩
  · simp only [if_neg h1]
    by_cases h2 : m > 512
    · rw [if_pos h2]
      go_enter Tryz.func253, Tryz.ntmps253
      go_wp2_with (go_at_call 269; refine (quarter_any _ _).mono ?_; rintro e w1 ⟨rfl, f1⟩)
      go_ret
      exact ⟨rfl, f1⟩
    · rw [if_neg h2]
      go_enter Tryz.func253, Tryz.ntmps253
      go_wp2_with (go_at_call 269; refine (quarter_any _ _).mono ?_; rintro e w1 ⟨rfl, f1⟩)
      go_ret
      exact ⟨rfl, f1⟩
def sinI (n : Int) : Int := cosI (n % 2048 - 512)
theorem sin_any (n : Int) (w : World) :
    Calls Tryz.prog 251 #[.int .i64 n] w fun e w' => e = .returned (.int .i64 (sinI n)) ∧ Only (fun _ => False) w w' := by
  unfold sinI
  have hb := and_mask n
  obtain ⟨m, hm⟩ : ∃ m, n % 2048 = m := ⟨_, rfl⟩
  rw [hm] at hb ⊢
  have m0 : 0 ≤ m := by omega
  have m1 : m < 2048 := by omega
  clear hm
  go_enter Tryz.func251, Tryz.ntmps251
  go_wp2_with (go_at_call 253; refine (cos_any _ _).mono ?_; rintro e w1 ⟨rfl, f1⟩)
  go_ret
  exact ⟨rfl, f1⟩
end Go.Proofs.YtdadknejmnnkiaaGreat
