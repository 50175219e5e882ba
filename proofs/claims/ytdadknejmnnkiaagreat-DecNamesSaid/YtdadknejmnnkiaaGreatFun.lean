import Derived.Test.YtdadknejmnnkiaaGreatRow2
namespace Go.Proofs.YtdadknejmnnkiaaGreat
open Go Go.RowKit
set_option maxRecDepth 100000

/-! slices.IndexFunc, ContainsFunc, Min, Max of numbers -/
/-- a function value that asks p, and turns no old memory -/
def Asks (w : World) (g : Nat) (cap : Array Value) (p : Int → Bool) : Prop :=
  ∀ x W, Only (fun _ => False) w W → Calls Tryz.prog g (#[.int .i64 x] ++ cap) W fun e w' => e = .returned (.bool (p x)) ∧ Only (fun _ => False) W w'
def Found (l : List Int) (p : Int → Bool) (i : Int) : Prop := if l.any p then 0 ≤ i else i = -1
theorem indexFunc_int (l : List Int) (p : Int → Bool) (g : Nat) (cap : Array Value) (D : Nat → Prop) (v : Value) (w : World) (hv : SlV 1 intR D w v l) (hl : l.length ≤ lim) (he : Enters Tryz.prog g) (hp : Asks w g cap p) :
    Calls Tryz.prog 60 #[v, .func (.func g) #[] cap] w fun e w' => (∃ i : Int, e = .returned (.int .i64 i) ∧ Found l p i) ∧ Only (fun _ => False) w w' := by
  obtain ⟨A, n, c, rfl, hn, hc⟩ := hv.form'
  have hn1 : n ≤ 1099511627776 := by have := lim_eq; omega
  have HV := Lib.hid hv
  have HN := Lib.hid hn
  have HP := Lib.hid hp
  have HE : ∀ (args : Array Value) (w : World), (callFunc g args).run Tryz.prog w = .ok (.enter g args) w := he
  clear hv hn hl hc hp he
  go_enter Tryz.func60, Tryz.ntmps60
  go_wp2
  go_loopw [8] (fun i W => ∃ k : Nat, k ≤ n ∧ i = .int .i64 k ∧ Hid ((l.take k).any p = false) ∧ Hid (Only (fun _ => False) w W)) (fun i _ => n - (intOf i).toNat)
  case atStart => exact ⟨0, Nat.zero_le _, rfl, Lib.hid rfl, Lib.hid (Only.refl _ _)⟩
  case round =>
    obtain ⟨k, hk, rfl, hq, hf⟩ := hrel
    by_cases hlt : k < n
    · have hx : l[k]? = some (l[k]'(by have := HN.out; omega)) := List.getElem?_eq_getElem _
      generalize l[k]'(by have := HN.out; omega) = x at hx
      obtain ⟨b1, o1, rfl, hx2⟩ := (HV.out.only (c1_good _) hf.out (fun _ _ _ h => h)).at_ hx
      have c1 := cell1 hx2
      unfold i2v at c1
      have HX := Lib.hid hx
      clear hx hx2
      go_wp2_with fail
      refine (HP.out x _ hf.out).mono ?_
      rintro e w1 ⟨rfl, f1⟩
      have F1 := Lib.hid (hf.out.trans f1)
      clear f1 hf
      rcases hpx : p x with _ | _
      · have HPX := Lib.hid hpx
        clear hpx
        go_wp2
        go_roundw
        case rel => exact ⟨k + 1, by omega, by go_num, Lib.hid (by rw [take_snoc HX.out, List.any_append, hq.out]; simp [HPX.out]), F1⟩
        case measure => simp [intOf]; omega
      · have HPX := Lib.hid hpx
        clear hpx
        go_wp2
        go_ret
        refine ⟨⟨_, rfl, ?_⟩, F1.out⟩
        unfold Found
        rw [if_pos (List.any_eq_true.2 ⟨x, List.mem_of_getElem? HX.out, HPX.out⟩)]
        omega
    · have hkn : l.any p = false := by
        have h := hq.out
        rwa [List.take_of_length_le (by have := HN.out; omega)] at h
      have HK := Lib.hid hkn
      clear hkn
      go_wp2
      go_ret
      refine ⟨⟨_, rfl, ?_⟩, hf.out⟩
      unfold Found
      rw [HK.out]
      simp
theorem containsFunc_int (l : List Int) (p : Int → Bool) (g : Nat) (cap : Array Value) (D : Nat → Prop) (v : Value) (w : World) (hv : SlV 1 intR D w v l) (hl : l.length ≤ lim) (he : Enters Tryz.prog g) (hp : Asks w g cap p) :
    Calls Tryz.prog 29 #[v, .func (.func g) #[] cap] w fun e w' => e = .returned (.bool (l.any p)) ∧ Only (fun _ => False) w w' := by
  obtain ⟨A, n, c, rfl, hn, hc⟩ := hv.form'
  have HV := Lib.hid hv
  have HL := Lib.hid hl
  have HP := Lib.hid hp
  have HE := Lib.hid he
  clear hv hl hp he hn hc
  obtain ⟨r, hr⟩ : ∃ r, l.any p = r := ⟨_, rfl⟩
  rw [hr]
  have HR := Lib.hid hr
  clear hr
  go_enter Tryz.func29, Tryz.ntmps29
  go_wp2_with fail
  refine (indexFunc_int l p g cap D _ w HV.out HL.out HE.out HP.out).mono ?_
  rintro e w1 ⟨⟨i, rfl, hi⟩, f1⟩
  have h : decide (0 ≤ i) = r := by
    unfold Found at hi
    rw [HR.out] at hi
    rcases r with _ | _
    · simp at hi; subst hi; rfl
    · simpa using hi
  have F1 := Lib.hid f1
  clear hi f1
  go_wp2
  go_ret
  exact ⟨rfl, F1.out⟩

theorem min_any (l : List Int) (x0 : Int) (D : Nat → Prop) (v : Value) (w : World) (hv : SlV 1 intR D w v (x0 :: l)) (hl : l.length + 1 ≤ lim) :
    Calls Tryz.prog 115 #[v] w fun e w' => e = .returned (.int .i64 (l.foldl min x0)) ∧ w = w' := by
  obtain ⟨A, n, c, rfl, hn, hc⟩ := hv.form'
  have hn1 : n ≤ 1099511627776 := by have := lim_eq; simp at hn; omega
  have hn0 : 1 ≤ n := by simp at hn; omega
  obtain ⟨b0, o0, rfl, hx0⟩ := hv.at_ (k := 0) rfl
  have c0 := cell1 hx0
  unfold i2v at c0
  rw [Nat.add_zero] at c0
  have HV := Lib.hid hv
  have HN : Hid (n = l.length + 1) := Lib.hid (by simpa using hn)
  clear hv hn hl hc hx0
  go_enter Tryz.func115, Tryz.ntmps115
  go_wp2
  clear c0
  go_loopw [3, 4] (fun b i W => ∃ k : Nat, k + 1 ≤ n ∧ b = .int .i64 ((l.take k).foldl min x0) ∧ i = .int .i64 ((k : Int) + 1) ∧ W = w) (fun _ i _ => n - (intOf i).toNat)
  case atStart => exact ⟨0, hn0, rfl, rfl, rfl⟩
  case round =>
    obtain ⟨k, hk, rfl, rfl, rfl⟩ := hrel
    by_cases hlt : k + 1 < n
    · have hx : l[k]? = some (l[k]'(by have := HN.out; omega)) := List.getElem?_eq_getElem _
      generalize l[k]'(by have := HN.out; omega) = x at hx
      have hx' : (x0 :: l)[k + 1]? = some x := by simpa using hx
      obtain ⟨b1, o1, h1, hx2⟩ := HV.out.at_ hx'
      cases h1
      have c1 := cell1 hx2
      unfold i2v at c1
      have HX := Lib.hid (show (l.take (k + 1)).foldl min x0 = min ((l.take k).foldl min x0) x by rw [take_snoc hx, List.foldl_append]; rfl)
      clear hx hx' hx2
      generalize (l.take k).foldl min x0 = b at HX
      by_cases hb : x < b
      · have hm : min b x = x := by omega
        rw [hm] at HX
        clear hm
        go_wp2
        go_roundw
        case rel => exact ⟨k + 1, by omega, by rw [HX.out], by go_num, trivial⟩
        case measure => simp [intOf]; omega
      · have hm : min b x = b := by omega
        rw [hm] at HX
        clear hm
        go_wp2
        go_roundw
        case rel => exact ⟨k + 1, by omega, by rw [HX.out], by go_num, trivial⟩
        case measure => simp [intOf]; omega
    · have HK : Hid ((l.take k).foldl min x0 = l.foldl min x0) := Lib.hid (by rw [List.take_of_length_le (by have := HN.out; omega)])
      generalize (l.take k).foldl min x0 = b at HK
      go_wp2
      go_ret
      exact ⟨by rw [← HK.out]; rfl, rfl⟩
theorem max_any (l : List Int) (x0 : Int) (D : Nat → Prop) (v : Value) (w : World) (hv : SlV 1 intR D w v (x0 :: l)) (hl : l.length + 1 ≤ lim) :
    Calls Tryz.prog 116 #[v] w fun e w' => e = .returned (.int .i64 (l.foldl max x0)) ∧ w = w' := by
  obtain ⟨A, n, c, rfl, hn, hc⟩ := hv.form'
  have hn1 : n ≤ 1099511627776 := by have := lim_eq; simp at hn; omega
  have hn0 : 1 ≤ n := by simp at hn; omega
  obtain ⟨b0, o0, rfl, hx0⟩ := hv.at_ (k := 0) rfl
  have c0 := cell1 hx0
  unfold i2v at c0
  rw [Nat.add_zero] at c0
  have HV := Lib.hid hv
  have HN : Hid (n = l.length + 1) := Lib.hid (by simpa using hn)
  clear hv hn hl hc hx0
  go_enter Tryz.func116, Tryz.ntmps116
  go_wp2
  clear c0
  go_loopw [3, 4] (fun b i W => ∃ k : Nat, k + 1 ≤ n ∧ b = .int .i64 ((l.take k).foldl max x0) ∧ i = .int .i64 ((k : Int) + 1) ∧ W = w) (fun _ i _ => n - (intOf i).toNat)
  case atStart => exact ⟨0, hn0, rfl, rfl, rfl⟩
  case round =>
    obtain ⟨k, hk, rfl, rfl, rfl⟩ := hrel
    by_cases hlt : k + 1 < n
    · have hx : l[k]? = some (l[k]'(by have := HN.out; omega)) := List.getElem?_eq_getElem _
      generalize l[k]'(by have := HN.out; omega) = x at hx
      have hx' : (x0 :: l)[k + 1]? = some x := by simpa using hx
      obtain ⟨b1, o1, h1, hx2⟩ := HV.out.at_ hx'
      cases h1
      have c1 := cell1 hx2
      unfold i2v at c1
      have HX := Lib.hid (show (l.take (k + 1)).foldl max x0 = max ((l.take k).foldl max x0) x by rw [take_snoc hx, List.foldl_append]; rfl)
      clear hx hx' hx2
      generalize (l.take k).foldl max x0 = b at HX
      by_cases hb : b < x
      · have hm : max b x = x := by omega
        rw [hm] at HX
        clear hm
        go_wp2
        go_roundw
        case rel => exact ⟨k + 1, by omega, by rw [HX.out], by go_num, trivial⟩
        case measure => simp [intOf]; omega
      · have hm : max b x = b := by omega
        rw [hm] at HX
        clear hm
        go_wp2
        go_roundw
        case rel => exact ⟨k + 1, by omega, by rw [HX.out], by go_num, trivial⟩
        case measure => simp [intOf]; omega
    · have HK : Hid ((l.take k).foldl max x0 = l.foldl max x0) := Lib.hid (by rw [List.take_of_length_le (by have := HN.out; omega)])
      generalize (l.take k).foldl max x0 = b at HK
      go_wp2
      go_ret
      exact ⟨by rw [← HK.out]; rfl, rfl⟩
end Go.Proofs.YtdadknejmnnkiaaGreat
