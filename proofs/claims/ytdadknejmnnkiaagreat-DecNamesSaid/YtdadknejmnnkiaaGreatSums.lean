import Derived.Test.YtdadknejmnnkiaaGreatMdct
namespace Go.Proofs.YtdadknejmnnkiaaGreat
open Go Go.RowKit
set_option maxRecDepth 100000

/-! mdct.sums -/
def sumTo (l : List Int) (at_ by_ : Int) : Nat → Int × Int
  | 0 => (0, at_)
  | j + 1 => (wrap64 ((sumTo l at_ by_ j).1 + wrap64 (l.getD j 0 * cosI ((sumTo l at_ by_ j).2 % 2048))), wrap64 ((sumTo l at_ by_ j).2 + by_))
def sumI (l : List Int) (bits : Int) (arc : Nat → Int × Int) (i : Nat) : Int := (roundI (sumTo l (arc i).1 (arc i).2 l.length).1 bits).1
/-- a function value that tells arcs -/
def Arcs (w : World) (g : Nat) (cap : Array Value) (many : Nat) (arc : Nat → Int × Int) : Prop :=
  ∀ (i : Nat) W, i < many → Only (fun _ => False) w W → Calls Tryz.prog g (#[.int .i64 i] ++ cap) W fun e w' => e = .returned (.tuple #[.int .i64 (arc i).1, .int .i64 (arc i).2]) ∧ Only (fun _ => False) W w'

set_option maxHeartbeats 1600000 in
theorem sums_any (l : List Int) (many : Nat) (bits : Int) (g : Nat) (cap : Array Value) (arc : Nat → Int × Int) (D : Nat → Prop) (v : Value) (w : World) (hv : SlV 1 intR D w v l) (hl : l.length ≤ lim) (hm : many ≤ 1000000) (he : Enters Tryz.prog g) (hp : Arcs w g cap many arc) :
    Calls Tryz.prog 122 #[v, .int .i64 many, .int .i64 bits, .func (.func g) #[] cap] w fun e w' => ∃ b, e = .returned (.slice (some ⟨b, 0, none⟩) many many) ∧ w.heap.size ≤ b ∧ Blk w' b 3 (row (sumI l bits arc) many) ∧ Only (fun _ => False) w w' := by
  obtain ⟨A, n, c, rfl, hn, hc⟩ := hv.form'
  have hn1 : n ≤ 1099511627776 := by have := lim_eq; omega
  have HV := Lib.hid hv
  have HN := Lib.hid hn
  have HP := Lib.hid hp
  have HE : ∀ (args : Array Value) (w : World), (callFunc g args).run Tryz.prog w = .ok (.enter g args) w := he
  clear hv hl hn hc he hp
  have hmk := run_mk intT .i64 .i64 many many (by omega) (by omega) (by omega) (by omega)
  rw [show ((many : Int).toNat) = many by omega, show (Value.int .i64 0).cells = #[.int .i64 0] from rfl, made1, row_replicate, upTo_zero (sumI l bits arc)] at hmk
  go_enter Tryz.func122, Tryz.ntmps122
  go_wp2_with fail
  refine (made_any _).mono ?_
  rintro e w1 ⟨rfl, b1, f1⟩
  have B1 := Lib.hid b1
  have F1 := Lib.hid f1
  have S1 := Lib.hid f1.size
  have L1 := Lib.hid b1.lt
  clear b1 f1
  go_wp2
  clear hmk
  generalize hg : w1.heap.size = go
  have B0 := Lib.hid (Blk.new w1 3 (row (upTo (sumI l bits arc) 0) many))
  rw [hg] at B0
  have C0 := Lib.hid (B1.out.alloc (.cells (row (upTo (sumI l bits arc) 0) many) 3))
  have F0 := Lib.hid (F1.out.alloc (.cells (row (upTo (sumI l bits arc) 0) many) 3))
  have HG := Lib.hid hg
  clear hg B1 F1
  go_loopw [22] (fun i W => ∃ k : Nat, k ≤ many ∧ i = .int .i64 k ∧ Hid (Blk W go 3 (row (upTo (sumI l bits arc) k) many)) ∧ Hid (Blk W w.heap.size 315 (row (fun k => cosI k) 2048)) ∧ Hid (Only (fun _ => False) w W)) (fun i _ => many - (intOf i).toNat)
  case atStart => exact ⟨0, Nat.zero_le _, rfl, B0, C0, F0⟩
  case round =>
    clear B0 C0 F0
    obtain ⟨k, hk, rfl, hb, hc, hf⟩ := hrel
    by_cases hlt : k < many
    · go_wp2_with fail
      refine (HP.out k _ hlt hf.out).mono ?_
      rintro e w2 ⟨rfl, f2⟩
      have B2 := Lib.hid (hb.out.only f2 (fun h => h))
      have C2 := Lib.hid (hc.out.only f2 (fun h => h))
      have F2 := Lib.hid (hf.out.trans f2)
      clear hb hc hf f2
      obtain ⟨a0, ha⟩ : ∃ a, (arc k).1 = a := ⟨_, rfl⟩
      obtain ⟨d0, hd⟩ : ∃ d, (arc k).2 = d := ⟨_, rfl⟩
      have HS : Hid (sumI l bits arc k = (roundI (sumTo l a0 d0 n).1 bits).1) := Lib.hid (by unfold sumI; rw [ha, hd, HN.out])
      rw [ha, hd]
      clear ha hd
      go_wp2
      go_loopw [12, 14, 33] (fun a s j W => ∃ q : Nat, q ≤ n ∧ a = .int .i64 (sumTo l a0 d0 q).2 ∧ s = .int .i64 (sumTo l a0 d0 q).1 ∧ j = .int .i64 q ∧ Hid (W = w2)) (fun _ _ j _ => n - (intOf j).toNat)
      case atStart => exact ⟨0, Nat.zero_le _, rfl, rfl, rfl, Lib.hid rfl⟩
      case round =>
        obtain ⟨q, hq, rfl, rfl, rfl, hW⟩ := hrel
        by_cases hlq : q < n
        · have hx : l[q]? = some (l[q]'(by have := HN.out; omega)) := List.getElem?_eq_getElem _
          generalize l[q]'(by have := HN.out; omega) = x at hx
          have HGD : Hid (l.getD q 0 = x) := Lib.hid (by rw [List.getD_eq_getElem?_getD, hx]; rfl)
          obtain ⟨b1, o1, rfl, hx2⟩ := ((HV.out.only (c1_good _) F2.out (fun _ _ _ h => h))).at_ hx
          have c1 := cell1 hx2
          unfold i2v at c1
          rw [← hW.out] at c1
          have HT : Hid (sumTo l a0 d0 (q + 1) = (wrap64 ((sumTo l a0 d0 q).1 + wrap64 (x * cosI ((sumTo l a0 d0 q).2 % 2048))), wrap64 ((sumTo l a0 d0 q).2 + d0))) := Lib.hid (by rw [sumTo, HGD.out])
          clear hx hx2
          generalize (sumTo l a0 d0 q).1 = s0 at *
          generalize (sumTo l a0 d0 q).2 = p0 at *
          have hmask := and_mask p0
          obtain ⟨m, hm⟩ : ∃ m : Nat, (m : Int) = p0 % 2048 := ⟨(p0 % 2048).toNat, by omega⟩
          rw [← hm] at hmask
          have hm1 : m < 2048 := by omega
          have c2 := C2.out.cell m
          rw [row_get _ _ _ hm1, ← hW.out] at c2
          rw [← hm] at HT
          clear hm
          go_wp2
          go_roundw
          case rel => exact ⟨q + 1, by omega, by rw [HT.out], by rw [HT.out], by go_num, hW⟩
          case measure => simp [intOf]; omega
        · have hqn : q = n := by omega
          subst hqn
          go_wp2_with fail
          refine (round_any _ _ _).mono ?_
          rintro e w3 ⟨rfl, f3⟩
          rw [← HS.out]
          rw [hW.out] at f3
          have b3 := B2.out.only f3 (fun h => h)
          have c3 := b3.cell k
          rw [row_get _ _ _ hlt] at c3
          have z3 := b3.frozen k
          have B3 := Lib.hid b3
          have C3 := Lib.hid (C2.out.only f3 (fun h => h))
          have F3 := Lib.hid (F2.out.trans f3)
          have hne : Hid (w.heap.size ≠ go) := Lib.hid (by have := L1.out; have := HG.out; omega)
          clear B2 C2 F2 b3 f3 hW
          go_wp2
          go_roundw
          case rel => exact ⟨k + 1, by omega, by go_num, Lib.hid (by rw [← upTo_set]; exact B3.out.set_ k _), Lib.hid (C3.out.far hne.out _), Lib.hid (F3.out.setCell (.inr (by have := S1.out; have := HG.out; show w.heap.size ≤ go; omega)) _)⟩
          case measure => simp [intOf]; omega
    · have hk2 : k = many := by omega
      subst hk2
      go_wp2
      go_ret
      exact ⟨go, rfl, by have := S1.out; have := HG.out; omega, by rw [← upTo_full]; exact hb.out, hf.out⟩
end Go.Proofs.YtdadknejmnnkiaaGreat
