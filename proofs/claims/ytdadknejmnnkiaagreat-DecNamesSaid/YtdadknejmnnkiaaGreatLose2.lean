import Derived.Test.YtdadknejmnnkiaaGreatSyn
namespace Go.Proofs.YtdadknejmnnkiaaGreat
open Go Go.RowKit
set_option maxRecDepth 100000

theorem lose1_any (x : Int) (W : World) :
    Calls Tryz.prog 28 (#[.int .i64 x] ++ #[]) W fun e w' => e = .returned (.bool (beyond 268435455 x)) ∧ Only (fun _ => False) W w' := by
  show Calls Tryz.prog 28 #[.int .i64 x] W _
  by_cases h : x < -268435455
  · have hr : beyond 268435455 x = true := by unfold beyond; simp [h]
    rw [hr]
    clear hr
    go_enter Tryz.func28, Tryz.ntmps28
    go_wp2
    go_ret
    exact ⟨rfl, Only.refl _ _⟩
  · by_cases h2 : x > 268435455
    · have hr : beyond 268435455 x = true := by unfold beyond; simp [h2]
      rw [hr]
      clear hr
      go_enter Tryz.func28, Tryz.ntmps28
      go_wp2
      go_ret
      exact ⟨rfl, Only.refl _ _⟩
    · have hr : beyond 268435455 x = false := by unfold beyond; simp [h2, h]
      rw [hr]
      clear hr
      go_enter Tryz.func28, Tryz.ntmps28
      go_wp2
      go_ret
      exact ⟨rfl, Only.refl _ _⟩
theorem enters_lose1 : Enters Tryz.prog 28 := enters_of Tryz.func28 (by kernel_rfl) rfl
theorem lose4_any (l : List Int) (at_ : Int) (k : Nat) (x : Int) (D : Nat → Prop) (v : Value) (g g' : Nat) (W : World) (hv : SlV 1 intR D W v l) (hk : l[k]? = some x) (hb : Blk W g 30 #[v]) (hb' : Blk W g' 3 #[.int .i64 at_]) (h0 : 1 ≤ at_) (h1 : at_ ≤ 62) :
    Calls Tryz.prog 32 #[.int .i64 k, .pointer (some ⟨g, 0, none⟩), .pointer (some ⟨g', 0, none⟩)] W fun e w' => e = .returned (.int .i64 (x / 2 ^ at_.toNat)) ∧ Only (fun _ => False) W w' := by
  obtain ⟨A, n, c, rfl, hn, hc⟩ := hv.form'
  have hkn : k < n := by have := get_lt hk; omega
  obtain ⟨b1, o1, rfl, hx2⟩ := hv.at_ hk
  have c1 := cell1 hx2
  unfold i2v at c1
  have c2 := hb.cell 0
  have c3 := hb'.cell 0
  have h2 : 0 ≤ at_ := by omega
  clear hv hk hb hb' hx2 hn hc
  go_enter Tryz.func32, Tryz.ntmps32
  go_wp2
  go_quiet (fail)
  go_wp2
  go_ret
  exact ⟨rfl, (Only.refl _ _).drewN _⟩

def shrI (l : List Int) (at_ : Int) (k : Nat) : Int := l.getD k 0 / 2 ^ at_.toNat
set_option maxHeartbeats 1600000 in
theorem loseShr (l : List Int) (at_ many : Int) (D : Nat → Prop) (v : Value) (w : World) (hv : SlV 1 intR D w v l) (hl : l.length = 256) (hb : l.any (beyond 268435455) = false) (h0 : 1 ≤ at_) (h1 : at_ ≤ many) (h2 : many ≤ 65536) (h3 : at_ ≤ 8) :
    Calls Tryz.prog 16 #[v, .slice none 0 0, .int .i64 at_, .int .i64 many] w fun e w' => ∃ g, e = .returned (.tuple #[.slice (some ⟨g, 0, none⟩) 256 256, .int .i64 0]) ∧ w.heap.size ≤ g ∧ Blk w' g 3 (row (shrI l at_) 256) ∧ Only (fun _ => False) w w' := by
  obtain ⟨A, n, c, rfl, hn, hc⟩ := hv.form'
  rw [hl] at hn
  subst hn
  have HV := Lib.hid hv
  have HB := Lib.hid hb
  have HL := Lib.hid hl
  have HLL : Hid (l.length ≤ lim) := Lib.hid (by rw [hl]; decide)
  clear hv hb hl hc
  have hmk := run_mk intT .i64 .i64 256 256 (by decide) (by decide) (by decide) (by decide)
  rw [show ((256 : Int).toNat) = 256 from rfl, show (Value.int .i64 0).cells = #[.int .i64 0] from rfl, made1, row_replicate, upTo_zero (shrI l at_)] at hmk
  go_enter Tryz.func16, Tryz.ntmps16
  go_wp2_with fail
  obtain ⟨W4, hW4⟩ : ∃ W4, (((w.alloc (.cells #[.slice A 256 c] 30)).alloc (.cells #[.slice none 0 0] 30)).alloc (.cells #[.int .i64 at_] 3)).alloc (.cells #[.int .i64 many] 3) = W4 := ⟨_, rfl⟩
  have b0 : Blk W4 w.heap.size 30 #[.slice A 256 c] := by rw [← hW4]; exact (((Blk.new w _ _).alloc _).alloc _).alloc _
  have b1 : Blk W4 (w.heap.size + 1) 30 #[.slice none 0 0] := by
    rw [← hW4]
    have := ((Blk.new (w.alloc (.cells #[.slice A 256 c] 30)) 30 #[.slice none 0 0]).alloc (.cells #[.int .i64 at_] 3)).alloc (.cells #[.int .i64 many] 3)
    rwa [World.size_alloc] at this
  have b2 : Blk W4 (w.heap.size + 1 + 1) 3 #[.int .i64 at_] := by
    rw [← hW4]
    have := (Blk.new ((w.alloc (.cells #[.slice A 256 c] 30)).alloc (.cells #[.slice none 0 0] 30)) 3 #[.int .i64 at_]).alloc (.cells #[.int .i64 many] 3)
    rwa [World.size_alloc, World.size_alloc] at this
  have b3 : Blk W4 (w.heap.size + 1 + 1 + 1) 3 #[.int .i64 many] := by
    rw [← hW4]
    have := Blk.new (((w.alloc (.cells #[.slice A 256 c] 30)).alloc (.cells #[.slice none 0 0] 30)).alloc (.cells #[.int .i64 at_] 3)) 3 #[.int .i64 many]
    rwa [World.size_alloc, World.size_alloc, World.size_alloc] at this
  have F4 : Hid (Only (fun _ => False) w W4) := Lib.hid (by rw [← hW4]; exact ((((Only.refl _ _).alloc _).alloc _).alloc _).alloc _)
  rw [hW4]
  have HV4 := Lib.hid (HV.out.quiet (c1_good _) F4.out)
  clear hW4
  refine (containsFunc_int l (beyond 268435455) _ #[] D _ W4 HV4.out HLL.out enters_lose1 (fun x W _ => lose1_any x W)).mono ?_
  rw [HB.out]
  rintro e w1 ⟨rfl, f1⟩
  have c1 := (b1.only f1 (fun h => h)).cell 0
  have B := Lib.hid (And.intro (b0.only f1 (fun h => h)) (And.intro (b1.only f1 (fun h => h)) (And.intro (b2.only f1 (fun h => h)) (b3.only f1 (fun h => h)))))
  have F1 := Lib.hid (F4.out.trans f1)
  clear b0 b1 b2 b3 F4 HV4 f1
  go_wp2_with fail
  refine (containsFunc_int [] (beyond 268435455) _ #[] D _ w1 (SlV.nil_ _ _ _) (by decide) enters_lose1 (fun x W _ => lose1_any x W)).mono ?_
  rintro e w2 ⟨rfl, f2⟩
  have d0 := B.out.1.only f2 (fun h => h)
  have d1 := B.out.2.1.only f2 (fun h => h)
  have d2 := B.out.2.2.1.only f2 (fun h => h)
  have d3 := B.out.2.2.2.only f2 (fun h => h)
  have e1 := d1.cell 0
  have e2 := d2.cell 0
  have e3 := d3.cell 0
  have B2 := Lib.hid (And.intro d0 d2)
  have F2 := Lib.hid (F1.out.trans f2)
  clear B F1 f2 c1 d0 d1 d2 d3
  rw [show ([] : List Int).any (beyond 268435455) = false from rfl]
  by_cases hm : many ≤ 2
  all_goals go_wp2
  all_goals
    clear hmk e1 e2 e3
    have B0 := Lib.hid (Blk.new w2 3 (row (upTo (shrI l at_) 0) 256))
    have F0 := Lib.hid (F2.out.alloc (.cells (row (upTo (shrI l at_) 0) 256) 3))
    have P0 := Lib.hid (And.intro (B2.out.1.alloc (.cells (row (upTo (shrI l at_) 0) 256) 3)) (B2.out.2.alloc (.cells (row (upTo (shrI l at_) 0) 256) 3)))
    have S2 := Lib.hid F2.out.size
    have LT := Lib.hid (And.intro B2.out.1.lt B2.out.2.lt)
    clear B2 F2
    go_loopw [65] (fun i W => ∃ k : Nat, k ≤ 256 ∧ i = .int .i64 k ∧ Hid (Blk W w2.heap.size 3 (row (upTo (shrI l at_) k) 256)) ∧ Hid (Blk W w.heap.size 30 #[.slice A 256 c] ∧ Blk W (w.heap.size + 1 + 1) 3 #[.int .i64 at_]) ∧ Hid (Only (fun _ => False) w W)) (fun i _ => 256 - (intOf i).toNat)
    case atStart => exact ⟨0, by decide, rfl, B0, P0, F0⟩
    case round =>
      clear B0 P0 F0
      obtain ⟨k, hk, rfl, hb, hp, hf⟩ := hrel
      by_cases hlt : k < 256
      · have hx : l[k]? = some (l[k]'(by have := HL.out; omega)) := List.getElem?_eq_getElem _
        generalize l[k]'(by have := HL.out; omega) = x at hx
        have HX := Lib.hid hx
        have HS : Hid (x / 2 ^ at_.toNat = shrI l at_ k) := Lib.hid (by unfold shrI; rw [List.getD_eq_getElem?_getD, hx]; rfl)
        clear hx
        go_wp2_with fail
        refine (lose4_any l at_ k x D _ _ _ _ (HV.out.quiet (c1_good _) hf.out) HX.out hp.out.1 hp.out.2 h0 (by omega)).mono ?_
        rintro e w3 ⟨rfl, f3⟩
        rw [HS.out]
        have b3 := hb.out.only f3 (fun h => h)
        have c3 := b3.cell k
        rw [row_get _ _ _ hlt] at c3
        have z3 := b3.frozen k
        have B3 := Lib.hid b3
        have P3 := Lib.hid (And.intro (hp.out.1.only f3 (fun h => h)) (hp.out.2.only f3 (fun h => h)))
        have F3 := Lib.hid (hf.out.trans f3)
        clear hb hp hf f3 b3
        go_wp2
        go_roundw
        case rel => exact ⟨k + 1, by omega, by go_num, Lib.hid (by rw [← upTo_set]; exact B3.out.set_ k _), Lib.hid ⟨P3.out.1.far (by have := LT.out; show w.heap.size ≠ w2.heap.size; omega) _, P3.out.2.far (by have := LT.out; show w.heap.size + 1 + 1 ≠ w2.heap.size; omega) _⟩, Lib.hid (F3.out.setCell (.inr S2.out) _)⟩
        case measure => simp [intOf]; omega
      · have hkn : k = 256 := by omega
        subst hkn
        go_wp2
        go_ret2
        exact ⟨_, rfl, S2.out, by rw [← upTo_full]; exact hb.out, hf.out⟩
end Go.Proofs.YtdadknejmnnkiaaGreat
