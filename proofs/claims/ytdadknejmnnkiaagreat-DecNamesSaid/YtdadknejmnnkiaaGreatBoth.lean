import Derived.Test.YtdadknejmnnkiaaGreatClone
import Derived.Stop.RegionWithIn
import Derived.Sort.QuietIn
namespace Go.Proofs.YtdadknejmnnkiaaGreat
open Go Go.RowKit
attribute [local go_sem] Oper.semAt_some
set_option maxRecDepth 100000

theorem both_val (A1 A2 : Option Addr) (n1 n2 c1 c2 : Nat) (w : World) :
    Calls Tryz.prog 35 #[.slice A1 n1 c1, .slice A2 n2 c2] w fun e w' => e = .returned (.func (.func 66) #[] #[.pointer (some ⟨w.heap.size, 0, none⟩), .pointer (some ⟨w.heap.size + 1, 0, none⟩)]) ∧
      Blk w' w.heap.size 30 #[.slice A1 n1 c1] ∧ Blk w' (w.heap.size + 1) 30 #[.slice A2 n2 c2] ∧ Only (fun _ => False) w w' := by
  go_enter Tryz.func35, Tryz.ntmps35
  go_wp2
  go_ret
  have h1 := Blk.new (w.alloc (.cells #[.slice A1 n1 c1] 30)) 30 #[.slice A2 n2 c2]
  rw [World.size_alloc] at h1
  exact ⟨rfl, (Blk.new w _ _).alloc _, h1, ((Only.refl _ _).alloc _).alloc _⟩

/-- the sums of two lists, as far as both go -/
def bothI (l1 l2 : List Int) : List Int := List.zipWith (fun a b => IntKind.i64.wrap (a + b)) l1 l2
theorem both_get {l1 l2 : List Int} {k : Nat} {x y : Int} (h1 : l1[k]? = some x) (h2 : l2[k]? = some y) : (bothI l1 l2)[k]? = some (IntKind.i64.wrap (x + y)) := by
  unfold bothI
  rw [List.getElem?_zipWith, h1, h2]
/-- how a round ended, in one word -/
def YEnd (S : Nat → Prop) (J Jx : Nat → World → Prop) (W1 : World) (k : Nat) (e : Ending) (W : World) : Prop := ∃ r, e = .returned (.bool r) ∧ (r = true → J (k + 1) W ∧ Kp S W1 W) ∧ (r = false → Jx (k + 1) W)
theorem yend {S : Nat → Prop} {J Jx : Nat → World → Prop} {W1 : World} {k : Nat} {e : Ending} {W : World} (h : (e = .returned (.bool true) ∧ J (k + 1) W ∧ Kp S W1 W) ∨ (e = .returned (.bool false) ∧ Jx (k + 1) W)) : YEnd S J Jx W1 k e W := by
  rcases h with ⟨rfl, h1, h2⟩ | ⟨rfl, h1⟩
  · exact ⟨true, rfl, fun _ => ⟨h1, h2⟩, (fun h => by cases h)⟩
  · exact ⟨false, rfl, (fun h => by cases h), fun _ => h1⟩
set_option maxHeartbeats 1600000 in
theorem both1_iter (l1 l2 : List Int) (D1 D2 : Nat → Prop) (b1 b2 : Nat) (v1 v2 : Value) (w : World) (h1 : Blk w b1 30 #[v1]) (h2 : Blk w b2 30 #[v2]) (s1 : SlV 1 intR D1 w v1 l1) (s2 : SlV 1 intR D2 w v2 l2) (hl1 : l1.length ≤ lim) (hl2 : l2.length ≤ lim) :
    Iter Tryz.prog 66 #[.pointer (some ⟨b1, 0, none⟩), .pointer (some ⟨b2, 0, none⟩)] (fun x => #[.int .i64 x]) (fun k => k = b1 ∨ k = b2 ∨ D1 k ∨ D2 k) (fun _ => False) (bothI l1 l2) w := by
  intro S hS n hn l J Jx W hW hJs hJx hY h0
  have S1 := Lib.hid (s1.keep (w' := W) (c1_good _) (fun k c e f hk hh => (hW k (.inr (.inr (.inl hk)))).trans hh))
  have S2 := Lib.hid (s2.keep (w' := W) (c1_good _) (fun k c e f hk hh => (hW k (.inr (.inr (.inr hk)))).trans hh))
  have B1 : Hid (Blk W b1 30 #[v1]) := Lib.hid ((hW b1 (.inl rfl)).trans h1)
  have B2 : Hid (Blk W b2 30 #[v2]) := Lib.hid ((hW b2 (.inr (.inl rfl))).trans h2)
  have K0 : Hid (∀ W', Kp S W W' → Blk W' b1 30 #[v1] ∧ Blk W' b2 30 #[v2] ∧ SlV 1 intR D1 W' v1 l1 ∧ SlV 1 intR D2 W' v2 l2) := Lib.hid fun W' hk =>
    ⟨(hk.2 b1 B1.out.lt (hS b1 (.inl rfl))).trans B1.out, (hk.2 b2 B2.out.lt (hS b2 (.inr (.inl rfl)))).trans B2.out,
      S1.out.keep (c1_good _) (fun k c e f hd hh => (hk.2 k (heap_lt hh) (hS k (.inr (.inr (.inl hd))))).trans hh),
      S2.out.keep (c1_good _) (fun k c e f hd hh => (hk.2 k (heap_lt hh) (hS k (.inr (.inr (.inr hd))))).trans hh)⟩
  obtain ⟨A1, n1, c1, rfl, hn1, hc1⟩ := s1.form'
  obtain ⟨A2, n2, c2, rfl, hn2, hc2⟩ := s2.form'
  have hm1 : n1 ≤ 1099511627776 := by have := lim_eq; omega
  have hm2 : n2 ≤ 1099511627776 := by have := lim_eq; omega
  have HN1 := Lib.hid hn1
  have HN2 := Lib.hid hn2
  have HY := Lib.hid hY
  have HJ0 := Lib.hid h0
  have HLEN : Hid ((bothI l1 l2).length = min n1 n2) := Lib.hid (by unfold bothI; rw [List.length_zipWith, hn1, hn2])
  have HJS := Lib.hid hJs
  clear hW hJs hJx hY h0 h1 h2 s1 s2 hS S1 S2 B1 B2 hn1 hn2 hc1 hc2 hl1 hl2
  refine callsIn_of_wp Tryz.func66 rfl trivial ?_ rfl
  simp only [Tryz.ntmps66, List.size_toArray, List.length_cons, List.length_nil, Nat.reduceAdd, Nat.reduceSub, Array.replicate_succ, Array.replicate_zero, List.push_toArray, List.append_toArray, List.nil_append, List.cons_append]
  gi_wp2
  gi_loopw [4] (fun i wr => ∃ k : Nat, k ≤ n1 ∧ k ≤ n2 ∧ i = .int .i64 k ∧ Hid (J k wr) ∧ Hid (Kp S W wr)) (fun i _ => n1 - (intOf i).toNat)
  case atStart => exact ⟨0, Nat.zero_le _, Nat.zero_le _, rfl, HJ0, Lib.hid (Kp.refl _ _)⟩
  case round =>
    obtain ⟨k, hk1, hk2, rfl, hJ, hK⟩ := hrel
    obtain ⟨p1, p2, p3, p4⟩ := K0.out _ hK.out
    have q1 := p1.cell 0
    have q2 := p2.cell 0
    by_cases hlt1 : k < n1
    · by_cases hlt2 : k < n2
      · have hx : l1[k]? = some (l1[k]'(by have := HN1.out; omega)) := List.getElem?_eq_getElem _
        have hy : l2[k]? = some (l2[k]'(by have := HN2.out; omega)) := List.getElem?_eq_getElem _
        generalize l1[k]'(by have := HN1.out; omega) = x at hx
        generalize l2[k]'(by have := HN2.out; omega) = y at hy
        obtain ⟨d1, o1, rfl, hx2⟩ := p3.at_ hx
        obtain ⟨d2, o2, rfl, hy2⟩ := p4.at_ hy
        have r1 := cell1 hx2
        have r2 := cell1 hy2
        unfold i2v at r1 r2
        have HZ := Lib.hid (both_get hx hy)
        clear hx hy hx2 hy2 p1 p2 p3 p4
        obtain ⟨fn, tmps, assign, body, hy, hR⟩ := HY.out k _ wr.drew HZ.out (HJS.out _ _ _ hJ.out ((Only.refl _ wr).drew))
        have HR := Lib.hid (hR.mono (R' := YEnd S J Jx wr.drew k) (fun e W h => yend h))
        have HK1 := Lib.hid (hK.out.trans (Only.refl S wr).drew.kp)
        clear hR hJ hK HZ
        gi_wp2
        gi_region_with (refine HR.out.mono ?_; rintro e W3 ⟨r, rfl, hr⟩)
        all_goals
          have HE := Lib.hid hr
          clear hr HR hy r1 r2 q1 q2
          cases r
        all_goals gi_wp2
        all_goals first
          | (go_end0
             exact ⟨⟨_, rfl⟩, .inr ⟨_, HE.out.2 (by first | rfl | trivial)⟩⟩)
          | (refine ⟨⟨k + 1, by omega, by omega, by go_num, Lib.hid (HE.out.1 rfl).1, Lib.hid (HK1.out.trans (HE.out.1 rfl).2)⟩, ?_⟩
             simp [intOf]
             omega)
      · obtain rfl : k = n2 := by omega
        have HM : Hid (min n1 k = k) := Lib.hid (by omega)
        have d1 : decide (k < n1) = true := by simpa using hlt1
        have d2 : decide ((k : Int) < (k : Int)) = false := by simp
        clear p1 p2 p3 p4 hlt1 hlt2
        have HJ9 := Lib.hid (fun m => HJS.out _ _ _ hJ.out ((Only.refl _ wr).drewN m))
        clear hJ
        gi_wp2
        refine wpIn_region_quiet_lit rfl (by kernel_rfl) (by kernel_rfl) ?_
        repeat (gi_big_quiet_step (fail))
        refine BigFrame.wpQuietIn_skip (by intro w _ f hf; trivial) rfl ?_
        go_simp
        repeat (gi_big_quiet_step (fail))
        refine wpQuietIn_nil ?_
        intro nq
        rename_i K8 hK8 K9 hK9
        refine hK9 _ _ ?_
        gi_wp2
        go_end0
        exact ⟨⟨_, rfl⟩, .inl (by rw [HLEN.out, HM.out]; exact HJ9.out _)⟩
    · obtain rfl : k = n1 := by omega
      have HM : Hid (min k n2 = k) := Lib.hid (by omega)
      have d2 : decide ((k : Int) < (k : Int)) = false := by simp
      clear p1 p2 p3 p4 hlt1
      have HJ9 := Lib.hid (fun m => HJS.out _ _ _ hJ.out ((Only.refl _ wr).drewN m))
      clear hJ
      gi_wp2
      refine wpIn_region_quiet_lit rfl (by kernel_rfl) (by kernel_rfl) ?_
      repeat (gi_big_quiet_step (fail))
      refine BigFrame.wpQuietIn_skip (by intro w _ f hf; trivial) rfl ?_
      go_simp
      repeat (gi_big_quiet_step (fail))
      refine wpQuietIn_nil ?_
      intro nq
      rename_i K8 hK8 K9 hK9
      refine hK9 _ _ ?_
      gi_wp2
      go_end0
      exact ⟨⟨_, rfl⟩, .inl (by rw [HLEN.out, HM.out]; exact HJ9.out _)⟩
end Go.Proofs.YtdadknejmnnkiaaGreat
