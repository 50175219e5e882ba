import Derived.Test.YtdadknejmnnkiaaGreatLapNext
import Derived.Deep.RegionLaw
namespace Go.Proofs.YtdadknejmnnkiaaGreat
open Go Go.RowKit
set_option maxRecDepth 100000

/-- append of a slice that came in to a row of the call's own, as one step of a region that draws -/
theorem step_appS {P : Program} {ops : Array Oper} {o : Oper} {a : Act} {w : World} {K : Act → World → Prop} {Q : Exit → Act → World → Prop} {E : Prop}
    {t e : TypeId} {z : Value} {size bytes : Nat} (et : ElemT P t e z size bytes) (hgd : o.guard = none) (s x : Operand)
    (ho : o.op = .call { callee := .builtin .append, args := #[s, x], argTypes := #[t, t] })
    (base : Nat) (v : Value) (n : Nat) (xs : List Value) (hs : a.eval s = v) (hown : w.ownsRow base e size v n xs)
    (A : Option Addr) (m c : Nat) (news : List Value) (hx : a.eval x = .slice A m c) (hl : news.length = m * size) (hsrc : Src w A news) (h1 : ∀ u ∈ news, u.oneCell' = true)
    (h63 : n + m ≤ maxLen) (hbytes : (n + m) * bytes ≤ 140737488355328) (hbase : base ≤ w.heap.size)
    (h : ∀ v' w', w'.ownsRow base e size v' (n + m) (xs ++ news) → w.grownBy w' v.ownBlock → (v'.ownBlock = v.ownBlock ∨ v'.ownBlock = some w.heap.size) → K (a.put o.dst v') w') :
    if Region.wanted o (yielded ops a.tmps) = true then Oper.wp P o a w K Q else E := by
  have hw : Region.wanted o (yielded ops a.tmps) = true := by simp [Region.wanted, hgd]
  rw [if_pos hw]
  obtain ⟨v', w', hrun, h2, h3, h4⟩ := run_app (ty := o.type) et base v n xs w hown A m c news hl hsrc h1 h63 hbytes hbase
  unfold Oper.wp
  simp [execOp, ho, resolve, invoke, builtin, hs, hx, hrun, Result.andThen]
  exact h v' w' h2 h3 h4

/-- the place of rows: a channel's samples, which the call owns -/
theorem put_any (P Q : Nat) (c0 c1 c2 c3 c4 c5 : Value) (n : Nat) (cs : Array Value) (k : Nat) (v : Value) (xs ys : List Int) (base : Nat) (D : Nat → Prop) (vy : Value) (w : World)
    (hp : Blk w P 46 #[c0, c1, c2, c3, c4, c5, .slice (some ⟨Q, 0, none⟩) n n]) (hq : Blk w Q 30 cs) (hk : cs[k]? = some v) (hn : k < n) (ho : Own w base 3 1 v (xs.map i2v)) (hb : base ≤ w.heap.size) (hy : SlV 1 intR D w vy ys) (hl : xs.length + ys.length ≤ lim) :
    Calls Tryz.prog 19 #[.pointer (some ⟨P, 0, none⟩), .int .i64 k, vy] w fun e w' => e = .returned (.tuple #[]) ∧ ∃ v', Blk w' Q 30 (cs.setIfInBounds k v') ∧ Own w' base 3 1 v' ((xs ++ ys).map i2v) ∧ Only (fun j => j = Q ∨ v.ownBlock = some j) w w' ∧ (v'.ownBlock = v.ownBlock ∨ v'.ownBlock = some w.heap.size) := by
  obtain ⟨A, m, c, rfl, hm, hc⟩ := hy.form'
  obtain ⟨A0, n0, c0', rfl⟩ := ho.form
  have e6 := hp.cell 6
  have ek := (hq.cell k).trans hk
  have zk := hq.frozen k
  have HP := Lib.hid hp
  have HQ := Lib.hid hq
  have HO := Lib.hid ho.row
  have HO' := Lib.hid ho
  have HY := Lib.hid hy
  have HM := Lib.hid hm
  have HL := Lib.hid hl
  have HK := Lib.hid hk
  have hne : 3 ≠ 30 := by decide
  have hne2 : 3 ≠ 46 := by decide
  have HN0 : Hid (n0 = xs.length) := Lib.hid (by have := ho.len; simpa using this)
  have hi : (k : Int) < (n : Int) := by omega
  clear hp hq hk ho hy hl hm hc
  go_enter Tryz.func19, Tryz.ntmps19
  go_wp2
  go_region_law (refine step_appS intT rfl (.tmp 17) (.tmp 18) rfl base _ n0 (xs.map i2v) rfl HO.out A m c (ys.map i2v) rfl (by rw [List.length_map, HM.out, Nat.mul_one]) HY.out.src (one_map _ _ (fun _ => rfl)) (by have := HL.out; have := HN0.out; have := HM.out; have := lim_eq; simp only [maxLen]; omega) (by have := HL.out; have := HN0.out; have := HM.out; have := lim_eq; omega) hb ?_; intro v' w' g1 g2 g3; obtain ⟨A3, c3, rfl⟩ := own_form g1; have G1 := Lib.hid g1; have G2 := Lib.hid g2; have G3 := Lib.hid g3; have HQ2 := Lib.hid (HQ.out.drew.app g2 HO.out hne); have r1 := (HQ2.out.cell k).trans HK.out; have r2 := HQ2.out.frozen k; have r3 := (HP.out.drew.app g2 HO.out hne2).cell 6; clear g1 g2 g3)
  all_goals
    clear r1 r2 r3 e6 ek zk
  all_goals go_wp2
  all_goals
    go_end0
    refine ⟨rfl, _, HQ2.out.set_ k _, ?_, ?_, G3.out⟩
    · rw [List.map_append]
      have ho : Own w' base 3 1 (.slice A3 (n0 + m) c3) (xs.map i2v ++ ys.map i2v) := ⟨_, G1.out⟩
      exact ho.far (ho.ne HQ2.out hne) _
    · exact ((((Only.refl (fun j => j = Q ∨ (Value.slice A0 n0 c0').ownBlock = some j) w).drew).app G2.out HO.out (fun j hj => .inl (.inr hj))).setCell (.inl (.inl rfl)) _)
end Go.Proofs.YtdadknejmnnkiaaGreat
