import Derived.Test.YtdadknejmnnkiaaGreatIter
import Derived.Test.YtdadknejmnnkiaaGreatProg
namespace Go.Proofs.YtdadknejmnnkiaaGreat
open Go Go.RowKit
attribute [local go_sem] Oper.semAt_some
set_option maxRecDepth 100000

def b2i (b : Bool) : Int := if b then 1 else 0
/-- a bit as a byte -/
def b2v (b : Bool) : Value := .int .u8 (b2i b)
/-- the 'size' lowest bits of n, the highest first -/
def toBits (n : Int) : Nat → List Bool
  | 0 => []
  | k + 1 => (n / 2 ^ k % 2 == 1) :: toBits n k

theorem toBits_len (v : Int) (k : Nat) : (toBits v k).length = k := by induction k with | zero => rfl | succ k ih => simp [toBits, ih]
theorem toBits_get (v : Int) (n k : Nat) (h : k < n) : (toBits v n)[n - (k + 1)]? = some (v / 2 ^ k % 2 == 1) := by
  induction n with
  | zero => omega
  | succ n ih =>
    by_cases e : k = n
    · subst e; simp [toBits]
    · have : n + 1 - (k + 1) = (n - (k + 1)) + 1 := by omega
      rw [this, toBits, List.getElem?_cons_succ, ih (by omega)]
theorem toBits_take (v : Int) (n k : Nat) (h : k < n) : (toBits v n).take (n - k) = (toBits v n).take (n - (k + 1)) ++ [v / 2 ^ k % 2 == 1] := by
  have e : n - k = (n - (k + 1)) + 1 := by omega
  rw [e, List.take_add_one, toBits_get v n k h]; rfl
theorem b2i_mod (x : Int) : b2i (x % 2 == 1) = x % 2 := by
  unfold b2i
  rcases (show x % 2 = 0 ∨ x % 2 = 1 by omega) with h | h <;> simp [h]
theorem i64_and1 (n : Int) : bits .and .i64 n 1 = n % 2 := by
  have h1 : (BitVec.ofInt 64 1).toNat = 2 ^ 1 - 1 := by decide
  have key : (BitVec.ofInt 64 n &&& BitVec.ofInt 64 1).toNat = (n % ((2 ^ 64 : Nat) : Int)).toNat % 2 ^ 1 := by
    rw [BitVec.toNat_and, BitVec.toNat_ofInt, h1, Nat.and_two_pow_sub_one_eq_mod]
  show IntKind.i64.wrap ((BitVec.ofInt 64 n &&& BitVec.ofInt 64 1).toNat : Nat) = n % 2
  rw [key, IntKind.wrap_i64]
  omega

theorem each1_iter (Bn Bs : Nat) (v : Int) (size : Nat) (hs : size ≤ 31) (w : World) (cn : Blk w Bn 3 #[.int .i64 v]) (cs : Blk w Bs 3 #[.int .i64 size]) :
    Iter Tryz.prog 152 #[.pointer (some ⟨Bs, 0, none⟩), .pointer (some ⟨Bn, 0, none⟩)] (fun x => #[.int .u8 (b2i x)]) (fun k => k = Bn ∨ k = Bs) (fun _ => False) (toBits v size) w := by
  intro S hS n hn l J Jx W hW hJs hJx hY h0
  have hBn : ¬ S Bn := hS Bn (.inl rfl)
  have cn0 : Blk W Bn 3 #[.int .i64 v] := (hW Bn (.inl rfl)).trans cn
  have cn : W.cell? ⟨Bn, 0, none⟩ = some (.int .i64 v) := cn0.cell 0
  have cs0 : Blk W Bs 3 #[.int .i64 size] := (hW Bs (.inr rfl)).trans cs
  have cs : W.cell? ⟨Bs, 0, none⟩ = some (.int .i64 size) := cs0.cell 0
  clear hW hJs hJx
  refine callsIn_of_wp Tryz.func152 rfl trivial ?_ rfl
  simp only [Tryz.ntmps152, List.size_toArray, List.length_cons, List.length_nil, Nat.reduceAdd, Nat.reduceSub, Array.replicate_succ, Array.replicate_zero, List.push_toArray, List.append_toArray, List.nil_append, List.cons_append]
  gi_wp2
  have hlen : (toBits v size).length = size := toBits_len v size
  gi_loopw [4] (fun i wr => ∃ (k : Nat), k ≤ size ∧ i = .int .i64 ((k : Int) - 1) ∧ J (size - k) wr ∧ wr.cell? ⟨Bn, 0, none⟩ = some (.int .i64 v))
    (fun i wr => (intOf i + 1).toNat)
  case atStart => exact ⟨size, Nat.le_refl _, by simp, by simpa using h0, cn⟩
  case round =>
    obtain ⟨k, hk, rfl, hJ, hcn⟩ := hrel
    cases k with
    | zero =>
      gi_wp2
      go_end0
      exact ⟨⟨_, rfl⟩, .inl (by rw [hlen]; exact hJ)⟩
    | succ k =>
      have hx : (toBits v size)[size - (k + 1)]? = some (v / 2 ^ k % 2 == 1) := toBits_get v size k (by omega)
      obtain ⟨fn, tmps, assign, body, hy, hR⟩ := hY _ (v / 2 ^ k % 2 == 1) wr hx hJ
      have hsh : (↑(k + 1) - 1 : Int) = (k : Int) := by omega
      rw [hsh]
      have hb : b2i (v / 2 ^ k % 2 == 1) = bits .and .i64 (v / 2 ^ k) 1 % 256 := by rw [b2i_mod, i64_and1]; omega
      rw [hb] at hy
      clear hb hx
      gi_wp2
      refine hR.mono ?_
      rintro e W3 (⟨rfl, hJ3, hk3⟩ | ⟨rfl, hJx3⟩)
      · have hcn3 : W3.cell? ⟨Bn, 0, none⟩ = some (.int .i64 v) := hk3.cell hBn hcn
        gi_wp2
        go_roundw
        case rel => exact ⟨k, by omega, rfl, (show size - (k + 1) + 1 = size - k by omega) ▸ hJ3, hcn3⟩
        case measure => simp [intOf]
      · gi_wp2
        refine bodyPost_ret (results_none rfl _ _ _) rfl ?_
        exact ⟨⟨_, rfl⟩, .inr ⟨_, hJx3⟩⟩

theorem one_bits (l : List Bool) : ∀ u ∈ l.map b2v, u.oneCell' = true := by intro u hu; obtain ⟨b, _, rfl⟩ := List.mem_map.1 hu; rfl
theorem byteT : ElemT Tryz.prog 35 5 (.int .u8 0) 1 1 := ElemT.of Tryz.underlying35 (by kernel_rfl) rfl (by decide)

theorem appendSeq_any (foot : Nat → Prop) (g : Nat) (lb : Array Value) (xs l : List Bool) (B : Nat) (v : Value) (w : World) (hown0 : Own w B 5 1 v (l.map b2v)) (hB : B ≤ w.heap.size)
    (eg : ∀ args w, (callFunc g args).run Tryz.prog w = .ok (.enter g args) w) (hit : Iter Tryz.prog g lb (fun x => #[.int .u8 (b2i x)]) foot (fun _ => False) xs w) (hfoot : ∀ k, foot k → k < w.heap.size ∧ v.ownBlock ≠ some k)
    (hlen0 : l.length + xs.length ≤ lim) :
    Calls Tryz.prog 94 #[v, .func (.func g) #[] lb] w fun e w' => ∃ v', e = .returned v' ∧ Own w' B 5 1 v' ((l ++ xs).map b2v) ∧ Only (fun k => v.ownBlock = some k) w w' ∧
      (v'.ownBlock = v.ownBlock ∨ ∃ k, v'.ownBlock = some k ∧ w.heap.size ≤ k) := by
  have hlen := Lib.hid hlen0
  clear hlen0
  obtain ⟨A, m, c, rfl⟩ := hown0.form
  obtain rfl : m = l.length := by simpa using hown0.len
  have hown := hown0.row
  refine (callsIn_wide (n := 5)).1 ?_
  refine callsIn_of_wp_marks Tryz.func94 rfl trivial ?_ rfl
  simp only [Tryz.ntmps94, List.size_toArray, List.length_cons, List.length_nil, Nat.reduceAdd, Nat.reduceSub, Array.replicate_succ, Array.replicate_zero, List.push_toArray, List.append_toArray, List.nil_append, List.cons_append]
  gi_wp2
  have hS : ∀ k, foot k → ¬ ((Value.slice A l.length c).ownBlock = some k ∨ w.heap.size ≤ k) := fun k hk h => by have := hfoot k hk; rcases h with h | h; exact this.2 h; omega
  have hW0 : Only (fun _ => False) w (w.alloc (.cells #[.slice A l.length c] 35)) := (Only.refl _ w).alloc _
  refine range_top (by omega) rfl eg (hit.later fun k hk => hW0.block k (hfoot k hk).1 (fun h => h)) (fun k => (Value.slice A l.length c).ownBlock = some k ∨ w.heap.size ≤ k) hS (fun k hk => .inr (by simp at hk; omega)) (fun k hk => by have := (hfoot k hk).1; simp; omega) (fun _ => rfl)
    (fun k W => ∃ u, Blk W w.heap.size 35 #[u] ∧ W.ownsRow B 5 1 u (l ++ xs.take k).length ((l ++ xs.take k).map b2v) ∧ Only (fun k => (Value.slice A l.length c).ownBlock = some k) w W ∧
      (u.ownBlock = (Value.slice A l.length c).ownBlock ∨ ∃ k, u.ownBlock = some k ∧ w.heap.size ≤ k)) (fun _ _ => False) ?hI (fun _ _ _ h _ => h) ?h0 ?round ?done ?stop
  case hI =>
    rintro k X Y ⟨u, h1, h2, h3, h4⟩ hh
    exact ⟨u, h1.hush hh (fun h => h), own_hush h2 hh (fun _ _ h => h), h3.hush hh (by simp) (fun _ _ h => h.elim), h4⟩
  case h0 =>
    exact ⟨_, Blk.new _ _ _, by simpa using hown.alloc _, (Only.refl _ w).alloc _, .inl rfl⟩
  case round =>
    rintro ll k x W hx ⟨u, h1, h2, h3, h4⟩
    gi_wp2
    refine ⟨KeepsFrom.refl _ _, Kp.refl _ _, fun W2 hh hll hrec => ?_⟩
    replace h1 := h1.hush hh (fun h => h)
    replace h2 := own_hush h2 hh (fun _ _ h => h)
    replace h3 := h3.hush hh (by simp) (fun _ _ h => h.elim)
    have hk : k < xs.length := get_lt hx
    rw [show (l ++ xs.take k).length = l.length + k by simp; omega] at h2
    obtain ⟨A', c', rfl⟩ := own_form h2
    have hc1 := h1.cell 0
    have hf1 := h1.frozen 0
    gi_wp2_with (gi_at_builtin; refine wpListIn_app byteT rfl (.tmp 8) (.tmp 10) rfl B _ _ _ rfl (h2.alloc _) ⟨W2.heap.size, 0, none⟩ 1 1 [.int .u8 (b2i x)] rfl rfl (cell_one_new _ _ _) (by simp [Value.oneCell']) (by have := hlen.out; have := lim_eq; simp only [maxLen]; omega) (by have := hlen.out; have := lim_eq; omega) (by have := h3.size; simp; omega) ?_; intro u' W3 g1 g2 g3; obtain ⟨A3, c3, rfl⟩ := own_form g1; have hb3 := (h1.alloc _).app g2 (h2.alloc _) (by decide); have hc3 := hb3.cell 0; have hf3 := hb3.frozen 0)
    have hlt := h1.lt
    have hu : ∀ j, (Value.slice A' (l.length + k) c').ownBlock = some j → (Value.slice A l.length c).ownBlock = some j ∨ w.heap.size ≤ j := by
      intro j hj; rcases h4 with h4 | ⟨i, h4, h5⟩
      · left; rw [← h4]; exact hj
      · right; rw [hj] at h4; cases h4; exact h5
    have hO : Only (fun k => (Value.slice A l.length c).ownBlock = some k ∨ w.heap.size ≤ k) W2 (W3.setCell ⟨w.heap.size, 0, none⟩ (.slice A3 (l.length + k + 1) c3)) :=
      ((((Only.refl _ W2).alloc _).app g2 (h2.alloc _) (fun j hj => .inl (hu j hj))).setCell (.inl (.inr (Nat.le_refl _))) _)
    have hne : w.heap.size ≠ (W2.alloc (.cells #[.int .u8 (b2i x)] 5)).heap.size := by simp; omega
    refine ⟨hO.keepsFrom _, hO.kp, .slice A3 (l.length + k + 1) c3, hb3.set_ 0 _, ?_, h3.trans' hO (fun i hi h => by rcases h with h | h; exact h; omega), ?_⟩
    · rw [take_snoc hx, ← List.append_assoc, List.map_append, List.length_append (bs := [x]), show (l ++ xs.take k).length = l.length + k by simp; omega]
      exact own_far g1 (fun e => own_ne g1 hb3 (by decide) e.symm) _
    · rcases g3 with g3 | g3
      · rcases h4 with h4 | ⟨i, h4, h5⟩
        · exact .inl (g3.trans h4)
        · exact .inr ⟨i, g3.trans h4, h5⟩
      · exact .inr ⟨_, g3, by simp; omega⟩
  case done =>
    rintro D W hD ⟨u, h1, h2, h3, h4⟩ hK
    rw [List.take_length] at h2
    have hc1 := h1.cell 0
    gi_wp2
    refine ⟨by simp, .inl ⟨_, _, rfl, run_takeDeferred hK, ?_⟩⟩
    simp at hD
    have hh := hush_putObj (B := w.heap.size) (fun _ => False) (.deferred none) (by omega) hK rfl
    exact ⟨_, results_tmp rfl _ _ _, u, rfl, ⟨_, own_hush h2 hh (fun _ _ h => h)⟩, h3.hush hh (Nat.le_refl _) (fun _ _ h => h.elim), h4⟩
  case stop => exact fun _ _ _ _ h _ => h.elim

/-- slices.Clone of bytes: a row of the call's own. -/
theorem clone_any (l : List Bool) (D : Nat → Prop) (v : Value) (w : World) (hv : SlV 1 (c1 b2v) D w v l) (hl : l.length ≤ lim) :
    Calls Tryz.prog 95 #[v] w fun e w' => ∃ v', e = .returned v' ∧ Own w' w.heap.size 5 1 v' (l.map b2v) ∧ Only (fun _ => False) w w' ∧ (v'.ownBlock = none ∨ ∃ k, v'.ownBlock = some k ∧ w.heap.size ≤ k) := by
  obtain ⟨A, c, rfl, hlc⟩ := hv.form
  have HL := Lib.hid hl
  have hnil := fun (w : World) (a) (l c l' c' : Nat) => Lib.run_eql_slice_nil (P := Tryz.prog) w 35 5 a l c l' c' Tryz.underlying35
  clear hl hlc
  rcases A with _ | ad
  · obtain rfl : l = [] := by
      rcases l with _ | ⟨a, l⟩
      · rfl
      · obtain ⟨b, o, h, _⟩ := hv.at_ (k := 0) rfl; cases h
    go_enter Tryz.func95, Tryz.ntmps95
    go_wp2
    go_ret
    exact ⟨_, rfl, Own.nil_ _ _ _ _, Only.refl _ _, .inl rfl⟩
  · go_enter Tryz.func95, Tryz.ntmps95
    have hs : Src (w.alloc (.cells #[] 5)) (some ad) (l.map b2v) := (hv.keep (c1_good _) (((Only.refl (fun _ => False) w).alloc _).cellKeep (fun _ _ _ h => h))).src
    have hs' := Lib.hid hs
    clear hs hv
    go_wp2_with (at_builtin; refine wpList_appS byteT rfl (.tmp 5) (.tmp 6) rfl w.heap.size (.slice (some ⟨w.heap.size, 0, none⟩) 0 0) 0 [] rfl (World.ownsRow_made (e := 5) (size := 1) w #[] 0 (Nat.le_refl _) (by decide) rfl) (some ad) l.length c (l.map b2v) rfl (by simp) hs'.out (one_bits l) (by have := HL.out; have := lim_eq; simp only [maxLen]; omega) (by have := HL.out; have := lim_eq; omega) (by simp) ?_; intro v1 w1 g1 g2 g3)
    go_ret
    rw [Nat.zero_add, List.nil_append] at g1
    refine ⟨v1, rfl, ⟨_, g1⟩, ((Only.refl _ w).alloc _).app g2 (World.ownsRow_made (e := 5) (size := 1) w #[] 0 (Nat.le_refl _) (by decide) rfl) (fun k hk => .inr (by simp [Value.ownBlock] at hk; omega)), ?_⟩
    rcases g3 with g3 | g3
    · exact .inr ⟨_, g3, Nat.le_refl _⟩
    · exact .inr ⟨_, g3, by simp⟩

theorem sized_any (n : Int) (w : World) : Calls Tryz.prog 93 #[.int .i64 n] w fun e w' => e = .returned (.bool (decide (0 ≤ n) && decide (n ≤ 31))) ∧ w = w' := by
  by_cases h : 0 ≤ n
  · go_enter Tryz.func93, Tryz.ntmps93
    go_wp2
    go_ret
    exact ⟨by simp [h], rfl⟩
  · go_enter Tryz.func93, Tryz.ntmps93
    go_wp2
    go_ret
    exact ⟨by simp; omega, rfl⟩
theorem each_any (n size : Int) (w : World) : Calls Tryz.prog 96 #[.int .i64 n, .int .i64 size] w fun e w' =>
    e = .returned (.func (.func 152) #[] #[.pointer (some ⟨w.heap.size + 1, 0, none⟩), .pointer (some ⟨w.heap.size, 0, none⟩)]) ∧ w' = (w.alloc (.cells #[.int .i64 n] 3)).alloc (.cells #[.int .i64 size] 3) := by
  go_enter Tryz.func96, Tryz.ntmps96
  go_wp2
  go_ret
  exact ⟨rfl, rfl⟩

/-- bits.Put, where it may be. -/
theorem put_ok (l : List Bool) (D : Nat → Prop) (v : Value) (n : Int) (size : Nat) (w : World) (hv : SlV 1 (c1 b2v) D w v l) (hl : l.length + 31 ≤ lim) (hs : size ≤ 31) (h0 : 0 ≤ n) (h1 : n < 2 ^ size) :
    Calls Tryz.prog 51 #[v, .int .i64 n, .int .i64 size] w fun e w' => ∃ v', e = .returned (.tuple #[v', .int .i64 0]) ∧ Own w' w.heap.size 5 1 v' ((l ++ toBits n size).map b2v) ∧ Only (fun _ => False) w w' := by
  obtain ⟨A, c, rfl, hlc⟩ := hv.form
  have HL := Lib.hid hl
  have H1 := Lib.hid h1
  have HV := Lib.hid hv
  clear hl h1 hv hlc
  have e0 : (n / 2 ^ size : Int) = 0 := Int.ediv_eq_zero_of_lt h0 H1.out
  go_enter Tryz.func51, Tryz.ntmps51
  go_wp2_with (go_at_call 93; refine (sized_any _ _).mono ?_; rintro e w' ⟨rfl, rfl⟩)
  refine (clone_any l D _ _ HV.out (by have := HL.out; omega)).mono ?_
  rintro e w1 ⟨v1, rfl, o1, f1, p1⟩
  have O1 := Lib.hid o1
  have F1 := Lib.hid f1
  have P1 := Lib.hid p1
  obtain ⟨A1, n1, c1, rfl⟩ := o1.form
  clear o1 f1 p1
  go_wp2_with fail
  refine (each_any _ _ _).mono ?_
  rintro e w2 ⟨rfl, rfl⟩
  go_wp2_with fail
  have hit := each1_iter w1.heap.size (w1.heap.size + 1) n size hs ((w1.alloc (.cells #[.int .i64 n] 3)).alloc (.cells #[.int .i64 size] 3)) ((Blk.new _ _ _).alloc _) (by have := Blk.new (w1.alloc (.cells #[.int .i64 n] 3)) 3 #[.int .i64 size]; rwa [World.size_alloc] at this)
  refine (appendSeq_any _ _ _ (toBits n size) l w.heap.size _ _ ((O1.out.alloc _).alloc _) (by have := F1.out.size; simp; omega) (enters_of Tryz.func152 (by kernel_rfl) rfl) hit ?_ (by rw [toBits_len]; have := HL.out; omega)).mono ?_
  · rintro k hk
    have hlt : ∀ j, (Value.slice A1 n1 c1).ownBlock = some j → j < w1.heap.size := fun j hj => (O1.out.lt j hj).2
    rcases hk with rfl | rfl
    · exact ⟨by simp; omega, fun e => by have := hlt _ e; omega⟩
    · exact ⟨by simp, fun e => by have := hlt _ e; omega⟩
  rintro e w3 ⟨v3, rfl, o3, f3, p3⟩
  have O3 := Lib.hid o3
  have F3 := Lib.hid f3
  obtain ⟨A3, n3, c3, rfl⟩ := o3.form
  clear o3 f3 p3
  go_wp2
  go_ret2
  refine ⟨_, rfl, O3.out, ((F1.out.alloc _).alloc _).trans' F3.out (fun i hi hj => ?_)⟩
  have := (O1.out.lt i hj).1
  omega
end Go.Proofs.YtdadknejmnnkiaaGreat
