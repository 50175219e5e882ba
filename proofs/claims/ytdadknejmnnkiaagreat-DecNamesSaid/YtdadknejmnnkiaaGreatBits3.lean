import Derived.Test.YtdadknejmnnkiaaGreatBits2
namespace Go.Proofs.YtdadknejmnnkiaaGreat
open Go Go.RowKit
attribute [local go_sem] Oper.semAt_some
set_option maxRecDepth 100000

/-- a byte -/
def y2v (x : UInt8) : Value := .int .u8 (x.toNat : Int)
def unpack (l : List UInt8) : List Bool := l.flatMap fun x => toBits x.toNat 8
theorem unpack_snoc (l : List UInt8) (x : UInt8) : unpack (l ++ [x]) = unpack l ++ toBits x.toNat 8 := by simp [unpack]
theorem unpack_len (l : List UInt8) : (unpack l).length = 8 * l.length := by
  induction l with
  | nil => rfl
  | cons x l ih => simp [unpack] at ih ⊢; rw [ih, toBits_len]; omega

theorem unpack_any (l : List UInt8) (D : Nat → Prop) (v : Value) (w : World) (hv : SlV 1 (c1 y2v) D w v l) (hD : ∀ k, D k → k < w.heap.size) (hl : l.length ≤ 2097152) :
    Calls Tryz.prog 56 #[v] w fun e w' => ∃ v', e = .returned (.tuple #[v', .int .i64 0]) ∧ Own w' w.heap.size 5 1 v' ((unpack l).map b2v) ∧ Only (fun _ => False) w w' := by
  obtain ⟨A, n, c, rfl, hn, hc⟩ := hv.form'
  have hn1 : n ≤ 2097152 := by omega
  have HN := Lib.hid hn
  have HV := Lib.hid hv
  clear hv hn hl
  refine (callsIn_wide (n := 5)).1 ?_
  refine callsIn_of_wp_marks Tryz.func56 rfl trivial ?_ rfl
  simp only [Tryz.ntmps56, List.size_toArray, List.length_cons, List.length_nil, Nat.reduceAdd, Nat.reduceSub, Array.replicate_succ, Array.replicate_zero, List.push_toArray, List.append_toArray, List.nil_append, List.cons_append]
  have hmk := run_mk byteT .i64 .i64 0 (8 * n) (by omega) (by omega) (by omega) (by omega)
  rw [show ((8 * (n : Int)).toNat) = 8 * n by omega, show (0 : Int).toNat = 0 from rfl] at hmk
  gi_wp2
  have b0 := Blk.new (w.alloc (.cells (madeCells #[.int .u8 0] (8 * n * 1)) 5)) 35 #[.slice (some ⟨w.heap.size, 0, none⟩) 0 (8 * n)]
  rw [World.size_alloc] at b0
  have o0 : Own ((w.alloc (.cells (madeCells #[.int .u8 0] (8 * n * 1)) 5)).alloc (.cells #[.slice (some ⟨w.heap.size, 0, none⟩) 0 (8 * n)] 35)) w.heap.size 5 1 (.slice (some ⟨w.heap.size, 0, none⟩) 0 (8 * n)) [] :=
    ⟨0, (World.ownsRow_made w _ (8 * n) (Nat.le_refl _) (by simp only [maxLen]; omega) (by simp [size_madeCells])).alloc _⟩
  have f0 := ((Only.refl (fun _ => False) w).alloc (.cells (madeCells #[.int .u8 0] (8 * n * 1)) 5)).alloc (.cells #[.slice (some ⟨w.heap.size, 0, none⟩) 0 (8 * n)] 35)
  obtain ⟨W0, hW0⟩ : ∃ W0, (w.alloc (.cells (madeCells #[.int .u8 0] (8 * n * 1)) 5)).alloc (.cells #[.slice (some ⟨w.heap.size, 0, none⟩) 0 (8 * n)] 35) = W0 := ⟨_, rfl⟩
  rw [hW0] at b0 o0 f0
  simp only [Nat.mul_one] at hW0
  rw [hW0]
  clear hW0 hmk
  refine wpIn_loop (fun a W => ∃ (k : Nat) (u x6 x10 x18 x19 x20 x21 x22 x23 x29 : Value) (ds : List Deferred), k ≤ n ∧ a = { tmps := #[.slice A n c, undef, .slice none 0 0, .int .i64 0, .pointer (some ⟨w.heap.size + 1, 0, none⟩), undef, x6, undef, .slice A n c, .int .i64 n, x10, .slice A n c, .int .i64 n, .int .i64 (8 * n), .slice (some ⟨w.heap.size, 0, none⟩) 0 (8 * n), .slice A n c, .int .i64 n, .int .i64 k, x18, x19, x20, x21, x22, x23, undef, undef, undef, undef, undef, x29, undef], defers := ds } ∧
      Marks w.heap.size W.heap.size W ds ∧ Blk W (w.heap.size + 1) 35 #[u] ∧ Own W w.heap.size 5 1 u ((unpack (l.take k)).map b2v) ∧ Only (fun _ => False) w W) (fun a _ => n - (intOf (a.tmps.getD 17 undef)).toNat) ?h0 ?round
  case h0 => exact ⟨0, _, _, _, _, _, _, _, _, _, _, [], Nat.zero_le _, rfl, trivial, b0, o0, f0⟩
  case round =>
    clear b0 o0 f0 W0
    rintro a W ⟨k, u, x6, x10, x18, x19, x20, x21, x22, x23, x29, ds, hk, rfl, hm, hb, ho, hf⟩
    by_cases hlt : k < n
    · have hx : l[k]? = some (l[k]'(by have := HN.out; omega)) := List.getElem?_eq_getElem _
      generalize l[k]'(by have := HN.out; omega) = x at hx
      have hV := HV.out.only (c1_good _) hf (fun _ _ _ h => h)
      obtain ⟨b, o, rfl, hx2⟩ := hV.at_ hx
      have hc := cell1 hx2
      unfold y2v at hc
      have hxb : (x.toNat : Int) < 256 := by have := x.toNat_lt; omega
      have HM := Lib.hid hm
      have HB := Lib.hid hb
      have HO := Lib.hid ho
      have HF := Lib.hid hf
      have HX := Lib.hid hx
      clear hm hb ho hf hx hx2 hV
      gi_wp2_with (refine ⟨trivial, ?_⟩; gi_at_call 96; refine (callsIn_wide.2 (each_any _ _ _)).mono ?_; rintro e w' ⟨rfl, rfl⟩)
      obtain ⟨Wb, hWb⟩ : ∃ Wb, (W.alloc (.cells #[.int .i64 (x.toNat : Int)] 3)).alloc (.cells #[.int .i64 8] 3) = Wb := ⟨_, rfl⟩
      rw [hWb]
      have fb : Only (fun _ => False) W Wb := by rw [← hWb]; exact ((Only.refl _ W).alloc _).alloc _
      have sb : Wb.heap.size = W.heap.size + 2 := by rw [← hWb]; simp
      have hit := each1_iter W.heap.size (W.heap.size + 1) x.toNat 8 (by decide) Wb (by rw [← hWb]; exact (Blk.new _ _ _).alloc _) (by rw [← hWb]; have := Blk.new (W.alloc (.cells #[.int .i64 (x.toNat : Int)] 3)) 3 #[.int .i64 8]; rwa [World.size_alloc] at this)
      have hlt2 := HB.out.lt
      have HSB := Lib.hid sb
      clear sb hWb
      have hu : ∀ j, u.ownBlock = some j → w.heap.size ≤ j ∧ j < W.heap.size := HO.out.lt
      refine range_top (by omega) rfl (enters_of Tryz.func152 (by kernel_rfl) rfl) hit (fun j => w.heap.size ≤ j ∧ j ≠ W.heap.size ∧ j ≠ W.heap.size + 1) (by rintro j (rfl | rfl) h <;> omega) (fun j hj => by have := HSB.out; have := HF.out.size; omega)
        (by rintro j (rfl | rfl) <;> (have := HSB.out; omega)) (fun _ => rfl)
        (fun j X => ∃ u', Blk X (w.heap.size + 1) 35 #[u'] ∧ Own X w.heap.size 5 1 u' ((unpack (l.take k) ++ (toBits x.toNat 8).take j).map b2v) ∧ Only (fun j => w.heap.size ≤ j) W X ∧ (∀ i, u'.ownBlock = some i → i ≠ W.heap.size ∧ i ≠ W.heap.size + 1) ∧ Wb.heap.size ≤ X.heap.size)
        (fun _ _ => False) ?hI (fun _ _ _ h _ => h) ?h0 ?rnd ?done ?stop
      case hI =>
        rintro j X Y ⟨u', h1, h2, h3, h4, h5⟩ hh
        exact ⟨u', h1.hush hh (fun h => h), h2.hush hh (fun _ _ h => h), h3.hush hh (by have := HSB.out; omega) (fun _ _ h => h.elim), h4, Nat.le_trans h5 hh.size⟩
      case h0 =>
        refine ⟨u, HB.out.only fb (fun h => h), ?_, fb.mono (fun _ _ h => h.elim), fun i hi => by have := hu i hi; omega, Nat.le_refl _⟩
        rw [List.take_zero, List.append_nil]
        exact HO.out.only fb (fun _ _ h => h)
      case stop => exact fun _ _ _ _ h _ => h.elim
      case rnd =>
        rintro ll j y X hy ⟨u', h1, h2, h3, h4, h5⟩
        gi_wp2
        refine ⟨KeepsFrom.refl _ _, Kp.refl _ _, fun X2 hh hll hrec => ?_⟩
        replace h1 := h1.hush hh (fun h => h)
        replace h2 := h2.hush hh (fun _ _ h => h)
        replace h3 := h3.hush hh (by have := HSB.out; omega) (fun _ _ h => h.elim)
        obtain ⟨A', n', c', rfl⟩ := h2.form
        have hn' : n' ≤ 16777216 := by
          have e := h2.len
          rw [List.length_map, List.length_append, unpack_len] at e
          have e1 : (l.take k).length ≤ k := List.length_take_le _ _
          have e2 : ((toBits (x.toNat : Int) 8).take j).length ≤ 8 := by rw [List.length_take, toBits_len]; omega
          omega
        have hc1 := h1.cell 0
        have hf1 := h1.frozen 0
        gi_wp2_with (gi_at_builtin; refine wpListIn_app byteT rfl (.tmp 25) (.tmp 27) rfl w.heap.size _ _ _ rfl (h2.row.alloc _) ⟨X2.heap.size, 0, none⟩ 1 1 [.int .u8 (b2i y)] rfl rfl (cell_one_new _ _ _) (by simp [Value.oneCell']) (by simp only [maxLen]; omega) (by omega) (by have := h3.size; simp; omega) ?_; intro u' X3 g1 g2 g3; obtain ⟨A3, c3, rfl⟩ := own_form g1; have hb3 := (h1.alloc _).app g2 (h2.row.alloc _) (by decide); have hc3 := hb3.cell 0; have hf3 := hb3.frozen 0)
        have hO : Only (fun j => w.heap.size ≤ j ∧ j ≠ W.heap.size ∧ j ≠ W.heap.size + 1) X2 (X3.setCell ⟨w.heap.size + 1, 0, none⟩ (.slice A3 (n' + 1) c3)) :=
          ((((Only.refl _ X2).alloc _).app g2 (h2.row.alloc _) (fun j hj => .inl ⟨(h2.lt j hj).1, h4 j hj⟩)).setCell (.inl ⟨by simp, by simp; omega, by simp; omega⟩) _)
        refine ⟨hO.keepsFrom _, hO.kp, .slice A3 (n' + 1) c3, hb3.set_ 0 _, ?_, h3.trans' hO (fun i hi h => h.1), ?_, Nat.le_trans h5 (Nat.le_trans hh.size hO.size)⟩
        · rw [take_snoc hy, ← List.append_assoc, List.map_append]
          exact ⟨_, own_far g1 (fun e => own_ne g1 hb3 (by decide) e.symm) _⟩
        · intro i hi
          have := h3.size
          have := HF.out.size
          rcases g3 with g3 | g3
          · exact h4 i (g3.symm.trans hi)
          · rw [g3] at hi; injection hi with hi; simp at hi; have := hh.size; have := HSB.out; omega
      case done =>
        rintro Dm X hDm ⟨u', h1, h2, h3, h4, h5⟩ hK
        rw [List.take_length (l := toBits (x.toNat : Int) 8), ← unpack_snoc, ← take_snoc HX.out] at h2
        have hm2 : Marks w.heap.size X.heap.size X ({ target := .collected Dm, args := #[] } :: ds) :=
          Marks.cons (HM.out.only h3) (by have := HSB.out; omega) (by have := HSB.out; omega) (heap_lt hK) hK
        dsimp only
        simp only [Exit.inBlock]
        gi_wp2
        refine ⟨⟨k + 1, u', _, _, _, _, _, _, _, _, _, _, by omega, rfl, hm2, h1, h2, HF.out.trans' h3 (fun i hi h => by omega)⟩, ?_⟩
        simp [intOf]; omega
    · have hc1 := hb.cell 0
      rw [List.take_of_length_le (by have := HN.out; omega)] at ho
      obtain ⟨A1, n1, c1, rfl⟩ := ho.form
      have HO := Lib.hid ho
      have HF := Lib.hid hf
      clear ho hf
      gi_wp2
      refine leaves_marks (fun _ => False) ds W hm fun W' hh => ?_
      refine ⟨_, results_tmp2 rfl _ _ _, _, rfl, HO.out.hush hh (fun _ _ h => h), HF.out.hush hh (Nat.le_refl _) (fun _ _ h => h.elim)⟩
end Go.Proofs.YtdadknejmnnkiaaGreat
