import Derived.Test.YtdadknejmnnkiaaGreatLose2
namespace Go.Proofs.YtdadknejmnnkiaaGreat
open Go Go.RowKit
set_option maxRecDepth 100000

theorem min_ge (m : Int) : ∀ (l : List Int) (x : Int), m ≤ x → (∀ y ∈ l, m ≤ y) → m ≤ l.foldl min x
  | [], _, h, _ => h
  | a :: l, x, h, hl => min_ge m l (min x a) (by have := hl a (List.mem_cons_self ..); omega) (fun y hy => hl y (List.mem_cons_of_mem _ hy))
theorem max_le (m : Int) : ∀ (l : List Int) (x : Int), x ≤ m → (∀ y ∈ l, y ≤ m) → l.foldl max x ≤ m
  | [], _, h, _ => h
  | a :: l, x, h, hl => max_le m l (max x a) (by have := hl a (List.mem_cons_self ..); omega) (fun y hy => hl y (List.mem_cons_of_mem _ hy))
theorem not_beyond {m x : Int} (h : beyond m x = false) : -m ≤ x ∧ x ≤ m := by
  unfold beyond at h
  simp at h
  omega
/-- block.asked, where nothing is amiss -/
theorem asked_ok (l : List Int) (m : Int) (D : Nat → Prop) (v : Value) (w : World) (hv : SlV 1 intR D w v l) (hl : l.length = 256) (hb : l.any (beyond m) = false) :
    Calls Tryz.prog 62 #[.int .u8 0, .int .u8 0, .int .u8 0, v, .int .i64 256, .int .i64 (-m), .int .i64 m] w fun e w' => e = .returned (.int .i64 0) ∧ w = w' := by
  obtain ⟨x0, t, rfl⟩ : ∃ x0 t, l = x0 :: t := by
    rcases l with _ | ⟨x, t⟩
    · cases hl
    · exact ⟨x, t, rfl⟩
  have hall : ∀ y ∈ x0 :: t, -m ≤ y ∧ y ≤ m := fun y hy => not_beyond (by
    have := List.any_eq_false.1 hb y hy
    simpa using this)
  obtain ⟨h1, h2⟩ := hall x0 (List.mem_cons_self ..)
  have h3 := min_ge (-m) t x0 h1 (fun y hy => (hall y (List.mem_cons_of_mem _ hy)).1)
  have h4 := max_le m t x0 h2 (fun y hy => (hall y (List.mem_cons_of_mem _ hy)).2)
  obtain ⟨A, n, c, rfl, hn, hc⟩ := hv.form'
  have hn' : n = 256 := by omega
  subst hn'
  have HV := Lib.hid hv
  have HL : Hid (t.length + 1 ≤ lim) := Lib.hid (by simp at hl; have := lim_eq; omega)
  clear hv hl hb hall h1 h2 hn hc
  obtain ⟨p, hp⟩ : ∃ p, t.foldl min x0 = p := ⟨_, rfl⟩
  obtain ⟨q, hq⟩ : ∃ q, t.foldl max x0 = q := ⟨_, rfl⟩
  rw [hp] at h3
  rw [hq] at h4
  have HP := Lib.hid hp
  have HQ := Lib.hid hq
  have hd1 : decide (p < -m) = false := by simp; omega
  have hd2 : decide (q > m) = false := by simp; omega
  clear hp hq
  go_enter Tryz.func62, Tryz.ntmps62
  go_wp2_with fail
  refine (shaped_any _ _ _).mono ?_
  rintro e w0 ⟨rfl, rfl⟩
  go_wp2_with fail
  refine (min_any t x0 D _ w HV.out HL.out).mono ?_
  rintro e w0 ⟨rfl, rfl⟩
  rw [HP.out]
  go_wp2_with fail
  refine (max_any t x0 D _ w HV.out HL.out).mono ?_
  rintro e w0 ⟨rfl, rfl⟩
  rw [HQ.out]
  go_wp2
  go_ret
  exact ⟨rfl, rfl⟩
end Go.Proofs.YtdadknejmnnkiaaGreat
