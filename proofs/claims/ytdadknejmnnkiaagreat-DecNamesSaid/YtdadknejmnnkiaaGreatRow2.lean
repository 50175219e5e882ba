import Derived.Test.YtdadknejmnnkiaaGreatWin
import Derived.BigRegion
namespace Go.Proofs.YtdadknejmnnkiaaGreat
open Go Go.RowKit
set_option maxRecDepth 100000

/-! Rows of numbers, by a function of the place. -/
def row (f : Nat → Int) (n : Nat) : Array Value := (((List.range n).map f).map i2v).toArray
theorem row_size (f : Nat → Int) (n : Nat) : (row f n).size = n := by simp [row]
theorem row_get (f : Nat → Int) (n k : Nat) (h : k < n) : (row f n)[k]? = some (.int .i64 (f k)) := by
  unfold row
  rw [List.getElem?_toArray, List.getElem?_map, List.getElem?_map, List.getElem?_range h]
  rfl
theorem row_ext {f g : Nat → Int} {n : Nat} (h : ∀ k, k < n → f k = g k) : row f n = row g n := by
  unfold row
  rw [List.map_congr_left (fun k hk => h k (List.mem_range.1 hk))]
theorem row_set (f : Nat → Int) (n k : Nat) (v : Int) : (row f n).setIfInBounds k (.int .i64 v) = row (fun j => if j = k then v else f j) n := by
  apply Array.ext
  · simp [row]
  · intro i h1 h2
    have hi : i < n := by simpa [row] using h2
    have e1 := row_get (fun j => if j = k then v else f j) n i hi
    rw [Array.getElem?_eq_getElem h2] at e1
    have e2 := row_get f n i hi
    have h3 : i < (row f n).size := by simpa [row] using hi
    rw [Array.getElem?_eq_getElem h3] at e2
    rw [Option.some.inj e1, Array.getElem_setIfInBounds (by simpa using h1)]
    by_cases hk : k = i
    · subst hk; simp
    · rw [if_neg hk, if_neg (Ne.symm hk), Option.some.inj e2]
theorem row_replicate (n : Nat) (z : Int) : (List.replicate n (Value.int .i64 z)).toArray = row (fun _ => z) n := by
  unfold row
  congr 1
  induction n with
  | zero => rfl
  | succ n ih => rw [List.range_succ, List.map_append, List.map_append, ← ih, List.replicate_succ']; rfl
theorem row_slV {w : World} {g n : Nat} {e : TypeId} {f : Nat → Int} (h : Blk w g e (row f n)) (hl : n ≤ maxLen) : SlV 1 intR (fun k => k = g) w (.slice (some ⟨g, 0, none⟩) n n) ((List.range n).map f) :=
  blk_slV h (by simp) (by simpa using hl)

/-- slices.Reverse of a row -/
def revTo (f : Nat → Int) (n k j : Nat) : Int := if j < k ∨ n < j + k + 1 then f (n - 1 - j) else f j
theorem rev_any (f : Nat → Int) (n : Nat) (g : Nat) (w : World) (hb : Blk w g 3 (row f n)) (h0 : 1 ≤ n) (hn : n ≤ 1000000) :
    Calls Tryz.prog 200 #[.slice (some ⟨g, 0, none⟩) n n] w fun e w' => e = .returned (.tuple #[]) ∧ Blk w' g 3 (row (fun j => f (n - 1 - j)) n) ∧ Only (fun k => k = g) w w' := by
  have HB := Lib.hid hb
  clear hb
  go_enter Tryz.func200, Tryz.ntmps200
  go_wp2
  go_loopw [2, 3] (fun i j W => ∃ k : Nat, 2 * k ≤ n ∧ i = .int .i64 k ∧ j = .int .i64 ((n : Int) - 1 - k) ∧ Hid (Blk W g 3 (row (revTo f n k) n)) ∧ Hid (Only (fun k => k = g) w W)) (fun i _ _ => n - (intOf i).toNat)
  case atStart =>
    refine ⟨0, by omega, rfl, by congr 1; omega, Lib.hid ?_, Lib.hid (Only.refl _ _)⟩
    rw [row_ext (g := f) (fun k hk => by unfold revTo; rw [if_neg (by omega)])]
    exact HB.out
  case round =>
    clear HB
    obtain ⟨k, hk, rfl, rfl, hb, hf⟩ := hrel
    by_cases hlt : (k : Int) < (n : Int) - 1 - k
    · obtain ⟨m, hm⟩ : ∃ m : Nat, (m : Int) = (n : Int) - 1 - k := ⟨n - 1 - k, by omega⟩
      rw [← hm] at hlt ⊢
      have ck := hb.out.cell k
      rw [row_get _ _ _ (by omega)] at ck
      have cm := hb.out.cell m
      rw [row_get _ _ _ (by omega)] at cm
      have zk := hb.out.frozen k
      have zm := hb.out.frozen m
      have hkm : k ≠ m := by omega
      have i1 : (k : Int) < (n : Int) := by omega
      have i2 : (m : Int) < (n : Int) := by omega
      have HM := Lib.hid hm
      have HX : Hid (row (fun j => if j = m then revTo f n k k else if j = k then revTo f n k m else revTo f n k j) n = row (revTo f n (k + 1)) n) := Lib.hid (row_ext fun j hj => by
        have hm' : m = n - 1 - k := by omega
        subst hm'
        by_cases a : j = n - 1 - k
        · subst a
          rw [if_pos rfl]
          unfold revTo
          rw [if_neg (by omega), if_pos (by omega)]
          congr 1
          omega
        · rw [if_neg a]
          by_cases b : j = k
          · subst b
            rw [if_pos rfl]
            unfold revTo
            rw [if_neg (by omega), if_pos (by omega)]
          · rw [if_neg b]
            unfold revTo
            by_cases c : j < k ∨ n < j + k + 1
            · rw [if_pos c, if_pos (by omega)]
            · rw [if_neg c, if_neg (by omega)])
      clear hm
      generalize revTo f n k k = x at ck HX
      generalize revTo f n k m = y at cm HX
      go_wp2
      go_region
      have b2 := ((hb.out.set_ k (.int .i64 y)).set_ m (.int .i64 x)).drew
      rw [row_set, row_set, HX.out] at b2
      have B2 := Lib.hid b2
      have F2 := Lib.hid (((hf.out.setCell (p := ⟨g, k, none⟩) (.inl rfl) (.int .i64 y)).setCell (p := ⟨g, m, none⟩) (.inl rfl) (.int .i64 x)).drew)
      clear hb hf b2 ck cm zk zm HX
      go_wp2
      go_roundw
      case rel => exact ⟨k + 1, by have := HM.out; omega, by go_num, by have := HM.out; congr 1; omega, B2, F2⟩
      case measure => simp [intOf]; omega
    · have hd : decide ((k : Int) < (n : Int) - 1 - k) = false := by simpa using hlt
      have HR : Hid (row (revTo f n k) n = row (fun j => f (n - 1 - j)) n) := Lib.hid (row_ext fun j hj => by
        unfold revTo
        by_cases c : j < k ∨ n < j + k + 1
        · rw [if_pos c]
        · rw [if_neg c]; congr 1; omega)
      have HB := Lib.hid hb.out
      rw [HR.out] at HB
      clear hb
      go_wp2
      go_end0
      exact ⟨rfl, HB.out, hf.out⟩
end Go.Proofs.YtdadknejmnnkiaaGreat
