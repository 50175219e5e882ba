import Derived.Test.YtdadknejmnnkiaaGreatIter
namespace Go.Proofs.YtdadknejmnnkiaaGreat
open Go Go.RowKit
set_option maxRecDepth 100000

/-! A made row that is filled place by place. -/
theorem made1 (z : Value) (n : Nat) : madeCells #[z] (n * 1) = (List.replicate n z).toArray := by
  apply Array.ext
  · simp [madeCells]
  · intro i h1 h2
    simp [madeCells, Nat.mod_one]
/-- the row behind k places: f's values, and z behind these -/
def part (enc : Int → Value) (f : Nat → Int) (z : Int) (n k : Nat) : Array Value := (((List.range k).map f ++ List.replicate (n - k) z).map enc).toArray
theorem part_zero (enc : Int → Value) (f : Nat → Int) (z : Int) (n : Nat) : part enc f z n 0 = (List.replicate n (enc z)).toArray := by simp [part]
theorem part_size (enc : Int → Value) (f : Nat → Int) (z : Int) (n k : Nat) (h : k ≤ n) : (part enc f z n k).size = n := by simp [part]; omega
theorem part_get (enc : Int → Value) (f : Nat → Int) (z : Int) (n k : Nat) (h : k < n) : (part enc f z n k)[k]? = some (enc z) := by
  simp [part, List.getElem?_append, List.getElem?_replicate]
  omega
theorem part_set (enc : Int → Value) (f : Nat → Int) (z : Int) (n k : Nat) (h : k < n) : (part enc f z n k).setIfInBounds k (enc (f k)) = part enc f z n (k + 1) := by
  obtain ⟨m, rfl⟩ : ∃ m, n = k + (m + 1) := ⟨n - k - 1, by omega⟩
  have h1 : k + (m + 1) - k = m + 1 := by omega
  have h2 : k + (m + 1) - (k + 1) = m := by omega
  simp only [part, h1, h2, List.replicate_succ, List.range_succ, List.map_append, List.map_cons, List.map_nil, List.setIfInBounds_toArray]
  congr 1
  rw [List.set_append_right _ _ (by simp)]
  simp
theorem part_full (enc : Int → Value) (f : Nat → Int) (z : Int) (n : Nat) : part enc f z n n = (((List.range n).map f).map enc).toArray := by simp [part]
theorem blk_slV {α : Type} {enc : α → Value} {w : World} {g : Nat} {e : TypeId} {l : List α} {n : Nat} (h : Blk w g e (l.map enc).toArray) (hn : n = l.length) (hl : l.length ≤ maxLen) : SlV 1 (c1 enc) (fun k => k = g) w (.slice (some ⟨g, 0, none⟩) n n) l := by
  subst hn
  refine ⟨some ⟨g, 0, none⟩, l.length, rfl, Nat.le_refl _, hl, fun _ => ⟨g, 0, rfl, ?_⟩⟩
  intro k x hk
  refine ⟨rfl, ?_⟩
  rw [h.cell]
  simp [hk]
end Go.Proofs.YtdadknejmnnkiaaGreat
