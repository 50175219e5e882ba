import Derived.Test.YtdadknejmnnkiaaGreatBits3
namespace Go.Proofs.YtdadknejmnnkiaaGreat
open Go Go.RowKit
attribute [local go_sem] Oper.semAt_some
set_option maxRecDepth 100000

/-- byte j of packed bits; the last one is filled up with noughts -/
def byteAt (l : List Bool) (j : Nat) : Int := ofBits ((l.drop (8 * j)).take 8) * 2 ^ (8 - ((l.drop (8 * j)).take 8).length)
def packV (l : List Bool) (m : Nat) : List Value := (List.range m).map fun j => .int .u8 (byteAt l j)
theorem ofBits_nil : ofBits [] = 0 := rfl
theorem byteAt_far (l : List Bool) (j : Nat) (h : l.length ≤ 8 * j) : byteAt l j = 0 := by
  unfold byteAt; rw [List.drop_eq_nil_of_le h]; simp [ofBits_nil]
theorem pow_nat (n : Nat) : ((2 ^ n : Nat) : Int) = (2 : Int) ^ n := by simp
theorem byteAt_bd (l : List Bool) (j : Nat) : 0 ≤ byteAt l j ∧ byteAt l j < 256 := by
  unfold byteAt
  have hb := ofBits_bd ((l.drop (8 * j)).take 8)
  have hl : ((l.drop (8 * j)).take 8).length ≤ 8 := List.length_take_le _ _
  generalize (l.drop (8 * j)).take 8 = b at *
  have h2 : (2 : Int) ^ b.length * 2 ^ (8 - b.length) = 256 := by rw [← Int.pow_add, show b.length + (8 - b.length) = 8 by omega]; rfl
  have hp : (0 : Int) < 2 ^ (8 - b.length) := by rw [← pow_nat]; have := Nat.two_pow_pos (8 - b.length); omega
  exact ⟨Int.mul_nonneg hb.1 (by omega), by rw [← h2]; exact Int.mul_lt_mul_of_pos_right hb.2 hp⟩
/-- one more bit -/
theorem byteAt_snoc (l : List Bool) (b : Bool) (j : Nat) : byteAt (l ++ [b]) j = byteAt l j + if j = l.length / 8 then b2i b * 2 ^ (7 - l.length % 8) else 0 := by
  by_cases hj : j = l.length / 8
  · rw [if_pos hj]
    unfold byteAt
    have hle : 8 * j ≤ l.length := by omega
    have hlen : (l.drop (8 * j)).length = l.length % 8 := by rw [List.length_drop]; omega
    rw [List.drop_append_of_le_length hle, List.take_of_length_le (by rw [List.length_append, hlen]; simp; omega), List.take_of_length_le (by rw [hlen]; omega), List.length_append, hlen, ofBits_snoc]
    have e : 8 - l.length % 8 = (7 - l.length % 8) + 1 := by omega
    rw [e, show 8 - (l.length % 8 + [b].length) = 7 - l.length % 8 by simp, Int.pow_succ, Int.add_mul]
    congr 1
    rw [Int.mul_comm 2 (ofBits _), Int.mul_assoc, Int.mul_comm 2]
  · rw [if_neg hj, Int.add_zero]
    unfold byteAt
    rcases Nat.lt_or_ge l.length (8 * j) with h | h
    · rw [List.drop_eq_nil_of_le (by simp; omega), List.drop_eq_nil_of_le (by omega)]
    · have h8 : 8 ≤ (l.drop (8 * j)).length := by rw [List.length_drop]; omega
      rw [List.drop_append_of_le_length h, List.take_append_of_le_length h8]
theorem byteAt_low (l : List Bool) : byteAt l (l.length / 8) % 2 ^ (8 - l.length % 8) = 0 := by
  unfold byteAt
  have hlen : (l.drop (8 * (l.length / 8))).length = l.length % 8 := by rw [List.length_drop]; omega
  rw [List.take_of_length_le (by rw [hlen]; omega), hlen]
  exact Int.mul_emod_left _ _
theorem u8_or_bit (x b : Int) (s : Nat) (hx0 : 0 ≤ x) (hx1 : x < 256) (hs : s ≤ 7) (hm : x % 2 ^ (s + 1) = 0) (hb0 : 0 ≤ b) (hb1 : b ≤ 1) : bits .or .u8 x (b * 2 ^ s) = x + b * 2 ^ s := by
  obtain ⟨n, rfl⟩ := Int.eq_ofNat_of_zero_le hx0
  rcases (show b = 0 ∨ b = 1 by omega) with rfl | rfl
  · have : ∀ n : Fin 256, bits .or .u8 ((n.val : Nat) : Int) 0 = ((n.val : Nat) : Int) := by decide +kernel
    have h := this ⟨n, by omega⟩
    simpa using h
  · have : ∀ n : Fin 256, ∀ s : Fin 8, ((n.val : Nat) : Int) % 2 ^ (s.val + 1) = 0 → bits .or .u8 ((n.val : Nat) : Int) (1 * 2 ^ s.val) = ((n.val : Nat) : Int) + 1 * 2 ^ s.val := by decide +kernel
    exact this ⟨n, by omega⟩ ⟨s, by omega⟩ hm
end Go.Proofs.YtdadknejmnnkiaaGreat
