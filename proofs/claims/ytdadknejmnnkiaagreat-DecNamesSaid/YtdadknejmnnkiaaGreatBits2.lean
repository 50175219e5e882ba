import Derived.Test.YtdadknejmnnkiaaGreatBits1
namespace Go.Proofs.YtdadknejmnnkiaaGreat
open Go Go.RowKit
attribute [local go_sem] Oper.semAt_some
set_option maxRecDepth 100000

def ofBits (l : List Bool) : Int := l.foldl (fun a b => 2 * a + b2i b) 0
theorem ofBits_snoc (l : List Bool) (b : Bool) : ofBits (l ++ [b]) = 2 * ofBits l + b2i b := by simp [ofBits]
theorem b2i_bd (b : Bool) : 0 ≤ b2i b ∧ b2i b ≤ 1 := by cases b <;> simp [b2i]
theorem ofBits_bd (l : List Bool) : 0 ≤ ofBits l ∧ ofBits l < 2 ^ l.length := by
  suffices h : ∀ n, ∀ l : List Bool, l.length = n → 0 ≤ ofBits l ∧ ofBits l < 2 ^ n from h _ l rfl
  intro n
  induction n with
  | zero => intro l hl; rw [List.eq_nil_of_length_eq_zero hl]; simp [ofBits]
  | succ n ih =>
    intro l hl
    rcases List.eq_nil_or_concat l with rfl | ⟨l', b, rfl⟩
    · simp at hl
    · rw [List.concat_eq_append, ofBits_snoc]
      have := ih l' (by simpa using hl)
      have hb := b2i_bd b
      have : (2 : Int) ^ (n + 1) = 2 * 2 ^ n := by rw [Int.pow_succ]; omega
      omega
theorem ofBits_lt32 (l : List Bool) (h : l.length ≤ 32) : ofBits l < 4294967296 := by
  have h1 := (ofBits_bd l).2
  have h2 : (2 : Nat) ^ l.length ≤ 2 ^ 32 := Nat.pow_le_pow_right (by decide) h
  have h3 : ((2 ^ l.length : Nat) : Int) = (2 : Int) ^ l.length := by simp
  omega
theorem drop_take_succ {l : List Bool} {i k : Nat} {b : Bool} (h : l[i + k]? = some b) : (l.drop i).take (k + 1) = (l.drop i).take k ++ [b] := by
  rw [List.take_add_one, List.getElem?_drop, h]; rfl

theorem bits_or_low (x : Int) (b : Int) (h0 : 0 ≤ x) (h1 : x < 4611686018427387904) (hb0 : 0 ≤ b) (hb1 : b ≤ 1) : bits .or .i64 (x * 2) b = 2 * x + b := by
  have hx : (BitVec.ofInt 64 (x * 2)).toNat = 2 * x.toNat := by
    rw [BitVec.toNat_ofInt]; omega
  have hbv : (BitVec.ofInt 64 b).toNat = b.toNat := by
    rw [BitVec.toNat_ofInt]; omega
  have key : (BitVec.ofInt 64 (x * 2) ||| BitVec.ofInt 64 b).toNat = 2 * x.toNat + b.toNat := by
    rw [BitVec.toNat_or, hx, hbv]
    rcases (show b.toNat = 0 ∨ b.toNat = 1 by omega) with h | h
    · rw [h]; simp
    · rw [h]
      have := Nat.two_pow_add_eq_or_of_lt (i := 1) (b := 1) (by decide) x.toNat
      rw [Nat.pow_one] at this
      exact this.symm
  show IntKind.i64.wrap ((BitVec.ofInt 64 (x * 2) ||| BitVec.ofInt 64 b).toNat : Nat) = 2 * x + b
  rw [key, IntKind.wrap_i64]
  omega

theorem get_end (l : List Bool) (D : Nat → Prop) (v : Value) (i size : Nat) (w : World) (hv : SlV 1 (c1 b2v) D w v l) (hs : size ≤ 31) (hi : i ≤ l.length) (hl : l.length ≤ lim) (hz : l.length < i + size) :
    Calls Tryz.prog 68 #[v, .int .i64 i, .int .i64 size] w fun e w' => e = .returned (.tuple #[.int .i64 0, .int .i64 0, .int .i64 5]) ∧ w = w' := by
  obtain ⟨A, n, c, rfl, hn, hc⟩ := hv.form'
  have hd1 : decide ((n : Int) < i) = false := by simp; omega
  have hd2 : decide ((n : Int) - i < size) = true := by simp; omega
  have hn1 : n ≤ 1099511627776 := by have := lim_eq; omega
  have hI : i ≤ n := by omega
  clear hv hn hc hi hl hz
  go_enter Tryz.func68, Tryz.ntmps68
  go_wp2_with (go_at_call 93; refine (sized_any _ _).mono ?_; rintro e w' ⟨rfl, rfl⟩)
  go_ret3
  exact ⟨rfl, rfl⟩

theorem get_ok (l : List Bool) (D : Nat → Prop) (v : Value) (i size : Nat) (w : World) (hv : SlV 1 (c1 b2v) D w v l) (hs : size ≤ 31) (hl : l.length ≤ lim) (hz : i + size ≤ l.length) :
    Calls Tryz.prog 68 #[v, .int .i64 i, .int .i64 size] w fun e w' => e = .returned (.tuple #[.int .i64 (ofBits ((l.drop i).take size)), .int .i64 ((i + size : Nat) : Int), .int .i64 0]) ∧ w = w' := by
  obtain ⟨A, n, c, rfl, hn, hc⟩ := hv.form'
  have hd1 : decide ((n : Int) < i) = false := by simp; omega
  have hd2 : decide ((n : Int) - i < size) = false := by simp; omega
  have hn1 : n ≤ 1099511627776 := by have := lim_eq; omega
  have hI : i + size ≤ n := by omega
  have HV := Lib.hid hv
  have HN := Lib.hid hn
  clear hv hn hc hl hz
  go_enter Tryz.func68, Tryz.ntmps68
  go_wp2_with (go_at_call 93; refine (sized_any _ _).mono ?_; rintro e w' ⟨rfl, rfl⟩)
  clear hd1 hd2
  go_loop [6, 32] (fun t j => ∃ k : Nat, k ≤ size ∧ j = .int .i64 k ∧ t = .int .i64 (ofBits ((l.drop i).take k))) (fun _ j => size - (intOf j).toNat)
  case atStart => exact ⟨0, Nat.zero_le _, rfl, rfl⟩
  case round =>
    obtain ⟨k, hk, rfl, rfl⟩ := hrel
    by_cases hlt : k < size
    · have hx : l[i + k]? = some (l[i + k]'(by have := HN.out; omega)) := List.getElem?_eq_getElem _
      generalize l[i + k]'(by have := HN.out; omega) = x at hx
      obtain ⟨b, o, rfl, hx2⟩ := HV.out.at_ hx
      have hc := cell1 hx2
      have hb := b2i_bd x
      obtain ⟨hb0, hb1⟩ := hb
      obtain ⟨ht0, ht1⟩ := ofBits_bd ((l.drop i).take k)
      have ht2 : ofBits ((l.drop i).take k) < 4294967296 := ofBits_lt32 _ (by rw [List.length_take]; omega)
      have hor := bits_or_low (ofBits ((l.drop i).take k)) (b2i x) ht0 (by omega) hb0 hb1
      have HX := Lib.hid hx
      unfold b2v at hc
      clear hx hx2 ht1
      go_wp2
      go_round
      case rel => exact ⟨k + 1, by omega, by go_num, by rw [drop_take_succ HX.out, ofBits_snoc]⟩
      case measure => simp [intOf]; omega
    · go_wp2
      go_ret3
      exact ⟨by rw [show k = size by omega]; simp, rfl⟩
end Go.Proofs.YtdadknejmnnkiaaGreat
