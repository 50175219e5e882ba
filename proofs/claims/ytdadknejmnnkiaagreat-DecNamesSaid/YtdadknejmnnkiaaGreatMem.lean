/- Words for memory: a value reads as a list (nested, with structs), frames between worlds, rows of the call's own. -/
import Derived.Below
import Derived.Laws.OwnMore
import Derived.Deep.AppendLies
import Derived.Deep.Draws
import Derived.Lib.Hide
import Derived.RangeFuncOwn
import Derived.WalkKit
import Derived.WalkSpells
namespace Go.Proofs.YtdadknejmnnkiaaGreat
open Go Go.RowKit

theorem heap_lt {w : World} {k : Nat} {o : Obj} (h : w.heap[k]? = some o) : k < w.heap.size := (Array.getElem?_eq_some_iff.1 h).1
theorem others_setCell (w : World) (p : Addr) (u : Value) {k : Nat} {o : Obj} (h : w.heap[k]? = some o) (ho : o.isCells = false) : (w.setCell p u).heap[k]? = some o := by
  by_cases e : k = p.block
  · subst e
    simp only [World.setCell, Array.getElem?_modify, if_true, h, Option.map_some]
    cases o <;> first | rfl | cases ho
  · exact (Below.heap_setCell w p u k e).trans h

/-- The most elements that a list of ours has (a plain word: a long numeral stops a walk). -/
def lim : Nat := 1099511627776
theorem lim_eq : lim = 1099511627776 := rfl

/-- From w to w' no old block outside S has turned, and none that is no row of cells. -/
structure Only (S : Nat → Prop) (w w' : World) : Prop where
  os : w'.os = w.os
  tape : w'.tape = w.tape
  output : w'.output = w.output
  size : w.heap.size ≤ w'.heap.size
  block : ∀ k, k < w.heap.size → ¬ S k → w'.heap[k]? = w.heap[k]?
  others : ∀ (k : Nat) (o : Obj), w.heap[k]? = some o → o.isCells = false → w'.heap[k]? = some o

/-- a row of cells -/
def IsRow (w : World) (k : Nat) : Prop := ∃ c e f, w.heap[k]? = some (.cells c e f)

namespace Only
variable {S T : Nat → Prop} {w w1 w2 w3 : World}
theorem refl (S : Nat → Prop) (w : World) : Only S w w := ⟨rfl, rfl, rfl, Nat.le_refl _, fun _ _ _ => rfl, fun _ _ h _ => h⟩
theorem trans (h : Only S w1 w2) (k : Only S w2 w3) : Only S w1 w3 :=
  ⟨k.os.trans h.os, k.tape.trans h.tape, k.output.trans h.output, Nat.le_trans h.size k.size,
   fun i hi hs => (k.block i (Nat.lt_of_lt_of_le hi h.size) hs).trans (h.block i hi hs), fun i o hi ho => k.others i o (h.others i o hi ho) ho⟩
/-- What the second step turns may be new. -/
theorem trans' (h : Only S w1 w2) (k : Only T w2 w3) (hT : ∀ i, i < w1.heap.size → T i → S i) : Only S w1 w3 :=
  ⟨k.os.trans h.os, k.tape.trans h.tape, k.output.trans h.output, Nat.le_trans h.size k.size,
   fun i hi hs => (k.block i (Nat.lt_of_lt_of_le hi h.size) (fun ht => hs (hT i hi ht))).trans (h.block i hi hs), fun i o hi ho => k.others i o (h.others i o hi ho) ho⟩
theorem mono (h : Only S w1 w2) (hs : ∀ k, k < w1.heap.size → S k → T k) : Only T w1 w2 :=
  ⟨h.os, h.tape, h.output, h.size, fun i hi ht => h.block i hi (fun hS => ht (hs i hi hS)), h.others⟩
theorem drew (h : Only S w1 w2) : Only S w1 w2.drew := ⟨h.os, h.tape, h.output, h.size, h.block, h.others⟩
theorem drewN (h : Only S w1 w2) (n : Nat) : Only S w1 (w2.drewN n) := ⟨h.os, h.tape, h.output, h.size, h.block, h.others⟩
theorem alloc (h : Only S w1 w2) (o : Obj) : Only S w1 (w2.alloc o) :=
  h.trans ⟨rfl, rfl, rfl, by simp, fun k hk _ => Below.heap_alloc _ _ _ hk, fun k o' hk _ => (Below.heap_alloc _ _ _ (heap_lt hk)).trans hk⟩
theorem setCell (h : Only S w1 w2) {p : Addr} (hp : S p.block ∨ w1.heap.size ≤ p.block) (u : Value) : Only S w1 (w2.setCell p u) :=
  ⟨h.os, h.tape, h.output, by simp [World.setCell, h.size], fun k hk hs => by
    rw [Below.heap_setCell _ _ _ _ (by rintro rfl; rcases hp with hp | hp; exact hs hp; omega)]; exact h.block k hk hs,
   fun k o hk ho => others_setCell _ _ _ (h.others k o hk ho) ho⟩
theorem grown {row : Option Nat} (h : Only S w1 w2) (hg : w2.grownBy w3 row) (hr : ∀ k, row = some k → (S k ∨ w1.heap.size ≤ k) ∧ IsRow w2 k) : Only S w1 w3 :=
  ⟨hg.os.trans h.os, hg.tape.trans h.tape, hg.output.trans h.output, Nat.le_trans h.size hg.size, fun k hk hs =>
    (hg.block k (Nat.lt_of_lt_of_le hk h.size) (fun e => by rcases (hr k e.symm).1 with h1 | h1; exact hs h1; omega)).trans (h.block k hk hs),
   fun k o hk ho => by
    have h2 := h.others k o hk ho
    refine (hg.block k (heap_lt h2) (fun e => ?_)).trans h2
    obtain ⟨_, c, t, f, hc⟩ := hr k e.symm
    rw [h2] at hc; cases hc; cases ho⟩
theorem below (h : Only S w1 w2) {B : Nat} (hB : B ≤ w1.heap.size) (hs : ∀ k, k < B → ¬ S k) : Below B w1 w2 :=
  ⟨h.os, h.tape, h.output, h.size, fun k hk => h.block k (Nat.lt_of_lt_of_le hk hB) (hs k hk)⟩
end Only
theorem own_form {w : World} {base : Nat} {e : TypeId} {size : Nat} {v : Value} {n : Nat} {xs : List Value} (h : w.ownsRow base e size v n xs) : ∃ A c, v = .slice A n c := by
  rcases h.2 with ⟨rfl, rfl⟩ | ⟨g, cap, cur, rfl, _⟩
  · exact ⟨none, 0, rfl⟩
  · exact ⟨_, _, rfl⟩
theorem own_isRow {w : World} {base : Nat} {e : TypeId} {size : Nat} {v : Value} {n : Nat} {xs : List Value} (h : w.ownsRow base e size v n xs) {k : Nat} (hk : v.ownBlock = some k) : IsRow w k := by
  rcases h.2 with ⟨rfl, _⟩ | ⟨g, cap, cur, rfl, hb, hg, _⟩
  · cases hk
  · cases hk; exact ⟨_, _, _, hg⟩
theorem own_far {w : World} {base : Nat} {e : TypeId} {size : Nat} {v : Value} {n : Nat} {xs : List Value} (h : w.ownsRow base e size v n xs) {p : Addr} (hp : v.ownBlock ≠ some p.block) (u : Value) : (w.setCell p u).ownsRow base e size v n xs := by
  refine ⟨h.1, ?_⟩
  rcases h.2 with h2 | ⟨g, cap, cur, hv, hb, hh, r⟩
  · exact .inl h2
  · refine .inr ⟨g, cap, cur, hv, hb, ?_, r⟩
    rw [Below.heap_setCell _ _ _ _ (by rintro rfl; exact hp (by rw [hv]; rfl))]; exact hh
theorem take_snoc {α : Type} {xs : List α} {k : Nat} {x : α} (h : xs[k]? = some x) : xs.take (k + 1) = xs.take k ++ [x] := by rw [List.take_add_one, h]; rfl
theorem get_lt {α : Type} {xs : List α} {k : Nat} {x : α} (h : xs[k]? = some x) : k < xs.length := (List.getElem?_eq_some_iff.1 h).1
/-- Behind an append to a row of the call's own. -/
theorem Only.app {S : Nat → Prop} {w1 w2 w3 : World} {base : Nat} {e : TypeId} {size : Nat} {v : Value} {n : Nat} {xs : List Value} (h : Only S w1 w2) (hg : w2.grownBy w3 v.ownBlock) (ho : w2.ownsRow base e size v n xs)
    (hr : ∀ k, v.ownBlock = some k → S k ∨ w1.heap.size ≤ k) : Only S w1 w3 := h.grown hg fun k hk => ⟨hr k hk, own_isRow ho hk⟩

/-- How a thing reads at a place (block, offset), its blocks all in D. -/
abbrev Rep (α : Type) := (Nat → Prop) → World → Nat → Nat → α → Prop
/-- The rows of cells in D lie as they lay. -/
def CellKeep (D : Nat → Prop) (w w' : World) : Prop := ∀ k c e f, D k → w.heap[k]? = some (.cells c e f) → w'.heap[k]? = some (.cells c e f)
theorem Only.cellKeep {S D : Nat → Prop} {w w' : World} (h : Only S w w') (hd : ∀ k, D k → k < w.heap.size → ¬ S k) : CellKeep D w w' :=
  fun k _ _ _ hD he => (h.block k (heap_lt he) (hd k hD (heap_lt he))).trans he
theorem CellKeep.cell {D : Nat → Prop} {w w' : World} (h : CellKeep D w w') {a : Addr} {v : Value} (hD : D a.block) (hc : w.cell? a = some v) : w'.cell? a = some v := by
  have hc' := hc
  simp only [World.cell?] at hc
  split at hc
  · rename_i c e f he
    exact (World.cell?_of_block (w := w) ((h _ c e f hD he).trans he.symm)).trans hc'
  · cases hc
structure Rep.Good {α : Type} (R : Rep α) : Prop where
  keep : ∀ {D w w' b o x}, R D w b o x → CellKeep D w w' → R D w' b o x
  mono : ∀ {D D' : Nat → Prop} {w b o x}, R D w b o x → (∀ k, k < w.heap.size → D k → D' k) → R D' w b o x
  dom : ∀ {D w b o x}, R D w b o x → D b

theorem heap_lt_of_cell {w : World} {b o : Nat} {v : Value} (h : w.cell? ⟨b, o, none⟩ = some v) : b < w.heap.size := World.block_lt_of_cell? w ⟨b, o, none⟩ h

/-- One cell that holds 'enc x'. -/
def c1 {α : Type} (enc : α → Value) : Rep α := fun D w b o x => D b ∧ w.cell? ⟨b, o, none⟩ = some (enc x)
theorem c1_good {α : Type} (enc : α → Value) : Rep.Good (c1 enc) where
  keep := fun ⟨h1, h2⟩ hk => ⟨h1, hk.cell h1 h2⟩
  mono := fun ⟨h1, h2⟩ hd => ⟨hd _ (heap_lt_of_cell h2) h1, h2⟩
  dom := fun h => h.1

/-- The value v is a slice whose elements (each 'sz' cells) read as l. -/
def SlV {α : Type} (sz : Nat) (R : Rep α) (D : Nat → Prop) (w : World) (v : Value) (l : List α) : Prop :=
  ∃ A c, v = .slice A l.length c ∧ l.length ≤ c ∧ c ≤ maxLen ∧ (l ≠ [] → ∃ b o, A = some ⟨b, o, none⟩ ∧ ∀ k x, l[k]? = some x → R D w b (o + k * sz) x)

section
variable {α : Type} {sz : Nat} {R : Rep α} {D D' : Nat → Prop} {w w' : World} {v : Value} {l : List α}
theorem SlV.keep (g : R.Good) (h : SlV sz R D w v l) (hk : CellKeep D w w') : SlV sz R D w' v l := by
  obtain ⟨A, c, hv, hl, hc, h⟩ := h
  refine ⟨A, c, hv, hl, hc, fun hn => ?_⟩
  obtain ⟨b, o, hA, hx⟩ := h hn
  exact ⟨b, o, hA, fun k x hkx => g.keep (hx k x hkx) hk⟩
theorem SlV.mono (g : R.Good) (h : SlV sz R D w v l) (hd : ∀ k, k < w.heap.size → D k → D' k) : SlV sz R D' w v l := by
  obtain ⟨A, c, hv, hl, hc, h⟩ := h
  refine ⟨A, c, hv, hl, hc, fun hn => ?_⟩
  obtain ⟨b, o, hA, hx⟩ := h hn
  exact ⟨b, o, hA, fun k x hkx => g.mono (hx k x hkx) hd⟩
theorem SlV.only {S : Nat → Prop} (g : R.Good) (h : SlV sz R D w v l) (ho : Only S w w') (hd : ∀ k, D k → k < w.heap.size → ¬ S k) : SlV sz R D w' v l :=
  h.keep g (ho.cellKeep hd)
theorem SlV.nil_ (R : Rep α) (D : Nat → Prop) (w : World) : SlV sz R D w (.slice none 0 0) [] := ⟨none, 0, rfl, Nat.le_refl _, by decide, fun h => absurd rfl h⟩
theorem SlV.len_le (h : SlV sz R D w v l) : l.length ≤ maxLen := by obtain ⟨A, c, _, hl, hc, _⟩ := h; omega
end

/-- A slice in a cell. -/
def slc {α : Type} (sz : Nat) (R : Rep α) : Rep (List α) := fun D w b o l => D b ∧ ∃ v, w.cell? ⟨b, o, none⟩ = some v ∧ SlV sz R D w v l
theorem slc_good {α : Type} (sz : Nat) {R : Rep α} (g : R.Good) : Rep.Good (slc sz R) where
  keep := fun ⟨h1, v, h2, h3⟩ hk => ⟨h1, v, hk.cell h1 h2, h3.keep g hk⟩
  mono := fun ⟨h1, v, h2, h3⟩ hd => ⟨hd _ (heap_lt_of_cell h2) h1, v, h2, h3.mono g hd⟩
  dom := fun h => h.1

/-- A block that is known whole, none of its cells frozen. -/
def Blk (w : World) (g : Nat) (t : TypeId) (cs : Array Value) : Prop := w.heap[g]? = some (.cells cs t (0, 0))
section
variable {S D : Nat → Prop} {w w' : World} {g : Nat} {t : TypeId} {cs : Array Value}
theorem Blk.lt (h : Blk w g t cs) : g < w.heap.size := heap_lt h
theorem Blk.cell (h : Blk w g t cs) (i : Nat) : w.cell? ⟨g, i, none⟩ = cs[i]? := cell_of_row w g i cs t (0, 0) h
theorem Blk.frozen (h : Blk w g t cs) (i : Nat) : w.frozen? ⟨g, i, none⟩ = false := by
  unfold Blk at h
  simp [World.frozen?, h]
theorem Blk.new (w : World) (t : TypeId) (cs : Array Value) : Blk (w.alloc (.cells cs t)) w.heap.size t cs := heap_alloc_new w _
theorem Blk.drew (h : Blk w g t cs) : Blk w.drew g t cs := h
theorem Blk.drewN (h : Blk w g t cs) (n : Nat) : Blk (w.drewN n) g t cs := h
theorem Blk.alloc (h : Blk w g t cs) (o : Obj) : Blk (w.alloc o) g t cs := (Below.heap_alloc w o g h.lt).trans h
theorem Blk.set_ (h : Blk w g t cs) (i : Nat) (u : Value) : Blk (w.setCell ⟨g, i, none⟩ u) g t (cs.setIfInBounds i u) := by
  unfold Blk at h ⊢
  simp [World.setCell, Array.getElem?_modify, h]
theorem Blk.far (h : Blk w g t cs) {p : Addr} (hp : g ≠ p.block) (u : Value) : Blk (w.setCell p u) g t cs := (Below.heap_setCell w p u g hp).trans h
theorem Blk.only (h : Blk w g t cs) (ho : Only S w w') (hg : ¬ S g) : Blk w' g t cs := (ho.block g h.lt hg).trans h
theorem Blk.keep (h : Blk w g t cs) (ho : CellKeep D w w') (hg : D g) : Blk w' g t cs := ho g _ _ _ hg h
theorem own_ne {base : Nat} {e : TypeId} {size n : Nat} {v : Value} {xs : List Value} (h : w.ownsRow base e size v n xs) (hg : Blk w g t cs) (hne : e ≠ t) : some g ≠ v.ownBlock := by
  rcases h.2 with ⟨rfl, _⟩ | ⟨g', cap, cur, rfl, _, hh, _⟩
  · simp [Value.ownBlock]
  · intro he
    have : g = g' := by simpa [Value.ownBlock] using he
    subst this
    unfold Blk at hg
    rw [hg] at hh
    injection hh with hh
    injection hh with _ ht
    exact hne ht.symm
theorem Blk.app {base : Nat} {e : TypeId} {size n : Nat} {v : Value} {xs : List Value} (h : Blk w g t cs) (hg : w.grownBy w' v.ownBlock) (ho : w.ownsRow base e size v n xs) (hne : e ≠ t) : Blk w' g t cs :=
  (hg.block g h.lt (own_ne ho h hne)).trans h
theorem Blk.ne_ {g' : Nat} {t' : TypeId} {cs' : Array Value} (h : Blk w g t cs) (h' : Blk w g' t' cs') (hne : t ≠ t') : g ≠ g' := by
  rintro rfl
  unfold Blk at h h'
  rw [h] at h'
  injection h' with h'
  injection h' with _ ht
  exact hne ht
end

/-- The cells at A, if there are any, hold xs. -/
def Src (w : World) (A : Option Addr) (xs : List Value) : Prop := xs ≠ [] → ∃ ad, A = some ad ∧ ∀ j u, xs[j]? = some u → w.cell? (ad.add j) = some u
theorem add_spot (b o j : Nat) : (⟨b, o, none⟩ : Addr).add j = ⟨b, o + j, none⟩ := by unfold Addr.add; split <;> simp_all
theorem SlV.src {α : Type} {enc : α → Value} {D : Nat → Prop} {w : World} {A : Option Addr} {n c : Nat} {l : List α} (h : SlV 1 (c1 enc) D w (.slice A n c) l) : Src w A (l.map enc) := by
  obtain ⟨A', c', hv, hl, hc, h⟩ := h
  injection hv with hA _ _
  subst hA
  intro hne
  obtain ⟨b, o, rfl, hx⟩ := h (by rintro rfl; exact hne rfl)
  refine ⟨_, rfl, fun j u hu => ?_⟩
  rw [List.getElem?_map] at hu
  cases hj : l[j]? with
  | none => rw [hj] at hu; cases hu
  | some x =>
    rw [hj] at hu
    cases hu
    rw [add_spot]
    have := (hx j x hj).2
    rwa [Nat.mul_one] at this
theorem own_slV {α : Type} {enc : α → Value} {w : World} {base : Nat} {e : TypeId} {v : Value} {n : Nat} {l : List α} (h : w.ownsRow base e 1 v n (l.map enc)) : SlV 1 (c1 enc) (fun k => base ≤ k) w v l := by
  have hn : n = l.length := by have := h.1; simpa using this.symm
  subst hn
  rcases h.2 with ⟨rfl, h0⟩ | ⟨g, cap, cur, rfl, hb, hg, hnc, hcm, hcs, ht⟩
  · rw [List.eq_nil_of_length_eq_zero h0]; exact SlV.nil_ _ _ _
  · refine ⟨_, cap, rfl, hnc, hcm, fun _ => ⟨g, 0, rfl, fun k x hk => ⟨hb, ?_⟩⟩⟩
    rw [cell_of_row w g _ cur e (0, 0) hg, Nat.zero_add, Nat.mul_one]
    have hk' := get_lt hk
    have : (l.map enc)[k]? = some (enc x) := by rw [List.getElem?_map, hk]; rfl
    rw [← ht, List.getElem?_take, if_pos (by omega)] at this
    simpa using this
theorem SlV.form {α : Type} {sz : Nat} {R : Rep α} {D : Nat → Prop} {w : World} {v : Value} {l : List α} (h : SlV sz R D w v l) : ∃ A c, v = .slice A l.length c ∧ l.length ≤ c := by
  obtain ⟨A, c, rfl, hl, _⟩ := h; exact ⟨A, c, rfl, hl⟩
/-- The element's place. -/
theorem SlV.at_ {α : Type} {sz : Nat} {R : Rep α} {D : Nat → Prop} {w : World} {A : Option Addr} {n c : Nat} {l : List α} (h : SlV sz R D w (.slice A n c) l) {k : Nat} {x : α} (hk : l[k]? = some x) : ∃ b o, A = some ⟨b, o, none⟩ ∧ R D w b (o + k * sz) x := by
  obtain ⟨A', c', hv, hl, hc, h⟩ := h
  injection hv with hA _ _
  subst hA
  obtain ⟨b, o, rfl, hx⟩ := h (by rintro rfl; simp at hk)
  exact ⟨b, o, rfl, hx k x hk⟩
theorem cell1 {α : Type} {enc : α → Value} {D : Nat → Prop} {w : World} {b o k : Nat} {x : α} (h : c1 enc D w b (o + k * 1) x) : w.cell? ⟨b, o + k, none⟩ = some (enc x) := by have := h.2; rwa [Nat.mul_one] at this
/-- A row of the call's own (its number of elements left open). -/
def Own (w : World) (base : Nat) (e : TypeId) (size : Nat) (v : Value) (xs : List Value) : Prop := ∃ n, w.ownsRow base e size v n xs
theorem Own.form {w : World} {base : Nat} {e : TypeId} {size : Nat} {v : Value} {xs : List Value} (h : Own w base e size v xs) : ∃ A n c, v = .slice A n c := by
  obtain ⟨n, h⟩ := h; obtain ⟨A, c, h⟩ := own_form h; exact ⟨A, n, c, h⟩
theorem Own.row {w : World} {base : Nat} {e : TypeId} {size : Nat} {A : Option Addr} {n c : Nat} {xs : List Value} (h : Own w base e size (.slice A n c) xs) : w.ownsRow base e size (.slice A n c) n xs := by
  obtain ⟨m, h⟩ := h
  obtain ⟨A', c', h'⟩ := own_form h
  injection h' with _ h2 _
  subst h2
  exact h
theorem Own.len {w : World} {base : Nat} {e : TypeId} {A : Option Addr} {n c : Nat} {xs : List Value} (h : Own w base e 1 (.slice A n c) xs) : n = xs.length := by have := h.row.1; omega
theorem Own.lt {w : World} {base : Nat} {e : TypeId} {size : Nat} {v : Value} {xs : List Value} (h : Own w base e size v xs) : ∀ k, v.ownBlock = some k → base ≤ k ∧ k < w.heap.size := by obtain ⟨n, h⟩ := h; exact h.lt
theorem Own.alloc {w : World} {base : Nat} {e : TypeId} {size : Nat} {v : Value} {xs : List Value} (h : Own w base e size v xs) (o : Obj) : Own (w.alloc o) base e size v xs := by obtain ⟨n, h⟩ := h; exact ⟨n, h.alloc o⟩
theorem Own.only {S : Nat → Prop} {w w' : World} {base : Nat} {e : TypeId} {size : Nat} {v : Value} {xs : List Value} (h : Own w base e size v xs) (hc : Only S w w') (hs : ∀ k, v.ownBlock = some k → ¬ S k) : Own w' base e size v xs := by
  obtain ⟨n, h⟩ := h
  refine ⟨n, h.1, ?_⟩
  rcases h.2 with h2 | ⟨g, cap, cur, hv, hb, hh, r⟩
  · exact .inl h2
  · exact .inr ⟨g, cap, cur, hv, hb, (hc.block g (heap_lt hh) (hs g (by rw [hv]; rfl))).trans hh, r⟩
theorem Own.far {w : World} {base : Nat} {e : TypeId} {size : Nat} {v : Value} {xs : List Value} (h : Own w base e size v xs) {p : Addr} (hp : v.ownBlock ≠ some p.block) (u : Value) : Own (w.setCell p u) base e size v xs := by obtain ⟨n, h⟩ := h; exact ⟨n, own_far h hp u⟩
theorem Own.more {w : World} {base base' : Nat} {e : TypeId} {size : Nat} {v : Value} {xs : List Value} (h : Own w base e size v xs) (hb : base' ≤ base) : Own w base' e size v xs := by
  obtain ⟨n, h1, h2⟩ := h
  refine ⟨n, h1, ?_⟩
  rcases h2 with h2 | ⟨g, cap, cur, hv, hb', r⟩
  · exact .inl h2
  · exact .inr ⟨g, cap, cur, hv, Nat.le_trans hb hb', r⟩
theorem Own.nil_ (w : World) (base : Nat) (e : TypeId) (size : Nat) : Own w base e size (.slice none 0 0) [] := ⟨0, World.ownsRow_nil w base e size⟩
theorem Own.slV {α : Type} {enc : α → Value} {w : World} {base : Nat} {e : TypeId} {v : Value} {l : List α} (h : Own w base e 1 v (l.map enc)) : SlV 1 (c1 enc) (fun k => base ≤ k) w v l := by obtain ⟨n, h⟩ := h; exact own_slV h
theorem Own.ne {w : World} {g : Nat} {t : TypeId} {cs : Array Value} {base : Nat} {e : TypeId} {size : Nat} {v : Value} {xs : List Value} (h : Own w base e size v xs) (hg : Blk w g t cs) (hne : e ≠ t) : v.ownBlock ≠ some g := by
  obtain ⟨n, h⟩ := h; exact fun e' => own_ne h hg hne e'.symm
/-- as SlV.form, with a name for the length -/
theorem SlV.form' {α : Type} {sz : Nat} {R : Rep α} {D : Nat → Prop} {w : World} {v : Value} {l : List α} (h : SlV sz R D w v l) : ∃ A n c, v = .slice A n c ∧ n = l.length ∧ n ≤ c := by
  obtain ⟨A, c, rfl, hl, _⟩ := h; exact ⟨A, _, c, rfl, rfl, hl⟩
theorem slv_lit {α : Type} (enc : α → Value) (l : List α) (w : World) (e : TypeId) (hl : l.length ≤ maxLen) : SlV 1 (c1 enc) (fun k => w.heap.size ≤ k) (w.alloc (.cells (l.map enc).toArray e)) (.slice (some ⟨w.heap.size, 0, none⟩) l.length l.length) l := by
  refine ⟨_, _, rfl, Nat.le_refl _, hl, fun _ => ⟨_, _, rfl, fun k x hk => ⟨Nat.le_refl _, ?_⟩⟩⟩
  rw [cell_of_row _ w.heap.size _ _ e (0, 0) (heap_alloc_new w _)]
  simp [hk]
theorem slv_lit' {α : Type} (enc : α → Value) (l : List α) (w : World) (e : TypeId) (g n : Nat) (cs : Array Value) (hg : g = w.heap.size) (hn : n = l.length) (hcs : cs = (l.map enc).toArray) (hl : l.length ≤ maxLen) : SlV 1 (c1 enc) (fun k => w.heap.size ≤ k) (w.alloc (.cells cs e)) (.slice (some ⟨g, 0, none⟩) n n) l := by
  subst hg hn hcs; exact slv_lit enc l w e hl
theorem SlV.alloc {α : Type} {sz : Nat} {R : Rep α} {D : Nat → Prop} {w : World} {v : Value} {l : List α} (h : SlV sz R D w v l) (g : R.Good) (o : Obj) : SlV sz R D (w.alloc o) v l := h.only g ((Only.refl (fun _ => False) w).alloc o) (fun _ _ _ h => h)
theorem SlV.quiet {α : Type} {sz : Nat} {R : Rep α} {D : Nat → Prop} {w w' : World} {v : Value} {l : List α} (h : SlV sz R D w v l) (g : R.Good) (f : Only (fun _ => False) w w') : SlV sz R D w' v l := h.only g f (fun _ _ _ h => h)
theorem SlV.old {α : Type} {sz : Nat} {R : Rep α} {D : Nat → Prop} {w w' : World} {v : Value} {l : List α} (h : SlV sz R D w v l) (g : R.Good) (hD : ∀ k, D k → k < w.heap.size) {S : Nat → Prop} (f : Only S w w') (hS : ∀ k, S k → w.heap.size ≤ k) : SlV sz R D w' v l := h.only g f (fun k hk _ hs => by have := hD k hk; have := hS k hs; omega)
end Go.Proofs.YtdadknejmnnkiaaGreat
