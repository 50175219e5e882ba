import Derived.Test.YtdadknejmnnkiaaGreatIter
namespace Go.Proofs.YtdadknejmnnkiaaGreat
open Go Go.RowKit

/-! Words about rows of cells alone: they stay wherever the cells stay. -/
class GoodR {α : Type} (R : Rep α) : Prop where
  good : R.Good
instance c1_goodR {α : Type} (enc : α → Value) : GoodR (c1 enc) := ⟨c1_good enc⟩
instance slc_goodR {α : Type} (sz : Nat) (R : Rep α) [g : GoodR R] : GoodR (slc sz R) := ⟨slc_good sz g.good⟩
/-- p, of the world w, is q of w', where the cells lie as they lay. -/
class Mv (w w' : World) (p : Prop) (q : outParam Prop) : Prop where
  go : CellKeep (fun _ => True) w w' → p → q
theorem CellKeep.up {D : Nat → Prop} {w w' : World} (h : CellKeep (fun _ => True) w w') : CellKeep D w w' := fun k c e f _ hh => h k c e f trivial hh
instance (priority := low) mv_const (w w' : World) (p : Prop) : Mv w w' p p := ⟨fun _ h => h⟩
instance mv_blk (w w' : World) (g : Nat) (t : TypeId) (cs : Array Value) : Mv w w' (Blk w g t cs) (Blk w' g t cs) := ⟨fun h hb => hb.keep h trivial⟩
instance mv_cell (w w' : World) (b o : Nat) (v : Value) : Mv w w' (w.cell? ⟨b, o, none⟩ = some v) (w'.cell? ⟨b, o, none⟩ = some v) := ⟨fun h hb => h.cell (a := ⟨b, o, none⟩) trivial hb⟩
instance mv_slV {α : Type} (w w' : World) (sz : Nat) (R : Rep α) [g : GoodR R] (D : Nat → Prop) (v : Value) (l : List α) : Mv w w' (SlV sz R D w v l) (SlV sz R D w' v l) := ⟨fun h hb => hb.keep g.good h.up⟩
instance mv_and (w w' : World) (p p' q q' : Prop) [m : Mv w w' p q] [m' : Mv w w' p' q'] : Mv w w' (p ∧ p') (q ∧ q') := ⟨fun h hb => ⟨m.go h hb.1, m'.go h hb.2⟩⟩
instance mv_ex {α : Type} (w w' : World) (p q : α → Prop) [m : ∀ x, Mv w w' (p x) (q x)] : Mv w w' (∃ x, p x) (∃ x, q x) := ⟨fun h hb => hb.elim fun x hx => ⟨x, (m x).go h hx⟩⟩
theorem own_cellKeep {w w' : World} {base : Nat} {e : TypeId} {size : Nat} {v : Value} {xs : List Value} (h : Own w base e size v xs) (hk : CellKeep (fun _ => True) w w') : Own w' base e size v xs := by
  obtain ⟨n, h⟩ := h
  refine ⟨n, h.1, ?_⟩
  rcases h.2 with h2 | ⟨g, cap, cur, hv, hb, hh, r⟩
  · exact .inl h2
  · exact .inr ⟨g, cap, cur, hv, hb, hk g _ _ _ trivial hh, r⟩
instance mv_own (w w' : World) (base : Nat) (e : TypeId) (size : Nat) (v : Value) (xs : List Value) : Mv w w' (Own w base e size v xs) (Own w' base e size v xs) := ⟨fun h hb => own_cellKeep hb h⟩
/-- The fact, in a world in which no old cell has turned. -/
theorem mv {w w' : World} (f : Only (fun _ => False) w w') {p q : Prop} [m : Mv w w' p q] (h : p) : q := m.go (f.cellKeep (fun _ _ _ h => h)) h
theorem mvH {w w' : World} {B : Nat} (f : Hush B (fun _ => False) w w') {p q : Prop} [m : Mv w w' p q] (h : p) : q := m.go (f.keep (fun _ _ h => h)) h
theorem size_le {S : Nat → Prop} {w w' : World} (f : Only S w w') : w.heap.size ≤ w'.heap.size := f.size
theorem news1 {w W : World} {a0 : Array Value} {t0 : TypeId} (h : w.alloc (.cells a0 t0) = W) : Blk W (w.heap.size) t0 a0 ∧ Only (fun _ => False) w W := by
  subst h
  refine ⟨?_, (Only.refl _ _).alloc _⟩
  · have h := Blk.new (w) t0 a0
    simpa only [World.size_alloc] using h
theorem news2 {w W : World} {a0 : Array Value} {t0 : TypeId} {a1 : Array Value} {t1 : TypeId} (h : (w.alloc (.cells a0 t0)).alloc (.cells a1 t1) = W) : Blk W (w.heap.size) t0 a0 ∧ Blk W (w.heap.size + 1) t1 a1 ∧ Only (fun _ => False) w W := by
  subst h
  refine ⟨?_, ?_, ((Only.refl _ _).alloc _).alloc _⟩
  · have h := (Blk.new (w) t0 a0).alloc (.cells a1 t1)
    simpa only [World.size_alloc] using h
  · have h := Blk.new (w.alloc (.cells a0 t0)) t1 a1
    simpa only [World.size_alloc] using h
theorem news3 {w W : World} {a0 : Array Value} {t0 : TypeId} {a1 : Array Value} {t1 : TypeId} {a2 : Array Value} {t2 : TypeId} (h : ((w.alloc (.cells a0 t0)).alloc (.cells a1 t1)).alloc (.cells a2 t2) = W) : Blk W (w.heap.size) t0 a0 ∧ Blk W (w.heap.size + 1) t1 a1 ∧ Blk W (w.heap.size + 1 + 1) t2 a2 ∧ Only (fun _ => False) w W := by
  subst h
  refine ⟨?_, ?_, ?_, (((Only.refl _ _).alloc _).alloc _).alloc _⟩
  · have h := ((Blk.new (w) t0 a0).alloc (.cells a1 t1)).alloc (.cells a2 t2)
    simpa only [World.size_alloc] using h
  · have h := (Blk.new (w.alloc (.cells a0 t0)) t1 a1).alloc (.cells a2 t2)
    simpa only [World.size_alloc] using h
  · have h := Blk.new ((w.alloc (.cells a0 t0)).alloc (.cells a1 t1)) t2 a2
    simpa only [World.size_alloc] using h
theorem news4 {w W : World} {a0 : Array Value} {t0 : TypeId} {a1 : Array Value} {t1 : TypeId} {a2 : Array Value} {t2 : TypeId} {a3 : Array Value} {t3 : TypeId} (h : (((w.alloc (.cells a0 t0)).alloc (.cells a1 t1)).alloc (.cells a2 t2)).alloc (.cells a3 t3) = W) : Blk W (w.heap.size) t0 a0 ∧ Blk W (w.heap.size + 1) t1 a1 ∧ Blk W (w.heap.size + 1 + 1) t2 a2 ∧ Blk W (w.heap.size + 1 + 1 + 1) t3 a3 ∧ Only (fun _ => False) w W := by
  subst h
  refine ⟨?_, ?_, ?_, ?_, ((((Only.refl _ _).alloc _).alloc _).alloc _).alloc _⟩
  · have h := (((Blk.new (w) t0 a0).alloc (.cells a1 t1)).alloc (.cells a2 t2)).alloc (.cells a3 t3)
    simpa only [World.size_alloc] using h
  · have h := ((Blk.new (w.alloc (.cells a0 t0)) t1 a1).alloc (.cells a2 t2)).alloc (.cells a3 t3)
    simpa only [World.size_alloc] using h
  · have h := (Blk.new ((w.alloc (.cells a0 t0)).alloc (.cells a1 t1)) t2 a2).alloc (.cells a3 t3)
    simpa only [World.size_alloc] using h
  · have h := Blk.new (((w.alloc (.cells a0 t0)).alloc (.cells a1 t1)).alloc (.cells a2 t2)) t3 a3
    simpa only [World.size_alloc] using h
theorem news5 {w W : World} {a0 : Array Value} {t0 : TypeId} {a1 : Array Value} {t1 : TypeId} {a2 : Array Value} {t2 : TypeId} {a3 : Array Value} {t3 : TypeId} {a4 : Array Value} {t4 : TypeId} (h : ((((w.alloc (.cells a0 t0)).alloc (.cells a1 t1)).alloc (.cells a2 t2)).alloc (.cells a3 t3)).alloc (.cells a4 t4) = W) : Blk W (w.heap.size) t0 a0 ∧ Blk W (w.heap.size + 1) t1 a1 ∧ Blk W (w.heap.size + 1 + 1) t2 a2 ∧ Blk W (w.heap.size + 1 + 1 + 1) t3 a3 ∧ Blk W (w.heap.size + 1 + 1 + 1 + 1) t4 a4 ∧ Only (fun _ => False) w W := by
  subst h
  refine ⟨?_, ?_, ?_, ?_, ?_, (((((Only.refl _ _).alloc _).alloc _).alloc _).alloc _).alloc _⟩
  · have h := ((((Blk.new (w) t0 a0).alloc (.cells a1 t1)).alloc (.cells a2 t2)).alloc (.cells a3 t3)).alloc (.cells a4 t4)
    simpa only [World.size_alloc] using h
  · have h := (((Blk.new (w.alloc (.cells a0 t0)) t1 a1).alloc (.cells a2 t2)).alloc (.cells a3 t3)).alloc (.cells a4 t4)
    simpa only [World.size_alloc] using h
  · have h := ((Blk.new ((w.alloc (.cells a0 t0)).alloc (.cells a1 t1)) t2 a2).alloc (.cells a3 t3)).alloc (.cells a4 t4)
    simpa only [World.size_alloc] using h
  · have h := (Blk.new (((w.alloc (.cells a0 t0)).alloc (.cells a1 t1)).alloc (.cells a2 t2)) t3 a3).alloc (.cells a4 t4)
    simpa only [World.size_alloc] using h
  · have h := Blk.new ((((w.alloc (.cells a0 t0)).alloc (.cells a1 t1)).alloc (.cells a2 t2)).alloc (.cells a3 t3)) t4 a4
    simpa only [World.size_alloc] using h
theorem news6 {w W : World} {a0 : Array Value} {t0 : TypeId} {a1 : Array Value} {t1 : TypeId} {a2 : Array Value} {t2 : TypeId} {a3 : Array Value} {t3 : TypeId} {a4 : Array Value} {t4 : TypeId} {a5 : Array Value} {t5 : TypeId} (h : (((((w.alloc (.cells a0 t0)).alloc (.cells a1 t1)).alloc (.cells a2 t2)).alloc (.cells a3 t3)).alloc (.cells a4 t4)).alloc (.cells a5 t5) = W) : Blk W (w.heap.size) t0 a0 ∧ Blk W (w.heap.size + 1) t1 a1 ∧ Blk W (w.heap.size + 1 + 1) t2 a2 ∧ Blk W (w.heap.size + 1 + 1 + 1) t3 a3 ∧ Blk W (w.heap.size + 1 + 1 + 1 + 1) t4 a4 ∧ Blk W (w.heap.size + 1 + 1 + 1 + 1 + 1) t5 a5 ∧ Only (fun _ => False) w W := by
  subst h
  refine ⟨?_, ?_, ?_, ?_, ?_, ?_, ((((((Only.refl _ _).alloc _).alloc _).alloc _).alloc _).alloc _).alloc _⟩
  · have h := (((((Blk.new (w) t0 a0).alloc (.cells a1 t1)).alloc (.cells a2 t2)).alloc (.cells a3 t3)).alloc (.cells a4 t4)).alloc (.cells a5 t5)
    simpa only [World.size_alloc] using h
  · have h := ((((Blk.new (w.alloc (.cells a0 t0)) t1 a1).alloc (.cells a2 t2)).alloc (.cells a3 t3)).alloc (.cells a4 t4)).alloc (.cells a5 t5)
    simpa only [World.size_alloc] using h
  · have h := (((Blk.new ((w.alloc (.cells a0 t0)).alloc (.cells a1 t1)) t2 a2).alloc (.cells a3 t3)).alloc (.cells a4 t4)).alloc (.cells a5 t5)
    simpa only [World.size_alloc] using h
  · have h := ((Blk.new (((w.alloc (.cells a0 t0)).alloc (.cells a1 t1)).alloc (.cells a2 t2)) t3 a3).alloc (.cells a4 t4)).alloc (.cells a5 t5)
    simpa only [World.size_alloc] using h
  · have h := (Blk.new ((((w.alloc (.cells a0 t0)).alloc (.cells a1 t1)).alloc (.cells a2 t2)).alloc (.cells a3 t3)) t4 a4).alloc (.cells a5 t5)
    simpa only [World.size_alloc] using h
  · have h := Blk.new (((((w.alloc (.cells a0 t0)).alloc (.cells a1 t1)).alloc (.cells a2 t2)).alloc (.cells a3 t3)).alloc (.cells a4 t4)) t5 a5
    simpa only [World.size_alloc] using h
theorem news7 {w W : World} {a0 : Array Value} {t0 : TypeId} {a1 : Array Value} {t1 : TypeId} {a2 : Array Value} {t2 : TypeId} {a3 : Array Value} {t3 : TypeId} {a4 : Array Value} {t4 : TypeId} {a5 : Array Value} {t5 : TypeId} {a6 : Array Value} {t6 : TypeId} (h : ((((((w.alloc (.cells a0 t0)).alloc (.cells a1 t1)).alloc (.cells a2 t2)).alloc (.cells a3 t3)).alloc (.cells a4 t4)).alloc (.cells a5 t5)).alloc (.cells a6 t6) = W) : Blk W (w.heap.size) t0 a0 ∧ Blk W (w.heap.size + 1) t1 a1 ∧ Blk W (w.heap.size + 1 + 1) t2 a2 ∧ Blk W (w.heap.size + 1 + 1 + 1) t3 a3 ∧ Blk W (w.heap.size + 1 + 1 + 1 + 1) t4 a4 ∧ Blk W (w.heap.size + 1 + 1 + 1 + 1 + 1) t5 a5 ∧ Blk W (w.heap.size + 1 + 1 + 1 + 1 + 1 + 1) t6 a6 ∧ Only (fun _ => False) w W := by
  subst h
  refine ⟨?_, ?_, ?_, ?_, ?_, ?_, ?_, (((((((Only.refl _ _).alloc _).alloc _).alloc _).alloc _).alloc _).alloc _).alloc _⟩
  · have h := ((((((Blk.new (w) t0 a0).alloc (.cells a1 t1)).alloc (.cells a2 t2)).alloc (.cells a3 t3)).alloc (.cells a4 t4)).alloc (.cells a5 t5)).alloc (.cells a6 t6)
    simpa only [World.size_alloc] using h
  · have h := (((((Blk.new (w.alloc (.cells a0 t0)) t1 a1).alloc (.cells a2 t2)).alloc (.cells a3 t3)).alloc (.cells a4 t4)).alloc (.cells a5 t5)).alloc (.cells a6 t6)
    simpa only [World.size_alloc] using h
  · have h := ((((Blk.new ((w.alloc (.cells a0 t0)).alloc (.cells a1 t1)) t2 a2).alloc (.cells a3 t3)).alloc (.cells a4 t4)).alloc (.cells a5 t5)).alloc (.cells a6 t6)
    simpa only [World.size_alloc] using h
  · have h := (((Blk.new (((w.alloc (.cells a0 t0)).alloc (.cells a1 t1)).alloc (.cells a2 t2)) t3 a3).alloc (.cells a4 t4)).alloc (.cells a5 t5)).alloc (.cells a6 t6)
    simpa only [World.size_alloc] using h
  · have h := ((Blk.new ((((w.alloc (.cells a0 t0)).alloc (.cells a1 t1)).alloc (.cells a2 t2)).alloc (.cells a3 t3)) t4 a4).alloc (.cells a5 t5)).alloc (.cells a6 t6)
    simpa only [World.size_alloc] using h
  · have h := (Blk.new (((((w.alloc (.cells a0 t0)).alloc (.cells a1 t1)).alloc (.cells a2 t2)).alloc (.cells a3 t3)).alloc (.cells a4 t4)) t5 a5).alloc (.cells a6 t6)
    simpa only [World.size_alloc] using h
  · have h := Blk.new ((((((w.alloc (.cells a0 t0)).alloc (.cells a1 t1)).alloc (.cells a2 t2)).alloc (.cells a3 t3)).alloc (.cells a4 t4)).alloc (.cells a5 t5)) t6 a6
    simpa only [World.size_alloc] using h
theorem cells1 {W : World} {g : Nat} {t : TypeId} {x0 : Value} (h : Blk W g t #[x0]) : W.cell? ⟨g, 0, none⟩ = some x0 := h.cell 0
theorem cells2 {W : World} {g : Nat} {t : TypeId} {x0 x1 : Value} (h : Blk W g t #[x0, x1]) : W.cell? ⟨g, 0, none⟩ = some x0 ∧ W.cell? ⟨g, 1, none⟩ = some x1 := ⟨h.cell 0, h.cell 1⟩
theorem cells3 {W : World} {g : Nat} {t : TypeId} {x0 x1 x2 : Value} (h : Blk W g t #[x0, x1, x2]) : W.cell? ⟨g, 0, none⟩ = some x0 ∧ W.cell? ⟨g, 1, none⟩ = some x1 ∧ W.cell? ⟨g, 2, none⟩ = some x2 := ⟨h.cell 0, h.cell 1, h.cell 2⟩
theorem cells4 {W : World} {g : Nat} {t : TypeId} {x0 x1 x2 x3 : Value} (h : Blk W g t #[x0, x1, x2, x3]) : W.cell? ⟨g, 0, none⟩ = some x0 ∧ W.cell? ⟨g, 1, none⟩ = some x1 ∧ W.cell? ⟨g, 2, none⟩ = some x2 ∧ W.cell? ⟨g, 3, none⟩ = some x3 := ⟨h.cell 0, h.cell 1, h.cell 2, h.cell 3⟩
theorem cells5 {W : World} {g : Nat} {t : TypeId} {x0 x1 x2 x3 x4 : Value} (h : Blk W g t #[x0, x1, x2, x3, x4]) : W.cell? ⟨g, 0, none⟩ = some x0 ∧ W.cell? ⟨g, 1, none⟩ = some x1 ∧ W.cell? ⟨g, 2, none⟩ = some x2 ∧ W.cell? ⟨g, 3, none⟩ = some x3 ∧ W.cell? ⟨g, 4, none⟩ = some x4 := ⟨h.cell 0, h.cell 1, h.cell 2, h.cell 3, h.cell 4⟩
theorem cells6 {W : World} {g : Nat} {t : TypeId} {x0 x1 x2 x3 x4 x5 : Value} (h : Blk W g t #[x0, x1, x2, x3, x4, x5]) : W.cell? ⟨g, 0, none⟩ = some x0 ∧ W.cell? ⟨g, 1, none⟩ = some x1 ∧ W.cell? ⟨g, 2, none⟩ = some x2 ∧ W.cell? ⟨g, 3, none⟩ = some x3 ∧ W.cell? ⟨g, 4, none⟩ = some x4 ∧ W.cell? ⟨g, 5, none⟩ = some x5 := ⟨h.cell 0, h.cell 1, h.cell 2, h.cell 3, h.cell 4, h.cell 5⟩
theorem cells7 {W : World} {g : Nat} {t : TypeId} {x0 x1 x2 x3 x4 x5 x6 : Value} (h : Blk W g t #[x0, x1, x2, x3, x4, x5, x6]) : W.cell? ⟨g, 0, none⟩ = some x0 ∧ W.cell? ⟨g, 1, none⟩ = some x1 ∧ W.cell? ⟨g, 2, none⟩ = some x2 ∧ W.cell? ⟨g, 3, none⟩ = some x3 ∧ W.cell? ⟨g, 4, none⟩ = some x4 ∧ W.cell? ⟨g, 5, none⟩ = some x5 ∧ W.cell? ⟨g, 6, none⟩ = some x6 := ⟨h.cell 0, h.cell 1, h.cell 2, h.cell 3, h.cell 4, h.cell 5, h.cell 6⟩
theorem cells8 {W : World} {g : Nat} {t : TypeId} {x0 x1 x2 x3 x4 x5 x6 x7 : Value} (h : Blk W g t #[x0, x1, x2, x3, x4, x5, x6, x7]) : W.cell? ⟨g, 0, none⟩ = some x0 ∧ W.cell? ⟨g, 1, none⟩ = some x1 ∧ W.cell? ⟨g, 2, none⟩ = some x2 ∧ W.cell? ⟨g, 3, none⟩ = some x3 ∧ W.cell? ⟨g, 4, none⟩ = some x4 ∧ W.cell? ⟨g, 5, none⟩ = some x5 ∧ W.cell? ⟨g, 6, none⟩ = some x6 ∧ W.cell? ⟨g, 7, none⟩ = some x7 := ⟨h.cell 0, h.cell 1, h.cell 2, h.cell 3, h.cell 4, h.cell 5, h.cell 6, h.cell 7⟩
theorem cells9 {W : World} {g : Nat} {t : TypeId} {x0 x1 x2 x3 x4 x5 x6 x7 x8 : Value} (h : Blk W g t #[x0, x1, x2, x3, x4, x5, x6, x7, x8]) : W.cell? ⟨g, 0, none⟩ = some x0 ∧ W.cell? ⟨g, 1, none⟩ = some x1 ∧ W.cell? ⟨g, 2, none⟩ = some x2 ∧ W.cell? ⟨g, 3, none⟩ = some x3 ∧ W.cell? ⟨g, 4, none⟩ = some x4 ∧ W.cell? ⟨g, 5, none⟩ = some x5 ∧ W.cell? ⟨g, 6, none⟩ = some x6 ∧ W.cell? ⟨g, 7, none⟩ = some x7 ∧ W.cell? ⟨g, 8, none⟩ = some x8 := ⟨h.cell 0, h.cell 1, h.cell 2, h.cell 3, h.cell 4, h.cell 5, h.cell 6, h.cell 7, h.cell 8⟩
theorem cells10 {W : World} {g : Nat} {t : TypeId} {x0 x1 x2 x3 x4 x5 x6 x7 x8 x9 : Value} (h : Blk W g t #[x0, x1, x2, x3, x4, x5, x6, x7, x8, x9]) : W.cell? ⟨g, 0, none⟩ = some x0 ∧ W.cell? ⟨g, 1, none⟩ = some x1 ∧ W.cell? ⟨g, 2, none⟩ = some x2 ∧ W.cell? ⟨g, 3, none⟩ = some x3 ∧ W.cell? ⟨g, 4, none⟩ = some x4 ∧ W.cell? ⟨g, 5, none⟩ = some x5 ∧ W.cell? ⟨g, 6, none⟩ = some x6 ∧ W.cell? ⟨g, 7, none⟩ = some x7 ∧ W.cell? ⟨g, 8, none⟩ = some x8 ∧ W.cell? ⟨g, 9, none⟩ = some x9 := ⟨h.cell 0, h.cell 1, h.cell 2, h.cell 3, h.cell 4, h.cell 5, h.cell 6, h.cell 7, h.cell 8, h.cell 9⟩
theorem cells11 {W : World} {g : Nat} {t : TypeId} {x0 x1 x2 x3 x4 x5 x6 x7 x8 x9 x10 : Value} (h : Blk W g t #[x0, x1, x2, x3, x4, x5, x6, x7, x8, x9, x10]) : W.cell? ⟨g, 0, none⟩ = some x0 ∧ W.cell? ⟨g, 1, none⟩ = some x1 ∧ W.cell? ⟨g, 2, none⟩ = some x2 ∧ W.cell? ⟨g, 3, none⟩ = some x3 ∧ W.cell? ⟨g, 4, none⟩ = some x4 ∧ W.cell? ⟨g, 5, none⟩ = some x5 ∧ W.cell? ⟨g, 6, none⟩ = some x6 ∧ W.cell? ⟨g, 7, none⟩ = some x7 ∧ W.cell? ⟨g, 8, none⟩ = some x8 ∧ W.cell? ⟨g, 9, none⟩ = some x9 ∧ W.cell? ⟨g, 10, none⟩ = some x10 := ⟨h.cell 0, h.cell 1, h.cell 2, h.cell 3, h.cell 4, h.cell 5, h.cell 6, h.cell 7, h.cell 8, h.cell 9, h.cell 10⟩
end Go.Proofs.YtdadknejmnnkiaaGreat
