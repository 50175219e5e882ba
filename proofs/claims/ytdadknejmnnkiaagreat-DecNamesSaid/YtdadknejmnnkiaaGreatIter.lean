/- Iterators: one word for 'yields just xs, in order, and touches nothing', and the law of a range over it. -/
import Derived.RangeFuncNested
import Derived.RangeFuncBound
import Derived.RangeFuncCalls
import Derived.RangeFuncLeaves
import Derived.RangeFuncWrites
import Derived.Shelf.Abstract
import Derived.Shelf.RegionOpen
import Derived.WalkKit
import Derived.OwnWalkIn
import Derived.TacticsInMore
import Derived.LoopNIn
import Derived.LoopIn
import Derived.Maps.OwnIn
import Derived.Maps.AppendAt
import Derived.Test.YtdadknejmnnkiaaGreatMem
namespace Go.Proofs.YtdadknejmnnkiaaGreat
open Go Go.RowKit

/-- Between two rounds nothing outside S has turned. -/
def Kp (S : Nat → Prop) (w w' : World) : Prop := w.heap.size ≤ w'.heap.size ∧ ∀ k, k < w.heap.size → ¬ S k → w'.heap[k]? = w.heap[k]?
theorem Kp.refl (S : Nat → Prop) (w : World) : Kp S w w := ⟨Nat.le_refl _, fun _ _ _ => rfl⟩
theorem Kp.trans {S : Nat → Prop} {a b c : World} (h : Kp S a b) (k : Kp S b c) : Kp S a c :=
  ⟨Nat.le_trans h.1 k.1, fun i hi hs => (k.2 i (Nat.lt_of_lt_of_le hi h.1) hs).trans (h.2 i hi hs)⟩
theorem Only.kp {S : Nat → Prop} {w w' : World} (h : Only S w w') : Kp S w w' := ⟨h.size, h.block⟩
theorem Kp.cell {S : Nat → Prop} {w w' : World} (h : Kp S w w') {b o : Nat} {v : Value} (hs : ¬ S b) (hc : w.cell? ⟨b, o, none⟩ = some v) : w'.cell? ⟨b, o, none⟩ = some v :=
  (World.cell?_of_block (w := w) (h.2 b (heap_lt_of_cell hc) hs)).trans hc


/-- Rows of cells, and all below B, lie as they lay, but for those in pv. -/
structure Hush (B : Nat) (pv : Nat → Prop) (w w' : World) : Prop where
  os : w'.os = w.os
  tape : w'.tape = w.tape
  output : w'.output = w.output
  size : w.heap.size ≤ w'.heap.size
  cells : ∀ (k : Nat) (c : Array Value) (e : TypeId) (f : Nat × Nat), ¬ pv k → w.heap[k]? = some (Obj.cells c e f) → w'.heap[k]? = some (Obj.cells c e f)
  low : ∀ k, k < B → k < w.heap.size → ¬ pv k → w'.heap[k]? = w.heap[k]?
  low' : ∀ (k : Nat) (o : Obj), k < B → w.heap[k]? = some o → o.isCells = false → w'.heap[k]? = some o
theorem Hush.keep {B : Nat} {pv : Nat → Prop} {w w' : World} (h : Hush B pv w w') {D : Nat → Prop} (hD : ∀ k, D k → ¬ pv k) : CellKeep D w w' := fun k c e f hd hk => h.cells k c e f (hD k hd) hk
theorem Blk.hush {B : Nat} {pv : Nat → Prop} {w w' : World} {g : Nat} {t : TypeId} {cs : Array Value} (h : Blk w g t cs) (hc : Hush B pv w w') (hg : ¬ pv g) : Blk w' g t cs := hc.cells _ _ _ _ hg h
theorem Only.hush {B : Nat} {S pv : Nat → Prop} {w w1 w2 : World} (h : Only S w w1) (hc : Hush B pv w1 w2) (hB : w.heap.size ≤ B) (hp : ∀ k, k < w.heap.size → pv k → S k) : Only S w w2 :=
  ⟨hc.os.trans h.os, hc.tape.trans h.tape, hc.output.trans h.output, Nat.le_trans h.size hc.size, fun k hk hs => (hc.low k (Nat.lt_of_lt_of_le hk hB) (Nat.lt_of_lt_of_le hk h.size) (fun e => hs (hp k hk e))).trans (h.block k hk hs),
   fun k o hk ho => hc.low' k o (Nat.lt_of_lt_of_le (heap_lt hk) hB) (h.others k o hk ho) ho⟩
theorem Only.keepsFrom {S : Nat → Prop} {w w1 : World} (h : Only S w w1) (B : Nat) : KeepsFrom B w w1 := ⟨h.size, fun k o _ hk ho => h.others k o hk ho⟩
theorem Only.toHush {B : Nat} {pv : Nat → Prop} {w w' : World} (h : Only pv w w') : Hush B pv w w' :=
  ⟨h.os, h.tape, h.output, h.size, fun k c e f hp hk => (h.block k (heap_lt hk) hp).trans hk, fun k _ hk hp => h.block k hk hp, fun k o _ hk ho => h.others k o hk ho⟩
theorem hush_putObj {B l : Nat} {o : Obj} (pv : Nat → Prop) {w : World} (o' : Obj) (hB : B ≤ l) (hl : w.heap[l]? = some o) (ho : o.isCells = false) : Hush B pv w (w.putObj l o') :=
  ⟨rfl, rfl, rfl, by simp, fun k c e f _ hk => by
    rw [World.putObj_heap_other (by rintro rfl; rw [hl] at hk; cases hk; cases ho)]; exact hk,
   fun k hk _ _ => World.putObj_heap_other (by omega), fun k o hk ho' _ => by rw [World.putObj_heap_other (by omega)]; exact ho'⟩
theorem hush_alloc {B : Nat} (pv : Nat → Prop) (w : World) (o : Obj) : Hush B pv w (w.alloc o) := (((Only.refl pv w).alloc o)).toHush
theorem Hush.trans {B : Nat} {pv : Nat → Prop} {a b c : World} (h : Hush B pv a b) (k : Hush B pv b c) : Hush B pv a c :=
  ⟨k.os.trans h.os, k.tape.trans h.tape, k.output.trans h.output, Nat.le_trans h.size k.size, fun i c' e f hp hi => k.cells i c' e f hp (h.cells i c' e f hp hi),
   fun i hB hi hp => (k.low i hB (Nat.lt_of_lt_of_le hi h.size) hp).trans (h.low i hB hi hp), fun i o hB hi ho => k.low' i o hB (h.low' i o hB hi ho) ho⟩
theorem own_hush {B : Nat} {pv : Nat → Prop} {w w' : World} {base : Nat} {e : TypeId} {size : Nat} {v : Value} {n : Nat} {xs : List Value} (h : w.ownsRow base e size v n xs) (hc : Hush B pv w w') (hp : ∀ k, v.ownBlock = some k → ¬ pv k) : w'.ownsRow base e size v n xs := by
  refine ⟨h.1, ?_⟩
  rcases h.2 with h2 | ⟨g, cap, cur, hv, hb, hh, r⟩
  · exact .inl h2
  · exact .inr ⟨g, cap, cur, hv, hb, hc.cells _ _ _ _ (hp g (by rw [hv]; rfl)) hh, r⟩
theorem Own.hush {B : Nat} {pv : Nat → Prop} {w w' : World} {base : Nat} {e : TypeId} {size : Nat} {v : Value} {xs : List Value} (h : Own w base e size v xs) (hc : Hush B pv w w') (hp : ∀ k, v.ownBlock = some k → ¬ pv k) : Own w' base e size v xs := by obtain ⟨n, h⟩ := h; exact ⟨n, own_hush h hc hp⟩
theorem own_only {S : Nat → Prop} {w w' : World} {base : Nat} {e : TypeId} {size : Nat} {v : Value} {n : Nat} {xs : List Value} (h : w.ownsRow base e size v n xs) (hc : Only S w w') (hs : ∀ k, v.ownBlock = some k → ¬ S k) : w'.ownsRow base e size v n xs := by
  refine ⟨h.1, ?_⟩
  rcases h.2 with h2 | ⟨g, cap, cur, hv, hb, hh, r⟩
  · exact .inl h2
  · exact .inr ⟨g, cap, cur, hv, hb, (hc.block g (heap_lt hh) (hs g (by rw [hv]; rfl))).trans hh, r⟩

/-- The function value '.func g lb' yields xs in order ('encs': what is handed to yield); what it reads lies in blocks of 'foot'; it turns none but those of 'pv', and new ones. -/
def Iter {α : Type} (P : Program) (g : Nat) (lb : Array Value) (encs : α → Array Value) (foot pv : Nat → Prop) (xs : List α) (w0 : World) : Prop :=
  ∀ (S : Nat → Prop), (∀ k, foot k → ¬ S k) → ∀ n, 1 ≤ n → ∀ (l : Nat) (J Jx : Nat → World → Prop) (W : World), (∀ k, foot k → W.heap[k]? = w0.heap[k]?) →
    (∀ k A B, J k A → Only pv A B → J k B) → (∀ k A B, Jx k A → Only pv A B → Jx k B) →
    (∀ k x W1, xs[k]? = some x → J k W1 → YieldAt Fence.wide (n - 1) P l (encs x) W1 fun e W' =>
      (e = .returned (.bool true) ∧ J (k + 1) W' ∧ Kp S W1 W') ∨ (e = .returned (.bool false) ∧ Jx (k + 1) W')) →
    J 0 W → CallsIn Fence.wide n P g (#[.func (.yield l) #[] #[]] ++ lb) W fun e W' => (∃ v, e = .returned v) ∧ (J xs.length W' ∨ ∃ k, Jx k W')
theorem Iter.later {α : Type} {P : Program} {g : Nat} {lb : Array Value} {encs : α → Array Value} {foot pv : Nat → Prop} {xs : List α} {w0 w : World} (h : Iter P g lb encs foot pv xs w0) (hk : ∀ k, foot k → w.heap[k]? = w0.heap[k]?) : Iter P g lb encs foot pv xs w :=
  fun S hS n hn l J Jx W hW => h S hS n hn l J Jx W (fun k hf => (hW k hf).trans (hk k hf))

/-- What a round's body owes: it goes on, or leaves. -/
def RP (B : Nat) (S : Nat → Prop) (I : Nat → World → Prop) (Ix : Code → World → Prop) (k : Nat) (W : World) : Exit → Act → World → Prop
  | .normal, _, W' => KeepsFrom B W W' ∧ Kp S W W' ∧ I (k + 1) W'
  | .ret, _, W' => KeepsFrom B W W' ∧ Ix .ret W'
  | .exit id, _, W' => KeepsFrom B W W' ∧ Ix (.exit id) W'
  | .goto t, _, W' => KeepsFrom B W W' ∧ Ix (.goto t) W'
  | .panic _, _, _ => False
  | .outgrown, _, _ => False

section
variable {α : Type} {P : Program} {n : Nat} {g : Operand} {ps : Array Tmp} {assign body : Code} {Q : Exit → Act → World → Prop} {a : Act} {w : World}
theorem range_top (h1 : 1 ≤ n - 1) {gf : Nat} {lb : Array Value} (hg : a.eval g = .func (.func gf) #[] lb) (eg : ∀ args w, (callFunc gf args).run P w = .ok (.enter gf args) w)
    {encs : α → Array Value} {foot pv : Nat → Prop} {xs : List α} (hit : Iter P gf lb encs foot pv xs w) (S : Nat → Prop) (hS : ∀ k, foot k → ¬ S k) (hSn : ∀ k, w.heap.size ≤ k → S k) (hf : ∀ k, foot k → k < w.heap.size)
    (hps : ∀ x, (encs x).size = ps.size) (I : Nat → World → Prop) (Ix : Code → World → Prop) (hI : ∀ k A B, I k A → Hush w.heap.size pv A B → I k B) (hIx : ∀ c A B, Ix c A → Hush w.heap.size pv A B → Ix c B) (h0 : I 0 w)
    (hround : ∀ (l k : Nat) (x : α) (W : World), xs[k]? = some x → I k W → assign.wpIn (Fence.wide.inRound l) (n - 1 - 1) P (Exit.then (fun a' W' => KeepsFrom w.heap.size W W' ∧ Kp S W W' ∧
      ∀ W2, Hush w.heap.size pv W' W2 → w.heap.size ≤ l → (∃ r, W2.heap[l]? = some (.loop r)) → body.wpIn (Fence.wide.inRound l) (n - 1 - 1) P (RP w.heap.size S I Ix k W2) a' W2) (fun _ _ _ => False))
      { tmps := (ps.zip (encs x)).foldl (fun t (p, v) => t.setIfInBounds p v) a.tmps, defers := [] } W)
    (hdone : ∀ (D : Nat) (W : World), w.heap.size ≤ D → I xs.length W → W.heap[D]? = some (.deferred (some [])) → Q .normal { a with defers := { target := .collected D, args := #[] } :: a.defers } W)
    (hstop : ∀ (D : Nat) (c : Code) (W : World), w.heap.size ≤ D → Ix c W → W.heap[D]? = some (.deferred (some [])) → c.wpIn Fence.wide n P Q { a with defers := { target := .collected D, args := #[] } :: a.defers } W) :
    (Code.rangeFunc g ps assign body).wpIn Fence.wide n P Q a w := by
  refine wpIn_rangeFunc ?_
  intro fn hfn
  obtain ⟨rec, hrec⟩ : ∃ rec : LoopState → Option Code → Loop, rec = fun st pe => { state := st, pending := pe, fn, tmps := a.tmps, params := ps, assign, body, defers := w.heap.size } := ⟨_, rfl⟩
  obtain ⟨W1, hW1⟩ : ∃ W1, (w.alloc (.deferred (some []))).alloc (.loop (rec .ready none)) = W1 := ⟨_, rfl⟩
  have hL1 : W1.heap[w.heap.size + 1]? = some (.loop (rec .ready none)) := by
    rw [← hW1]; have := World.alloc_heap_new (w.alloc (.deferred (some []))) (.loop (rec .ready none)); rwa [World.size_alloc] at this
  have hK1 : W1.heap[w.heap.size]? = some (.deferred (some [])) := by
    rw [← hW1]; exact (Below.heap_alloc _ _ _ (by simp)).trans (World.alloc_heap_new w _)
  have hI1 : I 0 W1 := by rw [← hW1]; exact hI _ _ _ (hI _ _ _ h0 (hush_alloc _ _ _)) (hush_alloc _ _ _)
  have hO1 : Only (fun _ => False) w W1 := by rw [← hW1]; exact ((Only.refl _ w).alloc _).alloc _
  refine ⟨w.heap.size + 1, [{ target := .collected w.heap.size, args := #[] }], W1, { target := .fn (.func gf) lb, args := #[.func (.yield (w.heap.size + 1)) #[] #[]] }, W1, gf,
    #[.func (.yield (w.heap.size + 1)) #[] #[]] ++ lb, W1, ?_, ?_, ?_, ?_, fun _ => by omega, ?_⟩
  · rw [← hW1, hrec]; exact run_enterLoop_outer _ _ _ _ _
  · simp only [resolve, hg]
    simp [go_sem]
  · intro f' hf'; trivial
  · simp [invoke, go_sem, eg]
  · refine (hit S hS (n - 1) h1 (w.heap.size + 1)
      (fun k W => I k W ∧ W.heap[w.heap.size + 1]? = some (.loop (rec .ready none)) ∧ W.heap[w.heap.size]? = some (.deferred (some [])))
      (fun _ W => ∃ c, Ix c W ∧ W.heap[w.heap.size + 1]? = some (.loop (rec .done (some c))) ∧ W.heap[w.heap.size]? = some (.deferred (some [])))
      W1 (fun k hk => hO1.block k (hf k hk) (fun h => h))
      (fun k A B hs ho => ⟨hI k A B hs.1 ho.toHush, ho.others _ _ hs.2.1 rfl, ho.others _ _ hs.2.2 rfl⟩)
      (fun k A B hs ho => by obtain ⟨c, hc, hl, hk⟩ := hs; exact ⟨c, hIx c A B hc ho.toHush, ho.others _ _ hl rfl, ho.others _ _ hk rfl⟩)
      ?_ ⟨hI1, hL1, hK1⟩).mono ?_
    · rintro k x W hx ⟨hi, hl, hk⟩
      have hlt : w.heap.size + 1 < W.heap.size := heap_lt hl
      have hy := run_yield (P := P) (args := encs x) hl (by rw [hrec]; exact hps x)
      rw [hrec] at hy
      refine ⟨fn, _, assign, body, hy, roundIn_of_wpIn hfn (wpIn_mono (hround _ k x W hx hi) ?_)⟩
      clear hy
      rintro e a' Wa hp
      cases e <;> try exact hp.elim
      obtain ⟨hkfa, hkpa, hb⟩ := hp
      have hl' := hkfa.same _ _ (by omega) hl rfl
      have hk' := hkfa.same _ _ (Nat.le_refl _) hk rfl
      have hlt' : w.heap.size + 1 < Wa.heap.size := heap_lt hl'
      refine ⟨_, run_beginRound hl' (by rw [hrec]), ?_⟩
      have hl2 : (Wa.putObj (w.heap.size + 1) (.loop { rec .ready none with state := .busy })).heap[w.heap.size + 1]? = some (.loop { rec .ready none with state := .busy }) := World.putObj_heap_same hlt'
      have hk2 : (Wa.putObj (w.heap.size + 1) (.loop { rec .ready none with state := .busy })).heap[w.heap.size]? = some (.deferred (some [])) := (World.putObj_heap_other (by omega)).trans hk'
      have kput : ∀ (A : World) (o' : Obj), Kp S A (A.putObj (w.heap.size + 1) o') := fun A o' => ⟨by simp, fun j hj hs => World.putObj_heap_other (by rintro rfl; exact hs (hSn _ (by omega)))⟩
      refine wpIn_mono (hb _ (hush_putObj pv _ (by omega) hl' rfl) (by omega) ⟨_, hl2⟩) ?_
      have fin : ∀ (jump : Option Code) (W3 : World), KeepsFrom w.heap.size (Wa.putObj (w.heap.size + 1) (.loop { rec .ready none with state := .busy })) W3 →
          (Instr.endRound (w.heap.size + 1) jump).run P W3 = .ok (.bool jump.isNone) (W3.putObj (w.heap.size + 1) (.loop (rec (if jump.isNone then .ready else .done) jump))) ∧
          W3.heap[w.heap.size + 1]? = some (.loop { rec .ready none with state := .busy }) ∧
          (W3.putObj (w.heap.size + 1) (.loop (rec (if jump.isNone then .ready else .done) jump))).heap[w.heap.size + 1]? = some (.loop (rec (if jump.isNone then .ready else .done) jump)) ∧
          (W3.putObj (w.heap.size + 1) (.loop (rec (if jump.isNone then .ready else .done) jump))).heap[w.heap.size]? = some (.deferred (some [])) := fun jump W3 hk3 => by
        have hl3 := hk3.same _ _ (by omega) hl2 rfl
        have := run_endRound (P := P) jump hl3
        rw [hrec] at this ⊢
        exact ⟨this, by rw [hrec] at hl3; exact hl3, World.putObj_heap_same (heap_lt hl3), (World.putObj_heap_other (by omega)).trans (hk3.same _ _ (Nat.le_refl _) hk2 rfl)⟩
      rintro e a3 W3 hp
      cases e with
      | normal =>
        obtain ⟨hk3, hkp3, hi3⟩ := hp
        obtain ⟨hr, hl3, hl4, hk4⟩ := fin none W3 hk3
        exact ⟨_, _, hr, .inl ⟨rfl, ⟨hI _ _ _ hi3 (hush_putObj pv _ (by omega) hl3 rfl), hl4, hk4⟩, hkpa.trans (((kput _ _).trans hkp3).trans (kput _ _))⟩⟩
      | ret =>
        obtain ⟨hk3, hi3⟩ := hp
        obtain ⟨hr, hl3, hl4, hk4⟩ := fin (some .ret) W3 hk3
        exact ⟨_, _, hr, .inr ⟨rfl, .ret, hIx _ _ _ hi3 (hush_putObj pv _ (by omega) hl3 rfl), hl4, hk4⟩⟩
      | exit id =>
        obtain ⟨hk3, hi3⟩ := hp
        obtain ⟨hr, hl3, hl4, hk4⟩ := fin (some (.exit id)) W3 hk3
        exact ⟨_, _, hr, .inr ⟨rfl, .exit id, hIx _ _ _ hi3 (hush_putObj pv _ (by omega) hl3 rfl), hl4, hk4⟩⟩
      | goto t =>
        obtain ⟨hk3, hi3⟩ := hp
        obtain ⟨hr, hl3, hl4, hk4⟩ := fin (some (.goto t)) W3 hk3
        exact ⟨_, _, hr, .inr ⟨rfl, .goto t, hIx _ _ _ hi3 (hush_putObj pv _ (by omega) hl3 rfl), hl4, hk4⟩⟩
      | panic ch => exact hp.elim
      | outgrown => exact hp.elim
    · rintro e W2 ⟨⟨v, rfl⟩, (⟨hi, hl, hk⟩ | ⟨_, c, hi, hl, hk⟩)⟩
      · exact ⟨none, _, by have := run_endLoop (P := P) hl (by rw [hrec]; simp); rw [hrec] at this; exact this, hdone _ _ (Nat.le_refl _) (hI _ _ _ hi (hush_putObj pv _ (by omega) hl rfl)) ((World.putObj_heap_other (by omega)).trans hk)⟩
      · exact ⟨some c, _, by have := run_endLoop (P := P) hl (by rw [hrec]; simp); rw [hrec] at this; exact this, hstop _ c _ (Nat.le_refl _) (hIx _ _ _ hi (hush_putObj pv _ (by omega) hl rfl)) ((World.putObj_heap_other (by omega)).trans hk)⟩
end

/-- Facts on an element type. -/
structure ElemT (P : Program) (t e : TypeId) (z : Value) (size bytes : Nat) : Prop where
  ht : P.underlying t = some (.slice e)
  hi : ∃ i, P.info? e = some i ∧ i.zero = some z ∧ i.size = size ∧ i.bytes = bytes
  hzs : z.cells.size = size
  hsz : 0 < size
theorem ElemT.of {P : Program} {t e : TypeId} {z : Value} {size bytes : Nat} (ht : P.underlying t = some (.slice e)) (hi : (P.info? e).map (fun i => (i.zero, i.size, i.bytes)) = some (some z, size, bytes)) (hzs : z.cells.size = size) (hsz : 0 < size) : ElemT P t e z size bytes := by
  obtain ⟨i, h1, h2, h3, h4⟩ := info_parts hi
  exact ⟨ht, ⟨i, h1, h2, h3, h4⟩, hzs, hsz⟩

section
variable {P : Program} {w : World} {ops : Array Oper} {rest : List Oper} {o : Oper} {a : Act} {Q : Exit → Act → World → Prop}
/-- append of a literal, or of a row at a known address, to a row of the call's own. -/
theorem wpList_app {t e : TypeId} {z : Value} {size bytes : Nat} (et : ElemT P t e z size bytes) (hgd : o.guard = none) (s x : Operand)
    (ho : o.op = .call { callee := .builtin .append, args := #[s, x], argTypes := #[t, t] })
    (base : Nat) (v : Value) (n : Nat) (xs : List Value) (hs : a.eval s = v) (hown : w.ownsRow base e size v n xs)
    (ad : Addr) (m c : Nat) (news : List Value) (hx : a.eval x = .slice (some ad) m c) (hl : news.length = m * size) (hnews : ∀ j u, news[j]? = some u → w.cell? (ad.add j) = some u) (h1 : ∀ u ∈ news, u.oneCell' = true)
    (h63 : n + m ≤ maxLen) (hbytes : (n + m) * bytes ≤ 140737488355328) (hbase : base ≤ w.heap.size)
    (h : ∀ v' w', w'.ownsRow base e size v' (n + m) (xs ++ news) → w.grownBy w' v.ownBlock → (v'.ownBlock = v.ownBlock ∨ v'.ownBlock = some w.heap.size) → wpList P ops Q rest (a.put o.dst v') w') : wpList P ops Q (o :: rest) a w := by
  obtain ⟨i, hi, hz, hi1, hi2⟩ := et.hi
  exact wpList_append_own_at w hgd s x t ho base e i z size bytes et.ht hi hz hi1 hi2 et.hzs et.hsz v n xs hs hown ad m c news hx hl hnews h1 h63 hbytes hbase (fun v' w' h2 h3 _ h5 => h v' w' h2 h3 h5)
theorem wpListIn_app {F : Fence} {n0 : Nat} {t e : TypeId} {z : Value} {size bytes : Nat} (et : ElemT P t e z size bytes) (hgd : o.guard = none) (s x : Operand)
    (ho : o.op = .call { callee := .builtin .append, args := #[s, x], argTypes := #[t, t] })
    (base : Nat) (v : Value) (n : Nat) (xs : List Value) (hs : a.eval s = v) (hown : w.ownsRow base e size v n xs)
    (ad : Addr) (m c : Nat) (news : List Value) (hx : a.eval x = .slice (some ad) m c) (hl : news.length = m * size) (hnews : ∀ j u, news[j]? = some u → w.cell? (ad.add j) = some u) (h1 : ∀ u ∈ news, u.oneCell' = true)
    (h63 : n + m ≤ maxLen) (hbytes : (n + m) * bytes ≤ 140737488355328) (hbase : base ≤ w.heap.size)
    (h : ∀ v' w', w'.ownsRow base e size v' (n + m) (xs ++ news) → w.grownBy w' v.ownBlock → (v'.ownBlock = v.ownBlock ∨ v'.ownBlock = some w.heap.size) → wpListIn F n0 P ops Q rest (a.put o.dst v') w') : wpListIn F n0 P ops Q (o :: rest) a w := by
  obtain ⟨i, hi, hz, hi1, hi2⟩ := et.hi
  exact wpListIn_append_own_at w hgd s x t ho base e i z size bytes et.ht hi hz hi1 hi2 et.hzs et.hsz v n xs hs hown ad m c news hx hl hnews h1 h63 hbytes hbase (fun v' w' h2 h3 _ h5 => h v' w' h2 h3 h5)
theorem run_app {t ty e : TypeId} {z : Value} {size bytes : Nat} (et : ElemT P t e z size bytes) (base : Nat) (v : Value) (n : Nat) (xs : List Value) (w : World) (hown : w.ownsRow base e size v n xs)
    (A : Option Addr) (m c : Nat) (news : List Value) (hl : news.length = m * size) (hsrc : Src w A news) (h1 : ∀ u ∈ news, u.oneCell' = true)
    (h63 : n + m ≤ maxLen) (hbytes : (n + m) * bytes ≤ 140737488355328) (hbase : base ≤ w.heap.size) :
    ∃ v' w', (Builtin.append_ #[t, t] ty #[v, .slice A m c]).run P w = .ok v' w' ∧ w'.ownsRow base e size v' (n + m) (xs ++ news) ∧ w.grownBy w' v.ownBlock ∧ (v'.ownBlock = v.ownBlock ∨ v'.ownBlock = some w.heap.size) := by
  obtain ⟨i, hi, hz, hi1, hi2⟩ := et.hi
  by_cases hn : news = []
  · subst hn
    obtain rfl : m = 0 := by have := et.hsz; rcases Nat.eq_zero_or_pos m with h | h; exact h; exact absurd hl.symm (Nat.ne_of_gt (Nat.mul_pos h this))
    rcases A with _ | ad
    · refine ⟨v, w, ?_, by simpa using hown, World.grownBy.refl w _, .inl rfl⟩
      rcases hown.2 with ⟨rfl, rfl⟩ | ⟨g, cap, cur, rfl, _, _, hnc, _⟩
      · simp [Builtin.append_, run_underlying et.ht, sizeOf, typeInfo, hi, Builtin.lenOf, Builtin.firstCells]
      · simp [Builtin.append_, run_underlying et.ht, sizeOf, typeInfo, hi, Builtin.lenOf, Builtin.firstCells, hnc, storeCells]
    · obtain ⟨v', w', hrun, h2, h3, _, h5⟩ := run_append_own_at (P := P) w base t ty e i z size bytes et.ht hi hz hi1 hi2 et.hzs et.hsz v n xs hown ad 0 c [] hl (by simp) h1 h63 hbytes hbase
      exact ⟨v', w', hrun, h2, h3, h5⟩
  · obtain ⟨ad, rfl, hc⟩ := hsrc hn
    obtain ⟨v', w', hrun, h2, h3, _, h5⟩ := run_append_own_at (P := P) w base t ty e i z size bytes et.ht hi hz hi1 hi2 et.hzs et.hsz v n xs hown ad m c news hl hc h1 h63 hbytes hbase
    exact ⟨v', w', hrun, h2, h3, h5⟩
/-- append of a slice that came in, nil or empty too, to a row of the call's own. -/
theorem wpList_appS {t e : TypeId} {z : Value} {size bytes : Nat} (et : ElemT P t e z size bytes) (hgd : o.guard = none) (s x : Operand)
    (ho : o.op = .call { callee := .builtin .append, args := #[s, x], argTypes := #[t, t] })
    (base : Nat) (v : Value) (n : Nat) (xs : List Value) (hs : a.eval s = v) (hown : w.ownsRow base e size v n xs)
    (A : Option Addr) (m c : Nat) (news : List Value) (hx : a.eval x = .slice A m c) (hl : news.length = m * size) (hsrc : Src w A news) (h1 : ∀ u ∈ news, u.oneCell' = true)
    (h63 : n + m ≤ maxLen) (hbytes : (n + m) * bytes ≤ 140737488355328) (hbase : base ≤ w.heap.size)
    (h : ∀ v' w', w'.ownsRow base e size v' (n + m) (xs ++ news) → w.grownBy w' v.ownBlock → (v'.ownBlock = v.ownBlock ∨ v'.ownBlock = some w.heap.size) → wpList P ops Q rest (a.put o.dst v') w') : wpList P ops Q (o :: rest) a w := by
  obtain ⟨v', w', hrun, h2, h3, h4⟩ := run_app (ty := o.type) et base v n xs w hown A m c news hl hsrc h1 h63 hbytes hbase
  refine wpList_plain hgd fun K hK => ?_
  unfold Oper.wp execOp
  simp only [ho, resolve, invoke, builtin, Sem.run_bind, Sem.run_pure, Result.andThen_ok, List.map_toArray, List.map_cons, List.map_nil, hs, hx, hrun]
  exact hK _ _ (h v' w' h2 h3 h4)
theorem wpListIn_appS {F : Fence} {n0 : Nat} {t e : TypeId} {z : Value} {size bytes : Nat} (et : ElemT P t e z size bytes) (hgd : o.guard = none) (s x : Operand)
    (ho : o.op = .call { callee := .builtin .append, args := #[s, x], argTypes := #[t, t] })
    (base : Nat) (v : Value) (n : Nat) (xs : List Value) (hs : a.eval s = v) (hown : w.ownsRow base e size v n xs)
    (A : Option Addr) (m c : Nat) (news : List Value) (hx : a.eval x = .slice A m c) (hl : news.length = m * size) (hsrc : Src w A news) (h1 : ∀ u ∈ news, u.oneCell' = true)
    (h63 : n + m ≤ maxLen) (hbytes : (n + m) * bytes ≤ 140737488355328) (hbase : base ≤ w.heap.size)
    (h : ∀ v' w', w'.ownsRow base e size v' (n + m) (xs ++ news) → w.grownBy w' v.ownBlock → (v'.ownBlock = v.ownBlock ∨ v'.ownBlock = some w.heap.size) → wpListIn F n0 P ops Q rest (a.put o.dst v') w') : wpListIn F n0 P ops Q (o :: rest) a w := by
  obtain ⟨v', w', hrun, h2, h3, h4⟩ := run_app (ty := o.type) et base v n xs w hown A m c news hl hsrc h1 h63 hbytes hbase
  refine wpListIn_plain hgd fun K hK => ?_
  unfold Oper.wpIn
  refine ⟨?_, ?_⟩
  · simp [Oper.about, ho, resolve, Target.leads, Sem.run_pure]
  · rw [Oper.semAt_plain F _ _ (by rw [ho]; intro c hc'; cases hc')]
    simp [execOp, ho, resolve, invoke, builtin, hs, hx, hrun, Result.andThen]
    exact hK _ _ (h v' w' h2 h3 h4)
theorem run_mk {t e : TypeId} {z : Value} {size bytes : Nat} (et : ElemT P t e z size bytes) (kl kc : IntKind) (l c : Int) (h0 : 0 ≤ l) (hlc : l ≤ c) (hbytes : (bytes : Int) * c ≤ 281474976710656) (h63 : c ≤ 9223372036854775807) (w : World) :
    (Instr.makeSlice t (.int kl l) (.int kc c)).run P w = .ok (.slice (some ⟨w.heap.size, 0, none⟩) l.toNat c.toNat) (w.alloc (.cells (madeCells z.cells (c.toNat * size)) e)) := by
  obtain ⟨i, hi, hz, hi1, hi2⟩ := et.hi
  subst hi1 hi2
  exact run_make w t e i z et.ht hi hz kl kc l c h0 hlc hbytes h63
end

/-- The marks that ranges over functions have left, one a range. -/
def Marks (B U : Nat) (W : World) : List Deferred → Prop
  | [] => True
  | d :: ds => ∃ D, d = { target := .collected D, args := #[] } ∧ B ≤ D ∧ D < U ∧ W.heap[D]? = some (.deferred (some [])) ∧ (∀ d' ∈ ds, d' ≠ d) ∧ Marks B U W ds
theorem Marks.only {B U : Nat} {S : Nat → Prop} {W W' : World} (ho : Only S W W') : ∀ {ds : List Deferred}, Marks B U W ds → Marks B U W' ds
  | [], _ => trivial
  | _ :: _, ⟨D, h1, h2, h3, h4, h5, h6⟩ => ⟨D, h1, h2, h3, ho.others _ _ h4 rfl, h5, h6.only ho⟩
theorem Marks.hush {B U U' : Nat} {pv : Nat → Prop} {W W' : World} (hU : U ≤ U') (ho : Hush U' pv W W') : ∀ {ds : List Deferred}, Marks B U W ds → Marks B U W' ds
  | [], _ => trivial
  | _ :: _, ⟨D, h1, h2, h3, h4, h5, h6⟩ => ⟨D, h1, h2, h3, ho.low' _ _ (by omega) h4 rfl, h5, h6.hush hU ho⟩
theorem Marks.up {B U U' : Nat} {W : World} (hU : U ≤ U') : ∀ {ds : List Deferred}, Marks B U W ds → Marks B U' W ds
  | [], _ => trivial
  | _ :: _, ⟨D, h1, h2, h3, h4, h5, h6⟩ => ⟨D, h1, h2, by omega, h4, h5, h6.up hU⟩
theorem Marks.mem {B U : Nat} {W : World} : ∀ {ds : List Deferred}, Marks B U W ds → ∀ d ∈ ds, ∃ D, d = { target := .collected D, args := #[] } ∧ D < U
  | _ :: _, ⟨D, h1, _, h3, _, _, h6⟩, d, hd => by
    rcases List.mem_cons.1 hd with rfl | hd
    · exact ⟨D, h1, h3⟩
    · exact h6.mem d hd
theorem Marks.cons {B U D U' : Nat} {W : World} {ds : List Deferred} (h : Marks B U W ds) (hB : B ≤ D) (hU : U ≤ D) (hD : D < U') (hK : W.heap[D]? = some (.deferred (some []))) : Marks B U' W ({ target := .collected D, args := #[] } :: ds) :=
  ⟨D, rfl, hB, hD, hK, fun d' hd e => by
    obtain ⟨D', h1, h2⟩ := h.mem d' hd
    rw [h1] at e; injection e with e1 _; injection e1 with e2; omega, h.up (by omega)⟩
/-- Leaving through the marks: each block is shut; the world is hushed. -/
theorem leaves_marks {P : Program} {F : Fence} {n : Nat} {fn : Func} {tmps : Array Value} {R : Ending → World → Prop} {B U : Nat} (pv : Nat → Prop) :
    ∀ (ds : List Deferred) (W : World), Marks B U W ds → (∀ W', Hush B pv W W' → LeavesIn F n P fn tmps R [] .returning W') → LeavesInM F n P fn tmps R ds .returning W
  | [], W, _, h => h W ((Only.refl pv W).toHush)
  | d :: ds, W, ⟨D, h1, h2, h3, h4, h5, h6⟩, h => by
    refine ⟨by simp, .inl ⟨D, _, by rw [h1], run_takeDeferred h4, ?_⟩⟩
    have hp : Hush B pv W (W.putObj D (.deferred none)) := hush_putObj pv _ h2 h4 rfl
    refine leaves_marks (U := U) pv ds _ ?_ (fun W' hW' => h W' (hp.trans hW'))
    clear h
    subst h1
    induction ds with
    | nil => trivial
    | cons d' ds ih =>
      obtain ⟨D', g1, g2, g3, g4, g5, g6⟩ := h6
      refine ⟨D', g1, g2, g3, ?_, g5, ih g6 (fun x hx => h5 x (List.mem_cons_of_mem _ hx))⟩
      rw [World.putObj_heap_other]
      · exact g4
      · rintro rfl
        exact h5 d' (List.mem_cons_self ..) g1
end Go.Proofs.YtdadknejmnnkiaaGreat
