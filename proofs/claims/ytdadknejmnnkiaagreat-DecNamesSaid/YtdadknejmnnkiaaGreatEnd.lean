import Derived.Test.YtdadknejmnnkiaaGreatMem
import Derived.Below
import Derived.ChangeSame
import Derived.ChangeShapes
import Derived.WideShapes
namespace Go.Proofs.YtdadknejmnnkiaaGreat
open Go Go.RowKit Go.WideShapes Go.ChangeShapes

/-- The end of a call that turns no old block: what was read still reads so; what is answered is plain. -/
theorem post_only {H : Type} {enc : TypeId × Value → H} {P : Program} {f : Func} {s : ChangeSpec} {apart fresh handsOn again : Bool} {W W' : World} {args : Array Value} {v : Value} {ds gs : List (DataW H)} {before pa pv : List MemPlace}
    (hW : DataW.Whole enc P f.params.toList s.vars apart W args.toList ds gs before) (o : Only (fun _ => False) W W') (split : before = pa ++ pv)
    (res : ∀ (b : Nat) (sp : Nat → Bool) (hd : Bool), DataW.TrodAll enc P W' b sp hd f.resultTypes.toList (v.resultList f.resultTypes.size) (s.fn H (ds ++ gs)).results [])
    (as_ : ∀ sp : Nat → Bool, (∀ p ∈ before, sp p.block = true) → DataW.TrodAll enc P W' 0 sp true f.params.toList args.toList (s.fn H (ds ++ gs)).args pa)
    (vs : ∀ sp : Nat → Bool, (∀ p ∈ before, sp p.block = true) → DataW.TrodVars enc P W' sp s.vars (s.fn H (ds ++ gs)).vars pv)
    (ok : ∀ (j : Nat) (t : TypeId) (r : Value), f.resultTypes[j]? = some t → (v.resultList f.resultTypes.size)[j]? = some r → Value.okWide P W' .any 0 t r) :
    s.post enc P f apart fresh handsOn again W args v W' := by
  have low : Below W.heap.size W W' := o.below (Nat.le_refl _) (fun _ _ h => h)
  have small : ∀ p ∈ before, p.block < W.heap.size := fun p hp => hW.lt p hp
  have inOld : ∀ p ∈ before, (fun b => decide (b < W.heap.size)) p.block = true := by
    intro p hp
    have := hW.lt p hp
    simpa using this
  refine ⟨ds, gs, before, [], pa, pv, hW, res _ _ _, as_ _ inOld, vs _ inOld, ?_, ?_⟩
  · refine World.keptBut_mono (fun p hp => ⟨hp, ?_⟩) (low.frame (· ∈ before))
    have h := hp
    rw [split] at h
    exact .inr (List.mem_append.1 h)
  · intro _
    obtain ⟨_, _, _, _, _, free, nodup⟩ := hW
    refine ⟨ok, _, _, ([] ++ pa) ++ pv, ⟨[] ++ pa, pv, trodAll_append (as_ _ (fun _ _ => rfl)) (res _ _ _), vs _ (fun _ _ => rfl), rfl, fun b off hp => ?_, fun ha => ?_⟩, ?_⟩
    · have inb : MemPlace.cell b off ∈ before := by
        rw [split]
        exact hp
      exact (low.frozen (p := ⟨b, off, none⟩) (small _ inb)).trans (free b off inb)
    · have h := nodup ha
      rw [split] at h
      exact h
    · intro p hp _
      rw [split]
      exact hp
end Go.Proofs.YtdadknejmnnkiaaGreat
