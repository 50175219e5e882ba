import Derived.Test.YtdadknejmnnkiaaGreatSynth2
namespace Go.Proofs.YtdadknejmnnkiaaGreat
open Go Go.RowKit
set_option maxRecDepth 100000

/-- slices.Clone: a row of the call's own. -/
theorem clone_int (l : List Int) (D : Nat → Prop) (v : Value) (w : World) (hv : SlV 1 (c1 i2v) D w v l) (hl : l.length ≤ 17592186044416) :
    Calls Tryz.prog 38 #[v] w fun e w' => ∃ v', e = .returned v' ∧ Own w' w.heap.size 3 1 v' (l.map i2v) ∧ Only (fun _ => False) w w' := by
  obtain ⟨A, c, rfl, hlc⟩ := hv.form
  have HL := Lib.hid hl
  have hnil := fun (w : World) (a) (l c l' c' : Nat) => Lib.run_eql_slice_nil (P := Tryz.prog) w 30 3 a l c l' c' Tryz.underlying30
  clear hl hlc
  rcases A with _ | ad
  · obtain rfl : l = [] := by
      rcases l with _ | ⟨a, l⟩
      · rfl
      · obtain ⟨b, o, h, _⟩ := hv.at_ (k := 0) rfl; cases h
    go_enter Tryz.func38, Tryz.ntmps38
    go_wp2
    go_ret
    exact ⟨_, rfl, Own.nil_ _ _ _ _, Only.refl _ _⟩
  · go_enter Tryz.func38, Tryz.ntmps38
    have hs : Src (w.alloc (.cells #[] 3)) (some ad) (l.map i2v) := (hv.keep (c1_good _) (((Only.refl (fun _ => False) w).alloc _).cellKeep (fun _ _ _ h => h))).src
    have hs' := Lib.hid hs
    clear hs hv
    go_wp2_with (at_builtin; refine wpList_appS intT rfl (.tmp 5) (.tmp 6) rfl w.heap.size (.slice (some ⟨w.heap.size, 0, none⟩) 0 0) 0 [] rfl (World.ownsRow_made (e := 3) (size := 1) w #[] 0 (Nat.le_refl _) (by decide) rfl) (some ad) l.length c (l.map i2v) rfl (by simp) hs'.out (one_map _ l (fun _ => rfl)) (by have := HL.out; simp only [maxLen]; omega) (by have := HL.out; omega) (by simp) ?_; intro v1 w1 g1 g2 g3)
    go_ret
    rw [Nat.zero_add, List.nil_append] at g1
    exact ⟨v1, rfl, ⟨_, g1⟩, ((Only.refl _ w).alloc _).app g2 (World.ownsRow_made (e := 3) (size := 1) w #[] 0 (Nat.le_refl _) (by decide) rfl) (fun k hk => .inr (by simp [Value.ownBlock] at hk; omega))⟩
end Go.Proofs.YtdadknejmnnkiaaGreat
