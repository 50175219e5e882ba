import Derived.Test.YtdadknejmnnkiaaGreatLose
namespace Go.Proofs.YtdadknejmnnkiaaGreat
open Go Go.RowKit
set_option maxRecDepth 100000

theorem lapT : ElemT Tryz.prog 41 54 (.agg #[.slice none 0 0, .int .u8 0, .int .u8 0]) 3 32 := ElemT.of Tryz.underlying41 (by kernel_rfl) rfl (by decide)
theorem blk_news {w : World} {g : Nat} {t : TypeId} {cs : Array Value} (h : Blk w g t cs) : ∀ (j : Nat) u, cs.toList[j]? = some u → w.cell? ((⟨g, 0, none⟩ : Addr).add j) = some u := by
  intro j u hj
  rw [add_spot, Nat.zero_add, h.cell]
  simpa using hj
theorem synthNew_one (w : World) :
    Calls Tryz.prog 9 #[.int .i64 1] w fun e w' => ∃ v g, e = .returned (.tuple #[v, .int .i64 0]) ∧ w.heap.size ≤ g ∧ Blk w' g 3 (row (fun _ => 0) 256) ∧ Own w' w.heap.size 54 3 v [.slice (some ⟨g, 0, none⟩) 256 256, .int .u8 0, .int .u8 0] ∧ Only (fun _ => False) w w' := by
  go_enter Tryz.func9, Tryz.ntmps9
  go_wp2
  refine wp_loop_rounds 2 ?_
  rw [rounds_succ]
  go_wp2_with fail
  refine (lapNew_any _).mono ?_
  rintro e w1 ⟨g, rfl, hg, b1, f1⟩
  have B1 := Lib.hid b1
  have F1 := Lib.hid f1
  have HG := Lib.hid hg
  clear b1 f1 hg
  go_wp2_with (at_builtin; refine wpList_app lapT rfl (.tmp 13) (.tmp 15) rfl w.heap.size (.slice none 0 0) 0 [] rfl (World.ownsRow_nil _ _ _ _) ⟨w1.heap.size, 0, none⟩ 1 1 [.slice (some ⟨g, 0, none⟩) 256 256, .int .u8 0, .int .u8 0] rfl rfl (blk_news (Blk.new w1 _ _)) (by simp [Value.oneCell']) (by decide) (by decide) (by have := F1.out.size; simp; omega) ?_; intro v3 w3 g1 g2 g3; obtain ⟨A3, c3, rfl⟩ := own_form g1)
  have F3 := Lib.hid ((F1.out.alloc _).app g2 (World.ownsRow_nil _ w.heap.size 54 3) (fun k hk => by cases hk))
  have B3 : Hid (Blk w3 g 3 (row (fun _ => 0) 256)) := Lib.hid ((g2.block _ (B1.out.alloc _).lt (fun h => by cases h)).trans (B1.out.alloc _))
  have G3 : Hid (Own w3 w.heap.size 54 3 (.slice A3 1 c3) [.slice (some ⟨g, 0, none⟩) 256 256, .int .u8 0, .int .u8 0]) := Lib.hid ⟨_, g1⟩
  clear g1 g2 g3 F1 B1
  rw [rounds_succ]
  go_wp2
  go_ret2
  exact ⟨_, g, rfl, HG.out, B3.out, G3.out, F3.out⟩
end Go.Proofs.YtdadknejmnnkiaaGreat
