import Derived.Test.YtdadknejmnnkiaaGreatIter2
namespace Go.Proofs.YtdadknejmnnkiaaGreat
open Go Go.RowKit
attribute [local go_sem] Oper.semAt_some
set_option maxRecDepth 100000

/-- what the windows of a long frame yield -/
def okWin (B : Nat) (k : Nat) (args : Array Value) (W : World) : Prop := k = 0 ∧ ∃ v, args = #[.int .i64 0, v] ∧ SlV 1 intR (fun j => B ≤ j) W v sineW
theorem windows_iter (b1 b2 b3 : Nat) (w : World) (h1 : Blk w b1 5 #[.int .u8 0]) (h2 : Blk w b2 5 #[.int .u8 0]) (h3 : Blk w b3 5 #[.int .u8 0]) :
    IterG Tryz.prog 117 #[.pointer (some ⟨b1, 0, none⟩), .pointer (some ⟨b2, 0, none⟩), .pointer (some ⟨b3, 0, none⟩)] (okWin w.heap.size) 1 (fun k => k = b1 ∨ k = b2 ∨ k = b3) (fun _ => False) w := by
  intro S hS n hn l J Jx W hW hsz hJs hJx hY h0
  have c1 : W.cell? ⟨b1, 0, none⟩ = some (.int .u8 0) := (show Blk W b1 5 #[.int .u8 0] from (hW b1 (.inl rfl)).trans h1).cell 0
  have c2 : W.cell? ⟨b2, 0, none⟩ = some (.int .u8 0) := (show Blk W b2 5 #[.int .u8 0] from (hW b2 (.inr (.inl rfl))).trans h2).cell 0
  have c3 : W.cell? ⟨b3, 0, none⟩ = some (.int .u8 0) := (show Blk W b3 5 #[.int .u8 0] from (hW b3 (.inr (.inr rfl))).trans h3).cell 0
  have HY := Lib.hid hY
  have HJ := Lib.hid hJs
  have HJ0 := Lib.hid h0
  clear hW hJs hJx hY h0 h1 h2 h3 hS
  refine callsIn_of_wp Tryz.func117 rfl trivial ?_ rfl
  simp only [Tryz.ntmps117, List.size_toArray, List.length_cons, List.length_nil, Nat.reduceAdd, Nat.reduceSub, Array.replicate_succ, Array.replicate_zero, List.push_toArray, List.append_toArray, List.nil_append, List.cons_append]
  gi_wp2_with (refine ⟨trivial, ?_⟩; gi_at_call 118; refine (callsIn_wide.2 (window_long _)).mono ?_; rintro e w1 ⟨v, rfl, o1, f1⟩; have hx : okWin w.heap.size 0 #[.int .i64 0, v] w1 := ⟨rfl, v, rfl, (o1.more hsz).slV⟩; have hj := HJ.out _ _ _ HJ0.out f1; obtain ⟨fn, tmps, assign, body, hy, hR⟩ := HY.out 0 _ w1 hx hj; have HR := Lib.hid hR; clear hR hx hj o1 f1)
  refine HR.out.mono ?_
  rintro e W3 (⟨rfl, hJ3, hk3⟩ | ⟨rfl, hJx3⟩)
  · gi_wp2
    refine bodyPost_ret (results_none rfl _ _ _) rfl ?_
    exact ⟨⟨_, rfl⟩, .inl hJ3⟩
  · gi_wp2
    refine bodyPost_ret (results_none rfl _ _ _) rfl ?_
    exact ⟨⟨_, rfl⟩, .inr ⟨_, hJx3⟩⟩
end Go.Proofs.YtdadknejmnnkiaaGreat
