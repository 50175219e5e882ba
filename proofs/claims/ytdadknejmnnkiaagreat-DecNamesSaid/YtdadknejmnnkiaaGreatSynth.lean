import Derived.Test.YtdadknejmnnkiaaGreatDec
namespace Go.Proofs.YtdadknejmnnkiaaGreat
open Go Go.RowKit
set_option maxRecDepth 100000

theorem windows_val (w : World) :
    Calls Tryz.prog 63 #[.int .u8 0, .int .u8 0, .int .u8 0] w fun e w' => e = .returned (.func (.func 117) #[] #[.pointer (some ⟨w.heap.size, 0, none⟩), .pointer (some ⟨w.heap.size + 1, 0, none⟩), .pointer (some ⟨w.heap.size + 1 + 1, 0, none⟩)]) ∧
      Blk w' w.heap.size 5 #[.int .u8 0] ∧ Blk w' (w.heap.size + 1) 5 #[.int .u8 0] ∧ Blk w' (w.heap.size + 1 + 1) 5 #[.int .u8 0] ∧ Only (fun _ => False) w w' := by
  go_enter Tryz.func63, Tryz.ntmps63
  go_wp2
  go_ret
  have h1 := (Blk.new (w.alloc (.cells #[.int .u8 0] 5)) 5 #[.int .u8 0]).alloc (.cells #[.int .u8 0] 5)
  have h2 := Blk.new ((w.alloc (.cells #[.int .u8 0] 5)).alloc (.cells #[.int .u8 0] 5)) 5 #[.int .u8 0]
  rw [World.size_alloc] at h1
  rw [World.size_alloc, World.size_alloc] at h2
  exact ⟨rfl, ((Blk.new w _ _).alloc _).alloc _, h1, h2, (((Only.refl _ _).alloc _).alloc _).alloc _⟩
theorem clip16 (n : Int) (w : World) :
    Calls Tryz.prog 37 #[.int .i64 n, .int .i64 16] w fun e w' => e = .returned (.tuple #[.int .i64 (min (max n (-32768)) 32767), .int .i64 0]) ∧ w = w' := by
  by_cases h1 : n < -32768
  · have hr : min (max n (-32768)) 32767 = -32768 := by omega
    rw [hr]
    clear hr
    go_enter Tryz.func37, Tryz.ntmps37
    go_wp2
    go_ret2
    exact ⟨rfl, rfl⟩
  · by_cases h2 : 32767 < n
    · have hr : min (max n (-32768)) 32767 = 32767 := by omega
      rw [hr]
      clear hr
      go_enter Tryz.func37, Tryz.ntmps37
      go_wp2
      go_ret2
      exact ⟨rfl, rfl⟩
    · have hr : min (max n (-32768)) 32767 = n := by omega
      rw [hr]
      clear hr
      go_enter Tryz.func37, Tryz.ntmps37
      go_wp2
      go_ret2
      exact ⟨rfl, rfl⟩
end Go.Proofs.YtdadknejmnnkiaaGreat
