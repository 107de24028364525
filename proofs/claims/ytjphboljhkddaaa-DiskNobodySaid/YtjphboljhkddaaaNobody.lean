/- Calls of a disk that no call made. -/
import Derived.Test.YtjphboljhkddaaaAwake
set_option linter.unusedVariables false
namespace Go.Proofs.Ytjphboljhkddaaa
open Go.RowKit

def Unmade (p : Option Addr) (w : World) : Prop := Calls Try.prog 30 #[.pointer p] w fun e w' => e = .returned (.int .i64 2) ∧ w = w'
theorem nob_read (p : Option Addr) (z : Int) (w : World) (M : Unmade p w) : Calls Try.prog 11 #[.pointer p, .int .i64 z] w fun e w' => e = .returned (.tuple #[.slice none 0 0, .int .i64 2]) ∧ w = w' := by
  unfold Unmade at M
  go_enter Try.func11, Try.ntmps11
  go_wp2_with (go_at_call 26; refine (known_none p z w M).mono ?_; rintro e w1 ⟨rfl, rfl⟩)
  go_ret2
  exact ⟨rfl, rfl⟩
theorem nob_append (p : Option Addr) (z : Int) (v : Value) (w : World) (M : Unmade p w) : Calls Try.prog 8 #[.pointer p, .int .i64 z, v] w fun e w' => e = .returned (.int .i64 2) ∧ w = w' := by
  unfold Unmade at M
  go_enter Try.func8, Try.ntmps8
  go_wp2_with (go_at_call 26; refine (known_none p z w M).mono ?_; rintro e w1 ⟨rfl, rfl⟩)
  go_ret
  exact ⟨rfl, rfl⟩
theorem nob_sync (p : Option Addr) (w : World) (M : Unmade p w) : Calls Try.prog 9 #[.pointer p] w fun e w' => e = .returned (.int .i64 2) ∧ w = w' := by
  unfold Unmade at M
  go_enter Try.func9, Try.ntmps9
  go_wp2_with (go_at_call 30; refine Calls.mono M ?_; rintro e w1 ⟨rfl, rfl⟩)
  go_ret
  exact ⟨rfl, rfl⟩
theorem nob_cut (p : Option Addr) (z : Int) (v : Value) (w : World) (M : Unmade p w) : Calls Try.prog 17 #[.pointer p, .int .i64 z, v] w fun e w' => e = .returned (.int .i64 2) ∧ w = w' := by
  unfold Unmade at M
  go_enter Try.func17, Try.ntmps17
  go_wp2_with (go_at_call 26; refine (known_none p z w M).mono ?_; rintro e w1 ⟨rfl, rfl⟩)
  go_ret
  exact ⟨rfl, rfl⟩
theorem nob_crash (p : Option Addr) (v : Value) (w : World) (M : Unmade p w) : Calls Try.prog 10 #[.pointer p, v] w fun e w' => e = .returned (.int .i64 2) ∧ w = w' := by
  unfold Unmade at M
  go_enter Try.func10, Try.ntmps10
  go_wp2_with (go_at_call 30; refine Calls.mono M ?_; rintro e w1 ⟨rfl, rfl⟩)
  go_ret
  exact ⟨rfl, rfl⟩
theorem nob_fuse (p : Option Addr) (v : Value) (w : World) (M : Unmade p w) : Calls Try.prog 15 #[.pointer p, v] w fun e w' => e = .returned (.int .i64 2) ∧ w = w' := by
  unfold Unmade at M
  go_enter Try.func15, Try.ntmps15
  go_wp2_with (go_at_call 30; refine Calls.mono M ?_; rintro e w1 ⟨rfl, rfl⟩)
  go_ret
  exact ⟨rfl, rfl⟩
theorem nob_room (p : Option Addr) (v : Value) (w : World) (M : Unmade p w) : Calls Try.prog 18 #[.pointer p, v] w fun e w' => e = .returned (.int .i64 2) ∧ w = w' := by
  unfold Unmade at M
  go_enter Try.func18, Try.ntmps18
  go_wp2_with (go_at_call 30; refine Calls.mono M ?_; rintro e w1 ⟨rfl, rfl⟩)
  go_ret
  exact ⟨rfl, rfl⟩
theorem nob_used (p : Option Addr) (w : World) (M : Unmade p w) : Calls Try.prog 19 #[.pointer p] w fun e w' => e = .returned (.int .i64 0) ∧ w = w' := by
  unfold Unmade at M
  go_enter Try.func19, Try.ntmps19
  go_wp2_with (go_at_call 30; refine Calls.mono M ?_; rintro e w1 ⟨rfl, rfl⟩)
  go_ret
  exact ⟨rfl, rfl⟩
theorem nob_zones (p : Option Addr) (w : World) (M : Unmade p w) : Calls Try.prog 20 #[.pointer p] w fun e w' => e = .returned (.slice none 0 0) ∧ w = w' := by
  unfold Unmade at M
  go_enter Try.func20, Try.ntmps20
  go_wp2_with (go_at_call 30; refine Calls.mono M ?_; rintro e w1 ⟨rfl, rfl⟩)
  go_ret
  exact ⟨rfl, rfl⟩
theorem nob_dead (p : Option Addr) (w : World) (M : Unmade p w) : Calls Try.prog 16 #[.pointer p] w fun e w' => e = .returned (.bool false) ∧ w = w' := by
  unfold Unmade at M
  go_enter Try.func16, Try.ntmps16
  go_wp2_with (go_at_call 30; refine Calls.mono M ?_; rintro e w1 ⟨rfl, rfl⟩)
  go_ret
  exact ⟨rfl, rfl⟩
theorem nob_copy (p : Option Addr) (w : World) (M : Unmade p w) : Calls Try.prog 21 #[.pointer p] w fun e w' => e = .returned (.pointer none) ∧ w = w' := by
  unfold Unmade at M
  go_enter Try.func21, Try.ntmps21
  go_wp2_with (go_at_call 30; refine Calls.mono M ?_; rintro e w1 ⟨rfl, rfl⟩)
  go_ret
  exact ⟨rfl, rfl⟩
end Go.Proofs.Ytjphboljhkddaaa
