/- Walks of the functions on operators and built-in goals. -/
import Derived.Test.YtlknhjibadbeeaaDoorW1
import Derived.Test.YtlknhjibadbeeaaDoorPl3
namespace Go.Proofs.YtlknhjibadbeeaaDoor
open Go.RowKit

attribute [local go_sem] ba_get ba_append
set_option maxRecDepth 100000 in
theorem l2Level_any (nm : By) (w : World) :
    Calls Tryd.prog 67 #[.string ⟨nm.toArray⟩] w fun e w' => e = .returned (.int .i64 (lev nm)) ∧ w = w' := by
  by_cases c0 : nm = [61]
  · subst c0
    go_enter Tryd.func67, Tryd.ntmps67
    go_wp2
    go_ret; exact ⟨ret_int (by decide), rfl⟩
  by_cases c1 : nm = [92, 61]
  · subst c1
    go_enter Tryd.func67, Tryd.ntmps67
    go_wp2
    go_ret; exact ⟨ret_int (by decide), rfl⟩
  by_cases c2 : nm = [61, 61]
  · subst c2
    go_enter Tryd.func67, Tryd.ntmps67
    go_wp2
    go_ret; exact ⟨ret_int (by decide), rfl⟩
  by_cases c3 : nm = [60]
  · subst c3
    go_enter Tryd.func67, Tryd.ntmps67
    go_wp2
    go_ret; exact ⟨ret_int (by decide), rfl⟩
  by_cases c4 : nm = [62]
  · subst c4
    go_enter Tryd.func67, Tryd.ntmps67
    go_wp2
    go_ret; exact ⟨ret_int (by decide), rfl⟩
  by_cases c5 : nm = [61, 60]
  · subst c5
    go_enter Tryd.func67, Tryd.ntmps67
    go_wp2
    go_ret; exact ⟨ret_int (by decide), rfl⟩
  by_cases c6 : nm = [62, 61]
  · subst c6
    go_enter Tryd.func67, Tryd.ntmps67
    go_wp2
    go_ret; exact ⟨ret_int (by decide), rfl⟩
  by_cases c7 : nm = [61, 58, 61]
  · subst c7
    go_enter Tryd.func67, Tryd.ntmps67
    go_wp2
    go_ret; exact ⟨ret_int (by decide), rfl⟩
  by_cases c8 : nm = [105, 115]
  · subst c8
    go_enter Tryd.func67, Tryd.ntmps67
    go_wp2
    go_ret; exact ⟨ret_int (by decide), rfl⟩
  by_cases c9 : nm = [43]
  · subst c9
    go_enter Tryd.func67, Tryd.ntmps67
    go_wp2
    go_ret; exact ⟨ret_int (by decide), rfl⟩
  by_cases c10 : nm = [45]
  · subst c10
    go_enter Tryd.func67, Tryd.ntmps67
    go_wp2
    go_ret; exact ⟨ret_int (by decide), rfl⟩
  by_cases c11 : nm = [42]
  · subst c11
    go_enter Tryd.func67, Tryd.ntmps67
    go_wp2
    go_ret; exact ⟨ret_int (by decide), rfl⟩
  by_cases c12 : nm = [47, 47]
  · subst c12
    go_enter Tryd.func67, Tryd.ntmps67
    go_wp2
    go_ret; exact ⟨ret_int (by decide), rfl⟩
  by_cases c13 : nm = [109, 111, 100]
  · subst c13
    go_enter Tryd.func67, Tryd.ntmps67
    go_wp2
    go_ret; exact ⟨ret_int (by decide), rfl⟩
  have d0 : (nm == [61]) = false := by simpa using c0
  have d1 : (nm == [92, 61]) = false := by simpa using c1
  have d2 : (nm == [61, 61]) = false := by simpa using c2
  have d3 : (nm == [60]) = false := by simpa using c3
  have d4 : (nm == [62]) = false := by simpa using c4
  have d5 : (nm == [61, 60]) = false := by simpa using c5
  have d6 : (nm == [62, 61]) = false := by simpa using c6
  have d7 : (nm == [61, 58, 61]) = false := by simpa using c7
  have d8 : (nm == [105, 115]) = false := by simpa using c8
  have d9 : (nm == [43]) = false := by simpa using c9
  have d10 : (nm == [45]) = false := by simpa using c10
  have d11 : (nm == [42]) = false := by simpa using c11
  have d12 : (nm == [47, 47]) = false := by simpa using c12
  have d13 : (nm == [109, 111, 100]) = false := by simpa using c13
  have HE := Lib.hid (show lev nm = 0 from by simp [lev, c0, c1, c2, c3, c4, c5, c6, c7, c8, c9, c10, c11, c12, c13])
  clear c0 c1 c2 c3 c4 c5 c6 c7 c8 c9 c10 c11 c12 c13
  go_enter Tryd.func67, Tryd.ntmps67
  go_wp2
  go_ret
  exact ⟨ret_int (by rw [HE.out]), rfl⟩
theorem ret_tib {a b : Int} {c d : Bool} (h : a = b) (h' : c = d) : Ending.returned (.tuple #[.int .i64 a, .bool c]) = .returned (.tuple #[.int .i64 b, .bool d]) := by rw [h, h']
set_option maxRecDepth 100000 in
theorem opLevel_any (nm : By) (w : World) :
    Calls Tryd.prog 118 #[.string ⟨nm.toArray⟩] w fun e w' => e = .returned (.tuple #[.int .i64 (lev nm), .bool (decide (lev nm = 1) || decide (lev nm = 2))]) ∧ w = w' := by
  by_cases c0 : nm = [61]
  · subst c0
    go_enter Tryd.func118, Tryd.ntmps118
    go_wp2
    go_ret2; exact ⟨ret_tib (by decide) (by decide), rfl⟩
  by_cases c1 : nm = [92, 61]
  · subst c1
    go_enter Tryd.func118, Tryd.ntmps118
    go_wp2
    go_ret2; exact ⟨ret_tib (by decide) (by decide), rfl⟩
  by_cases c2 : nm = [61, 61]
  · subst c2
    go_enter Tryd.func118, Tryd.ntmps118
    go_wp2
    go_ret2; exact ⟨ret_tib (by decide) (by decide), rfl⟩
  by_cases c3 : nm = [60]
  · subst c3
    go_enter Tryd.func118, Tryd.ntmps118
    go_wp2
    go_ret2; exact ⟨ret_tib (by decide) (by decide), rfl⟩
  by_cases c4 : nm = [62]
  · subst c4
    go_enter Tryd.func118, Tryd.ntmps118
    go_wp2
    go_ret2; exact ⟨ret_tib (by decide) (by decide), rfl⟩
  by_cases c5 : nm = [61, 60]
  · subst c5
    go_enter Tryd.func118, Tryd.ntmps118
    go_wp2
    go_ret2; exact ⟨ret_tib (by decide) (by decide), rfl⟩
  by_cases c6 : nm = [62, 61]
  · subst c6
    go_enter Tryd.func118, Tryd.ntmps118
    go_wp2
    go_ret2; exact ⟨ret_tib (by decide) (by decide), rfl⟩
  by_cases c7 : nm = [61, 58, 61]
  · subst c7
    go_enter Tryd.func118, Tryd.ntmps118
    go_wp2
    go_ret2; exact ⟨ret_tib (by decide) (by decide), rfl⟩
  by_cases c8 : nm = [105, 115]
  · subst c8
    go_enter Tryd.func118, Tryd.ntmps118
    go_wp2
    go_ret2; exact ⟨ret_tib (by decide) (by decide), rfl⟩
  by_cases c9 : nm = [43]
  · subst c9
    go_enter Tryd.func118, Tryd.ntmps118
    go_wp2
    go_ret2; exact ⟨ret_tib (by decide) (by decide), rfl⟩
  by_cases c10 : nm = [45]
  · subst c10
    go_enter Tryd.func118, Tryd.ntmps118
    go_wp2
    go_ret2; exact ⟨ret_tib (by decide) (by decide), rfl⟩
  by_cases c11 : nm = [42]
  · subst c11
    go_enter Tryd.func118, Tryd.ntmps118
    go_wp2
    go_ret2; exact ⟨ret_tib (by decide) (by decide), rfl⟩
  by_cases c12 : nm = [47, 47]
  · subst c12
    go_enter Tryd.func118, Tryd.ntmps118
    go_wp2
    go_ret2; exact ⟨ret_tib (by decide) (by decide), rfl⟩
  by_cases c13 : nm = [109, 111, 100]
  · subst c13
    go_enter Tryd.func118, Tryd.ntmps118
    go_wp2
    go_ret2; exact ⟨ret_tib (by decide) (by decide), rfl⟩
  have d0 : (nm == [61]) = false := by simpa using c0
  have d1 : (nm == [92, 61]) = false := by simpa using c1
  have d2 : (nm == [61, 61]) = false := by simpa using c2
  have d3 : (nm == [60]) = false := by simpa using c3
  have d4 : (nm == [62]) = false := by simpa using c4
  have d5 : (nm == [61, 60]) = false := by simpa using c5
  have d6 : (nm == [62, 61]) = false := by simpa using c6
  have d7 : (nm == [61, 58, 61]) = false := by simpa using c7
  have d8 : (nm == [105, 115]) = false := by simpa using c8
  have d9 : (nm == [43]) = false := by simpa using c9
  have d10 : (nm == [45]) = false := by simpa using c10
  have d11 : (nm == [42]) = false := by simpa using c11
  have d12 : (nm == [47, 47]) = false := by simpa using c12
  have d13 : (nm == [109, 111, 100]) = false := by simpa using c13
  have HE := Lib.hid (show lev nm = 0 from by simp [lev, c0, c1, c2, c3, c4, c5, c6, c7, c8, c9, c10, c11, c12, c13])
  clear c0 c1 c2 c3 c4 c5 c6 c7 c8 c9 c10 c11 c12 c13
  go_enter Tryd.func118, Tryd.ntmps118
  go_wp2
  go_ret2
  exact ⟨ret_tib (by rw [HE.out]) (by rw [HE.out]; rfl), rfl⟩
set_option maxRecDepth 100000 in
theorem specIsBuiltin_any (nm : By) (k : Nat) (w : World) :
    Calls Tryd.prog 66 #[.string ⟨nm.toArray⟩, .int .i64 k] w fun e w' => e = .returned (.bool (isBlt nm k)) ∧ w = w' := by
  by_cases c0 : nm = [61]
  · subst c0
    go_enter Tryd.func66, Tryd.ntmps66
    go_wp2
    go_ret; exact ⟨ret_bool (by unfold isBlt; rw [Bool.eq_iff_iff]; simp [bltAr]; omega), rfl⟩
  by_cases c1 : nm = [92, 61]
  · subst c1
    go_enter Tryd.func66, Tryd.ntmps66
    go_wp2
    go_ret; exact ⟨ret_bool (by unfold isBlt; rw [Bool.eq_iff_iff]; simp [bltAr]; omega), rfl⟩
  by_cases c2 : nm = [61, 61]
  · subst c2
    go_enter Tryd.func66, Tryd.ntmps66
    go_wp2
    go_ret; exact ⟨ret_bool (by unfold isBlt; rw [Bool.eq_iff_iff]; simp [bltAr]; omega), rfl⟩
  by_cases c3 : nm = [60]
  · subst c3
    go_enter Tryd.func66, Tryd.ntmps66
    go_wp2
    go_ret; exact ⟨ret_bool (by unfold isBlt; rw [Bool.eq_iff_iff]; simp [bltAr]; omega), rfl⟩
  by_cases c4 : nm = [62]
  · subst c4
    go_enter Tryd.func66, Tryd.ntmps66
    go_wp2
    go_ret; exact ⟨ret_bool (by unfold isBlt; rw [Bool.eq_iff_iff]; simp [bltAr]; omega), rfl⟩
  by_cases c5 : nm = [61, 60]
  · subst c5
    go_enter Tryd.func66, Tryd.ntmps66
    go_wp2
    go_ret; exact ⟨ret_bool (by unfold isBlt; rw [Bool.eq_iff_iff]; simp [bltAr]; omega), rfl⟩
  by_cases c6 : nm = [62, 61]
  · subst c6
    go_enter Tryd.func66, Tryd.ntmps66
    go_wp2
    go_ret; exact ⟨ret_bool (by unfold isBlt; rw [Bool.eq_iff_iff]; simp [bltAr]; omega), rfl⟩
  by_cases c7 : nm = [61, 58, 61]
  · subst c7
    go_enter Tryd.func66, Tryd.ntmps66
    go_wp2
    go_ret; exact ⟨ret_bool (by unfold isBlt; rw [Bool.eq_iff_iff]; simp [bltAr]; omega), rfl⟩
  by_cases c8 : nm = [105, 115]
  · subst c8
    go_enter Tryd.func66, Tryd.ntmps66
    go_wp2
    go_ret; exact ⟨ret_bool (by unfold isBlt; rw [Bool.eq_iff_iff]; simp [bltAr]; omega), rfl⟩
  by_cases c9 : nm = [116, 114, 117, 101]
  · subst c9
    go_enter Tryd.func66, Tryd.ntmps66
    go_wp2
    go_ret; exact ⟨ret_bool (by unfold isBlt; rw [Bool.eq_iff_iff]; simp [bltAr]; omega), rfl⟩
  by_cases c10 : nm = [102, 97, 105, 108]
  · subst c10
    go_enter Tryd.func66, Tryd.ntmps66
    go_wp2
    go_ret; exact ⟨ret_bool (by unfold isBlt; rw [Bool.eq_iff_iff]; simp [bltAr]; omega), rfl⟩
  by_cases c11 : nm = [118, 97, 114]
  · subst c11
    go_enter Tryd.func66, Tryd.ntmps66
    go_wp2
    go_ret; exact ⟨ret_bool (by unfold isBlt; rw [Bool.eq_iff_iff]; simp [bltAr]; omega), rfl⟩
  by_cases c12 : nm = [110, 111, 110, 118, 97, 114]
  · subst c12
    go_enter Tryd.func66, Tryd.ntmps66
    go_wp2
    go_ret; exact ⟨ret_bool (by unfold isBlt; rw [Bool.eq_iff_iff]; simp [bltAr]; omega), rfl⟩
  by_cases c13 : nm = [97, 116, 111, 109]
  · subst c13
    go_enter Tryd.func66, Tryd.ntmps66
    go_wp2
    go_ret; exact ⟨ret_bool (by unfold isBlt; rw [Bool.eq_iff_iff]; simp [bltAr]; omega), rfl⟩
  by_cases c14 : nm = [105, 110, 116]
  · subst c14
    go_enter Tryd.func66, Tryd.ntmps66
    go_wp2
    go_ret; exact ⟨ret_bool (by unfold isBlt; rw [Bool.eq_iff_iff]; simp [bltAr]; omega), rfl⟩
  by_cases c15 : nm = [97, 114, 103]
  · subst c15
    go_enter Tryd.func66, Tryd.ntmps66
    go_wp2
    go_ret; exact ⟨ret_bool (by unfold isBlt; rw [Bool.eq_iff_iff]; simp [bltAr]; omega), rfl⟩
  have d0 : (nm == [61]) = false := by simpa using c0
  have d1 : (nm == [92, 61]) = false := by simpa using c1
  have d2 : (nm == [61, 61]) = false := by simpa using c2
  have d3 : (nm == [60]) = false := by simpa using c3
  have d4 : (nm == [62]) = false := by simpa using c4
  have d5 : (nm == [61, 60]) = false := by simpa using c5
  have d6 : (nm == [62, 61]) = false := by simpa using c6
  have d7 : (nm == [61, 58, 61]) = false := by simpa using c7
  have d8 : (nm == [105, 115]) = false := by simpa using c8
  have d9 : (nm == [116, 114, 117, 101]) = false := by simpa using c9
  have d10 : (nm == [102, 97, 105, 108]) = false := by simpa using c10
  have d11 : (nm == [118, 97, 114]) = false := by simpa using c11
  have d12 : (nm == [110, 111, 110, 118, 97, 114]) = false := by simpa using c12
  have d13 : (nm == [97, 116, 111, 109]) = false := by simpa using c13
  have d14 : (nm == [105, 110, 116]) = false := by simpa using c14
  have d15 : (nm == [97, 114, 103]) = false := by simpa using c15
  have HE := Lib.hid (show bltAr nm = -1 from by simp [bltAr, c0, c1, c2, c3, c4, c5, c6, c7, c8, c9, c10, c11, c12, c13, c14, c15])
  clear c0 c1 c2 c3 c4 c5 c6 c7 c8 c9 c10 c11 c12 c13 c14 c15
  go_enter Tryd.func66, Tryd.ntmps66
  go_wp2
  go_ret
  exact ⟨ret_bool (by unfold isBlt; rw [HE.out]; simp; try omega), rfl⟩
set_option maxRecDepth 100000 in
theorem implIsBuiltin_any (nm : By) (k : Nat) (w : World) :
    Calls Tryd.prog 119 #[.string ⟨nm.toArray⟩, .int .i64 k] w fun e w' => e = .returned (.bool (isBlt nm k)) ∧ w = w' := by
  by_cases c0 : nm = [61]
  · subst c0
    go_enter Tryd.func119, Tryd.ntmps119
    go_wp2
    go_ret; exact ⟨ret_bool (by unfold isBlt; rw [Bool.eq_iff_iff]; simp [bltAr]; omega), rfl⟩
  by_cases c1 : nm = [92, 61]
  · subst c1
    go_enter Tryd.func119, Tryd.ntmps119
    go_wp2
    go_ret; exact ⟨ret_bool (by unfold isBlt; rw [Bool.eq_iff_iff]; simp [bltAr]; omega), rfl⟩
  by_cases c2 : nm = [61, 61]
  · subst c2
    go_enter Tryd.func119, Tryd.ntmps119
    go_wp2
    go_ret; exact ⟨ret_bool (by unfold isBlt; rw [Bool.eq_iff_iff]; simp [bltAr]; omega), rfl⟩
  by_cases c3 : nm = [60]
  · subst c3
    go_enter Tryd.func119, Tryd.ntmps119
    go_wp2
    go_ret; exact ⟨ret_bool (by unfold isBlt; rw [Bool.eq_iff_iff]; simp [bltAr]; omega), rfl⟩
  by_cases c4 : nm = [62]
  · subst c4
    go_enter Tryd.func119, Tryd.ntmps119
    go_wp2
    go_ret; exact ⟨ret_bool (by unfold isBlt; rw [Bool.eq_iff_iff]; simp [bltAr]; omega), rfl⟩
  by_cases c5 : nm = [61, 60]
  · subst c5
    go_enter Tryd.func119, Tryd.ntmps119
    go_wp2
    go_ret; exact ⟨ret_bool (by unfold isBlt; rw [Bool.eq_iff_iff]; simp [bltAr]; omega), rfl⟩
  by_cases c6 : nm = [62, 61]
  · subst c6
    go_enter Tryd.func119, Tryd.ntmps119
    go_wp2
    go_ret; exact ⟨ret_bool (by unfold isBlt; rw [Bool.eq_iff_iff]; simp [bltAr]; omega), rfl⟩
  by_cases c7 : nm = [61, 58, 61]
  · subst c7
    go_enter Tryd.func119, Tryd.ntmps119
    go_wp2
    go_ret; exact ⟨ret_bool (by unfold isBlt; rw [Bool.eq_iff_iff]; simp [bltAr]; omega), rfl⟩
  by_cases c8 : nm = [105, 115]
  · subst c8
    go_enter Tryd.func119, Tryd.ntmps119
    go_wp2
    go_ret; exact ⟨ret_bool (by unfold isBlt; rw [Bool.eq_iff_iff]; simp [bltAr]; omega), rfl⟩
  by_cases c9 : nm = [116, 114, 117, 101]
  · subst c9
    go_enter Tryd.func119, Tryd.ntmps119
    go_wp2
    go_ret; exact ⟨ret_bool (by unfold isBlt; rw [Bool.eq_iff_iff]; simp [bltAr]; omega), rfl⟩
  by_cases c10 : nm = [102, 97, 105, 108]
  · subst c10
    go_enter Tryd.func119, Tryd.ntmps119
    go_wp2
    go_ret; exact ⟨ret_bool (by unfold isBlt; rw [Bool.eq_iff_iff]; simp [bltAr]; omega), rfl⟩
  by_cases c11 : nm = [118, 97, 114]
  · subst c11
    go_enter Tryd.func119, Tryd.ntmps119
    go_wp2
    go_ret; exact ⟨ret_bool (by unfold isBlt; rw [Bool.eq_iff_iff]; simp [bltAr]; omega), rfl⟩
  by_cases c12 : nm = [110, 111, 110, 118, 97, 114]
  · subst c12
    go_enter Tryd.func119, Tryd.ntmps119
    go_wp2
    go_ret; exact ⟨ret_bool (by unfold isBlt; rw [Bool.eq_iff_iff]; simp [bltAr]; omega), rfl⟩
  by_cases c13 : nm = [97, 116, 111, 109]
  · subst c13
    go_enter Tryd.func119, Tryd.ntmps119
    go_wp2
    go_ret; exact ⟨ret_bool (by unfold isBlt; rw [Bool.eq_iff_iff]; simp [bltAr]; omega), rfl⟩
  by_cases c14 : nm = [105, 110, 116]
  · subst c14
    go_enter Tryd.func119, Tryd.ntmps119
    go_wp2
    go_ret; exact ⟨ret_bool (by unfold isBlt; rw [Bool.eq_iff_iff]; simp [bltAr]; omega), rfl⟩
  by_cases c15 : nm = [97, 114, 103]
  · subst c15
    go_enter Tryd.func119, Tryd.ntmps119
    go_wp2
    go_ret; exact ⟨ret_bool (by unfold isBlt; rw [Bool.eq_iff_iff]; simp [bltAr]; omega), rfl⟩
  have d0 : (nm == [61]) = false := by simpa using c0
  have d1 : (nm == [92, 61]) = false := by simpa using c1
  have d2 : (nm == [61, 61]) = false := by simpa using c2
  have d3 : (nm == [60]) = false := by simpa using c3
  have d4 : (nm == [62]) = false := by simpa using c4
  have d5 : (nm == [61, 60]) = false := by simpa using c5
  have d6 : (nm == [62, 61]) = false := by simpa using c6
  have d7 : (nm == [61, 58, 61]) = false := by simpa using c7
  have d8 : (nm == [105, 115]) = false := by simpa using c8
  have d9 : (nm == [116, 114, 117, 101]) = false := by simpa using c9
  have d10 : (nm == [102, 97, 105, 108]) = false := by simpa using c10
  have d11 : (nm == [118, 97, 114]) = false := by simpa using c11
  have d12 : (nm == [110, 111, 110, 118, 97, 114]) = false := by simpa using c12
  have d13 : (nm == [97, 116, 111, 109]) = false := by simpa using c13
  have d14 : (nm == [105, 110, 116]) = false := by simpa using c14
  have d15 : (nm == [97, 114, 103]) = false := by simpa using c15
  have HE := Lib.hid (show bltAr nm = -1 from by simp [bltAr, c0, c1, c2, c3, c4, c5, c6, c7, c8, c9, c10, c11, c12, c13, c14, c15])
  clear c0 c1 c2 c3 c4 c5 c6 c7 c8 c9 c10 c11 c12 c13 c14 c15
  go_enter Tryd.func119, Tryd.ntmps119
  go_wp2
  go_ret
  exact ⟨ret_bool (by unfold isBlt; rw [HE.out]; simp; try omega), rfl⟩
end Go.Proofs.YtlknhjibadbeeaaDoor
