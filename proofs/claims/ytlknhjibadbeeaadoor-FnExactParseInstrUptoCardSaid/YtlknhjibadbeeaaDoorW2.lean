/- Walks of the functions on instructions. -/
import Derived.Test.YtlknhjibadbeeaaDoorW1
namespace Go.Proofs.YtlknhjibadbeeaaDoor
open Go.RowKit

attribute [local go_sem] ba_get ba_append

def frmV (f : Frm) : Value := .agg #[.string ⟨f.word.toArray⟩, .bool f.a, .bool f.b, .bool f.n]
def frmNo : Value := .agg #[.string ⟨#[]⟩, .bool false, .bool false, .bool false]
theorem formOf_1 (w : World) : Calls Tryd.prog 53 #[.int .i64 1] w fun e w' => e = .returned (.tuple #[frmV ⟨[103, 101, 116, 118, 97, 108], true, true, false⟩, .bool true]) ∧ Below w.heap.size w w' := by
  go_enter Tryd.func53, Tryd.ntmps53
  go_wp2
  exact bodyPost_ret (v := .tuple #[frmV ⟨[103, 101, 116, 118, 97, 108], true, true, false⟩, .bool true]) (by simp [results, Tryd.results53, go_sem, frmV]) rfl ⟨rfl, by first | exact (Below.refl _ _).alloc (Nat.le_refl _) _ | exact ((Below.refl _ _).alloc (Nat.le_refl _) _).setCell (Nat.le_refl _) _⟩
theorem formOf_2 (w : World) : Calls Tryd.prog 53 #[.int .i64 2] w fun e w' => e = .returned (.tuple #[frmV ⟨[103, 101, 116, 105, 110, 116], true, true, false⟩, .bool true]) ∧ Below w.heap.size w w' := by
  go_enter Tryd.func53, Tryd.ntmps53
  go_wp2
  exact bodyPost_ret (v := .tuple #[frmV ⟨[103, 101, 116, 105, 110, 116], true, true, false⟩, .bool true]) (by simp [results, Tryd.results53, go_sem, frmV]) rfl ⟨rfl, by first | exact (Below.refl _ _).alloc (Nat.le_refl _) _ | exact ((Below.refl _ _).alloc (Nat.le_refl _) _).setCell (Nat.le_refl _) _⟩
theorem formOf_3 (w : World) : Calls Tryd.prog 53 #[.int .i64 3] w fun e w' => e = .returned (.tuple #[frmV ⟨[103, 101, 116, 115, 116, 114], true, true, true⟩, .bool true]) ∧ Below w.heap.size w w' := by
  go_enter Tryd.func53, Tryd.ntmps53
  go_wp2
  exact bodyPost_ret (v := .tuple #[frmV ⟨[103, 101, 116, 115, 116, 114], true, true, true⟩, .bool true]) (by simp [results, Tryd.results53, go_sem, frmV]) rfl ⟨rfl, by first | exact (Below.refl _ _).alloc (Nat.le_refl _) _ | exact ((Below.refl _ _).alloc (Nat.le_refl _) _).setCell (Nat.le_refl _) _⟩
theorem formOf_4 (w : World) : Calls Tryd.prog 53 #[.int .i64 4] w fun e w' => e = .returned (.tuple #[frmV ⟨[117, 110, 105, 118, 97, 114], true, false, false⟩, .bool true]) ∧ Below w.heap.size w w' := by
  go_enter Tryd.func53, Tryd.ntmps53
  go_wp2
  exact bodyPost_ret (v := .tuple #[frmV ⟨[117, 110, 105, 118, 97, 114], true, false, false⟩, .bool true]) (by simp [results, Tryd.results53, go_sem, frmV]) rfl ⟨rfl, by first | exact (Below.refl _ _).alloc (Nat.le_refl _) _ | exact ((Below.refl _ _).alloc (Nat.le_refl _) _).setCell (Nat.le_refl _) _⟩
theorem formOf_5 (w : World) : Calls Tryd.prog 53 #[.int .i64 5] w fun e w' => e = .returned (.tuple #[frmV ⟨[117, 110, 105, 118, 97, 108], true, false, false⟩, .bool true]) ∧ Below w.heap.size w w' := by
  go_enter Tryd.func53, Tryd.ntmps53
  go_wp2
  exact bodyPost_ret (v := .tuple #[frmV ⟨[117, 110, 105, 118, 97, 108], true, false, false⟩, .bool true]) (by simp [results, Tryd.results53, go_sem, frmV]) rfl ⟨rfl, by first | exact (Below.refl _ _).alloc (Nat.le_refl _) _ | exact ((Below.refl _ _).alloc (Nat.le_refl _) _).setCell (Nat.le_refl _) _⟩
theorem formOf_6 (w : World) : Calls Tryd.prog 53 #[.int .i64 6] w fun e w' => e = .returned (.tuple #[frmV ⟨[117, 110, 105, 105, 110, 116], true, false, false⟩, .bool true]) ∧ Below w.heap.size w w' := by
  go_enter Tryd.func53, Tryd.ntmps53
  go_wp2
  exact bodyPost_ret (v := .tuple #[frmV ⟨[117, 110, 105, 105, 110, 116], true, false, false⟩, .bool true]) (by simp [results, Tryd.results53, go_sem, frmV]) rfl ⟨rfl, by first | exact (Below.refl _ _).alloc (Nat.le_refl _) _ | exact ((Below.refl _ _).alloc (Nat.le_refl _) _).setCell (Nat.le_refl _) _⟩
theorem formOf_7 (w : World) : Calls Tryd.prog 53 #[.int .i64 7] w fun e w' => e = .returned (.tuple #[frmV ⟨[115, 101, 116, 115, 116, 114], true, true, true⟩, .bool true]) ∧ Below w.heap.size w w' := by
  go_enter Tryd.func53, Tryd.ntmps53
  go_wp2
  exact bodyPost_ret (v := .tuple #[frmV ⟨[115, 101, 116, 115, 116, 114], true, true, true⟩, .bool true]) (by simp [results, Tryd.results53, go_sem, frmV]) rfl ⟨rfl, by first | exact (Below.refl _ _).alloc (Nat.le_refl _) _ | exact ((Below.refl _ _).alloc (Nat.le_refl _) _).setCell (Nat.le_refl _) _⟩
theorem formOf_8 (w : World) : Calls Tryd.prog 53 #[.int .i64 8] w fun e w' => e = .returned (.tuple #[frmV ⟨[112, 117, 116, 118, 97, 114], true, true, false⟩, .bool true]) ∧ Below w.heap.size w w' := by
  go_enter Tryd.func53, Tryd.ntmps53
  go_wp2
  exact bodyPost_ret (v := .tuple #[frmV ⟨[112, 117, 116, 118, 97, 114], true, true, false⟩, .bool true]) (by simp [results, Tryd.results53, go_sem, frmV]) rfl ⟨rfl, by first | exact (Below.refl _ _).alloc (Nat.le_refl _) _ | exact ((Below.refl _ _).alloc (Nat.le_refl _) _).setCell (Nat.le_refl _) _⟩
theorem formOf_9 (w : World) : Calls Tryd.prog 53 #[.int .i64 9] w fun e w' => e = .returned (.tuple #[frmV ⟨[112, 117, 116, 118, 97, 108], true, true, false⟩, .bool true]) ∧ Below w.heap.size w w' := by
  go_enter Tryd.func53, Tryd.ntmps53
  go_wp2
  exact bodyPost_ret (v := .tuple #[frmV ⟨[112, 117, 116, 118, 97, 108], true, true, false⟩, .bool true]) (by simp [results, Tryd.results53, go_sem, frmV]) rfl ⟨rfl, by first | exact (Below.refl _ _).alloc (Nat.le_refl _) _ | exact ((Below.refl _ _).alloc (Nat.le_refl _) _).setCell (Nat.le_refl _) _⟩
theorem formOf_10 (w : World) : Calls Tryd.prog 53 #[.int .i64 10] w fun e w' => e = .returned (.tuple #[frmV ⟨[112, 117, 116, 105, 110, 116], true, true, false⟩, .bool true]) ∧ Below w.heap.size w w' := by
  go_enter Tryd.func53, Tryd.ntmps53
  go_wp2
  exact bodyPost_ret (v := .tuple #[frmV ⟨[112, 117, 116, 105, 110, 116], true, true, false⟩, .bool true]) (by simp [results, Tryd.results53, go_sem, frmV]) rfl ⟨rfl, by first | exact (Below.refl _ _).alloc (Nat.le_refl _) _ | exact ((Below.refl _ _).alloc (Nat.le_refl _) _).setCell (Nat.le_refl _) _⟩
theorem formOf_11 (w : World) : Calls Tryd.prog 53 #[.int .i64 11] w fun e w' => e = .returned (.tuple #[frmV ⟨[99, 97, 108, 108], true, false, true⟩, .bool true]) ∧ Below w.heap.size w w' := by
  go_enter Tryd.func53, Tryd.ntmps53
  go_wp2
  exact bodyPost_ret (v := .tuple #[frmV ⟨[99, 97, 108, 108], true, false, true⟩, .bool true]) (by simp [results, Tryd.results53, go_sem, frmV]) rfl ⟨rfl, by first | exact (Below.refl _ _).alloc (Nat.le_refl _) _ | exact ((Below.refl _ _).alloc (Nat.le_refl _) _).setCell (Nat.le_refl _) _⟩
theorem formOf_12 (w : World) : Calls Tryd.prog 53 #[.int .i64 12] w fun e w' => e = .returned (.tuple #[frmV ⟨[98, 117, 105, 108, 116], true, false, true⟩, .bool true]) ∧ Below w.heap.size w w' := by
  go_enter Tryd.func53, Tryd.ntmps53
  go_wp2
  exact bodyPost_ret (v := .tuple #[frmV ⟨[98, 117, 105, 108, 116], true, false, true⟩, .bool true]) (by simp [results, Tryd.results53, go_sem, frmV]) rfl ⟨rfl, by first | exact (Below.refl _ _).alloc (Nat.le_refl _) _ | exact ((Below.refl _ _).alloc (Nat.le_refl _) _).setCell (Nat.le_refl _) _⟩
theorem formOf_13 (w : World) : Calls Tryd.prog 53 #[.int .i64 13] w fun e w' => e = .returned (.tuple #[frmV ⟨[99, 117, 116], false, false, false⟩, .bool true]) ∧ Below w.heap.size w w' := by
  go_enter Tryd.func53, Tryd.ntmps53
  go_wp2
  exact bodyPost_ret (v := .tuple #[frmV ⟨[99, 117, 116], false, false, false⟩, .bool true]) (by simp [results, Tryd.results53, go_sem, frmV]) rfl ⟨rfl, by first | exact (Below.refl _ _).alloc (Nat.le_refl _) _ | exact ((Below.refl _ _).alloc (Nat.le_refl _) _).setCell (Nat.le_refl _) _⟩
theorem formOf_14 (w : World) : Calls Tryd.prog 53 #[.int .i64 14] w fun e w' => e = .returned (.tuple #[frmV ⟨[101, 110, 100], false, false, false⟩, .bool true]) ∧ Below w.heap.size w w' := by
  go_enter Tryd.func53, Tryd.ntmps53
  go_wp2
  exact bodyPost_ret (v := .tuple #[frmV ⟨[101, 110, 100], false, false, false⟩, .bool true]) (by simp [results, Tryd.results53, go_sem, frmV]) rfl ⟨rfl, by first | exact (Below.refl _ _).alloc (Nat.le_refl _) _ | exact ((Below.refl _ _).alloc (Nat.le_refl _) _).setCell (Nat.le_refl _) _⟩
theorem formOf_some (op : Int) (f : Frm) (w : World) (h : formOf op = some f) : Calls Tryd.prog 53 #[.int .i64 op] w fun e w' => e = .returned (.tuple #[frmV f, .bool true]) ∧ Below w.heap.size w w' := by
  unfold formOf at h
  by_cases c1 : op = 1
  · rw [if_pos c1] at h; cases h; rw [c1]; exact formOf_1 w
  rw [if_neg c1] at h
  by_cases c2 : op = 2
  · rw [if_pos c2] at h; cases h; rw [c2]; exact formOf_2 w
  rw [if_neg c2] at h
  by_cases c3 : op = 3
  · rw [if_pos c3] at h; cases h; rw [c3]; exact formOf_3 w
  rw [if_neg c3] at h
  by_cases c4 : op = 4
  · rw [if_pos c4] at h; cases h; rw [c4]; exact formOf_4 w
  rw [if_neg c4] at h
  by_cases c5 : op = 5
  · rw [if_pos c5] at h; cases h; rw [c5]; exact formOf_5 w
  rw [if_neg c5] at h
  by_cases c6 : op = 6
  · rw [if_pos c6] at h; cases h; rw [c6]; exact formOf_6 w
  rw [if_neg c6] at h
  by_cases c7 : op = 7
  · rw [if_pos c7] at h; cases h; rw [c7]; exact formOf_7 w
  rw [if_neg c7] at h
  by_cases c8 : op = 8
  · rw [if_pos c8] at h; cases h; rw [c8]; exact formOf_8 w
  rw [if_neg c8] at h
  by_cases c9 : op = 9
  · rw [if_pos c9] at h; cases h; rw [c9]; exact formOf_9 w
  rw [if_neg c9] at h
  by_cases c10 : op = 10
  · rw [if_pos c10] at h; cases h; rw [c10]; exact formOf_10 w
  rw [if_neg c10] at h
  by_cases c11 : op = 11
  · rw [if_pos c11] at h; cases h; rw [c11]; exact formOf_11 w
  rw [if_neg c11] at h
  by_cases c12 : op = 12
  · rw [if_pos c12] at h; cases h; rw [c12]; exact formOf_12 w
  rw [if_neg c12] at h
  by_cases c13 : op = 13
  · rw [if_pos c13] at h; cases h; rw [c13]; exact formOf_13 w
  rw [if_neg c13] at h
  by_cases c14 : op = 14
  · rw [if_pos c14] at h; cases h; rw [c14]; exact formOf_14 w
  rw [if_neg c14] at h
  cases h
theorem formOf_range (op : Int) (h : formOf op = none) : op < 1 ∨ 14 < op := by
  unfold formOf at h
  by_cases c1 : op = 1
  · rw [if_pos c1] at h; cases h
  rw [if_neg c1] at h
  by_cases c2 : op = 2
  · rw [if_pos c2] at h; cases h
  rw [if_neg c2] at h
  by_cases c3 : op = 3
  · rw [if_pos c3] at h; cases h
  rw [if_neg c3] at h
  by_cases c4 : op = 4
  · rw [if_pos c4] at h; cases h
  rw [if_neg c4] at h
  by_cases c5 : op = 5
  · rw [if_pos c5] at h; cases h
  rw [if_neg c5] at h
  by_cases c6 : op = 6
  · rw [if_pos c6] at h; cases h
  rw [if_neg c6] at h
  by_cases c7 : op = 7
  · rw [if_pos c7] at h; cases h
  rw [if_neg c7] at h
  by_cases c8 : op = 8
  · rw [if_pos c8] at h; cases h
  rw [if_neg c8] at h
  by_cases c9 : op = 9
  · rw [if_pos c9] at h; cases h
  rw [if_neg c9] at h
  by_cases c10 : op = 10
  · rw [if_pos c10] at h; cases h
  rw [if_neg c10] at h
  by_cases c11 : op = 11
  · rw [if_pos c11] at h; cases h
  rw [if_neg c11] at h
  by_cases c12 : op = 12
  · rw [if_pos c12] at h; cases h
  rw [if_neg c12] at h
  by_cases c13 : op = 13
  · rw [if_pos c13] at h; cases h
  rw [if_neg c13] at h
  by_cases c14 : op = 14
  · rw [if_pos c14] at h; cases h
  rw [if_neg c14] at h
  omega
theorem formOf_none (op : Int) (w : World) (h : formOf op = none) : Calls Tryd.prog 53 #[.int .i64 op] w fun e w' => e = .returned (.tuple #[frmNo, .bool false]) ∧ Below w.heap.size w w' := by
  have hr := formOf_range op h
  clear h
  rcases hr with hr | hr
  · go_enter Tryd.func53, Tryd.ntmps53
    go_wp2
    exact bodyPost_ret (v := .tuple #[frmNo, .bool false]) (by simp [results, Tryd.results53, go_sem, frmNo]) rfl ⟨rfl, by first | exact (Below.refl _ _).alloc (Nat.le_refl _) _ | exact ((Below.refl _ _).alloc (Nat.le_refl _) _).setCell (Nat.le_refl _) _⟩
  · go_enter Tryd.func53, Tryd.ntmps53
    go_wp2
    exact bodyPost_ret (v := .tuple #[frmNo, .bool false]) (by simp [results, Tryd.results53, go_sem, frmNo]) rfl ⟨rfl, by first | exact (Below.refl _ _).alloc (Nat.le_refl _) _ | exact ((Below.refl _ _).alloc (Nat.le_refl _) _).setCell (Nat.le_refl _) _⟩
end Go.Proofs.YtlknhjibadbeeaaDoor
