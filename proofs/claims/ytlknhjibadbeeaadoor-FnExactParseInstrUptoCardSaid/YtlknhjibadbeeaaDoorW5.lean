/- Walks of the reference's functions on instructions. -/
import Derived.Test.YtlknhjibadbeeaaDoorW4
namespace Go.Proofs.YtlknhjibadbeeaaDoor
open Go.RowKit

attribute [local go_sem] ba_get ba_append
/-- the shape of an instruction, as a text -/
def shp (fa fb fn : Bool) : By := (if fa then [97] else []) ++ (if fb then [98] else []) ++ (if fn then [110] else [])
theorem l8Shape_1 (w : World) : Calls Tryd.prog 50 #[.int .i64 1] w fun e w' => e = .returned (.string ⟨#[97, 98]⟩) ∧ w = w' := by
  go_enter Tryd.func50, Tryd.ntmps50
  go_wp2
  go_ret
  exact ⟨rfl, rfl⟩
theorem l8Shape_2 (w : World) : Calls Tryd.prog 50 #[.int .i64 2] w fun e w' => e = .returned (.string ⟨#[97, 98]⟩) ∧ w = w' := by
  go_enter Tryd.func50, Tryd.ntmps50
  go_wp2
  go_ret
  exact ⟨rfl, rfl⟩
theorem l8Shape_3 (w : World) : Calls Tryd.prog 50 #[.int .i64 3] w fun e w' => e = .returned (.string ⟨#[97, 98, 110]⟩) ∧ w = w' := by
  go_enter Tryd.func50, Tryd.ntmps50
  go_wp2
  go_ret
  exact ⟨rfl, rfl⟩
theorem l8Shape_4 (w : World) : Calls Tryd.prog 50 #[.int .i64 4] w fun e w' => e = .returned (.string ⟨#[97]⟩) ∧ w = w' := by
  go_enter Tryd.func50, Tryd.ntmps50
  go_wp2
  go_ret
  exact ⟨rfl, rfl⟩
theorem l8Shape_5 (w : World) : Calls Tryd.prog 50 #[.int .i64 5] w fun e w' => e = .returned (.string ⟨#[97]⟩) ∧ w = w' := by
  go_enter Tryd.func50, Tryd.ntmps50
  go_wp2
  go_ret
  exact ⟨rfl, rfl⟩
theorem l8Shape_6 (w : World) : Calls Tryd.prog 50 #[.int .i64 6] w fun e w' => e = .returned (.string ⟨#[97]⟩) ∧ w = w' := by
  go_enter Tryd.func50, Tryd.ntmps50
  go_wp2
  go_ret
  exact ⟨rfl, rfl⟩
theorem l8Shape_7 (w : World) : Calls Tryd.prog 50 #[.int .i64 7] w fun e w' => e = .returned (.string ⟨#[97, 98, 110]⟩) ∧ w = w' := by
  go_enter Tryd.func50, Tryd.ntmps50
  go_wp2
  go_ret
  exact ⟨rfl, rfl⟩
theorem l8Shape_8 (w : World) : Calls Tryd.prog 50 #[.int .i64 8] w fun e w' => e = .returned (.string ⟨#[97, 98]⟩) ∧ w = w' := by
  go_enter Tryd.func50, Tryd.ntmps50
  go_wp2
  go_ret
  exact ⟨rfl, rfl⟩
theorem l8Shape_9 (w : World) : Calls Tryd.prog 50 #[.int .i64 9] w fun e w' => e = .returned (.string ⟨#[97, 98]⟩) ∧ w = w' := by
  go_enter Tryd.func50, Tryd.ntmps50
  go_wp2
  go_ret
  exact ⟨rfl, rfl⟩
theorem l8Shape_10 (w : World) : Calls Tryd.prog 50 #[.int .i64 10] w fun e w' => e = .returned (.string ⟨#[97, 98]⟩) ∧ w = w' := by
  go_enter Tryd.func50, Tryd.ntmps50
  go_wp2
  go_ret
  exact ⟨rfl, rfl⟩
theorem l8Shape_11 (w : World) : Calls Tryd.prog 50 #[.int .i64 11] w fun e w' => e = .returned (.string ⟨#[97, 110]⟩) ∧ w = w' := by
  go_enter Tryd.func50, Tryd.ntmps50
  go_wp2
  go_ret
  exact ⟨rfl, rfl⟩
theorem l8Shape_12 (w : World) : Calls Tryd.prog 50 #[.int .i64 12] w fun e w' => e = .returned (.string ⟨#[97, 110]⟩) ∧ w = w' := by
  go_enter Tryd.func50, Tryd.ntmps50
  go_wp2
  go_ret
  exact ⟨rfl, rfl⟩
theorem l8Shape_13 (w : World) : Calls Tryd.prog 50 #[.int .i64 13] w fun e w' => e = .returned (.string ⟨#[]⟩) ∧ w = w' := by
  go_enter Tryd.func50, Tryd.ntmps50
  go_wp2
  go_ret
  exact ⟨rfl, rfl⟩
theorem l8Shape_14 (w : World) : Calls Tryd.prog 50 #[.int .i64 14] w fun e w' => e = .returned (.string ⟨#[]⟩) ∧ w = w' := by
  go_enter Tryd.func50, Tryd.ntmps50
  go_wp2
  go_ret
  exact ⟨rfl, rfl⟩
theorem l8Shape_no (op : Int) (w : World) (hr : op < 1 ∨ 14 < op) : Calls Tryd.prog 50 #[.int .i64 op] w fun e w' => e = .returned (.string ⟨#[63]⟩) ∧ w = w' := by
  rcases hr with hr | hr
  · go_enter Tryd.func50, Tryd.ntmps50
    go_wp2
    go_ret
    exact ⟨rfl, rfl⟩
  · go_enter Tryd.func50, Tryd.ntmps50
    go_wp2
    go_ret
    exact ⟨rfl, rfl⟩
theorem l8Shape_some (op : Int) (word : By) (fa fb fn : Bool) (w : World) (h : formOf op = some ⟨word, fa, fb, fn⟩) : Calls Tryd.prog 50 #[.int .i64 op] w fun e w' => e = .returned (.string ⟨(shp fa fb fn).toArray⟩) ∧ w = w' := by
  unfold formOf at h
  by_cases c1 : op = 1
  · rw [if_pos c1] at h; cases h; rw [c1]; exact l8Shape_1 w
  rw [if_neg c1] at h
  by_cases c2 : op = 2
  · rw [if_pos c2] at h; cases h; rw [c2]; exact l8Shape_2 w
  rw [if_neg c2] at h
  by_cases c3 : op = 3
  · rw [if_pos c3] at h; cases h; rw [c3]; exact l8Shape_3 w
  rw [if_neg c3] at h
  by_cases c4 : op = 4
  · rw [if_pos c4] at h; cases h; rw [c4]; exact l8Shape_4 w
  rw [if_neg c4] at h
  by_cases c5 : op = 5
  · rw [if_pos c5] at h; cases h; rw [c5]; exact l8Shape_5 w
  rw [if_neg c5] at h
  by_cases c6 : op = 6
  · rw [if_pos c6] at h; cases h; rw [c6]; exact l8Shape_6 w
  rw [if_neg c6] at h
  by_cases c7 : op = 7
  · rw [if_pos c7] at h; cases h; rw [c7]; exact l8Shape_7 w
  rw [if_neg c7] at h
  by_cases c8 : op = 8
  · rw [if_pos c8] at h; cases h; rw [c8]; exact l8Shape_8 w
  rw [if_neg c8] at h
  by_cases c9 : op = 9
  · rw [if_pos c9] at h; cases h; rw [c9]; exact l8Shape_9 w
  rw [if_neg c9] at h
  by_cases c10 : op = 10
  · rw [if_pos c10] at h; cases h; rw [c10]; exact l8Shape_10 w
  rw [if_neg c10] at h
  by_cases c11 : op = 11
  · rw [if_pos c11] at h; cases h; rw [c11]; exact l8Shape_11 w
  rw [if_neg c11] at h
  by_cases c12 : op = 12
  · rw [if_pos c12] at h; cases h; rw [c12]; exact l8Shape_12 w
  rw [if_neg c12] at h
  by_cases c13 : op = 13
  · rw [if_pos c13] at h; cases h; rw [c13]; exact l8Shape_13 w
  rw [if_neg c13] at h
  by_cases c14 : op = 14
  · rw [if_pos c14] at h; cases h; rw [c14]; exact l8Shape_14 w
  rw [if_neg c14] at h
  cases h
set_option maxRecDepth 100000 in
set_option maxHeartbeats 1000000 in
theorem l8i_y110 (op a b' : Int) (l : By) (word : By) (w : World) (hf : formOf op = some ⟨word, true, true, false⟩) (hs : l.length ≤ 1000000000) (h1 : -999 ≤ a) (h2 : a ≤ 999) (h3 : 0 ≤ b') (h4 : b' ≤ 999) (hl : l = []) :
    Calls Tryd.prog 28 #[.agg #[.int .i64 op, .int .i64 a, .int .i64 b', .string ⟨l.toArray⟩]] w fun e w' => e = .returned (.bool true) ∧ Below w.heap.size w w' := by
  subst hl
  have HF := Lib.hid hf; clear hf
  have _ := hs
  go_enter Tryd.func28, Tryd.ntmps28
  go_wp2_with (go_at_call 50; refine (l8Shape_some _ _ _ _ _ _ HF.out).mono ?_; rintro e w1 ⟨rfl, rfl⟩; rw [show shp true true false = [97, 98] from rfl])
  go_ret
  exact ⟨rfl, bal0 w _⟩
set_option maxRecDepth 100000 in
set_option maxHeartbeats 1000000 in
theorem l8i_a1110 (op a b' : Int) (l : By) (word : By) (w : World) (hf : formOf op = some ⟨word, true, true, false⟩) (hs : l.length ≤ 1000000000) (h : a < -999) :
    Calls Tryd.prog 28 #[.agg #[.int .i64 op, .int .i64 a, .int .i64 b', .string ⟨l.toArray⟩]] w fun e w' => e = .returned (.bool false) ∧ Below w.heap.size w w' := by
  have HF := Lib.hid hf; clear hf
  have _ := hs
  go_enter Tryd.func28, Tryd.ntmps28
  go_wp2_with (go_at_call 50; refine (l8Shape_some _ _ _ _ _ _ HF.out).mono ?_; rintro e w1 ⟨rfl, rfl⟩; rw [show shp true true false = [97, 98] from rfl])
  go_ret
  exact ⟨rfl, bal0 w _⟩
set_option maxRecDepth 100000 in
set_option maxHeartbeats 1000000 in
theorem l8i_a2110 (op a b' : Int) (l : By) (word : By) (w : World) (hf : formOf op = some ⟨word, true, true, false⟩) (hs : l.length ≤ 1000000000) (h : 999 < a) :
    Calls Tryd.prog 28 #[.agg #[.int .i64 op, .int .i64 a, .int .i64 b', .string ⟨l.toArray⟩]] w fun e w' => e = .returned (.bool false) ∧ Below w.heap.size w w' := by
  have HF := Lib.hid hf; clear hf
  have _ := hs
  go_enter Tryd.func28, Tryd.ntmps28
  go_wp2_with (go_at_call 50; refine (l8Shape_some _ _ _ _ _ _ HF.out).mono ?_; rintro e w1 ⟨rfl, rfl⟩; rw [show shp true true false = [97, 98] from rfl])
  go_ret
  exact ⟨rfl, bal0 w _⟩
set_option maxRecDepth 100000 in
set_option maxHeartbeats 1000000 in
theorem l8i_b1110 (op a b' : Int) (l : By) (word : By) (w : World) (hf : formOf op = some ⟨word, true, true, false⟩) (hs : l.length ≤ 1000000000) (h1 : -999 ≤ a) (h2 : a ≤ 999) (h : b' < 0) :
    Calls Tryd.prog 28 #[.agg #[.int .i64 op, .int .i64 a, .int .i64 b', .string ⟨l.toArray⟩]] w fun e w' => e = .returned (.bool false) ∧ Below w.heap.size w w' := by
  have HF := Lib.hid hf; clear hf
  have _ := hs
  go_enter Tryd.func28, Tryd.ntmps28
  go_wp2_with (go_at_call 50; refine (l8Shape_some _ _ _ _ _ _ HF.out).mono ?_; rintro e w1 ⟨rfl, rfl⟩; rw [show shp true true false = [97, 98] from rfl])
  go_ret
  exact ⟨rfl, bal0 w _⟩
set_option maxRecDepth 100000 in
set_option maxHeartbeats 1000000 in
theorem l8i_b2110 (op a b' : Int) (l : By) (word : By) (w : World) (hf : formOf op = some ⟨word, true, true, false⟩) (hs : l.length ≤ 1000000000) (h1 : -999 ≤ a) (h2 : a ≤ 999) (h : 999 < b') :
    Calls Tryd.prog 28 #[.agg #[.int .i64 op, .int .i64 a, .int .i64 b', .string ⟨l.toArray⟩]] w fun e w' => e = .returned (.bool false) ∧ Below w.heap.size w w' := by
  have HF := Lib.hid hf; clear hf
  have _ := hs
  go_enter Tryd.func28, Tryd.ntmps28
  go_wp2_with (go_at_call 50; refine (l8Shape_some _ _ _ _ _ _ HF.out).mono ?_; rintro e w1 ⟨rfl, rfl⟩; rw [show shp true true false = [97, 98] from rfl])
  go_ret
  exact ⟨rfl, bal0 w _⟩
set_option maxRecDepth 100000 in
set_option maxHeartbeats 1000000 in
theorem l8i_n110 (op a b' : Int) (l : By) (word : By) (w : World) (hf : formOf op = some ⟨word, true, true, false⟩) (hs : l.length ≤ 1000000000) (h1 : -999 ≤ a) (h2 : a ≤ 999) (h3 : 0 ≤ b') (h4 : b' ≤ 999) (h : l.isEmpty = false) :
    Calls Tryd.prog 28 #[.agg #[.int .i64 op, .int .i64 a, .int .i64 b', .string ⟨l.toArray⟩]] w fun e w' => e = .returned (.bool false) ∧ Below w.heap.size w w' := by
  have HF := Lib.hid hf; clear hf
  have _ := hs
  go_enter Tryd.func28, Tryd.ntmps28
  go_wp2_with (go_at_call 50; refine (l8Shape_some _ _ _ _ _ _ HF.out).mono ?_; rintro e w1 ⟨rfl, rfl⟩; rw [show shp true true false = [97, 98] from rfl])
  go_ret
  exact ⟨rfl, bal0 w _⟩
set_option maxRecDepth 100000 in
set_option maxHeartbeats 1000000 in
theorem l8i_y111 (op a b' : Int) (l : By) (word : By) (w : World) (hf : formOf op = some ⟨word, true, true, true⟩) (hs : l.length ≤ 1000000000) (h1 : -999 ≤ a) (h2 : a ≤ 999) (h3 : 0 ≤ b') (h4 : b' ≤ 999) (hn : nameOk l = true) :
    Calls Tryd.prog 28 #[.agg #[.int .i64 op, .int .i64 a, .int .i64 b', .string ⟨l.toArray⟩]] w fun e w' => e = .returned (.bool true) ∧ Below w.heap.size w w' := by
  have HF := Lib.hid hf; clear hf
  have HN := Lib.hid hn; clear hn
  go_enter Tryd.func28, Tryd.ntmps28
  go_wp2_with (go_at_call 50; refine (l8Shape_some _ _ _ _ _ _ HF.out).mono ?_; rintro e w1 ⟨rfl, rfl⟩; rw [show shp true true true = [97, 98, 110] from rfl])
  refine (specNameValid_any _ _ (by omega)).mono ?_
  rintro e w2 ⟨rfl, hb2⟩
  rw [HN.out]
  go_wp2_with fail
  go_ret
  exact ⟨rfl, bnext (bal0 w _) hb2⟩
set_option maxRecDepth 100000 in
set_option maxHeartbeats 1000000 in
theorem l8i_a1111 (op a b' : Int) (l : By) (word : By) (w : World) (hf : formOf op = some ⟨word, true, true, true⟩) (hs : l.length ≤ 1000000000) (h : a < -999) :
    Calls Tryd.prog 28 #[.agg #[.int .i64 op, .int .i64 a, .int .i64 b', .string ⟨l.toArray⟩]] w fun e w' => e = .returned (.bool false) ∧ Below w.heap.size w w' := by
  have HF := Lib.hid hf; clear hf
  have _ := hs
  go_enter Tryd.func28, Tryd.ntmps28
  go_wp2_with (go_at_call 50; refine (l8Shape_some _ _ _ _ _ _ HF.out).mono ?_; rintro e w1 ⟨rfl, rfl⟩; rw [show shp true true true = [97, 98, 110] from rfl])
  go_ret
  exact ⟨rfl, bal0 w _⟩
set_option maxRecDepth 100000 in
set_option maxHeartbeats 1000000 in
theorem l8i_a2111 (op a b' : Int) (l : By) (word : By) (w : World) (hf : formOf op = some ⟨word, true, true, true⟩) (hs : l.length ≤ 1000000000) (h : 999 < a) :
    Calls Tryd.prog 28 #[.agg #[.int .i64 op, .int .i64 a, .int .i64 b', .string ⟨l.toArray⟩]] w fun e w' => e = .returned (.bool false) ∧ Below w.heap.size w w' := by
  have HF := Lib.hid hf; clear hf
  have _ := hs
  go_enter Tryd.func28, Tryd.ntmps28
  go_wp2_with (go_at_call 50; refine (l8Shape_some _ _ _ _ _ _ HF.out).mono ?_; rintro e w1 ⟨rfl, rfl⟩; rw [show shp true true true = [97, 98, 110] from rfl])
  go_ret
  exact ⟨rfl, bal0 w _⟩
set_option maxRecDepth 100000 in
set_option maxHeartbeats 1000000 in
theorem l8i_b1111 (op a b' : Int) (l : By) (word : By) (w : World) (hf : formOf op = some ⟨word, true, true, true⟩) (hs : l.length ≤ 1000000000) (h1 : -999 ≤ a) (h2 : a ≤ 999) (h : b' < 0) :
    Calls Tryd.prog 28 #[.agg #[.int .i64 op, .int .i64 a, .int .i64 b', .string ⟨l.toArray⟩]] w fun e w' => e = .returned (.bool false) ∧ Below w.heap.size w w' := by
  have HF := Lib.hid hf; clear hf
  have _ := hs
  go_enter Tryd.func28, Tryd.ntmps28
  go_wp2_with (go_at_call 50; refine (l8Shape_some _ _ _ _ _ _ HF.out).mono ?_; rintro e w1 ⟨rfl, rfl⟩; rw [show shp true true true = [97, 98, 110] from rfl])
  go_ret
  exact ⟨rfl, bal0 w _⟩
set_option maxRecDepth 100000 in
set_option maxHeartbeats 1000000 in
theorem l8i_b2111 (op a b' : Int) (l : By) (word : By) (w : World) (hf : formOf op = some ⟨word, true, true, true⟩) (hs : l.length ≤ 1000000000) (h1 : -999 ≤ a) (h2 : a ≤ 999) (h : 999 < b') :
    Calls Tryd.prog 28 #[.agg #[.int .i64 op, .int .i64 a, .int .i64 b', .string ⟨l.toArray⟩]] w fun e w' => e = .returned (.bool false) ∧ Below w.heap.size w w' := by
  have HF := Lib.hid hf; clear hf
  have _ := hs
  go_enter Tryd.func28, Tryd.ntmps28
  go_wp2_with (go_at_call 50; refine (l8Shape_some _ _ _ _ _ _ HF.out).mono ?_; rintro e w1 ⟨rfl, rfl⟩; rw [show shp true true true = [97, 98, 110] from rfl])
  go_ret
  exact ⟨rfl, bal0 w _⟩
set_option maxRecDepth 100000 in
set_option maxHeartbeats 1000000 in
theorem l8i_m111 (op a b' : Int) (l : By) (word : By) (w : World) (hf : formOf op = some ⟨word, true, true, true⟩) (hs : l.length ≤ 1000000000) (h1 : -999 ≤ a) (h2 : a ≤ 999) (h3 : 0 ≤ b') (h4 : b' ≤ 999) (hn : nameOk l = false) :
    Calls Tryd.prog 28 #[.agg #[.int .i64 op, .int .i64 a, .int .i64 b', .string ⟨l.toArray⟩]] w fun e w' => e = .returned (.bool false) ∧ Below w.heap.size w w' := by
  have HF := Lib.hid hf; clear hf
  have HN := Lib.hid hn; clear hn
  go_enter Tryd.func28, Tryd.ntmps28
  go_wp2_with (go_at_call 50; refine (l8Shape_some _ _ _ _ _ _ HF.out).mono ?_; rintro e w1 ⟨rfl, rfl⟩; rw [show shp true true true = [97, 98, 110] from rfl])
  refine (specNameValid_any _ _ (by omega)).mono ?_
  rintro e w2 ⟨rfl, hb2⟩
  rw [HN.out]
  go_wp2_with fail
  go_ret
  exact ⟨rfl, bnext (bal0 w _) hb2⟩
set_option maxRecDepth 100000 in
set_option maxHeartbeats 1000000 in
theorem l8i_y100 (op a b' : Int) (l : By) (word : By) (w : World) (hf : formOf op = some ⟨word, true, false, false⟩) (hs : l.length ≤ 1000000000) (h1 : -999 ≤ a) (h2 : a ≤ 999) (h3 : 0 ≤ b') (h4 : b' ≤ 999) (hb : b' = 0) (hl : l = []) :
    Calls Tryd.prog 28 #[.agg #[.int .i64 op, .int .i64 a, .int .i64 b', .string ⟨l.toArray⟩]] w fun e w' => e = .returned (.bool true) ∧ Below w.heap.size w w' := by
  subst hb
  subst hl
  have HF := Lib.hid hf; clear hf
  have _ := hs
  go_enter Tryd.func28, Tryd.ntmps28
  go_wp2_with (go_at_call 50; refine (l8Shape_some _ _ _ _ _ _ HF.out).mono ?_; rintro e w1 ⟨rfl, rfl⟩; rw [show shp true false false = [97] from rfl])
  go_ret
  exact ⟨rfl, bal0 w _⟩
set_option maxRecDepth 100000 in
set_option maxHeartbeats 1000000 in
theorem l8i_a1100 (op a b' : Int) (l : By) (word : By) (w : World) (hf : formOf op = some ⟨word, true, false, false⟩) (hs : l.length ≤ 1000000000) (h : a < -999) :
    Calls Tryd.prog 28 #[.agg #[.int .i64 op, .int .i64 a, .int .i64 b', .string ⟨l.toArray⟩]] w fun e w' => e = .returned (.bool false) ∧ Below w.heap.size w w' := by
  have HF := Lib.hid hf; clear hf
  have _ := hs
  go_enter Tryd.func28, Tryd.ntmps28
  go_wp2_with (go_at_call 50; refine (l8Shape_some _ _ _ _ _ _ HF.out).mono ?_; rintro e w1 ⟨rfl, rfl⟩; rw [show shp true false false = [97] from rfl])
  go_ret
  exact ⟨rfl, bal0 w _⟩
set_option maxRecDepth 100000 in
set_option maxHeartbeats 1000000 in
theorem l8i_a2100 (op a b' : Int) (l : By) (word : By) (w : World) (hf : formOf op = some ⟨word, true, false, false⟩) (hs : l.length ≤ 1000000000) (h : 999 < a) :
    Calls Tryd.prog 28 #[.agg #[.int .i64 op, .int .i64 a, .int .i64 b', .string ⟨l.toArray⟩]] w fun e w' => e = .returned (.bool false) ∧ Below w.heap.size w w' := by
  have HF := Lib.hid hf; clear hf
  have _ := hs
  go_enter Tryd.func28, Tryd.ntmps28
  go_wp2_with (go_at_call 50; refine (l8Shape_some _ _ _ _ _ _ HF.out).mono ?_; rintro e w1 ⟨rfl, rfl⟩; rw [show shp true false false = [97] from rfl])
  go_ret
  exact ⟨rfl, bal0 w _⟩
set_option maxRecDepth 100000 in
set_option maxHeartbeats 1000000 in
theorem l8i_b1100 (op a b' : Int) (l : By) (word : By) (w : World) (hf : formOf op = some ⟨word, true, false, false⟩) (hs : l.length ≤ 1000000000) (h1 : -999 ≤ a) (h2 : a ≤ 999) (h : b' < 0) :
    Calls Tryd.prog 28 #[.agg #[.int .i64 op, .int .i64 a, .int .i64 b', .string ⟨l.toArray⟩]] w fun e w' => e = .returned (.bool false) ∧ Below w.heap.size w w' := by
  have HF := Lib.hid hf; clear hf
  have _ := hs
  go_enter Tryd.func28, Tryd.ntmps28
  go_wp2_with (go_at_call 50; refine (l8Shape_some _ _ _ _ _ _ HF.out).mono ?_; rintro e w1 ⟨rfl, rfl⟩; rw [show shp true false false = [97] from rfl])
  go_ret
  exact ⟨rfl, bal0 w _⟩
set_option maxRecDepth 100000 in
set_option maxHeartbeats 1000000 in
theorem l8i_b2100 (op a b' : Int) (l : By) (word : By) (w : World) (hf : formOf op = some ⟨word, true, false, false⟩) (hs : l.length ≤ 1000000000) (h1 : -999 ≤ a) (h2 : a ≤ 999) (h : 999 < b') :
    Calls Tryd.prog 28 #[.agg #[.int .i64 op, .int .i64 a, .int .i64 b', .string ⟨l.toArray⟩]] w fun e w' => e = .returned (.bool false) ∧ Below w.heap.size w w' := by
  have HF := Lib.hid hf; clear hf
  have _ := hs
  go_enter Tryd.func28, Tryd.ntmps28
  go_wp2_with (go_at_call 50; refine (l8Shape_some _ _ _ _ _ _ HF.out).mono ?_; rintro e w1 ⟨rfl, rfl⟩; rw [show shp true false false = [97] from rfl])
  go_ret
  exact ⟨rfl, bal0 w _⟩
set_option maxRecDepth 100000 in
set_option maxHeartbeats 1000000 in
theorem l8i_fb100 (op a b' : Int) (l : By) (word : By) (w : World) (hf : formOf op = some ⟨word, true, false, false⟩) (hs : l.length ≤ 1000000000) (h1 : -999 ≤ a) (h2 : a ≤ 999) (h3 : 0 ≤ b') (h4 : b' ≤ 999) (h : (b' == 0) = false) :
    Calls Tryd.prog 28 #[.agg #[.int .i64 op, .int .i64 a, .int .i64 b', .string ⟨l.toArray⟩]] w fun e w' => e = .returned (.bool false) ∧ Below w.heap.size w w' := by
  have HF := Lib.hid hf; clear hf
  have _ := hs
  go_enter Tryd.func28, Tryd.ntmps28
  go_wp2_with (go_at_call 50; refine (l8Shape_some _ _ _ _ _ _ HF.out).mono ?_; rintro e w1 ⟨rfl, rfl⟩; rw [show shp true false false = [97] from rfl])
  go_ret
  exact ⟨rfl, bal0 w _⟩
set_option maxRecDepth 100000 in
set_option maxHeartbeats 1000000 in
theorem l8i_n100 (op a b' : Int) (l : By) (word : By) (w : World) (hf : formOf op = some ⟨word, true, false, false⟩) (hs : l.length ≤ 1000000000) (h1 : -999 ≤ a) (h2 : a ≤ 999) (h3 : 0 ≤ b') (h4 : b' ≤ 999) (hb : b' = 0) (h : l.isEmpty = false) :
    Calls Tryd.prog 28 #[.agg #[.int .i64 op, .int .i64 a, .int .i64 b', .string ⟨l.toArray⟩]] w fun e w' => e = .returned (.bool false) ∧ Below w.heap.size w w' := by
  subst hb
  have HF := Lib.hid hf; clear hf
  have _ := hs
  go_enter Tryd.func28, Tryd.ntmps28
  go_wp2_with (go_at_call 50; refine (l8Shape_some _ _ _ _ _ _ HF.out).mono ?_; rintro e w1 ⟨rfl, rfl⟩; rw [show shp true false false = [97] from rfl])
  go_ret
  exact ⟨rfl, bal0 w _⟩
set_option maxRecDepth 100000 in
set_option maxHeartbeats 1000000 in
theorem l8i_y101 (op a b' : Int) (l : By) (word : By) (w : World) (hf : formOf op = some ⟨word, true, false, true⟩) (hs : l.length ≤ 1000000000) (h1 : -999 ≤ a) (h2 : a ≤ 999) (h3 : 0 ≤ b') (h4 : b' ≤ 999) (hb : b' = 0) (hn : nameOk l = true) :
    Calls Tryd.prog 28 #[.agg #[.int .i64 op, .int .i64 a, .int .i64 b', .string ⟨l.toArray⟩]] w fun e w' => e = .returned (.bool true) ∧ Below w.heap.size w w' := by
  subst hb
  have HF := Lib.hid hf; clear hf
  have HN := Lib.hid hn; clear hn
  go_enter Tryd.func28, Tryd.ntmps28
  go_wp2_with (go_at_call 50; refine (l8Shape_some _ _ _ _ _ _ HF.out).mono ?_; rintro e w1 ⟨rfl, rfl⟩; rw [show shp true false true = [97, 110] from rfl])
  refine (specNameValid_any _ _ (by omega)).mono ?_
  rintro e w2 ⟨rfl, hb2⟩
  rw [HN.out]
  go_wp2_with fail
  go_ret
  exact ⟨rfl, bnext (bal0 w _) hb2⟩
set_option maxRecDepth 100000 in
set_option maxHeartbeats 1000000 in
theorem l8i_a1101 (op a b' : Int) (l : By) (word : By) (w : World) (hf : formOf op = some ⟨word, true, false, true⟩) (hs : l.length ≤ 1000000000) (h : a < -999) :
    Calls Tryd.prog 28 #[.agg #[.int .i64 op, .int .i64 a, .int .i64 b', .string ⟨l.toArray⟩]] w fun e w' => e = .returned (.bool false) ∧ Below w.heap.size w w' := by
  have HF := Lib.hid hf; clear hf
  have _ := hs
  go_enter Tryd.func28, Tryd.ntmps28
  go_wp2_with (go_at_call 50; refine (l8Shape_some _ _ _ _ _ _ HF.out).mono ?_; rintro e w1 ⟨rfl, rfl⟩; rw [show shp true false true = [97, 110] from rfl])
  go_ret
  exact ⟨rfl, bal0 w _⟩
set_option maxRecDepth 100000 in
set_option maxHeartbeats 1000000 in
theorem l8i_a2101 (op a b' : Int) (l : By) (word : By) (w : World) (hf : formOf op = some ⟨word, true, false, true⟩) (hs : l.length ≤ 1000000000) (h : 999 < a) :
    Calls Tryd.prog 28 #[.agg #[.int .i64 op, .int .i64 a, .int .i64 b', .string ⟨l.toArray⟩]] w fun e w' => e = .returned (.bool false) ∧ Below w.heap.size w w' := by
  have HF := Lib.hid hf; clear hf
  have _ := hs
  go_enter Tryd.func28, Tryd.ntmps28
  go_wp2_with (go_at_call 50; refine (l8Shape_some _ _ _ _ _ _ HF.out).mono ?_; rintro e w1 ⟨rfl, rfl⟩; rw [show shp true false true = [97, 110] from rfl])
  go_ret
  exact ⟨rfl, bal0 w _⟩
set_option maxRecDepth 100000 in
set_option maxHeartbeats 1000000 in
theorem l8i_b1101 (op a b' : Int) (l : By) (word : By) (w : World) (hf : formOf op = some ⟨word, true, false, true⟩) (hs : l.length ≤ 1000000000) (h1 : -999 ≤ a) (h2 : a ≤ 999) (h : b' < 0) :
    Calls Tryd.prog 28 #[.agg #[.int .i64 op, .int .i64 a, .int .i64 b', .string ⟨l.toArray⟩]] w fun e w' => e = .returned (.bool false) ∧ Below w.heap.size w w' := by
  have HF := Lib.hid hf; clear hf
  have _ := hs
  go_enter Tryd.func28, Tryd.ntmps28
  go_wp2_with (go_at_call 50; refine (l8Shape_some _ _ _ _ _ _ HF.out).mono ?_; rintro e w1 ⟨rfl, rfl⟩; rw [show shp true false true = [97, 110] from rfl])
  go_ret
  exact ⟨rfl, bal0 w _⟩
set_option maxRecDepth 100000 in
set_option maxHeartbeats 1000000 in
theorem l8i_b2101 (op a b' : Int) (l : By) (word : By) (w : World) (hf : formOf op = some ⟨word, true, false, true⟩) (hs : l.length ≤ 1000000000) (h1 : -999 ≤ a) (h2 : a ≤ 999) (h : 999 < b') :
    Calls Tryd.prog 28 #[.agg #[.int .i64 op, .int .i64 a, .int .i64 b', .string ⟨l.toArray⟩]] w fun e w' => e = .returned (.bool false) ∧ Below w.heap.size w w' := by
  have HF := Lib.hid hf; clear hf
  have _ := hs
  go_enter Tryd.func28, Tryd.ntmps28
  go_wp2_with (go_at_call 50; refine (l8Shape_some _ _ _ _ _ _ HF.out).mono ?_; rintro e w1 ⟨rfl, rfl⟩; rw [show shp true false true = [97, 110] from rfl])
  go_ret
  exact ⟨rfl, bal0 w _⟩
set_option maxRecDepth 100000 in
set_option maxHeartbeats 1000000 in
theorem l8i_fb101 (op a b' : Int) (l : By) (word : By) (w : World) (hf : formOf op = some ⟨word, true, false, true⟩) (hs : l.length ≤ 1000000000) (h1 : -999 ≤ a) (h2 : a ≤ 999) (h3 : 0 ≤ b') (h4 : b' ≤ 999) (h : (b' == 0) = false) :
    Calls Tryd.prog 28 #[.agg #[.int .i64 op, .int .i64 a, .int .i64 b', .string ⟨l.toArray⟩]] w fun e w' => e = .returned (.bool false) ∧ Below w.heap.size w w' := by
  have HF := Lib.hid hf; clear hf
  have _ := hs
  go_enter Tryd.func28, Tryd.ntmps28
  go_wp2_with (go_at_call 50; refine (l8Shape_some _ _ _ _ _ _ HF.out).mono ?_; rintro e w1 ⟨rfl, rfl⟩; rw [show shp true false true = [97, 110] from rfl])
  go_ret
  exact ⟨rfl, bal0 w _⟩
set_option maxRecDepth 100000 in
set_option maxHeartbeats 1000000 in
theorem l8i_m101 (op a b' : Int) (l : By) (word : By) (w : World) (hf : formOf op = some ⟨word, true, false, true⟩) (hs : l.length ≤ 1000000000) (h1 : -999 ≤ a) (h2 : a ≤ 999) (h3 : 0 ≤ b') (h4 : b' ≤ 999) (hb : b' = 0) (hn : nameOk l = false) :
    Calls Tryd.prog 28 #[.agg #[.int .i64 op, .int .i64 a, .int .i64 b', .string ⟨l.toArray⟩]] w fun e w' => e = .returned (.bool false) ∧ Below w.heap.size w w' := by
  subst hb
  have HF := Lib.hid hf; clear hf
  have HN := Lib.hid hn; clear hn
  go_enter Tryd.func28, Tryd.ntmps28
  go_wp2_with (go_at_call 50; refine (l8Shape_some _ _ _ _ _ _ HF.out).mono ?_; rintro e w1 ⟨rfl, rfl⟩; rw [show shp true false true = [97, 110] from rfl])
  refine (specNameValid_any _ _ (by omega)).mono ?_
  rintro e w2 ⟨rfl, hb2⟩
  rw [HN.out]
  go_wp2_with fail
  go_ret
  exact ⟨rfl, bnext (bal0 w _) hb2⟩
set_option maxRecDepth 100000 in
set_option maxHeartbeats 1000000 in
theorem l8i_y000 (op a b' : Int) (l : By) (word : By) (w : World) (hf : formOf op = some ⟨word, false, false, false⟩) (hs : l.length ≤ 1000000000) (h1 : -999 ≤ a) (h2 : a ≤ 999) (h3 : 0 ≤ b') (h4 : b' ≤ 999) (ha : a = 0) (hb : b' = 0) (hl : l = []) :
    Calls Tryd.prog 28 #[.agg #[.int .i64 op, .int .i64 a, .int .i64 b', .string ⟨l.toArray⟩]] w fun e w' => e = .returned (.bool true) ∧ Below w.heap.size w w' := by
  subst ha
  subst hb
  subst hl
  have HF := Lib.hid hf; clear hf
  have _ := hs
  go_enter Tryd.func28, Tryd.ntmps28
  go_wp2_with (go_at_call 50; refine (l8Shape_some _ _ _ _ _ _ HF.out).mono ?_; rintro e w1 ⟨rfl, rfl⟩; rw [show shp false false false = [] from rfl])
  go_ret
  exact ⟨rfl, bal0 w _⟩
set_option maxRecDepth 100000 in
set_option maxHeartbeats 1000000 in
theorem l8i_a1000 (op a b' : Int) (l : By) (word : By) (w : World) (hf : formOf op = some ⟨word, false, false, false⟩) (hs : l.length ≤ 1000000000) (h : a < -999) :
    Calls Tryd.prog 28 #[.agg #[.int .i64 op, .int .i64 a, .int .i64 b', .string ⟨l.toArray⟩]] w fun e w' => e = .returned (.bool false) ∧ Below w.heap.size w w' := by
  have HF := Lib.hid hf; clear hf
  have _ := hs
  go_enter Tryd.func28, Tryd.ntmps28
  go_wp2_with (go_at_call 50; refine (l8Shape_some _ _ _ _ _ _ HF.out).mono ?_; rintro e w1 ⟨rfl, rfl⟩; rw [show shp false false false = [] from rfl])
  go_ret
  exact ⟨rfl, bal0 w _⟩
set_option maxRecDepth 100000 in
set_option maxHeartbeats 1000000 in
theorem l8i_a2000 (op a b' : Int) (l : By) (word : By) (w : World) (hf : formOf op = some ⟨word, false, false, false⟩) (hs : l.length ≤ 1000000000) (h : 999 < a) :
    Calls Tryd.prog 28 #[.agg #[.int .i64 op, .int .i64 a, .int .i64 b', .string ⟨l.toArray⟩]] w fun e w' => e = .returned (.bool false) ∧ Below w.heap.size w w' := by
  have HF := Lib.hid hf; clear hf
  have _ := hs
  go_enter Tryd.func28, Tryd.ntmps28
  go_wp2_with (go_at_call 50; refine (l8Shape_some _ _ _ _ _ _ HF.out).mono ?_; rintro e w1 ⟨rfl, rfl⟩; rw [show shp false false false = [] from rfl])
  go_ret
  exact ⟨rfl, bal0 w _⟩
set_option maxRecDepth 100000 in
set_option maxHeartbeats 1000000 in
theorem l8i_b1000 (op a b' : Int) (l : By) (word : By) (w : World) (hf : formOf op = some ⟨word, false, false, false⟩) (hs : l.length ≤ 1000000000) (h1 : -999 ≤ a) (h2 : a ≤ 999) (h : b' < 0) :
    Calls Tryd.prog 28 #[.agg #[.int .i64 op, .int .i64 a, .int .i64 b', .string ⟨l.toArray⟩]] w fun e w' => e = .returned (.bool false) ∧ Below w.heap.size w w' := by
  have HF := Lib.hid hf; clear hf
  have _ := hs
  go_enter Tryd.func28, Tryd.ntmps28
  go_wp2_with (go_at_call 50; refine (l8Shape_some _ _ _ _ _ _ HF.out).mono ?_; rintro e w1 ⟨rfl, rfl⟩; rw [show shp false false false = [] from rfl])
  go_ret
  exact ⟨rfl, bal0 w _⟩
set_option maxRecDepth 100000 in
set_option maxHeartbeats 1000000 in
theorem l8i_b2000 (op a b' : Int) (l : By) (word : By) (w : World) (hf : formOf op = some ⟨word, false, false, false⟩) (hs : l.length ≤ 1000000000) (h1 : -999 ≤ a) (h2 : a ≤ 999) (h : 999 < b') :
    Calls Tryd.prog 28 #[.agg #[.int .i64 op, .int .i64 a, .int .i64 b', .string ⟨l.toArray⟩]] w fun e w' => e = .returned (.bool false) ∧ Below w.heap.size w w' := by
  have HF := Lib.hid hf; clear hf
  have _ := hs
  go_enter Tryd.func28, Tryd.ntmps28
  go_wp2_with (go_at_call 50; refine (l8Shape_some _ _ _ _ _ _ HF.out).mono ?_; rintro e w1 ⟨rfl, rfl⟩; rw [show shp false false false = [] from rfl])
  go_ret
  exact ⟨rfl, bal0 w _⟩
set_option maxRecDepth 100000 in
set_option maxHeartbeats 1000000 in
theorem l8i_fa000 (op a b' : Int) (l : By) (word : By) (w : World) (hf : formOf op = some ⟨word, false, false, false⟩) (hs : l.length ≤ 1000000000) (h1 : -999 ≤ a) (h2 : a ≤ 999) (h3 : 0 ≤ b') (h4 : b' ≤ 999) (h : (a == 0) = false) :
    Calls Tryd.prog 28 #[.agg #[.int .i64 op, .int .i64 a, .int .i64 b', .string ⟨l.toArray⟩]] w fun e w' => e = .returned (.bool false) ∧ Below w.heap.size w w' := by
  have HF := Lib.hid hf; clear hf
  have _ := hs
  go_enter Tryd.func28, Tryd.ntmps28
  go_wp2_with (go_at_call 50; refine (l8Shape_some _ _ _ _ _ _ HF.out).mono ?_; rintro e w1 ⟨rfl, rfl⟩; rw [show shp false false false = [] from rfl])
  go_ret
  exact ⟨rfl, bal0 w _⟩
set_option maxRecDepth 100000 in
set_option maxHeartbeats 1000000 in
theorem l8i_fb000 (op a b' : Int) (l : By) (word : By) (w : World) (hf : formOf op = some ⟨word, false, false, false⟩) (hs : l.length ≤ 1000000000) (h1 : -999 ≤ a) (h2 : a ≤ 999) (h3 : 0 ≤ b') (h4 : b' ≤ 999) (ha : a = 0) (h : (b' == 0) = false) :
    Calls Tryd.prog 28 #[.agg #[.int .i64 op, .int .i64 a, .int .i64 b', .string ⟨l.toArray⟩]] w fun e w' => e = .returned (.bool false) ∧ Below w.heap.size w w' := by
  subst ha
  have HF := Lib.hid hf; clear hf
  have _ := hs
  go_enter Tryd.func28, Tryd.ntmps28
  go_wp2_with (go_at_call 50; refine (l8Shape_some _ _ _ _ _ _ HF.out).mono ?_; rintro e w1 ⟨rfl, rfl⟩; rw [show shp false false false = [] from rfl])
  go_ret
  exact ⟨rfl, bal0 w _⟩
set_option maxRecDepth 100000 in
set_option maxHeartbeats 1000000 in
theorem l8i_n000 (op a b' : Int) (l : By) (word : By) (w : World) (hf : formOf op = some ⟨word, false, false, false⟩) (hs : l.length ≤ 1000000000) (h1 : -999 ≤ a) (h2 : a ≤ 999) (h3 : 0 ≤ b') (h4 : b' ≤ 999) (ha : a = 0) (hb : b' = 0) (h : l.isEmpty = false) :
    Calls Tryd.prog 28 #[.agg #[.int .i64 op, .int .i64 a, .int .i64 b', .string ⟨l.toArray⟩]] w fun e w' => e = .returned (.bool false) ∧ Below w.heap.size w w' := by
  subst ha
  subst hb
  have HF := Lib.hid hf; clear hf
  have _ := hs
  go_enter Tryd.func28, Tryd.ntmps28
  go_wp2_with (go_at_call 50; refine (l8Shape_some _ _ _ _ _ _ HF.out).mono ?_; rintro e w1 ⟨rfl, rfl⟩; rw [show shp false false false = [] from rfl])
  go_ret
  exact ⟨rfl, bal0 w _⟩
set_option maxRecDepth 100000 in
theorem l8i_none (op a b' : Int) (l : By) (w : World) (hf : formOf op = none) (hs : l.length ≤ 1000000000) :
    Calls Tryd.prog 28 #[.agg #[.int .i64 op, .int .i64 a, .int .i64 b', .string ⟨l.toArray⟩]] w fun e w' => e = .returned (.bool false) ∧ Below w.heap.size w w' := by
  have HF := Lib.hid (formOf_range op hf); clear hf
  have _ := hs
  go_enter Tryd.func28, Tryd.ntmps28
  go_wp2_with (go_at_call 50; refine (l8Shape_no _ _ HF.out).mono ?_; rintro e w1 ⟨rfl, rfl⟩)
  go_ret
  exact ⟨rfl, bal0 w _⟩
/-- l8Instr, in one contract -/
theorem l8Instr_any (op a b' : Int) (l : By) (w : World) (hs : l.length ≤ 1000000000) :
    Calls Tryd.prog 28 #[.agg #[.int .i64 op, .int .i64 a, .int .i64 b', .string ⟨l.toArray⟩]] w fun e w' => e = .returned (.bool (insOk ⟨op, a, b', l⟩)) ∧ Below w.heap.size w w' := by
  cases hf : formOf op with
  | none => rw [(insText_none op a b' l hf).2]; exact l8i_none op a b' l w hf hs
  | some f =>
    obtain ⟨word, fa, fb, fn⟩ := f
    obtain ⟨hw, hsh⟩ := formOf_word op word fa fb fn hf
    by_cases hc : insCond ⟨word, fa, fb, fn⟩ a b' l
    · rw [(insOk_iff op a b' l _ hf).2 hc]
      obtain ⟨h1, h2, h3, h4, h5, h6, h7⟩ := hc
      rcases hsh with ⟨rfl, rfl, rfl⟩ | ⟨rfl, rfl, rfl⟩ | ⟨rfl, rfl, rfl⟩ | ⟨rfl, rfl, rfl⟩ | ⟨rfl, rfl, rfl⟩
      · exact l8i_y110 op a b' l word w hf hs h1 h2 h3 h4 (by simpa using h7)
      · exact l8i_y111 op a b' l word w hf hs h1 h2 h3 h4 (by simpa using h7)
      · exact l8i_y100 op a b' l word w hf hs h1 h2 h3 h4 (by simpa using h6) (by simpa using h7)
      · exact l8i_y101 op a b' l word w hf hs h1 h2 h3 h4 (by simpa using h6) (by simpa using h7)
      · exact l8i_y000 op a b' l word w hf hs h1 h2 h3 h4 (by simpa using h5) (by simpa using h6) (by simpa using h7)
    · rw [show insOk ⟨op, a, b', l⟩ = false from by cases hk : insOk ⟨op, a, b', l⟩; rfl; exact absurd ((insOk_iff op a b' l _ hf).1 hk) hc]
      rcases hsh with ⟨rfl, rfl, rfl⟩ | ⟨rfl, rfl, rfl⟩ | ⟨rfl, rfl, rfl⟩ | ⟨rfl, rfl, rfl⟩ | ⟨rfl, rfl, rfl⟩
      · by_cases h1 : -999 ≤ a
        case neg => exact l8i_a1110 op a b' l word w hf hs (by omega)
        by_cases h2 : a ≤ 999
        case neg => exact l8i_a2110 op a b' l word w hf hs (by omega)
        by_cases h3 : 0 ≤ b'
        case neg => exact l8i_b1110 op a b' l word w hf hs h1 h2 (by omega)
        by_cases h4 : b' ≤ 999
        case neg => exact l8i_b2110 op a b' l word w hf hs h1 h2 (by omega)
        exact l8i_n110 op a b' l word w hf hs h1 h2 h3 h4 (by cases l with | nil => exact absurd ⟨h1, h2, h3, h4, by simp, by simp, by simp⟩ hc | cons c r => rfl)
      · by_cases h1 : -999 ≤ a
        case neg => exact l8i_a1111 op a b' l word w hf hs (by omega)
        by_cases h2 : a ≤ 999
        case neg => exact l8i_a2111 op a b' l word w hf hs (by omega)
        by_cases h3 : 0 ≤ b'
        case neg => exact l8i_b1111 op a b' l word w hf hs h1 h2 (by omega)
        by_cases h4 : b' ≤ 999
        case neg => exact l8i_b2111 op a b' l word w hf hs h1 h2 (by omega)
        exact l8i_m111 op a b' l word w hf hs h1 h2 h3 h4 (by cases hn : nameOk l; rfl; exact absurd ⟨h1, h2, h3, h4, by simp, by simp, by simp [hn]⟩ hc)
      · by_cases h1 : -999 ≤ a
        case neg => exact l8i_a1100 op a b' l word w hf hs (by omega)
        by_cases h2 : a ≤ 999
        case neg => exact l8i_a2100 op a b' l word w hf hs (by omega)
        by_cases h3 : 0 ≤ b'
        case neg => exact l8i_b1100 op a b' l word w hf hs h1 h2 (by omega)
        by_cases h4 : b' ≤ 999
        case neg => exact l8i_b2100 op a b' l word w hf hs h1 h2 (by omega)
        by_cases hb0 : b' = 0
        case neg => exact l8i_fb100 op a b' l word w hf hs h1 h2 h3 h4 (by simp [hb0])
        exact l8i_n100 op a b' l word w hf hs h1 h2 h3 h4 hb0 (by cases l with | nil => exact absurd ⟨h1, h2, h3, h4, by simp, by simp [hb0], by simp⟩ hc | cons c r => rfl)
      · by_cases h1 : -999 ≤ a
        case neg => exact l8i_a1101 op a b' l word w hf hs (by omega)
        by_cases h2 : a ≤ 999
        case neg => exact l8i_a2101 op a b' l word w hf hs (by omega)
        by_cases h3 : 0 ≤ b'
        case neg => exact l8i_b1101 op a b' l word w hf hs h1 h2 (by omega)
        by_cases h4 : b' ≤ 999
        case neg => exact l8i_b2101 op a b' l word w hf hs h1 h2 (by omega)
        by_cases hb0 : b' = 0
        case neg => exact l8i_fb101 op a b' l word w hf hs h1 h2 h3 h4 (by simp [hb0])
        exact l8i_m101 op a b' l word w hf hs h1 h2 h3 h4 hb0 (by cases hn : nameOk l; rfl; exact absurd ⟨h1, h2, h3, h4, by simp, by simp [hb0], by simp [hn]⟩ hc)
      · by_cases h1 : -999 ≤ a
        case neg => exact l8i_a1000 op a b' l word w hf hs (by omega)
        by_cases h2 : a ≤ 999
        case neg => exact l8i_a2000 op a b' l word w hf hs (by omega)
        by_cases h3 : 0 ≤ b'
        case neg => exact l8i_b1000 op a b' l word w hf hs h1 h2 (by omega)
        by_cases h4 : b' ≤ 999
        case neg => exact l8i_b2000 op a b' l word w hf hs h1 h2 (by omega)
        by_cases ha0 : a = 0
        case neg => exact l8i_fa000 op a b' l word w hf hs h1 h2 h3 h4 (by simp [ha0])
        by_cases hb0 : b' = 0
        case neg => exact l8i_fb000 op a b' l word w hf hs h1 h2 h3 h4 ha0 (by simp [hb0])
        exact l8i_n000 op a b' l word w hf hs h1 h2 h3 h4 ha0 hb0 (by cases l with | nil => exact absurd ⟨h1, h2, h3, h4, by simp [ha0], by simp [hb0], by simp⟩ hc | cons c r => rfl)
end Go.Proofs.YtlknhjibadbeeaaDoor
