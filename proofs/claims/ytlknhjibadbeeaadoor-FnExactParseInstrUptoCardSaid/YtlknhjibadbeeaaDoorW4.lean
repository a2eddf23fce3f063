/- Walks of the functions on instructions, third part: FormatInstr where there is no text; and in one contract. -/
import Derived.Test.YtlknhjibadbeeaaDoorW3
namespace Go.Proofs.YtlknhjibadbeeaaDoor
open Go.RowKit

attribute [local go_sem] ba_get ba_append
set_option maxRecDepth 100000 in
set_option maxHeartbeats 1000000 in
theorem fi_no_a1 (op a b' : Int) (l : By) (word : By) (fa fb fn : Bool) (w : World) (hf : formOf op = some ⟨word, fa, fb, fn⟩) (hs : l.length ≤ 1000000000) (h : a < -999) :
    Calls Tryd.prog 31 #[.agg #[.int .i64 op, .int .i64 a, .int .i64 b', .string ⟨l.toArray⟩]] w fun e w' => e = .returned (.string ⟨#[]⟩) ∧ Below w.heap.size w w' := by
  have HF := Lib.hid hf; clear hf
  have _ := hs
  go_enter Tryd.func31, Tryd.ntmps31
  go_wp2_with (first | (go_at_call 53; refine (formOf_some' _ _ _ _ _ _ HF.out).mono ?_; rintro e w1 ⟨rfl, hb1⟩; obtain ⟨hc1, hf1⟩ := bcell hb1; have hz1 : w.heap.size < w1.heap.size := by have := hb1.size; simp at this; omega) | (go_at_call 58; go_in))
  have HB1 := Lib.hid (bnext (bal0 w _) hb1)
  go_ret
  exact ⟨rfl, bal HB1.out _⟩
set_option maxRecDepth 100000 in
set_option maxHeartbeats 1000000 in
theorem fi_no_a2 (op a b' : Int) (l : By) (word : By) (fa fb fn : Bool) (w : World) (hf : formOf op = some ⟨word, fa, fb, fn⟩) (hs : l.length ≤ 1000000000) (h : 999 < a) :
    Calls Tryd.prog 31 #[.agg #[.int .i64 op, .int .i64 a, .int .i64 b', .string ⟨l.toArray⟩]] w fun e w' => e = .returned (.string ⟨#[]⟩) ∧ Below w.heap.size w w' := by
  have HF := Lib.hid hf; clear hf
  have _ := hs
  go_enter Tryd.func31, Tryd.ntmps31
  go_wp2_with (first | (go_at_call 53; refine (formOf_some' _ _ _ _ _ _ HF.out).mono ?_; rintro e w1 ⟨rfl, hb1⟩; obtain ⟨hc1, hf1⟩ := bcell hb1; have hz1 : w.heap.size < w1.heap.size := by have := hb1.size; simp at this; omega) | (go_at_call 58; go_in))
  have HB1 := Lib.hid (bnext (bal0 w _) hb1)
  go_ret
  exact ⟨rfl, bal HB1.out _⟩
set_option maxRecDepth 100000 in
set_option maxHeartbeats 1000000 in
theorem fi_no_b1 (op a b' : Int) (l : By) (word : By) (fa fb fn : Bool) (w : World) (hf : formOf op = some ⟨word, fa, fb, fn⟩) (hs : l.length ≤ 1000000000) (h1 : -999 ≤ a) (h2 : a ≤ 999) (h : b' < 0) :
    Calls Tryd.prog 31 #[.agg #[.int .i64 op, .int .i64 a, .int .i64 b', .string ⟨l.toArray⟩]] w fun e w' => e = .returned (.string ⟨#[]⟩) ∧ Below w.heap.size w w' := by
  have HF := Lib.hid hf; clear hf
  have _ := hs
  go_enter Tryd.func31, Tryd.ntmps31
  go_wp2_with (first | (go_at_call 53; refine (formOf_some' _ _ _ _ _ _ HF.out).mono ?_; rintro e w1 ⟨rfl, hb1⟩; obtain ⟨hc1, hf1⟩ := bcell hb1; have hz1 : w.heap.size < w1.heap.size := by have := hb1.size; simp at this; omega) | (go_at_call 58; go_in))
  have HB1 := Lib.hid (bnext (bal0 w _) hb1)
  go_ret
  exact ⟨rfl, bal HB1.out _⟩
set_option maxRecDepth 100000 in
set_option maxHeartbeats 1000000 in
theorem fi_no_b2 (op a b' : Int) (l : By) (word : By) (fa fb fn : Bool) (w : World) (hf : formOf op = some ⟨word, fa, fb, fn⟩) (hs : l.length ≤ 1000000000) (h1 : -999 ≤ a) (h2 : a ≤ 999) (h : 999 < b') :
    Calls Tryd.prog 31 #[.agg #[.int .i64 op, .int .i64 a, .int .i64 b', .string ⟨l.toArray⟩]] w fun e w' => e = .returned (.string ⟨#[]⟩) ∧ Below w.heap.size w w' := by
  have HF := Lib.hid hf; clear hf
  have _ := hs
  go_enter Tryd.func31, Tryd.ntmps31
  go_wp2_with (first | (go_at_call 53; refine (formOf_some' _ _ _ _ _ _ HF.out).mono ?_; rintro e w1 ⟨rfl, hb1⟩; obtain ⟨hc1, hf1⟩ := bcell hb1; have hz1 : w.heap.size < w1.heap.size := by have := hb1.size; simp at this; omega) | (go_at_call 58; go_in))
  have HB1 := Lib.hid (bnext (bal0 w _) hb1)
  go_ret
  exact ⟨rfl, bal HB1.out _⟩
set_option maxRecDepth 100000 in
set_option maxHeartbeats 1000000 in
theorem fi_no_fa (op a b' : Int) (l : By) (word : By) (fb fn : Bool) (w : World) (hf : formOf op = some ⟨word, false, fb, fn⟩) (hs : l.length ≤ 1000000000) (h1 : -999 ≤ a) (h2 : a ≤ 999) (h3 : 0 ≤ b') (h4 : b' ≤ 999) (h : (a != 0) = true) :
    Calls Tryd.prog 31 #[.agg #[.int .i64 op, .int .i64 a, .int .i64 b', .string ⟨l.toArray⟩]] w fun e w' => e = .returned (.string ⟨#[]⟩) ∧ Below w.heap.size w w' := by
  have HF := Lib.hid hf; clear hf
  have _ := hs
  go_enter Tryd.func31, Tryd.ntmps31
  go_wp2_with (first | (go_at_call 53; refine (formOf_some' _ _ _ _ _ _ HF.out).mono ?_; rintro e w1 ⟨rfl, hb1⟩; obtain ⟨hc1, hf1⟩ := bcell hb1; have hz1 : w.heap.size < w1.heap.size := by have := hb1.size; simp at this; omega) | (go_at_call 58; go_in))
  have HB1 := Lib.hid (bnext (bal0 w _) hb1)
  go_ret
  exact ⟨rfl, bal HB1.out _⟩
set_option maxRecDepth 100000 in
set_option maxHeartbeats 1000000 in
theorem fi_no_fb1 (op a b' : Int) (l : By) (word : By) (fn : Bool) (w : World) (hf : formOf op = some ⟨word, true, false, fn⟩) (hs : l.length ≤ 1000000000) (h1 : -999 ≤ a) (h2 : a ≤ 999) (h3 : 0 ≤ b') (h4 : b' ≤ 999) (h : (b' != 0) = true) :
    Calls Tryd.prog 31 #[.agg #[.int .i64 op, .int .i64 a, .int .i64 b', .string ⟨l.toArray⟩]] w fun e w' => e = .returned (.string ⟨#[]⟩) ∧ Below w.heap.size w w' := by
  have HF := Lib.hid hf; clear hf
  have _ := hs
  go_enter Tryd.func31, Tryd.ntmps31
  go_wp2_with (first | (go_at_call 53; refine (formOf_some' _ _ _ _ _ _ HF.out).mono ?_; rintro e w1 ⟨rfl, hb1⟩; obtain ⟨hc1, hf1⟩ := bcell hb1; have hz1 : w.heap.size < w1.heap.size := by have := hb1.size; simp at this; omega) | (go_at_call 58; go_in))
  have HB1 := Lib.hid (bnext (bal0 w _) hb1)
  go_ret
  exact ⟨rfl, bal HB1.out _⟩
set_option maxRecDepth 100000 in
set_option maxHeartbeats 1000000 in
theorem fi_no_fb0 (op a b' : Int) (l : By) (word : By) (fn : Bool) (w : World) (hf : formOf op = some ⟨word, false, false, fn⟩) (hs : l.length ≤ 1000000000) (h1 : -999 ≤ a) (h2 : a ≤ 999) (h3 : 0 ≤ b') (h4 : b' ≤ 999) (ha : a = 0) (h : (b' != 0) = true) :
    Calls Tryd.prog 31 #[.agg #[.int .i64 op, .int .i64 a, .int .i64 b', .string ⟨l.toArray⟩]] w fun e w' => e = .returned (.string ⟨#[]⟩) ∧ Below w.heap.size w w' := by
  subst ha
  have HF := Lib.hid hf; clear hf
  have _ := hs
  go_enter Tryd.func31, Tryd.ntmps31
  go_wp2_with (first | (go_at_call 53; refine (formOf_some' _ _ _ _ _ _ HF.out).mono ?_; rintro e w1 ⟨rfl, hb1⟩; obtain ⟨hc1, hf1⟩ := bcell hb1; have hz1 : w.heap.size < w1.heap.size := by have := hb1.size; simp at this; omega) | (go_at_call 58; go_in))
  have HB1 := Lib.hid (bnext (bal0 w _) hb1)
  go_ret
  exact ⟨rfl, bal HB1.out _⟩
set_option maxRecDepth 100000 in
set_option maxHeartbeats 1000000 in
theorem fi_no_n110 (op a b' : Int) (l : By) (word : By) (w : World) (hf : formOf op = some ⟨word, true, true, false⟩) (hs : l.length ≤ 1000000000) (h1 : -999 ≤ a) (h2 : a ≤ 999) (h3 : 0 ≤ b') (h4 : b' ≤ 999) (h : l.isEmpty = false) :
    Calls Tryd.prog 31 #[.agg #[.int .i64 op, .int .i64 a, .int .i64 b', .string ⟨l.toArray⟩]] w fun e w' => e = .returned (.string ⟨#[]⟩) ∧ Below w.heap.size w w' := by
  have HF := Lib.hid hf; clear hf
  have _ := hs
  go_enter Tryd.func31, Tryd.ntmps31
  go_wp2_with (first | (go_at_call 53; refine (formOf_some' _ _ _ _ _ _ HF.out).mono ?_; rintro e w1 ⟨rfl, hb1⟩; obtain ⟨hc1, hf1⟩ := bcell hb1; have hz1 : w.heap.size < w1.heap.size := by have := hb1.size; simp at this; omega) | (go_at_call 58; go_in))
  have HB1 := Lib.hid (bnext (bal0 w _) hb1)
  go_ret
  exact ⟨rfl, bal HB1.out _⟩
set_option maxRecDepth 100000 in
set_option maxHeartbeats 1000000 in
theorem fi_no_n100 (op a b' : Int) (l : By) (word : By) (w : World) (hf : formOf op = some ⟨word, true, false, false⟩) (hs : l.length ≤ 1000000000) (h1 : -999 ≤ a) (h2 : a ≤ 999) (h3 : 0 ≤ b') (h4 : b' ≤ 999) (hb : b' = 0) (h : l.isEmpty = false) :
    Calls Tryd.prog 31 #[.agg #[.int .i64 op, .int .i64 a, .int .i64 b', .string ⟨l.toArray⟩]] w fun e w' => e = .returned (.string ⟨#[]⟩) ∧ Below w.heap.size w w' := by
  subst hb
  have HF := Lib.hid hf; clear hf
  have _ := hs
  go_enter Tryd.func31, Tryd.ntmps31
  go_wp2_with (first | (go_at_call 53; refine (formOf_some' _ _ _ _ _ _ HF.out).mono ?_; rintro e w1 ⟨rfl, hb1⟩; obtain ⟨hc1, hf1⟩ := bcell hb1; have hz1 : w.heap.size < w1.heap.size := by have := hb1.size; simp at this; omega) | (go_at_call 58; go_in))
  have HB1 := Lib.hid (bnext (bal0 w _) hb1)
  go_ret
  exact ⟨rfl, bal HB1.out _⟩
set_option maxRecDepth 100000 in
set_option maxHeartbeats 1000000 in
theorem fi_no_n000 (op a b' : Int) (l : By) (word : By) (w : World) (hf : formOf op = some ⟨word, false, false, false⟩) (hs : l.length ≤ 1000000000) (h1 : -999 ≤ a) (h2 : a ≤ 999) (h3 : 0 ≤ b') (h4 : b' ≤ 999) (ha : a = 0) (hb : b' = 0) (h : l.isEmpty = false) :
    Calls Tryd.prog 31 #[.agg #[.int .i64 op, .int .i64 a, .int .i64 b', .string ⟨l.toArray⟩]] w fun e w' => e = .returned (.string ⟨#[]⟩) ∧ Below w.heap.size w w' := by
  subst ha
  subst hb
  have HF := Lib.hid hf; clear hf
  have _ := hs
  go_enter Tryd.func31, Tryd.ntmps31
  go_wp2_with (first | (go_at_call 53; refine (formOf_some' _ _ _ _ _ _ HF.out).mono ?_; rintro e w1 ⟨rfl, hb1⟩; obtain ⟨hc1, hf1⟩ := bcell hb1; have hz1 : w.heap.size < w1.heap.size := by have := hb1.size; simp at this; omega) | (go_at_call 58; go_in))
  have HB1 := Lib.hid (bnext (bal0 w _) hb1)
  go_ret
  exact ⟨rfl, bal HB1.out _⟩
set_option maxRecDepth 100000 in
set_option maxHeartbeats 1000000 in
theorem fi_no_m111 (op a b' : Int) (l : By) (word : By) (w : World) (hf : formOf op = some ⟨word, true, true, true⟩) (hs : l.length ≤ 1000000000) (h1 : -999 ≤ a) (h2 : a ≤ 999) (h3 : 0 ≤ b') (h4 : b' ≤ 999) (hn : nameOk l = false) :
    Calls Tryd.prog 31 #[.agg #[.int .i64 op, .int .i64 a, .int .i64 b', .string ⟨l.toArray⟩]] w fun e w' => e = .returned (.string ⟨#[]⟩) ∧ Below w.heap.size w w' := by
  have HF := Lib.hid hf; clear hf
  have HN := Lib.hid hn; clear hn
  go_enter Tryd.func31, Tryd.ntmps31
  go_wp2_with (first | (go_at_call 53; refine (formOf_some' _ _ _ _ _ _ HF.out).mono ?_; rintro e w1 ⟨rfl, hb1⟩; obtain ⟨hc1, hf1⟩ := bcell hb1; have hz1 : w.heap.size < w1.heap.size := by have := hb1.size; simp at this; omega) | (go_at_call 58; go_in))
  have HB1 := Lib.hid (bnext (bal0 w _) hb1)
  refine (implNameValid_any _ _ (by omega)).mono ?_
  rintro e w2 ⟨rfl, hb2⟩
  rw [HN.out]
  have HB2 := Lib.hid (bnext (bal HB1.out _) hb2)
  go_wp2_with fail
  go_ret
  exact ⟨rfl, HB2.out⟩
set_option maxRecDepth 100000 in
set_option maxHeartbeats 1000000 in
theorem fi_no_m101 (op a b' : Int) (l : By) (word : By) (w : World) (hf : formOf op = some ⟨word, true, false, true⟩) (hs : l.length ≤ 1000000000) (h1 : -999 ≤ a) (h2 : a ≤ 999) (h3 : 0 ≤ b') (h4 : b' ≤ 999) (hb : b' = 0) (hn : nameOk l = false) :
    Calls Tryd.prog 31 #[.agg #[.int .i64 op, .int .i64 a, .int .i64 b', .string ⟨l.toArray⟩]] w fun e w' => e = .returned (.string ⟨#[]⟩) ∧ Below w.heap.size w w' := by
  subst hb
  have HF := Lib.hid hf; clear hf
  have HN := Lib.hid hn; clear hn
  go_enter Tryd.func31, Tryd.ntmps31
  go_wp2_with (first | (go_at_call 53; refine (formOf_some' _ _ _ _ _ _ HF.out).mono ?_; rintro e w1 ⟨rfl, hb1⟩; obtain ⟨hc1, hf1⟩ := bcell hb1; have hz1 : w.heap.size < w1.heap.size := by have := hb1.size; simp at this; omega) | (go_at_call 58; go_in))
  have HB1 := Lib.hid (bnext (bal0 w _) hb1)
  refine (implNameValid_any _ _ (by omega)).mono ?_
  rintro e w2 ⟨rfl, hb2⟩
  rw [HN.out]
  have HB2 := Lib.hid (bnext (bal HB1.out _) hb2)
  go_wp2_with fail
  go_ret
  exact ⟨rfl, HB2.out⟩
set_option maxRecDepth 100000 in
theorem fi_none (op a b' : Int) (l : By) (w : World) (hf : formOf op = none) (hs : l.length ≤ 1000000000) :
    Calls Tryd.prog 31 #[.agg #[.int .i64 op, .int .i64 a, .int .i64 b', .string ⟨l.toArray⟩]] w fun e w' => e = .returned (.string ⟨#[]⟩) ∧ Below w.heap.size w w' := by
  have HF := Lib.hid hf; clear hf
  have _ := hs
  go_enter Tryd.func31, Tryd.ntmps31
  go_wp2_with (first | (go_at_call 53; refine (formOf_none _ _ HF.out).mono ?_; unfold frmNo; rintro e w1 ⟨rfl, hb1⟩; obtain ⟨hc1, hf1⟩ := bcell hb1; have hz1 : w.heap.size < w1.heap.size := by have := hb1.size; simp at this; omega))
  go_ret
  exact ⟨rfl, bal (bnext (bal0 w _) hb1) _⟩
theorem formOf_word (op : Int) (word : By) (fa fb fn : Bool) (h : formOf op = some ⟨word, fa, fb, fn⟩) : word.length ≤ 100 ∧ ((fa = true ∧ fb = true ∧ fn = false) ∨ (fa = true ∧ fb = true ∧ fn = true) ∨ (fa = true ∧ fb = false ∧ fn = false) ∨ (fa = true ∧ fb = false ∧ fn = true) ∨ (fa = false ∧ fb = false ∧ fn = false)) := by
  unfold formOf at h
  by_cases c1 : op = 1
  · rw [if_pos c1] at h; cases h; simp
  rw [if_neg c1] at h
  by_cases c2 : op = 2
  · rw [if_pos c2] at h; cases h; simp
  rw [if_neg c2] at h
  by_cases c3 : op = 3
  · rw [if_pos c3] at h; cases h; simp
  rw [if_neg c3] at h
  by_cases c4 : op = 4
  · rw [if_pos c4] at h; cases h; simp
  rw [if_neg c4] at h
  by_cases c5 : op = 5
  · rw [if_pos c5] at h; cases h; simp
  rw [if_neg c5] at h
  by_cases c6 : op = 6
  · rw [if_pos c6] at h; cases h; simp
  rw [if_neg c6] at h
  by_cases c7 : op = 7
  · rw [if_pos c7] at h; cases h; simp
  rw [if_neg c7] at h
  by_cases c8 : op = 8
  · rw [if_pos c8] at h; cases h; simp
  rw [if_neg c8] at h
  by_cases c9 : op = 9
  · rw [if_pos c9] at h; cases h; simp
  rw [if_neg c9] at h
  by_cases c10 : op = 10
  · rw [if_pos c10] at h; cases h; simp
  rw [if_neg c10] at h
  by_cases c11 : op = 11
  · rw [if_pos c11] at h; cases h; simp
  rw [if_neg c11] at h
  by_cases c12 : op = 12
  · rw [if_pos c12] at h; cases h; simp
  rw [if_neg c12] at h
  by_cases c13 : op = 13
  · rw [if_pos c13] at h; cases h; simp
  rw [if_neg c13] at h
  by_cases c14 : op = 14
  · rw [if_pos c14] at h; cases h; simp
  rw [if_neg c14] at h
  cases h
theorem formOf_ne (op : Int) (word : By) (fa fb fn : Bool) (h : formOf op = some ⟨word, fa, fb, fn⟩) : word.isEmpty = false := by
  unfold formOf at h
  by_cases c1 : op = 1
  · rw [if_pos c1] at h; cases h; rfl
  rw [if_neg c1] at h
  by_cases c2 : op = 2
  · rw [if_pos c2] at h; cases h; rfl
  rw [if_neg c2] at h
  by_cases c3 : op = 3
  · rw [if_pos c3] at h; cases h; rfl
  rw [if_neg c3] at h
  by_cases c4 : op = 4
  · rw [if_pos c4] at h; cases h; rfl
  rw [if_neg c4] at h
  by_cases c5 : op = 5
  · rw [if_pos c5] at h; cases h; rfl
  rw [if_neg c5] at h
  by_cases c6 : op = 6
  · rw [if_pos c6] at h; cases h; rfl
  rw [if_neg c6] at h
  by_cases c7 : op = 7
  · rw [if_pos c7] at h; cases h; rfl
  rw [if_neg c7] at h
  by_cases c8 : op = 8
  · rw [if_pos c8] at h; cases h; rfl
  rw [if_neg c8] at h
  by_cases c9 : op = 9
  · rw [if_pos c9] at h; cases h; rfl
  rw [if_neg c9] at h
  by_cases c10 : op = 10
  · rw [if_pos c10] at h; cases h; rfl
  rw [if_neg c10] at h
  by_cases c11 : op = 11
  · rw [if_pos c11] at h; cases h; rfl
  rw [if_neg c11] at h
  by_cases c12 : op = 12
  · rw [if_pos c12] at h; cases h; rfl
  rw [if_neg c12] at h
  by_cases c13 : op = 13
  · rw [if_pos c13] at h; cases h; rfl
  rw [if_neg c13] at h
  by_cases c14 : op = 14
  · rw [if_pos c14] at h; cases h; rfl
  rw [if_neg c14] at h
  cases h
/-- FormatInstr, in one contract -/
theorem formatInstr_any (op a b' : Int) (l : By) (w : World) (ht : Tb w) (hs : l.length ≤ 1000000000) :
    Calls Tryd.prog 31 #[.agg #[.int .i64 op, .int .i64 a, .int .i64 b', .string ⟨l.toArray⟩]] w fun e w' => e = .returned (.string ⟨(insText ⟨op, a, b', l⟩).toArray⟩) ∧ Below w.heap.size w w' := by
  cases hf : formOf op with
  | none => rw [(insText_none op a b' l hf).1]; exact fi_none op a b' l w hf hs
  | some f =>
    obtain ⟨word, fa, fb, fn⟩ := f
    obtain ⟨hw, hsh⟩ := formOf_word op word fa fb fn hf
    by_cases hc : insCond ⟨word, fa, fb, fn⟩ a b' l
    · obtain ⟨h1, h2, h3, h4, h5, h6, h7⟩ := hc
      rcases hsh with ⟨rfl, rfl, rfl⟩ | ⟨rfl, rfl, rfl⟩ | ⟨rfl, rfl, rfl⟩ | ⟨rfl, rfl, rfl⟩ | ⟨rfl, rfl, rfl⟩
      · exact fi_110 op a b' l word w ht hf hs hw h1 h2 h3 h4 (by simpa using h7)
      · exact fi_111 op a b' l word w ht hf hs hw h1 h2 h3 h4 (by simpa using h7)
      · exact fi_100 op a b' l word w ht hf hs hw h1 h2 h3 h4 (by simpa using h6) (by simpa using h7)
      · exact fi_101 op a b' l word w ht hf hs hw h1 h2 h3 h4 (by simpa using h6) (by simpa using h7)
      · exact fi_000 op a b' l word w ht hf hs hw h1 h2 h3 h4 (by simpa using h5) (by simpa using h6) (by simpa using h7)
    · rw [insText_no op a b' l _ hf hc]
      by_cases h1 : -999 ≤ a
      · by_cases h2 : a ≤ 999
        · by_cases h3 : 0 ≤ b'
          · by_cases h4 : b' ≤ 999
            · rcases hsh with ⟨rfl, rfl, rfl⟩ | ⟨rfl, rfl, rfl⟩ | ⟨rfl, rfl, rfl⟩ | ⟨rfl, rfl, rfl⟩ | ⟨rfl, rfl, rfl⟩
              · exact fi_no_n110 op a b' l word w hf hs h1 h2 h3 h4 (by cases l with | nil => exact absurd ⟨h1, h2, h3, h4, by simp, by simp, by simp⟩ hc | cons c r => rfl)
              · exact fi_no_m111 op a b' l word w hf hs h1 h2 h3 h4 (by cases hn : nameOk l; rfl; exact absurd ⟨h1, h2, h3, h4, by simp, by simp, by simp [hn]⟩ hc)
              · by_cases hb0 : b' = 0
                · exact fi_no_n100 op a b' l word w hf hs h1 h2 h3 h4 hb0 (by cases l with | nil => exact absurd ⟨h1, h2, h3, h4, by simp, by simp [hb0], by simp⟩ hc | cons c r => rfl)
                · exact fi_no_fb1 op a b' l word _ w hf hs h1 h2 h3 h4 (by simp [hb0])
              · by_cases hb0 : b' = 0
                · exact fi_no_m101 op a b' l word w hf hs h1 h2 h3 h4 hb0 (by cases hn : nameOk l; rfl; exact absurd ⟨h1, h2, h3, h4, by simp, by simp [hb0], by simp [hn]⟩ hc)
                · exact fi_no_fb1 op a b' l word _ w hf hs h1 h2 h3 h4 (by simp [hb0])
              · by_cases ha0 : a = 0
                · by_cases hb0 : b' = 0
                  · exact fi_no_n000 op a b' l word w hf hs h1 h2 h3 h4 ha0 hb0 (by cases l with | nil => exact absurd ⟨h1, h2, h3, h4, by simp [ha0], by simp [hb0], by simp⟩ hc | cons c r => rfl)
                  · exact fi_no_fb0 op a b' l word _ w hf hs h1 h2 h3 h4 ha0 (by simp [hb0])
                · exact fi_no_fa op a b' l word _ _ w hf hs h1 h2 h3 h4 (by simp [ha0])
            · exact fi_no_b2 op a b' l word _ _ _ w hf hs h1 h2 (by omega)
          · exact fi_no_b1 op a b' l word _ _ _ w hf hs h1 h2 (by omega)
        · exact fi_no_a2 op a b' l word _ _ _ w hf hs (by omega)
      · exact fi_no_a1 op a b' l word _ _ _ w hf hs (by omega)
end Go.Proofs.YtlknhjibadbeeaaDoor
