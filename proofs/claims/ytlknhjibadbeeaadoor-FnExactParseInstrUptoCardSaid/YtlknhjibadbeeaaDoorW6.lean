/- Walks of the reference's FormatInstr. -/
import Derived.Test.YtlknhjibadbeeaaDoorW5
import Derived.Deep.RegionWith
import Derived.ChangeAlike
namespace Go.Proofs.YtlknhjibadbeeaaDoor
open Go.RowKit

attribute [local go_sem] ba_get ba_append
def nameCells : Array Value := #[.string ⟨#[]⟩, .string ⟨#[103, 101, 116, 118, 97, 108]⟩, .string ⟨#[103, 101, 116, 105, 110, 116]⟩, .string ⟨#[103, 101, 116, 115, 116, 114]⟩, .string ⟨#[117, 110, 105, 118, 97, 114]⟩, .string ⟨#[117, 110, 105, 118, 97, 108]⟩, .string ⟨#[117, 110, 105, 105, 110, 116]⟩, .string ⟨#[115, 101, 116, 115, 116, 114]⟩, .string ⟨#[112, 117, 116, 118, 97, 114]⟩, .string ⟨#[112, 117, 116, 118, 97, 108]⟩, .string ⟨#[112, 117, 116, 105, 110, 116]⟩, .string ⟨#[99, 97, 108, 108]⟩, .string ⟨#[98, 117, 105, 108, 116]⟩, .string ⟨#[99, 117, 116]⟩, .string ⟨#[101, 110, 100]⟩]
theorem l8Names_any (w : World) :
    Calls Tryd.prog 49 #[] w fun e w' => e = .returned (.slice (some ⟨w.heap.size, 0, none⟩) 15 15) ∧ w.alloc (.cells nameCells 9) = w' := by
  go_enter Tryd.func49, Tryd.ntmps49
  go_wp2
  go_ret
  exact ⟨rfl, rfl⟩
theorem name_cell (op : Int) (word : By) (fa fb fn : Bool) (w : World) (h : formOf op = some ⟨word, fa, fb, fn⟩) : (w.alloc (.cells nameCells 9)).cell? ⟨w.heap.size, op.toNat, none⟩ = some (.string ⟨word.toArray⟩) ∧ 0 ≤ op ∧ op < 15 := by
  rw [World.cell?_alloc_at (hn := rfl)]
  unfold formOf at h
  by_cases c1 : op = 1
  · rw [if_pos c1] at h; cases h; rw [c1]; exact ⟨rfl, by decide, by decide⟩
  rw [if_neg c1] at h
  by_cases c2 : op = 2
  · rw [if_pos c2] at h; cases h; rw [c2]; exact ⟨rfl, by decide, by decide⟩
  rw [if_neg c2] at h
  by_cases c3 : op = 3
  · rw [if_pos c3] at h; cases h; rw [c3]; exact ⟨rfl, by decide, by decide⟩
  rw [if_neg c3] at h
  by_cases c4 : op = 4
  · rw [if_pos c4] at h; cases h; rw [c4]; exact ⟨rfl, by decide, by decide⟩
  rw [if_neg c4] at h
  by_cases c5 : op = 5
  · rw [if_pos c5] at h; cases h; rw [c5]; exact ⟨rfl, by decide, by decide⟩
  rw [if_neg c5] at h
  by_cases c6 : op = 6
  · rw [if_pos c6] at h; cases h; rw [c6]; exact ⟨rfl, by decide, by decide⟩
  rw [if_neg c6] at h
  by_cases c7 : op = 7
  · rw [if_pos c7] at h; cases h; rw [c7]; exact ⟨rfl, by decide, by decide⟩
  rw [if_neg c7] at h
  by_cases c8 : op = 8
  · rw [if_pos c8] at h; cases h; rw [c8]; exact ⟨rfl, by decide, by decide⟩
  rw [if_neg c8] at h
  by_cases c9 : op = 9
  · rw [if_pos c9] at h; cases h; rw [c9]; exact ⟨rfl, by decide, by decide⟩
  rw [if_neg c9] at h
  by_cases c10 : op = 10
  · rw [if_pos c10] at h; cases h; rw [c10]; exact ⟨rfl, by decide, by decide⟩
  rw [if_neg c10] at h
  by_cases c11 : op = 11
  · rw [if_pos c11] at h; cases h; rw [c11]; exact ⟨rfl, by decide, by decide⟩
  rw [if_neg c11] at h
  by_cases c12 : op = 12
  · rw [if_pos c12] at h; cases h; rw [c12]; exact ⟨rfl, by decide, by decide⟩
  rw [if_neg c12] at h
  by_cases c13 : op = 13
  · rw [if_pos c13] at h; cases h; rw [c13]; exact ⟨rfl, by decide, by decide⟩
  rw [if_neg c13] at h
  by_cases c14 : op = 14
  · rw [if_pos c14] at h; cases h; rw [c14]; exact ⟨rfl, by decide, by decide⟩
  rw [if_neg c14] at h
  cases h
set_option maxRecDepth 100000 in
set_option maxHeartbeats 1000000 in
theorem sfi_110 (op a b' : Int) (l : By) (word : By) (w : World) (hf : formOf op = some ⟨word, true, true, false⟩) (hs : l.length ≤ 1000000000) (hc : insCond ⟨word, true, true, false⟩ a b' l) :
    Calls Tryd.prog 29 #[.agg #[.int .i64 op, .int .i64 a, .int .i64 b', .string ⟨l.toArray⟩]] w fun e w' => e = .returned (.string ⟨(insText ⟨op, a, b', l⟩).toArray⟩) ∧ Below w.heap.size w w' := by
  have HE := Lib.hid (insText_yes op a b' l _ hf hc)
  have HO := Lib.hid ((insOk_iff op a b' l _ hf).2 hc)
  obtain ⟨h1, h2, h3, h4, -, -, -⟩ := hc
  have hw := (formOf_word op word _ _ _ hf).1
  have la := itoa_len a (by omega) (by omega)
  have lb := itoa_len b' (by omega) (by omega)
  obtain ⟨-, hop0, hop1⟩ := name_cell op word _ _ _ w hf
  have HF := Lib.hid hf; clear hf
  go_enter Tryd.func29, Tryd.ntmps29
  go_wp2_with fail
  refine (l8Instr_any _ _ _ _ _ hs).mono ?_
  rintro e w1 ⟨rfl, hb1⟩
  rw [HO.out]
  obtain ⟨hc1, hf1⟩ := bcell hb1
  have HB1 := Lib.hid (bnext (bal0 w _) hb1)
  have hz1 := bsz w.heap.size hb1 (by first | omega | (simp; omega) | simp)
  have hn1 := fun W => (name_cell op word _ _ _ W HF.out).1
  go_wp2_with fail
  go_region_with (go_at_call 49; refine (l8Names_any _).mono ?_; rintro e w2 ⟨rfl, rfl⟩)
  all_goals
    go_wp2_with (go_at_call 50; refine (l8Shape_some _ _ _ _ _ _ HF.out).mono ?_; rintro e w3 ⟨rfl, rfl⟩; rw [show shp true true false = [97, 98] from rfl])
    refine (l1Dec_any _ _ (by omega) (by omega)).mono ?_
    rintro e w4 ⟨rfl, hb4⟩
    have HB4 := Lib.hid (bnext (by first | exact bal HB1.out _ | exact (bal HB1.out _).drew | exact bal HB1.out.drew _) hb4)
    obtain ⟨hc4, hf4⟩ := bcell hb4
    have hz4 := bsz w.heap.size hb4 (by first | omega | (simp; omega) | simp)
    go_wp2_with fail
    refine (l1Dec_any _ _ (by omega) (by omega)).mono ?_
    rintro e w5 ⟨rfl, hb5⟩
    have HB5 := Lib.hid (bnext HB4.out hb5)
    obtain ⟨hc5, hf5⟩ := bcell hb5
    have hz5 := bsz w.heap.size hb5 (by first | omega | (simp; omega) | simp)
    go_wp2_with fail
    go_ret
    exact ⟨ret_str (by rw [HE.out]; simp), HB5.out⟩
set_option maxRecDepth 100000 in
set_option maxHeartbeats 1000000 in
theorem sfi_111 (op a b' : Int) (l : By) (word : By) (w : World) (hf : formOf op = some ⟨word, true, true, true⟩) (hs : l.length ≤ 1000000000) (hc : insCond ⟨word, true, true, true⟩ a b' l) :
    Calls Tryd.prog 29 #[.agg #[.int .i64 op, .int .i64 a, .int .i64 b', .string ⟨l.toArray⟩]] w fun e w' => e = .returned (.string ⟨(insText ⟨op, a, b', l⟩).toArray⟩) ∧ Below w.heap.size w w' := by
  have HE := Lib.hid (insText_yes op a b' l _ hf hc)
  have HO := Lib.hid ((insOk_iff op a b' l _ hf).2 hc)
  obtain ⟨h1, h2, h3, h4, -, -, -⟩ := hc
  have hw := (formOf_word op word _ _ _ hf).1
  have la := itoa_len a (by omega) (by omega)
  have lb := itoa_len b' (by omega) (by omega)
  obtain ⟨-, hop0, hop1⟩ := name_cell op word _ _ _ w hf
  have HF := Lib.hid hf; clear hf
  go_enter Tryd.func29, Tryd.ntmps29
  go_wp2_with fail
  refine (l8Instr_any _ _ _ _ _ hs).mono ?_
  rintro e w1 ⟨rfl, hb1⟩
  rw [HO.out]
  obtain ⟨hc1, hf1⟩ := bcell hb1
  have HB1 := Lib.hid (bnext (bal0 w _) hb1)
  have hz1 := bsz w.heap.size hb1 (by first | omega | (simp; omega) | simp)
  have hn1 := fun W => (name_cell op word _ _ _ W HF.out).1
  go_wp2_with fail
  go_region_with (go_at_call 49; refine (l8Names_any _).mono ?_; rintro e w2 ⟨rfl, rfl⟩)
  all_goals
    go_wp2_with (go_at_call 50; refine (l8Shape_some _ _ _ _ _ _ HF.out).mono ?_; rintro e w3 ⟨rfl, rfl⟩; rw [show shp true true true = [97, 98, 110] from rfl])
    refine (l1Dec_any _ _ (by omega) (by omega)).mono ?_
    rintro e w4 ⟨rfl, hb4⟩
    have HB4 := Lib.hid (bnext (by first | exact bal HB1.out _ | exact (bal HB1.out _).drew | exact bal HB1.out.drew _) hb4)
    obtain ⟨hc4, hf4⟩ := bcell hb4
    have hz4 := bsz w.heap.size hb4 (by first | omega | (simp; omega) | simp)
    go_wp2_with fail
    refine (l1Dec_any _ _ (by omega) (by omega)).mono ?_
    rintro e w5 ⟨rfl, hb5⟩
    have HB5 := Lib.hid (bnext HB4.out hb5)
    obtain ⟨hc5, hf5⟩ := bcell hb5
    have hz5 := bsz w.heap.size hb5 (by first | omega | (simp; omega) | simp)
    go_wp2_with fail
    go_ret
    exact ⟨ret_str (by rw [HE.out]; simp), HB5.out⟩
set_option maxRecDepth 100000 in
set_option maxHeartbeats 1000000 in
theorem sfi_100 (op a b' : Int) (l : By) (word : By) (w : World) (hf : formOf op = some ⟨word, true, false, false⟩) (hs : l.length ≤ 1000000000) (hc : insCond ⟨word, true, false, false⟩ a b' l) :
    Calls Tryd.prog 29 #[.agg #[.int .i64 op, .int .i64 a, .int .i64 b', .string ⟨l.toArray⟩]] w fun e w' => e = .returned (.string ⟨(insText ⟨op, a, b', l⟩).toArray⟩) ∧ Below w.heap.size w w' := by
  have HE := Lib.hid (insText_yes op a b' l _ hf hc)
  have HO := Lib.hid ((insOk_iff op a b' l _ hf).2 hc)
  obtain ⟨h1, h2, h3, h4, -, -, -⟩ := hc
  have hw := (formOf_word op word _ _ _ hf).1
  have la := itoa_len a (by omega) (by omega)
  have lb := itoa_len b' (by omega) (by omega)
  obtain ⟨-, hop0, hop1⟩ := name_cell op word _ _ _ w hf
  have HF := Lib.hid hf; clear hf
  go_enter Tryd.func29, Tryd.ntmps29
  go_wp2_with fail
  refine (l8Instr_any _ _ _ _ _ hs).mono ?_
  rintro e w1 ⟨rfl, hb1⟩
  rw [HO.out]
  obtain ⟨hc1, hf1⟩ := bcell hb1
  have HB1 := Lib.hid (bnext (bal0 w _) hb1)
  have hz1 := bsz w.heap.size hb1 (by first | omega | (simp; omega) | simp)
  have hn1 := fun W => (name_cell op word _ _ _ W HF.out).1
  go_wp2_with fail
  go_region_with (go_at_call 49; refine (l8Names_any _).mono ?_; rintro e w2 ⟨rfl, rfl⟩)
  all_goals
    go_wp2_with (go_at_call 50; refine (l8Shape_some _ _ _ _ _ _ HF.out).mono ?_; rintro e w3 ⟨rfl, rfl⟩; rw [show shp true false false = [97] from rfl])
    refine (l1Dec_any _ _ (by omega) (by omega)).mono ?_
    rintro e w4 ⟨rfl, hb4⟩
    have HB4 := Lib.hid (bnext (by first | exact bal HB1.out _ | exact (bal HB1.out _).drew | exact bal HB1.out.drew _) hb4)
    obtain ⟨hc4, hf4⟩ := bcell hb4
    have hz4 := bsz w.heap.size hb4 (by first | omega | (simp; omega) | simp)
    go_wp2_with fail
    go_ret
    exact ⟨ret_str (by rw [HE.out]; simp), HB4.out⟩
set_option maxRecDepth 100000 in
set_option maxHeartbeats 1000000 in
theorem sfi_101 (op a b' : Int) (l : By) (word : By) (w : World) (hf : formOf op = some ⟨word, true, false, true⟩) (hs : l.length ≤ 1000000000) (hc : insCond ⟨word, true, false, true⟩ a b' l) :
    Calls Tryd.prog 29 #[.agg #[.int .i64 op, .int .i64 a, .int .i64 b', .string ⟨l.toArray⟩]] w fun e w' => e = .returned (.string ⟨(insText ⟨op, a, b', l⟩).toArray⟩) ∧ Below w.heap.size w w' := by
  have HE := Lib.hid (insText_yes op a b' l _ hf hc)
  have HO := Lib.hid ((insOk_iff op a b' l _ hf).2 hc)
  obtain ⟨h1, h2, h3, h4, -, -, -⟩ := hc
  have hw := (formOf_word op word _ _ _ hf).1
  have la := itoa_len a (by omega) (by omega)
  have lb := itoa_len b' (by omega) (by omega)
  obtain ⟨-, hop0, hop1⟩ := name_cell op word _ _ _ w hf
  have HF := Lib.hid hf; clear hf
  go_enter Tryd.func29, Tryd.ntmps29
  go_wp2_with fail
  refine (l8Instr_any _ _ _ _ _ hs).mono ?_
  rintro e w1 ⟨rfl, hb1⟩
  rw [HO.out]
  obtain ⟨hc1, hf1⟩ := bcell hb1
  have HB1 := Lib.hid (bnext (bal0 w _) hb1)
  have hz1 := bsz w.heap.size hb1 (by first | omega | (simp; omega) | simp)
  have hn1 := fun W => (name_cell op word _ _ _ W HF.out).1
  go_wp2_with fail
  go_region_with (go_at_call 49; refine (l8Names_any _).mono ?_; rintro e w2 ⟨rfl, rfl⟩)
  all_goals
    go_wp2_with (go_at_call 50; refine (l8Shape_some _ _ _ _ _ _ HF.out).mono ?_; rintro e w3 ⟨rfl, rfl⟩; rw [show shp true false true = [97, 110] from rfl])
    refine (l1Dec_any _ _ (by omega) (by omega)).mono ?_
    rintro e w4 ⟨rfl, hb4⟩
    have HB4 := Lib.hid (bnext (by first | exact bal HB1.out _ | exact (bal HB1.out _).drew | exact bal HB1.out.drew _) hb4)
    obtain ⟨hc4, hf4⟩ := bcell hb4
    have hz4 := bsz w.heap.size hb4 (by first | omega | (simp; omega) | simp)
    go_wp2_with fail
    go_ret
    exact ⟨ret_str (by rw [HE.out]; simp), HB4.out⟩
set_option maxRecDepth 100000 in
set_option maxHeartbeats 1000000 in
theorem sfi_000 (op a b' : Int) (l : By) (word : By) (w : World) (hf : formOf op = some ⟨word, false, false, false⟩) (hs : l.length ≤ 1000000000) (hc : insCond ⟨word, false, false, false⟩ a b' l) :
    Calls Tryd.prog 29 #[.agg #[.int .i64 op, .int .i64 a, .int .i64 b', .string ⟨l.toArray⟩]] w fun e w' => e = .returned (.string ⟨(insText ⟨op, a, b', l⟩).toArray⟩) ∧ Below w.heap.size w w' := by
  have HE := Lib.hid (insText_yes op a b' l _ hf hc)
  have HO := Lib.hid ((insOk_iff op a b' l _ hf).2 hc)
  obtain ⟨h1, h2, h3, h4, -, -, -⟩ := hc
  have hw := (formOf_word op word _ _ _ hf).1
  have la := itoa_len a (by omega) (by omega)
  have lb := itoa_len b' (by omega) (by omega)
  obtain ⟨-, hop0, hop1⟩ := name_cell op word _ _ _ w hf
  have HF := Lib.hid hf; clear hf
  go_enter Tryd.func29, Tryd.ntmps29
  go_wp2_with fail
  refine (l8Instr_any _ _ _ _ _ hs).mono ?_
  rintro e w1 ⟨rfl, hb1⟩
  rw [HO.out]
  obtain ⟨hc1, hf1⟩ := bcell hb1
  have HB1 := Lib.hid (bnext (bal0 w _) hb1)
  have hz1 := bsz w.heap.size hb1 (by first | omega | (simp; omega) | simp)
  have hn1 := fun W => (name_cell op word _ _ _ W HF.out).1
  go_wp2_with fail
  go_region_with (go_at_call 49; refine (l8Names_any _).mono ?_; rintro e w2 ⟨rfl, rfl⟩)
  all_goals
    go_wp2_with (go_at_call 50; refine (l8Shape_some _ _ _ _ _ _ HF.out).mono ?_; rintro e w3 ⟨rfl, rfl⟩; rw [show shp false false false = [] from rfl])
    go_ret
    exact ⟨ret_str (by rw [HE.out]; simp), (by first | exact bal HB1.out _ | exact (bal HB1.out _).drew | exact bal HB1.out.drew _)⟩
set_option maxRecDepth 100000 in
theorem sfi_no (op a b' : Int) (l : By) (w : World) (hs : l.length ≤ 1000000000) (hc : insOk ⟨op, a, b', l⟩ = false) :
    Calls Tryd.prog 29 #[.agg #[.int .i64 op, .int .i64 a, .int .i64 b', .string ⟨l.toArray⟩]] w fun e w' => e = .returned (.string ⟨#[]⟩) ∧ Below w.heap.size w w' := by
  have HO := Lib.hid hc; clear hc
  go_enter Tryd.func29, Tryd.ntmps29
  go_wp2_with fail
  refine (l8Instr_any _ _ _ _ _ hs).mono ?_
  rintro e w1 ⟨rfl, hb1⟩
  rw [HO.out]
  go_wp2_with fail
  go_ret
  exact ⟨rfl, bnext (bal0 w _) hb1⟩
/-- the reference's FormatInstr, in one contract -/
theorem specFormatInstr_any (op a b' : Int) (l : By) (w : World) (hs : l.length ≤ 1000000000) :
    Calls Tryd.prog 29 #[.agg #[.int .i64 op, .int .i64 a, .int .i64 b', .string ⟨l.toArray⟩]] w fun e w' => e = .returned (.string ⟨(insText ⟨op, a, b', l⟩).toArray⟩) ∧ Below w.heap.size w w' := by
  cases hk : insOk ⟨op, a, b', l⟩
  · rw [show insText ⟨op, a, b', l⟩ = [] by unfold insText; rw [hk]; rfl]
    exact sfi_no op a b' l w hs hk
  · cases hf : formOf op with
    | none => rw [(insText_none op a b' l hf).2] at hk; cases hk
    | some f =>
      obtain ⟨word, fa, fb, fn⟩ := f
      have hc := (insOk_iff op a b' l _ hf).1 hk
      rcases (formOf_word op word fa fb fn hf).2 with ⟨rfl, rfl, rfl⟩ | ⟨rfl, rfl, rfl⟩ | ⟨rfl, rfl, rfl⟩ | ⟨rfl, rfl, rfl⟩ | ⟨rfl, rfl, rfl⟩
      · exact sfi_110 op a b' l word w hf hs hc
      · exact sfi_111 op a b' l word w hf hs hc
      · exact sfi_100 op a b' l word w hf hs hc
      · exact sfi_101 op a b' l word w hf hs hc
      · exact sfi_000 op a b' l word w hf hs hc
end Go.Proofs.YtlknhjibadbeeaaDoor
