/- Walks of the functions on instructions, second part: FormatInstr. -/
import Derived.Test.YtlknhjibadbeeaaDoorW2
namespace Go.Proofs.YtlknhjibadbeeaaDoor
open Go.RowKit

attribute [local go_sem] ba_get ba_append
theorem formOf_some' (op : Int) (word : By) (fa fb fn : Bool) (w : World) (h : formOf op = some ⟨word, fa, fb, fn⟩) : Calls Tryd.prog 53 #[.int .i64 op] w fun e w' => e = .returned (.tuple #[.agg #[.string ⟨word.toArray⟩, .bool fa, .bool fb, .bool fn], .bool true]) ∧ Below w.heap.size w w' := formOf_some op _ w h
theorem itoa_len (n : Int) (h0 : -1000 ≤ n) (h1 : n ≤ 1000) : (Lib.itoa n).length ≤ 2000 := by
  unfold Lib.itoa
  split
  · have := decDigits_len n.natAbs
    simp; omega
  · have := decDigits_len n.toNat
    omega
set_option maxRecDepth 100000 in
set_option maxHeartbeats 1000000 in
theorem fi_110 (op a b' : Int) (l : By) (word : By) (w : World) (ht : Tb w) (hf : formOf op = some ⟨word, true, true, false⟩) (hs : l.length ≤ 1000000000) (hw : word.length ≤ 100) (h1 : -999 ≤ a) (h2 : a ≤ 999) (h3 : 0 ≤ b') (h4 : b' ≤ 999) (hl : l = []) :
    Calls Tryd.prog 31 #[.agg #[.int .i64 op, .int .i64 a, .int .i64 b', .string ⟨l.toArray⟩]] w fun e w' => e = .returned (.string ⟨(insText ⟨op, a, b', l⟩).toArray⟩) ∧ Below w.heap.size w w' := by
  subst hl
  have HE := Lib.hid (insText_yes op a b' [] _ hf ⟨h1, h2, h3, h4, .inl rfl, .inl rfl, .inr ⟨rfl, rfl⟩⟩)
  have la := itoa_len a (by omega) (by omega)
  have lb := itoa_len b' (by omega) (by omega)
  have HF := Lib.hid hf; clear hf
  have HT := Lib.hid ht; clear ht
  go_enter Tryd.func31, Tryd.ntmps31
  go_wp2_with (first | (go_at_call 53; refine (formOf_some' _ _ _ _ _ _ HF.out).mono ?_; rintro e w1 ⟨rfl, hb1⟩; obtain ⟨hc1, hf1⟩ := bcell hb1; have hz1 : w.heap.size < w1.heap.size := by have := hb1.size; simp at this; omega) | (go_at_call 58; go_in))
  have HB1 := Lib.hid (bnext (bal0 w _) hb1)
  refine (itoa_any _ _ (by omega) (by omega) (HT.out.below (bal HB1.out _))).mono ?_
  rintro e w3 ⟨rfl, hb3⟩
  have HB3 := Lib.hid (bnext (bal HB1.out _) hb3)
  obtain ⟨hc3, hf3⟩ := bcell hb3
  have hz3 := bsz w1.heap.size hb3 (by first | omega | (simp; omega) | simp)
  have hz3' := bsz w.heap.size hb3 (by first | omega | (simp; omega) | simp)
  go_wp2_with fail
  refine (itoa_any _ _ (by omega) (by omega) (HT.out.below HB3.out)).mono ?_
  rintro e w4 ⟨rfl, hb4⟩
  have HB4 := Lib.hid (bnext HB3.out hb4)
  obtain ⟨hc4, hf4⟩ := bcell hb4
  have hz4 := bsz w1.heap.size hb4 (by first | omega | (simp; omega) | simp)
  have hz4' := bsz w.heap.size hb4 (by first | omega | (simp; omega) | simp)
  go_wp2_with fail
  go_ret
  exact ⟨ret_str (by rw [HE.out]; simp), HB4.out⟩
set_option maxRecDepth 100000 in
set_option maxHeartbeats 1000000 in
theorem fi_111 (op a b' : Int) (l : By) (word : By) (w : World) (ht : Tb w) (hf : formOf op = some ⟨word, true, true, true⟩) (hs : l.length ≤ 1000000000) (hw : word.length ≤ 100) (h1 : -999 ≤ a) (h2 : a ≤ 999) (h3 : 0 ≤ b') (h4 : b' ≤ 999) (hn : nameOk l = true) :
    Calls Tryd.prog 31 #[.agg #[.int .i64 op, .int .i64 a, .int .i64 b', .string ⟨l.toArray⟩]] w fun e w' => e = .returned (.string ⟨(insText ⟨op, a, b', l⟩).toArray⟩) ∧ Below w.heap.size w w' := by
  have HE := Lib.hid (insText_yes op a b' l _ hf ⟨h1, h2, h3, h4, .inl rfl, .inl rfl, .inl ⟨rfl, hn⟩⟩)
  have la := itoa_len a (by omega) (by omega)
  have lb := itoa_len b' (by omega) (by omega)
  have HF := Lib.hid hf; clear hf
  have HT := Lib.hid ht; clear ht
  have HN := Lib.hid hn; clear hn
  go_enter Tryd.func31, Tryd.ntmps31
  go_wp2_with (first | (go_at_call 53; refine (formOf_some' _ _ _ _ _ _ HF.out).mono ?_; rintro e w1 ⟨rfl, hb1⟩; obtain ⟨hc1, hf1⟩ := bcell hb1; have hz1 : w.heap.size < w1.heap.size := by have := hb1.size; simp at this; omega) | (go_at_call 58; go_in))
  have HB1 := Lib.hid (bnext (bal0 w _) hb1)
  refine (implNameValid_any _ _ (by omega)).mono ?_
  rintro e w2 ⟨rfl, hb2⟩
  rw [HN.out]
  have HB2 := Lib.hid (bnext (bal HB1.out _) hb2)
  obtain ⟨hc2, hf2⟩ := bcell hb2
  have hz2 := bsz w1.heap.size hb2 (by first | omega | (simp; omega) | simp)
  have hz2' := bsz w.heap.size hb2 (by first | omega | (simp; omega) | simp)
  go_wp2_with (go_at_call 58; go_in)
  refine (itoa_any _ _ (by omega) (by omega) (HT.out.below HB2.out)).mono ?_
  rintro e w3 ⟨rfl, hb3⟩
  have HB3 := Lib.hid (bnext HB2.out hb3)
  obtain ⟨hc3, hf3⟩ := bcell hb3
  have hz3 := bsz w1.heap.size hb3 (by first | omega | (simp; omega) | simp)
  have hz3' := bsz w.heap.size hb3 (by first | omega | (simp; omega) | simp)
  go_wp2_with fail
  refine (itoa_any _ _ (by omega) (by omega) (HT.out.below HB3.out)).mono ?_
  rintro e w4 ⟨rfl, hb4⟩
  have HB4 := Lib.hid (bnext HB3.out hb4)
  obtain ⟨hc4, hf4⟩ := bcell hb4
  have hz4 := bsz w1.heap.size hb4 (by first | omega | (simp; omega) | simp)
  have hz4' := bsz w.heap.size hb4 (by first | omega | (simp; omega) | simp)
  go_wp2_with fail
  go_ret
  exact ⟨ret_str (by rw [HE.out]; simp), HB4.out⟩
set_option maxRecDepth 100000 in
set_option maxHeartbeats 1000000 in
theorem fi_100 (op a b' : Int) (l : By) (word : By) (w : World) (ht : Tb w) (hf : formOf op = some ⟨word, true, false, false⟩) (hs : l.length ≤ 1000000000) (hw : word.length ≤ 100) (h1 : -999 ≤ a) (h2 : a ≤ 999) (h3 : 0 ≤ b') (h4 : b' ≤ 999) (hb : b' = 0) (hl : l = []) :
    Calls Tryd.prog 31 #[.agg #[.int .i64 op, .int .i64 a, .int .i64 b', .string ⟨l.toArray⟩]] w fun e w' => e = .returned (.string ⟨(insText ⟨op, a, b', l⟩).toArray⟩) ∧ Below w.heap.size w w' := by
  subst hb
  subst hl
  have HE := Lib.hid (insText_yes op a 0 [] _ hf ⟨h1, h2, h3, h4, .inl rfl, .inr rfl, .inr ⟨rfl, rfl⟩⟩)
  have la := itoa_len a (by omega) (by omega)
  have lb := itoa_len 0 (by omega) (by omega)
  have HF := Lib.hid hf; clear hf
  have HT := Lib.hid ht; clear ht
  go_enter Tryd.func31, Tryd.ntmps31
  go_wp2_with (first | (go_at_call 53; refine (formOf_some' _ _ _ _ _ _ HF.out).mono ?_; rintro e w1 ⟨rfl, hb1⟩; obtain ⟨hc1, hf1⟩ := bcell hb1; have hz1 : w.heap.size < w1.heap.size := by have := hb1.size; simp at this; omega) | (go_at_call 58; go_in))
  have HB1 := Lib.hid (bnext (bal0 w _) hb1)
  refine (itoa_any _ _ (by omega) (by omega) (HT.out.below (bal HB1.out _))).mono ?_
  rintro e w3 ⟨rfl, hb3⟩
  have HB3 := Lib.hid (bnext (bal HB1.out _) hb3)
  obtain ⟨hc3, hf3⟩ := bcell hb3
  have hz3 := bsz w1.heap.size hb3 (by first | omega | (simp; omega) | simp)
  have hz3' := bsz w.heap.size hb3 (by first | omega | (simp; omega) | simp)
  go_wp2_with fail
  go_ret
  exact ⟨ret_str (by rw [HE.out]; simp), HB3.out⟩
set_option maxRecDepth 100000 in
set_option maxHeartbeats 1000000 in
theorem fi_101 (op a b' : Int) (l : By) (word : By) (w : World) (ht : Tb w) (hf : formOf op = some ⟨word, true, false, true⟩) (hs : l.length ≤ 1000000000) (hw : word.length ≤ 100) (h1 : -999 ≤ a) (h2 : a ≤ 999) (h3 : 0 ≤ b') (h4 : b' ≤ 999) (hb : b' = 0) (hn : nameOk l = true) :
    Calls Tryd.prog 31 #[.agg #[.int .i64 op, .int .i64 a, .int .i64 b', .string ⟨l.toArray⟩]] w fun e w' => e = .returned (.string ⟨(insText ⟨op, a, b', l⟩).toArray⟩) ∧ Below w.heap.size w w' := by
  subst hb
  have HE := Lib.hid (insText_yes op a 0 l _ hf ⟨h1, h2, h3, h4, .inl rfl, .inr rfl, .inl ⟨rfl, hn⟩⟩)
  have la := itoa_len a (by omega) (by omega)
  have lb := itoa_len 0 (by omega) (by omega)
  have HF := Lib.hid hf; clear hf
  have HT := Lib.hid ht; clear ht
  have HN := Lib.hid hn; clear hn
  go_enter Tryd.func31, Tryd.ntmps31
  go_wp2_with (first | (go_at_call 53; refine (formOf_some' _ _ _ _ _ _ HF.out).mono ?_; rintro e w1 ⟨rfl, hb1⟩; obtain ⟨hc1, hf1⟩ := bcell hb1; have hz1 : w.heap.size < w1.heap.size := by have := hb1.size; simp at this; omega) | (go_at_call 58; go_in))
  have HB1 := Lib.hid (bnext (bal0 w _) hb1)
  refine (implNameValid_any _ _ (by omega)).mono ?_
  rintro e w2 ⟨rfl, hb2⟩
  rw [HN.out]
  have HB2 := Lib.hid (bnext (bal HB1.out _) hb2)
  obtain ⟨hc2, hf2⟩ := bcell hb2
  have hz2 := bsz w1.heap.size hb2 (by first | omega | (simp; omega) | simp)
  have hz2' := bsz w.heap.size hb2 (by first | omega | (simp; omega) | simp)
  go_wp2_with (go_at_call 58; go_in)
  refine (itoa_any _ _ (by omega) (by omega) (HT.out.below HB2.out)).mono ?_
  rintro e w3 ⟨rfl, hb3⟩
  have HB3 := Lib.hid (bnext HB2.out hb3)
  obtain ⟨hc3, hf3⟩ := bcell hb3
  have hz3 := bsz w1.heap.size hb3 (by first | omega | (simp; omega) | simp)
  have hz3' := bsz w.heap.size hb3 (by first | omega | (simp; omega) | simp)
  go_wp2_with fail
  go_ret
  exact ⟨ret_str (by rw [HE.out]; simp), HB3.out⟩
set_option maxRecDepth 100000 in
set_option maxHeartbeats 1000000 in
theorem fi_000 (op a b' : Int) (l : By) (word : By) (w : World) (ht : Tb w) (hf : formOf op = some ⟨word, false, false, false⟩) (hs : l.length ≤ 1000000000) (_hw : word.length ≤ 100) (h1 : -999 ≤ a) (h2 : a ≤ 999) (h3 : 0 ≤ b') (h4 : b' ≤ 999) (ha : a = 0) (hb : b' = 0) (hl : l = []) :
    Calls Tryd.prog 31 #[.agg #[.int .i64 op, .int .i64 a, .int .i64 b', .string ⟨l.toArray⟩]] w fun e w' => e = .returned (.string ⟨(insText ⟨op, a, b', l⟩).toArray⟩) ∧ Below w.heap.size w w' := by
  subst ha
  subst hb
  subst hl
  have HE := Lib.hid (insText_yes op 0 0 [] _ hf ⟨h1, h2, h3, h4, .inr rfl, .inr rfl, .inr ⟨rfl, rfl⟩⟩)
  have la := itoa_len 0 (by omega) (by omega)
  have lb := itoa_len 0 (by omega) (by omega)
  have HF := Lib.hid hf; clear hf
  have HT := Lib.hid ht; clear ht
  go_enter Tryd.func31, Tryd.ntmps31
  go_wp2_with (first | (go_at_call 53; refine (formOf_some' _ _ _ _ _ _ HF.out).mono ?_; rintro e w1 ⟨rfl, hb1⟩; obtain ⟨hc1, hf1⟩ := bcell hb1; have hz1 : w.heap.size < w1.heap.size := by have := hb1.size; simp at this; omega) | (go_at_call 58; go_in))
  have HB1 := Lib.hid (bnext (bal0 w _) hb1)
  go_ret
  exact ⟨ret_str (by rw [HE.out]; simp), (bal HB1.out _)⟩
end Go.Proofs.YtlknhjibadbeeaaDoor
