/- Walks of the key of a term and of KeysFit, both packages. -/
import Derived.Test.YtlknhjibadbeeaaDoorW16
namespace Go.Proofs.YtlknhjibadbeeaaDoor
open Go.RowKit Go.Deep

attribute [local go_sem] ba_get ba_append


set_option maxRecDepth 100000 in
set_option maxHeartbeats 1000000 in
theorem l7Key_any (S : Nat → Prop) (k n : Int) (nm : By) (ks : List Tm) (w : World) (a : Option Addr) (m c : Nat) (h : TmSl S w ks a m) (hm : m ≤ 1048576) (hr : ∀ x ∈ ks, (-1000000000 ≤ x.n ∧ x.n ≤ 1000000000) ∧ x.name.length ≤ 1048576 ∧ x.kids.length ≤ 1048576) :
    Calls Tryd.prog 70 #[.agg #[.int .i64 k, .int .i64 n, .string ⟨nm.toArray⟩, .slice a m c]] w fun e w' => e = .returned (.string ⟨(keyOf (.mk k n nm ks)).toArray⟩) ∧ Below w.heap.size w w' := by
  cases ks with
  | nil =>
    obtain rfl : m = 0 := h.1
    have HE := Lib.hid (show keyOf (.mk k n nm []) = [] from rfl)
    go_enter Tryd.func70, Tryd.ntmps70
    go_wp2_with fail
    go_ret
    exact ⟨ret_str HE.out.symm, bal0 _ _⟩
  | cons x xs =>
    have hmm : m = xs.length + 1 := h.1
    obtain ⟨b, o, rfl, hb0, -, hr0⟩ := h.2 (by omega)
    obtain ⟨c0, c1, c2, a3, n3, c3', c3, hs⟩ := rowAt_get hr0 0 (by simp)
    obtain ⟨hr1, hr2, hr3⟩ := hr x (by simp)
    have hn3 : n3 = x.kids.length := hs.1
    simp only [List.getElem_cons_zero, Nat.zero_mul, Nat.add_zero] at c0 c1 c2 c3
    clear hs hr0 hr h
    have HM := Lib.hid hmm; clear hmm
    have hm1 : 0 < m := by rw [HM.out]; omega
    have HN3 := Lib.hid hn3; clear hn3
    have hn3 : n3 ≤ 1048576 := by rw [HN3.out]; exact hr3
    by_cases h1 : x.kind = 1
    · have HE := Lib.hid (show keyOf (.mk k n nm (x :: xs)) = [] by simp [keyOf, Tm.kids, h1])
      rw [h1] at c0
      go_enter Tryd.func70, Tryd.ntmps70
      go_wp2_with fail
      go_ret
      exact ⟨ret_str HE.out.symm, by first | exact bal (bal0 _ _) _ | exact (bal (bal0 _ _) _).drew | exact bal (bal0 _ _).drew _ | exact (bal (bal0 _ _).drew _).drew | exact below_drewN (bal (bal0 _ _) _) _⟩
    · by_cases h2 : x.kind = 2
      · have HE := Lib.hid (show keyOf (.mk k n nm (x :: xs)) = Lib.itoa x.n by simp [keyOf, Tm.kids, h2])
        rw [h2] at c0
        go_enter Tryd.func70, Tryd.ntmps70
        go_wp2_with fail
        refine (l1Dec_any _ _ hr1.1 hr1.2).mono ?_
        rintro e w1 ⟨rfl, hb1⟩
        go_wp2_with fail
        go_ret
        exact ⟨ret_str HE.out.symm, bnext (by first | exact bal (bal0 _ _) _ | exact (bal (bal0 _ _) _).drew | exact bal (bal0 _ _).drew _ | exact (bal (bal0 _ _).drew _).drew | exact below_drewN (bal (bal0 _ _) _) _) hb1⟩
      · have HE := Lib.hid (show keyOf (.mk k n nm (x :: xs)) = x.name ++ 47 :: Lib.itoa n3 by rw [HN3.out]; simp [keyOf, Tm.kids, h1, h2])
        have hl1 : (Lib.decDigits n3).length ≤ 1048577 := Nat.le_trans (decDigits_len _) (by omega)
        have hl3 : Lib.decDigits (n3 : Int).toNat = Lib.decDigits n3 := rfl
        have hl2 : Lib.itoa (n3 : Int) = Lib.decDigits n3 := by rw [Lib.itoa, if_neg (by omega)]; rfl
        rw [hl2] at HE
        have h1' : (x.kind == 1) = false := by simpa using h1
        have h2' : (x.kind == 2) = false := by simpa using h2
        go_enter Tryd.func70, Tryd.ntmps70
        go_wp2_with fail
        go_region_with (go_at_call 88; refine (l18Dec_any _ _ (by omega) (by omega)).mono ?_; rw [hl3]; rintro e w1 ⟨rfl, hb1⟩; have HB1 := Lib.hid (bnext (by first | exact bal (bal0 _ _) _ | exact (bal (bal0 _ _) _).drew | exact bal (bal0 _ _).drew _ | exact (bal (bal0 _ _).drew _).drew | exact below_drewN (bal (bal0 _ _) _) _) hb1); obtain ⟨hc1, hf1⟩ := bcell hb1; have hz1 := bsz w.heap.size hb1 (by first | omega | (simp; omega) | simp); have hz2 := bsz (w.heap.size + 1) hb1 (by first | omega | (simp; omega) | simp))
        all_goals go_wp2_with fail
        all_goals go_ret
        all_goals exact ⟨ret_str (by rw [HE.out]), by first | exact HB1.out | exact HB1.out.drew⟩

set_option maxRecDepth 100000 in
set_option maxHeartbeats 1000000 in
theorem firstKey_any (S : Nat → Prop) (k n : Int) (nm : By) (ks : List Tm) (w : World) (a : Option Addr) (m c : Nat) (ht : Tb w) (h : TmSl S w ks a m) (hm : m ≤ 1048576) (hr : ∀ x ∈ ks, (-9223372036854775808 ≤ x.n ∧ x.n ≤ 9223372036854775807) ∧ x.name.length ≤ 1048576 ∧ x.kids.length ≤ 1048576) :
    Calls Tryd.prog 71 #[.agg #[.int .i64 k, .int .i64 n, .string ⟨nm.toArray⟩, .slice a m c]] w fun e w' => e = .returned (.string ⟨(keyOf (.mk k n nm ks)).toArray⟩) ∧ Below w.heap.size w w' := by
  cases ks with
  | nil =>
    obtain rfl : m = 0 := h.1
    have HE := Lib.hid (show keyOf (.mk k n nm []) = [] from rfl)
    go_enter Tryd.func71, Tryd.ntmps71
    go_wp2_with fail
    go_ret
    exact ⟨ret_str HE.out.symm, bal0 _ _⟩
  | cons x xs =>
    have hmm : m = xs.length + 1 := h.1
    obtain ⟨b, o, rfl, hb0, -, hr0⟩ := h.2 (by omega)
    obtain ⟨c0, c1, c2, a3, n3, c3', c3, hs⟩ := rowAt_get hr0 0 (by simp)
    obtain ⟨hr1, hr2, hr3⟩ := hr x (by simp)
    have hn3 : n3 = x.kids.length := hs.1
    simp only [List.getElem_cons_zero, Nat.zero_mul, Nat.add_zero] at c0 c1 c2 c3
    clear hs hr0 hr h
    have HM := Lib.hid hmm; clear hmm
    have hm1 : 0 < m := by rw [HM.out]; omega
    have HN3 := Lib.hid hn3; clear hn3
    have hn3 : n3 ≤ 1048576 := by rw [HN3.out]; exact hr3
    by_cases h1 : x.kind = 1
    · have HE := Lib.hid (show keyOf (.mk k n nm (x :: xs)) = [] by simp [keyOf, Tm.kids, h1])
      rw [h1] at c0
      go_enter Tryd.func71, Tryd.ntmps71
      go_wp2_with fail
      go_ret
      exact ⟨ret_str HE.out.symm, by first | exact bal (bal0 _ _) _ | exact (bal (bal0 _ _) _).drew | exact bal (bal0 _ _).drew _ | exact (bal (bal0 _ _).drew _).drew | exact below_drewN (bal (bal0 _ _) _) _⟩
    · by_cases h2 : x.kind = 2
      · have HE := Lib.hid (show keyOf (.mk k n nm (x :: xs)) = Lib.itoa x.n by simp [keyOf, Tm.kids, h2])
        rw [h2] at c0
        go_enter Tryd.func71, Tryd.ntmps71
        go_wp2_with fail
        refine (itoa_any _ _ hr1.1 hr1.2 (Tb.below ht (by first | exact bal (bal0 _ _) _ | exact (bal (bal0 _ _) _).drew | exact bal (bal0 _ _).drew _ | exact (bal (bal0 _ _).drew _).drew | exact below_drewN (bal (bal0 _ _) _) _))).mono ?_
        rintro e w1 ⟨rfl, hb1⟩
        go_wp2_with fail
        go_ret
        exact ⟨ret_str HE.out.symm, bnext (by first | exact bal (bal0 _ _) _ | exact (bal (bal0 _ _) _).drew | exact bal (bal0 _ _).drew _ | exact (bal (bal0 _ _).drew _).drew | exact below_drewN (bal (bal0 _ _) _) _) hb1⟩
      · have HE := Lib.hid (show keyOf (.mk k n nm (x :: xs)) = x.name ++ 47 :: Lib.itoa n3 by rw [HN3.out]; simp [keyOf, Tm.kids, h1, h2])
        have hl1 : (Lib.decDigits n3).length ≤ 1048577 := Nat.le_trans (decDigits_len _) (by omega)
        have hl3 : Lib.decDigits (n3 : Int).toNat = Lib.decDigits n3 := rfl
        have hl2 : Lib.itoa (n3 : Int) = Lib.decDigits n3 := by rw [Lib.itoa, if_neg (by omega)]; rfl
        rw [hl2] at HE
        have h1' : (x.kind == 1) = false := by simpa using h1
        have h2' : (x.kind == 2) = false := by simpa using h2
        go_enter Tryd.func71, Tryd.ntmps71
        go_wp2_with fail
        go_region_with (go_at_call 60; refine (itoa_any _ _ (by omega) (by omega) (Tb.below ht (by first | exact bal (bal0 _ _) _ | exact (bal (bal0 _ _) _).drew | exact bal (bal0 _ _).drew _ | exact (bal (bal0 _ _).drew _).drew | exact below_drewN (bal (bal0 _ _) _) _))).mono ?_; rw [hl2]; rintro e w1 ⟨rfl, hb1⟩; have HB1 := Lib.hid (bnext (by first | exact bal (bal0 _ _) _ | exact (bal (bal0 _ _) _).drew | exact bal (bal0 _ _).drew _ | exact (bal (bal0 _ _).drew _).drew | exact below_drewN (bal (bal0 _ _) _) _) hb1); obtain ⟨hc1, hf1⟩ := bcell hb1; have hz1 := bsz w.heap.size hb1 (by first | omega | (simp; omega) | simp); have hz2 := bsz (w.heap.size + 1) hb1 (by first | omega | (simp; omega) | simp))
        all_goals go_wp2_with fail
        all_goals go_ret
        all_goals exact ⟨ret_str (by rw [HE.out]), by first | exact HB1.out | exact HB1.out.drew⟩

set_option maxRecDepth 100000 in
theorem specKeysFit_any (a b : By) (w : World) (ha : a.length ≤ 2097152) (hb : b.length ≤ 2097152) :
    Calls Tryd.prog 69 #[.string ⟨a.toArray⟩, .string ⟨b.toArray⟩] w fun e w' => e = .returned (.bool (keyFit a b)) ∧ w' = w := by
  have _ := ha
  have _ := hb
  have HE := Lib.hid (show keyFit a b = (a == [] || b == [] || a == b) by cases a <;> cases b <;> rfl)
  cases h1 : (a == [])
  · cases h2 : (b == [])
    · cases h3 : (a == b)
      · go_enter Tryd.func69, Tryd.ntmps69
        go_wp2_with fail
        go_ret
        exact ⟨ret_bool (by rw [HE.out, h1, h2, h3]; rfl), rfl⟩
      · go_enter Tryd.func69, Tryd.ntmps69
        go_wp2_with fail
        go_ret
        exact ⟨ret_bool (by rw [HE.out, h1, h2, h3]; rfl), rfl⟩
    · obtain rfl : b = [] := by simpa using h2
      go_enter Tryd.func69, Tryd.ntmps69
      go_wp2_with fail
      go_ret
      exact ⟨ret_bool (by rw [HE.out, h1]; rfl), rfl⟩
  · obtain rfl : a = [] := by simpa using h1
    go_enter Tryd.func69, Tryd.ntmps69
    go_wp2_with fail
    go_ret
    exact ⟨ret_bool (by rw [HE.out]; rfl), rfl⟩

set_option maxRecDepth 100000 in
theorem implKeysFit_any (a b : By) (w : World) (ha : a.length ≤ 2097152) (hb : b.length ≤ 2097152) :
    Calls Tryd.prog 75 #[.string ⟨a.toArray⟩, .string ⟨b.toArray⟩] w fun e w' => e = .returned (.bool (keyFit a b)) ∧ w' = w := by
  have _ := ha
  have _ := hb
  have HE := Lib.hid (show keyFit a b = (a == [] || b == [] || a == b) by cases a <;> cases b <;> rfl)
  cases h1 : (a == [])
  · cases h2 : (b == [])
    · cases h3 : (a == b)
      · go_enter Tryd.func75, Tryd.ntmps75
        go_wp2_with fail
        go_ret
        exact ⟨ret_bool (by rw [HE.out, h1, h2, h3]; rfl), rfl⟩
      · go_enter Tryd.func75, Tryd.ntmps75
        go_wp2_with fail
        go_ret
        exact ⟨ret_bool (by rw [HE.out, h1, h2, h3]; rfl), rfl⟩
    · obtain rfl : b = [] := by simpa using h2
      go_enter Tryd.func75, Tryd.ntmps75
      go_wp2_with fail
      go_ret
      exact ⟨ret_bool (by rw [HE.out, h1]; rfl), rfl⟩
  · obtain rfl : a = [] := by simpa using h1
    go_enter Tryd.func75, Tryd.ntmps75
    go_wp2_with fail
    go_ret
    exact ⟨ret_bool (by rw [HE.out]; rfl), rfl⟩

end Go.Proofs.YtlknhjibadbeeaaDoor
