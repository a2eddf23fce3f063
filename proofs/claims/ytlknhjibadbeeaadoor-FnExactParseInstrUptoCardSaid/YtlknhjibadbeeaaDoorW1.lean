/- Walks of the small functions on names and numbers. -/
import Derived.Test.YtlknhjibadbeeaaDoorShelf
import Derived.Test.YtlknhjibadbeeaaDoorLm
import Derived.WalkKit
import Derived.WalkSpells
import Derived.WalkLawsBesides
namespace Go.Proofs.YtlknhjibadbeeaaDoor
open Go.RowKit

attribute [local go_sem] ba_get ba_append

set_option maxHeartbeats 400000 in
theorem l1Word_any (l : By) (w : World) (hs : l.length ≤ 9223372036854775807) :
    Calls Tryd.prog 65 #[.string ⟨l.toArray⟩] w fun e w' => e = .returned (.bool (isWord l)) ∧ w = w' := by
  go_enter Tryd.func65, Tryd.ntmps65
  go_wp2
  go_loop [3] (fun i => ∃ k : Nat, k ≤ l.length ∧ i = .int .i64 k ∧ (l.take k).all isLower = true) (fun i => l.length - (intOf i).toNat)
  case atStart => exact ⟨0, Nat.zero_le _, rfl, by simp⟩
  case round =>
    obtain ⟨k, hk, rfl, hall⟩ := hrel
    by_cases hlt : k < l.length
    · cases hc : isLower l[k]
      · have HN := Lib.hid (isWord_no l k hlt hc)
        have h2 : ¬ ((97 : Int) ≤ l[k].toNat ∧ (l[k].toNat : Int) ≤ 122) := fun h => by rw [(lower_iff _).2 h] at hc; cases hc
        have hc' := Lib.hid hc; clear hc
        go_wp2
        all_goals (go_ret; exact ⟨ret_bool HN.out.symm, rfl⟩)
      · have h2 := (lower_iff _).1 hc
        have hc' := Lib.hid hc; clear hc
        go_wp2
        go_round
        case rel => exact ⟨k + 1, by omega, by go_num, all_take_succ l k hlt hall hc'.out⟩
        case measure => simp [intOf]; omega
    · have HW := Lib.hid (isWord_all l (by rw [List.take_of_length_le (by omega)] at hall; exact hall))
      go_wp2
      all_goals go_ret
      all_goals exact ⟨ret_bool (by rw [HW.out]; simp; omega), rfl⟩

set_option maxHeartbeats 400000 in
theorem isLetters_any (l : By) (w : World) (hs : l.length ≤ 9223372036854775807) :
    Calls Tryd.prog 89 #[.string ⟨l.toArray⟩] w fun e w' => e = .returned (.bool (isWord l)) ∧ w = w' := by
  go_enter Tryd.func89, Tryd.ntmps89
  go_wp2
  go_loop [6] (fun i => ∃ k : Nat, k ≤ l.length ∧ i = .int .i64 k ∧ (l.take k).all isLower = true) (fun i => l.length - (intOf i).toNat)
  case atStart => exact ⟨0, Nat.zero_le _, rfl, by simp⟩
  case round =>
    obtain ⟨k, hk, rfl, hall⟩ := hrel
    by_cases hlt : k < l.length
    · cases hc : isLower l[k]
      · have HN := Lib.hid (isWord_no l k hlt hc)
        have h2 : ¬ ((97 : Int) ≤ l[k].toNat ∧ (l[k].toNat : Int) ≤ 122) := fun h => by rw [(lower_iff _).2 h] at hc; cases hc
        have hc' := Lib.hid hc; clear hc
        go_wp2
        all_goals (go_ret; exact ⟨ret_bool HN.out.symm, rfl⟩)
      · have h2 := (lower_iff _).1 hc
        have hc' := Lib.hid hc; clear hc
        go_wp2
        go_round
        case rel => exact ⟨k + 1, by omega, by go_num, all_take_succ l k hlt hall hc'.out⟩
        case measure => simp [intOf]; omega
    · have HW := Lib.hid (isWord_all l (by rw [List.take_of_length_le (by omega)] at hall; exact hall))
      go_wp2
      all_goals go_ret
      all_goals exact ⟨ret_bool (by rw [HW.out]; simp; omega), rfl⟩

def signCells : Array Value := (signs.map fun s => Value.string ⟨s.toArray⟩).toArray
theorem sign_cell (w : World) (i : Nat) (h : i < 15) : (w.alloc (.cells signCells 9)).cell? ⟨w.heap.size, 0 + i, none⟩ = some (.string ⟨(signs.getD i []).toArray⟩) := by
  rw [Nat.zero_add, World.cell?_alloc_at (hn := rfl)]
  match i, h with
  | 0, _ => rfl | 1, _ => rfl | 2, _ => rfl | 3, _ => rfl | 4, _ => rfl | 5, _ => rfl | 6, _ => rfl | 7, _ => rfl | 8, _ => rfl | 9, _ => rfl | 10, _ => rfl | 11, _ => rfl | 12, _ => rfl | 13, _ => rfl | 14, _ => rfl
theorem l1Signs_any (w : World) :
    Calls Tryd.prog 87 #[] w fun e w' => e = .returned (.slice (some ⟨w.heap.size, 0, none⟩) 15 15) ∧ w.alloc (.cells signCells 9) = w' := by
  go_enter Tryd.func87, Tryd.ntmps87
  go_wp2
  go_ret
  exact ⟨rfl, rfl⟩
theorem symbols_any (w : World) :
    Calls Tryd.prog 91 #[] w fun e w' => e = .returned (.slice (some ⟨w.heap.size, 0, none⟩) 15 15) ∧ w.alloc (.cells signCells 9) = w' := by
  go_enter Tryd.func91, Tryd.ntmps91
  go_wp2
  go_ret
  exact ⟨rfl, rfl⟩
set_option maxHeartbeats 400000 in
theorem l1Has_any (ss : List By) (l : By) (w : World) (b o c n : Nat) (hn : n = ss.length) (hn2 : n ≤ 1000000000)
    (hcell : ∀ i, i < ss.length → w.cell? ⟨b, o + i, none⟩ = some (.string ⟨(ss.getD i []).toArray⟩)) :
    Calls Tryd.prog 86 #[.slice (some ⟨b, o, none⟩) n c, .string ⟨l.toArray⟩] w fun e w' => e = .returned (.bool (hasB ss l)) ∧ w = w' := by
  have HN := Lib.hid hn
  have HC := Lib.hid hcell; clear hcell
  clear hn
  go_enter Tryd.func86, Tryd.ntmps86
  go_wp2
  go_loop [5] (fun i => ∃ k : Nat, k ≤ n ∧ i = .int .i64 k ∧ Hid (hasB (ss.take k) l = false)) (fun i => n - (intOf i).toNat)
  case atStart => exact ⟨0, Nat.zero_le _, rfl, Lib.hid (by simp [hasB])⟩
  case round =>
    obtain ⟨k, hk, rfl, hall⟩ := hrel
    by_cases hlt : k < n
    · have hlt2 : k < ss.length := by rw [← HN.out]; exact hlt
      have hc := HC.out k hlt2
      go_wp2
      · have h1 : (ss[k] == l) = true := by assumption
        have HH := Lib.hid (hasB_of ss l k hlt2 h1)
        go_ret
        exact ⟨ret_bool HH.out.symm, rfl⟩
      · have h1 : (ss[k] == l) = false := by assumption
        go_round
        case rel => exact ⟨k + 1, by omega, by go_num, Lib.hid (hasB_take ss l k hlt2 hall.out h1)⟩
        case measure => simp [intOf]; omega
    · go_wp2
      go_ret
      exact ⟨ret_bool (hasB_all ss l k (by rw [← HN.out]; omega) hall.out).symm, rfl⟩

theorem nameOk_word (l : By) (h : isWord l = true) : nameOk l = true := by unfold nameOk; rw [h]; rfl
theorem nameOk_sign (l : By) (h : isWord l = false) : nameOk l = hasB signs l := by unfold nameOk; rw [h]; rfl
set_option maxHeartbeats 400000 in
theorem specNameValid_any (l : By) (w : World) (hs : l.length ≤ 9223372036854775807) :
    Calls Tryd.prog 56 #[.string ⟨l.toArray⟩] w fun e w' => e = .returned (.bool (nameOk l)) ∧ Below w.heap.size w w' := by
  cases h : isWord l
  · have HS := Lib.hid (nameOk_sign l h)
    have HC := Lib.hid h; clear h
    go_enter Tryd.func56, Tryd.ntmps56
    go_wp2_with (first | (go_at_call 65; refine (l1Word_any _ _ hs).mono ?_; rintro e w1 ⟨rfl, rfl⟩; rw [HC.out]) | (go_at_call 87; refine (l1Signs_any _).mono ?_; rintro e w2 ⟨rfl, rfl⟩) | (go_at_call 86; refine (l1Has_any signs l _ w.heap.size 0 15 15 rfl (by decide) (sign_cell w)).mono ?_; rintro e w3 ⟨rfl, rfl⟩))
    go_ret
    exact ⟨ret_bool HS.out.symm, (Below.refl _ _).alloc (Nat.le_refl _) _⟩
  · have HS := Lib.hid (nameOk_word l h)
    have HC := Lib.hid h; clear h
    go_enter Tryd.func56, Tryd.ntmps56
    go_wp2_with (first | (go_at_call 65; refine (l1Word_any _ _ hs).mono ?_; rintro e w1 ⟨rfl, rfl⟩; rw [HC.out]))
    go_ret
    exact ⟨ret_bool HS.out.symm, Below.refl _ _⟩

theorem signs_map (j : Nat) (h : j < 15) : (⟨(signs.getD j []).toArray⟩ : ByteArray) = (signs.map fun s => (⟨s.toArray⟩ : ByteArray)).getD j ByteArray.empty := by
  match j, h with
  | 0, _ => rfl | 1, _ => rfl | 2, _ => rfl | 3, _ => rfl | 4, _ => rfl | 5, _ => rfl | 6, _ => rfl | 7, _ => rfl | 8, _ => rfl | 9, _ => rfl | 10, _ => rfl | 11, _ => rfl | 12, _ => rfl | 13, _ => rfl | 14, _ => rfl
theorem containsS_signs (l : By) : Lib.containsS ((signs.map fun s => (⟨s.toArray⟩ : ByteArray)).take 15) ⟨l.toArray⟩ = hasB signs l := by
  have ht : (signs.map fun s => (⟨s.toArray⟩ : ByteArray)).take 15 = signs.map fun s => (⟨s.toArray⟩ : ByteArray) := rfl
  rw [ht, Bool.eq_iff_iff, Lib.containsS_iff, List.mem_map]
  unfold hasB
  rw [List.contains_iff_mem]
  constructor
  · rintro ⟨a, ha, he⟩
    have : a.toArray = l.toArray := congrArg ByteArray.data he
    rw [← List.toArray_inj this]; exact ha
  · intro h; exact ⟨l, h, rfl⟩
set_option maxHeartbeats 400000 in
theorem implNameValid_any (l : By) (w : World) (hs : l.length ≤ 9223372036854775807) :
    Calls Tryd.prog 59 #[.string ⟨l.toArray⟩] w fun e w' => e = .returned (.bool (nameOk l)) ∧ Below w.heap.size w w' := by
  cases h : isWord l
  · have HS := Lib.hid (nameOk_sign l h)
    have HC := Lib.hid h; clear h
    go_enter Tryd.func59, Tryd.ntmps59
    go_wp2_with (first | (go_at_call 89; refine (isLetters_any _ _ hs).mono ?_; rintro e w1 ⟨rfl, rfl⟩; rw [HC.out]) | (go_at_call 91; refine (symbols_any _).mono ?_; rintro e w2 ⟨rfl, rfl⟩))
    go_wp2_with (go_at_call 90; refine (Tryd.slices_Contains_string w.heap.size 0 15 15 (signs.map fun s => (⟨s.toArray⟩ : ByteArray)) ⟨l.toArray⟩ _ (by decide) (by decide) ?hc).mono ?_)
    case hc => exact fun j hj => (sign_cell w j hj).trans (by rw [signs_map j hj])
    rintro e w3 ⟨rfl, rfl⟩
    go_wp2
    go_ret
    exact ⟨ret_bool (by rw [HS.out, containsS_signs]), (Below.refl _ _).alloc (Nat.le_refl _) _⟩
  · have HS := Lib.hid (nameOk_word l h)
    have HC := Lib.hid h; clear h
    go_enter Tryd.func59, Tryd.ntmps59
    go_wp2_with (first | (go_at_call 89; refine (isLetters_any _ _ hs).mono ?_; rintro e w1 ⟨rfl, rfl⟩; rw [HC.out]))
    go_ret
    exact ⟨ret_bool HS.out.symm, Below.refl _ _⟩

set_option maxRecDepth 100000 in
set_option maxHeartbeats 400000 in
theorem l18Dec_any (n0 : Int) (w : World) (h0 : 0 ≤ n0) (h1 : n0 ≤ 1000000000) :
    Calls Tryd.prog 88 #[.int .i64 n0] w fun e w' => e = .returned (.string ⟨(Lib.decDigits n0.toNat).toArray⟩) ∧ Below w.heap.size w w' := by
  have k1 : decide (n0 < -9223372036854775807) = false := by simp; omega
  have k2 : decide (n0 < 0) = false := by simp; omega
  have kb := fun (w : World) (c : Int) => run_byte_str (P := Tryd.prog) 62 9 5 Tryd.underlying62 Tryd.underlying5 Tryd.underlying9 w c
  go_enter Tryd.func88, Tryd.ntmps88
  go_wp2_with fail
  clear k1 k2
  go_loopw [0, 3] (fun i s wr => ∃ n : Int, 0 ≤ n ∧ n ≤ 1000000000 ∧ i = .int .i64 n ∧ ∃ out : By, s = .string ⟨out.toArray⟩ ∧ (out.length : Int) + n ≤ 1000000000 ∧ Hid (Lib.decDigits n0.toNat = Lib.decDigits n.toNat ++ out) ∧ Below w.heap.size w wr) (fun i _ _ => (intOf i).toNat)
  case atStart => exact ⟨n0, h0, h1, rfl, [], rfl, by simpa using h1, Lib.hid (by simp), Below.refl _ _⟩
  case round =>
    obtain ⟨n, hn, hn2, rfl, out, rfl, hl, HD, hb⟩ := hrel
    by_cases hlt : 9 < n
    · have HE := Lib.hid (digs_ge n hn hlt)
      go_wp2_with fail
      go_roundw
      case rel => exact ⟨n / 10, by omega, by omega, rfl, _, rfl, by simp; omega, Lib.hid (by rw [HD.out, HE.out]; simp), hb.alloc hb.size _⟩
      case measure => simp [intOf]; omega
    · have HE := Lib.hid (digs_lt n hn hlt)
      go_wp2_with fail
      go_ret
      exact ⟨ret_str (by rw [HD.out, HE.out]; rfl), hb.alloc hb.size _⟩
set_option maxHeartbeats 400000 in
theorem l1Dec_any (n : Int) (w : World) (h0 : -1000000000 ≤ n) (h1 : n ≤ 1000000000) :
    Calls Tryd.prog 57 #[.int .i64 n] w fun e w' => e = .returned (.string ⟨(Lib.itoa n).toArray⟩) ∧ Below w.heap.size w w' := by
  by_cases hneg : n < 0
  · have HE := Lib.hid (show Lib.itoa n = [45] ++ Lib.decDigits (-n).toNat by rw [Lib.itoa, if_pos hneg, show n.natAbs = (-n).toNat by omega]; rfl)
    have hl := decDigits_len (-n).toNat
    go_enter Tryd.func57, Tryd.ntmps57
    go_wp2_with (go_at_call 88; refine (l18Dec_any _ _ (by omega) (by omega)).mono ?_; rintro e w1 ⟨rfl, hb1⟩)
    go_ret
    exact ⟨ret_str (by rw [HE.out]; rfl), hb1⟩
  · have HE := Lib.hid (show Lib.itoa n = Lib.decDigits n.toNat by rw [Lib.itoa, if_neg hneg])
    go_enter Tryd.func57, Tryd.ntmps57
    go_wp2_with (go_at_call 88; refine (l18Dec_any _ _ (by omega) (by omega)).mono ?_; rintro e w1 ⟨rfl, hb1⟩)
    go_ret
    exact ⟨ret_str (by rw [HE.out]), hb1⟩

/-- the library's table of powers of ten lies in place -/
def Tb (w : World) : Prop := Lib.TabIs Tryd.prog w "internal/strconv.uint64pow10" .u64 Lib.pow10Tab ∧ 3 < w.heap.size
theorem gPow : Tryd.prog.globalNamed "internal/strconv.uint64pow10" = some 3 := by kernel_rfl
theorem Tb.below {w w' : World} (h : Tb w) (hb : Below w.heap.size w w') : Tb w' := by
  refine ⟨var?_below hb gPow h.2 h.1, Nat.lt_of_lt_of_le h.2 hb.size⟩

theorem itoa_any (n : Int) (w : World) (h0 : -9223372036854775808 ≤ n) (h1 : n ≤ 9223372036854775807) (ht : Tb w) :
    Calls Tryd.prog 60 #[.int .i64 n] w fun e w' => e = .returned (.string ⟨(Lib.itoa n).toArray⟩) ∧ Below w.heap.size w w' := by
  refine (Tryd.strconv_Itoa n h0 h1 w ht.1).mono ?_
  rintro e w' ⟨rfl, k, os, rfl⟩
  exact ⟨rfl, Below.of_grow (Nat.le_refl _)⟩
end Go.Proofs.YtlknhjibadbeeaaDoor
