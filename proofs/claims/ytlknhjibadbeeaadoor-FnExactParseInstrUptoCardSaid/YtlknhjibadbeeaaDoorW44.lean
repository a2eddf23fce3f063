/- Walks of the reference's l1Sign, l18Num and l8Int. -/
import Derived.Test.YtlknhjibadbeeaaDoorW43
namespace Go.Proofs.YtlknhjibadbeeaaDoor
open Go.RowKit Go.Deep

attribute [local go_sem] ba_get ba_append

theorem ba_tail (c : UInt8) (r : By) : (⟨(c :: r).toArray⟩ : ByteArray).extract 1 (r.length + 1) = ⟨r.toArray⟩ := by
  rw [ba_extract]; simp
theorem u8_ne {c : UInt8} {k : Nat} (hk : k < 256) (h : c ≠ UInt8.ofNat k) : ((c.toNat : Int) == (k : Int)) = false := by
  refine beq_eq_false_iff_ne.2 (fun e => h (UInt8.toNat_inj.1 ?_))
  rw [UInt8.toNat_ofNat']
  omega
theorem dval_step (t : By) (acc : Int) (i : Nat) (hi : i < t.length) : dval acc (t.drop i) = if 48 ≤ t[i].toNat ∧ t[i].toNat ≤ 57 then dval (acc * 10 + ((t[i].toNat : Int) - 48)) (t.drop (i + 1)) else none := by
  rw [List.drop_eq_getElem_cons hi]; rfl
theorem dval_done (t : By) (acc : Int) (i : Nat) (hi : t.length ≤ i) : dval acc (t.drop i) = some acc := by
  rw [List.drop_eq_nil_of_le hi]; rfl
theorem pow_le17 (i : Nat) (h : i ≤ 17) : (10 : Int) ^ i ≤ 100000000000000000 := by
  have : ∀ k : Fin 18, (10 : Int) ^ k.val ≤ 100000000000000000 := by decide
  exact this ⟨i, by omega⟩

/-- the answer, as a value -/
def numV (v : Int) (ok : Bool) : Value := .tuple #[.int .i64 v, .bool ok]
def NumPost (v : Int) (e : Ending) : Prop := ∃ ok, e = .returned (numV v ok)

set_option maxRecDepth 100000 in
set_option maxHeartbeats 1000000 in
theorem num_p1 (t : By) (w : World) (h0 : 0 < t.length) (hc : t[0] ≠ 45) (hl : t.length ≤ 17) (hz : t[0] ≠ 48) :
    Calls Tryd.prog 82 #[.string ⟨t.toArray⟩] w fun e w' => NumPost ((match dval 0 t with | none => 0 | some n => n)) e ∧ Below w.heap.size w w' := by
  have g3 : ¬ (t.length : Int) = 0 := by omega
  have g4 : 0 < (t.length : Int) := by omega
  have g5 : ¬ t = [] := fun e => by rw [e] at h0; simp at h0
  have g6 : ((t.length : Int) == 0) = false := beq_eq_false_iff_ne.2 (by omega)
  have f0 := u8_ne (k := 45) (by omega) hc
  have g0 : ¬ (t[0].toNat : Int) = 45 := by simpa using f0
  have f1 := u8_ne (k := 48) (by omega) hz
  have g1 : ¬ (t[0].toNat : Int) = 48 := by simpa using f1
  have g2 : ¬ 17 < (t.length : Int) := by omega
  obtain ⟨V, hV⟩ : ∃ V : Int, V = (match dval 0 t with | none => 0 | some n => n) := ⟨_, rfl⟩
  rw [← hV]
  have HV := Lib.hid hV; clear hV
  go_enter Tryd.func82, Tryd.ntmps82
  go_wp2_with fail
  go_loopw [5, 6] (fun s5 s6 wr => ∃ (i : Nat) (acc : Int), i ≤ (t).length ∧ s6 = .int .i64 i ∧ s5 = .int .i64 acc ∧ 0 ≤ acc ∧ Hid (acc < 10 ^ i) ∧ Hid (dval 0 (t) = dval acc ((t).drop i)) ∧ wr = w) (fun _ i _ => (t).length - (intOf i).toNat)
  case atStart => exact ⟨0, 0, Nat.zero_le _, rfl, rfl, by omega, Lib.hid (by decide), Lib.hid rfl, rfl⟩
  case round =>
    obtain ⟨i, acc, hi, rfl, rfl, ha0, HA, HD, rfl⟩ := hrel
    have hlen : (t).length ≤ 17 := hl
    have hap : acc < 100000000000000000 := Int.lt_of_lt_of_le HA.out (pow_le17 i (by omega))
    by_cases hlt : i < (t).length
    · have hst := dval_step (t) acc i hlt
      have hap2 : acc < 10000000000000000 := by
        have h16 : (10 : Int) ^ i ≤ 10000000000000000 := by
          have : ∀ k : Fin 17, (10 : Int) ^ k.val ≤ 10000000000000000 := by decide
          exact this ⟨i, by omega⟩
        exact Int.lt_of_lt_of_le HA.out h16
      have h256 := (t)[i].toNat_lt
      by_cases hd : 48 ≤ (t)[i].toNat ∧ (t)[i].toNat ≤ 57
      · rw [if_pos hd] at hst
        have HST := Lib.hid hst; clear hst
        have d1 : ¬ ((t)[i].toNat : Int) < 48 := by omega
        have d2 : ¬ 57 < ((t)[i].toNat : Int) := by omega
        have d3 : 48 ≤ ((t)[i].toNat : Int) := by omega
        go_wp2_with fail
        go_roundw
        case rel =>
          refine ⟨i + 1, _, hlt, by go_num, rfl, by omega, Lib.hid ?_, Lib.hid (HD.out.trans HST.out), by first | rfl | trivial⟩
          have h9 := HA.out
          have h8 : (10 : Int) ^ (i + 1) = 10 ^ i * 10 := Int.pow_succ ..
          rw [h8]
          omega
        case measure => simp [intOf]; omega
      · rw [if_neg hd] at hst
        have HST := Lib.hid hst; clear hst
        by_cases d1 : ((t)[i].toNat : Int) < 48
        · go_wp2_with fail
          exact bodyPost_ret (v := numV 0 false) (by simp [results, Tryd.results82, go_sem, numV]) rfl ⟨(⟨false, by rw [HV.out, HD.out, HST.out]⟩ : NumPost _ _), Below.refl _ _⟩
        · have d2 : 57 < ((t)[i].toNat : Int) := by omega
          go_wp2_with fail
          exact bodyPost_ret (v := numV 0 false) (by simp [results, Tryd.results82, go_sem, numV]) rfl ⟨(⟨false, by rw [HV.out, HD.out, HST.out]⟩ : NumPost _ _), Below.refl _ _⟩
    · have hlt2 : ¬ (i : Int) < (t.length : Int) := by omega
      have HST := Lib.hid (dval_done (t) acc i (by omega))
      go_wp2_with fail
      exact bodyPost_ret (v := numV acc true) (by simp [results, Tryd.results82, go_sem, numV]) rfl ⟨(⟨true, by rw [HV.out, HD.out, HST.out]⟩ : NumPost _ _), Below.refl _ _⟩

set_option maxRecDepth 100000 in
set_option maxHeartbeats 1000000 in
theorem num_p2 (t : By) (w : World) (h0 : 0 < t.length) (hc : t[0] ≠ 45) (hl : t.length ≤ 17) (hz : t[0] = 48) (h1 : t.length = 1) :
    Calls Tryd.prog 82 #[.string ⟨t.toArray⟩] w fun e w' => NumPost ((match dval 0 t with | none => 0 | some n => n)) e ∧ Below w.heap.size w w' := by
  have g3 : ¬ (t.length : Int) = 0 := by omega
  have g4 : 0 < (t.length : Int) := by omega
  have g5 : ¬ t = [] := fun e => by rw [e] at h0; simp at h0
  have g6 : ((t.length : Int) == 0) = false := beq_eq_false_iff_ne.2 (by omega)
  have f0 := u8_ne (k := 45) (by omega) hc
  have g0 : ¬ (t[0].toNat : Int) = 45 := by simpa using f0
  have f1 : ((t[0].toNat : Int) == 48) = true := by rw [hz]; rfl
  have g1 : (t[0].toNat : Int) = 48 := by rw [hz]; rfl
  have g2 : ¬ 17 < (t.length : Int) := by omega
  have g7 : ¬ 1 < (t.length : Int) := by omega
  clear h1
  obtain ⟨V, hV⟩ : ∃ V : Int, V = (match dval 0 t with | none => 0 | some n => n) := ⟨_, rfl⟩
  rw [← hV]
  have HV := Lib.hid hV; clear hV
  go_enter Tryd.func82, Tryd.ntmps82
  go_wp2_with fail
  go_loopw [5, 6] (fun s5 s6 wr => ∃ (i : Nat) (acc : Int), i ≤ (t).length ∧ s6 = .int .i64 i ∧ s5 = .int .i64 acc ∧ 0 ≤ acc ∧ Hid (acc < 10 ^ i) ∧ Hid (dval 0 (t) = dval acc ((t).drop i)) ∧ wr = w) (fun _ i _ => (t).length - (intOf i).toNat)
  case atStart => exact ⟨0, 0, Nat.zero_le _, rfl, rfl, by omega, Lib.hid (by decide), Lib.hid rfl, rfl⟩
  case round =>
    obtain ⟨i, acc, hi, rfl, rfl, ha0, HA, HD, rfl⟩ := hrel
    have hlen : (t).length ≤ 17 := hl
    have hap : acc < 100000000000000000 := Int.lt_of_lt_of_le HA.out (pow_le17 i (by omega))
    by_cases hlt : i < (t).length
    · have hst := dval_step (t) acc i hlt
      have hap2 : acc < 10000000000000000 := by
        have h16 : (10 : Int) ^ i ≤ 10000000000000000 := by
          have : ∀ k : Fin 17, (10 : Int) ^ k.val ≤ 10000000000000000 := by decide
          exact this ⟨i, by omega⟩
        exact Int.lt_of_lt_of_le HA.out h16
      have h256 := (t)[i].toNat_lt
      by_cases hd : 48 ≤ (t)[i].toNat ∧ (t)[i].toNat ≤ 57
      · rw [if_pos hd] at hst
        have HST := Lib.hid hst; clear hst
        have d1 : ¬ ((t)[i].toNat : Int) < 48 := by omega
        have d2 : ¬ 57 < ((t)[i].toNat : Int) := by omega
        have d3 : 48 ≤ ((t)[i].toNat : Int) := by omega
        go_wp2_with fail
        go_roundw
        case rel =>
          refine ⟨i + 1, _, hlt, by go_num, rfl, by omega, Lib.hid ?_, Lib.hid (HD.out.trans HST.out), by first | rfl | trivial⟩
          have h9 := HA.out
          have h8 : (10 : Int) ^ (i + 1) = 10 ^ i * 10 := Int.pow_succ ..
          rw [h8]
          omega
        case measure => simp [intOf]; omega
      · rw [if_neg hd] at hst
        have HST := Lib.hid hst; clear hst
        by_cases d1 : ((t)[i].toNat : Int) < 48
        · go_wp2_with fail
          exact bodyPost_ret (v := numV 0 false) (by simp [results, Tryd.results82, go_sem, numV]) rfl ⟨(⟨false, by rw [HV.out, HD.out, HST.out]⟩ : NumPost _ _), Below.refl _ _⟩
        · have d2 : 57 < ((t)[i].toNat : Int) := by omega
          go_wp2_with fail
          exact bodyPost_ret (v := numV 0 false) (by simp [results, Tryd.results82, go_sem, numV]) rfl ⟨(⟨false, by rw [HV.out, HD.out, HST.out]⟩ : NumPost _ _), Below.refl _ _⟩
    · have hlt2 : ¬ (i : Int) < (t.length : Int) := by omega
      have HST := Lib.hid (dval_done (t) acc i (by omega))
      go_wp2_with fail
      exact bodyPost_ret (v := numV acc true) (by simp [results, Tryd.results82, go_sem, numV]) rfl ⟨(⟨true, by rw [HV.out, HD.out, HST.out]⟩ : NumPost _ _), Below.refl _ _⟩

set_option maxRecDepth 100000 in
set_option maxHeartbeats 1000000 in
theorem num_p3 (t : By) (w : World) (h0 : 0 < t.length) (hc : t[0] ≠ 45) (hl : 17 < t.length) :
    Calls Tryd.prog 82 #[.string ⟨t.toArray⟩] w fun e w' => NumPost (0) e ∧ Below w.heap.size w w' := by
  have g3 : ¬ (t.length : Int) = 0 := by omega
  have g4 : 0 < (t.length : Int) := by omega
  have g5 : ¬ t = [] := fun e => by rw [e] at h0; simp at h0
  have g6 : ((t.length : Int) == 0) = false := beq_eq_false_iff_ne.2 (by omega)
  have f0 := u8_ne (k := 45) (by omega) hc
  have g0 : ¬ (t[0].toNat : Int) = 45 := by simpa using f0
  have g2 : 17 < (t.length : Int) := by omega
  obtain ⟨V, hV⟩ : ∃ V : Int, V = 0 := ⟨_, rfl⟩
  rw [← hV]
  have HV := Lib.hid hV; clear hV
  go_enter Tryd.func82, Tryd.ntmps82
  go_wp2_with fail
  all_goals exact bodyPost_ret (v := numV 0 false) (by simp [results, Tryd.results82, go_sem, numV]) rfl ⟨(⟨false, by rw [HV.out]⟩ : NumPost _ _), Below.refl _ _⟩

set_option maxRecDepth 100000 in
set_option maxHeartbeats 1000000 in
theorem num_p4 (t : By) (w : World) (h0 : 0 < t.length) (hc : t[0] ≠ 45) (hl : t.length ≤ 17) (hz : t[0] = 48) (h1 : 1 < t.length) :
    Calls Tryd.prog 82 #[.string ⟨t.toArray⟩] w fun e w' => NumPost (0) e ∧ Below w.heap.size w w' := by
  have g3 : ¬ (t.length : Int) = 0 := by omega
  have g4 : 0 < (t.length : Int) := by omega
  have g5 : ¬ t = [] := fun e => by rw [e] at h0; simp at h0
  have g6 : ((t.length : Int) == 0) = false := beq_eq_false_iff_ne.2 (by omega)
  have f0 := u8_ne (k := 45) (by omega) hc
  have g0 : ¬ (t[0].toNat : Int) = 45 := by simpa using f0
  have f1 : ((t[0].toNat : Int) == 48) = true := by rw [hz]; rfl
  have g1 : (t[0].toNat : Int) = 48 := by rw [hz]; rfl
  have g2 : ¬ 17 < (t.length : Int) := by omega
  have g7 : 1 < (t.length : Int) := by omega
  obtain ⟨V, hV⟩ : ∃ V : Int, V = 0 := ⟨_, rfl⟩
  rw [← hV]
  have HV := Lib.hid hV; clear hV
  go_enter Tryd.func82, Tryd.ntmps82
  go_wp2_with fail
  all_goals exact bodyPost_ret (v := numV 0 false) (by simp [results, Tryd.results82, go_sem, numV]) rfl ⟨(⟨false, by rw [HV.out]⟩ : NumPost _ _), Below.refl _ _⟩

set_option maxRecDepth 100000 in
set_option maxHeartbeats 1000000 in
theorem num_e  (w : World) :
    Calls Tryd.prog 82 #[.string ⟨#[]⟩] w fun e w' => NumPost (0) e ∧ Below w.heap.size w w' := by
  obtain ⟨V, hV⟩ : ∃ V : Int, V = 0 := ⟨_, rfl⟩
  rw [← hV]
  have HV := Lib.hid hV; clear hV
  go_enter Tryd.func82, Tryd.ntmps82
  go_wp2_with fail
  all_goals exact bodyPost_ret (v := numV 0 false) (by simp [results, Tryd.results82, go_sem, numV]) rfl ⟨(⟨false, by rw [HV.out]⟩ : NumPost _ _), Below.refl _ _⟩

set_option maxRecDepth 100000 in
set_option maxHeartbeats 1000000 in
theorem num_n1 (s t : By) (w : World) (hs0 : 0 < s.length) (hs : s[0] = 45) (hx : (⟨s.toArray⟩ : ByteArray).extract 1 s.length = ⟨t.toArray⟩) (h0 : 0 < t.length) (hl : t.length ≤ 17) (hz : t[0] ≠ 48) :
    Calls Tryd.prog 82 #[.string ⟨s.toArray⟩] w fun e w' => NumPost ((match dval 0 t with | none => 0 | some n => -n)) e ∧ Below w.heap.size w w' := by
  have q4 : 0 < (s.length : Int) := by omega
  have q5 : ¬ s = [] := fun e => by rw [e] at hs0; simp at hs0
  have q0 : (s[0].toNat : Int) = 45 := by rw [hs]; rfl
  have q1 : ((s[0].toNat : Int) == 45) = true := by rw [hs]; rfl
  have q6 : 1 ≤ (s.length : Int) := by omega
  have g3 : ¬ (t.length : Int) = 0 := by omega
  have g4 : 0 < (t.length : Int) := by omega
  have g5 : ¬ t = [] := fun e => by rw [e] at h0; simp at h0
  have g6 : ((t.length : Int) == 0) = false := beq_eq_false_iff_ne.2 (by omega)
  have f1 := u8_ne (k := 48) (by omega) hz
  have g1 : ¬ (t[0].toNat : Int) = 48 := by simpa using f1
  have g2 : ¬ 17 < (t.length : Int) := by omega
  obtain ⟨V, hV⟩ : ∃ V : Int, V = (match dval 0 t with | none => 0 | some n => -n) := ⟨_, rfl⟩
  rw [← hV]
  have HV := Lib.hid hV; clear hV
  go_enter Tryd.func82, Tryd.ntmps82
  go_wp2_with fail
  go_loopw [5, 6] (fun s5 s6 wr => ∃ (i : Nat) (acc : Int), i ≤ (t).length ∧ s6 = .int .i64 i ∧ s5 = .int .i64 acc ∧ 0 ≤ acc ∧ Hid (acc < 10 ^ i) ∧ Hid (dval 0 (t) = dval acc ((t).drop i)) ∧ wr = w) (fun _ i _ => (t).length - (intOf i).toNat)
  case atStart => exact ⟨0, 0, Nat.zero_le _, rfl, rfl, by omega, Lib.hid (by decide), Lib.hid rfl, rfl⟩
  case round =>
    obtain ⟨i, acc, hi, rfl, rfl, ha0, HA, HD, rfl⟩ := hrel
    have hlen : (t).length ≤ 17 := hl
    have hap : acc < 100000000000000000 := Int.lt_of_lt_of_le HA.out (pow_le17 i (by omega))
    by_cases hlt : i < (t).length
    · have hst := dval_step (t) acc i hlt
      have hap2 : acc < 10000000000000000 := by
        have h16 : (10 : Int) ^ i ≤ 10000000000000000 := by
          have : ∀ k : Fin 17, (10 : Int) ^ k.val ≤ 10000000000000000 := by decide
          exact this ⟨i, by omega⟩
        exact Int.lt_of_lt_of_le HA.out h16
      have h256 := (t)[i].toNat_lt
      by_cases hd : 48 ≤ (t)[i].toNat ∧ (t)[i].toNat ≤ 57
      · rw [if_pos hd] at hst
        have HST := Lib.hid hst; clear hst
        have d1 : ¬ ((t)[i].toNat : Int) < 48 := by omega
        have d2 : ¬ 57 < ((t)[i].toNat : Int) := by omega
        have d3 : 48 ≤ ((t)[i].toNat : Int) := by omega
        go_wp2_with fail
        go_roundw
        case rel =>
          refine ⟨i + 1, _, hlt, by go_num, rfl, by omega, Lib.hid ?_, Lib.hid (HD.out.trans HST.out), by first | rfl | trivial⟩
          have h9 := HA.out
          have h8 : (10 : Int) ^ (i + 1) = 10 ^ i * 10 := Int.pow_succ ..
          rw [h8]
          omega
        case measure => simp [intOf]; omega
      · rw [if_neg hd] at hst
        have HST := Lib.hid hst; clear hst
        by_cases d1 : ((t)[i].toNat : Int) < 48
        · go_wp2_with fail
          exact bodyPost_ret (v := numV 0 false) (by simp [results, Tryd.results82, go_sem, numV]) rfl ⟨(⟨false, by rw [HV.out, HD.out, HST.out]⟩ : NumPost _ _), Below.refl _ _⟩
        · have d2 : 57 < ((t)[i].toNat : Int) := by omega
          go_wp2_with fail
          exact bodyPost_ret (v := numV 0 false) (by simp [results, Tryd.results82, go_sem, numV]) rfl ⟨(⟨false, by rw [HV.out, HD.out, HST.out]⟩ : NumPost _ _), Below.refl _ _⟩
    · have hlt2 : ¬ (i : Int) < (t.length : Int) := by omega
      have HST := Lib.hid (dval_done (t) acc i (by omega))
      go_wp2_with fail
      exact bodyPost_ret (v := numV (-acc) true) (by simp [results, Tryd.results82, go_sem, numV]) rfl ⟨(⟨true, by rw [HV.out, HD.out, HST.out]⟩ : NumPost _ _), Below.refl _ _⟩

set_option maxRecDepth 100000 in
set_option maxHeartbeats 1000000 in
theorem num_n2 (s t : By) (w : World) (hs0 : 0 < s.length) (hs : s[0] = 45) (hx : (⟨s.toArray⟩ : ByteArray).extract 1 s.length = ⟨t.toArray⟩) (h0 : 0 < t.length) (hl : 17 < t.length) :
    Calls Tryd.prog 82 #[.string ⟨s.toArray⟩] w fun e w' => NumPost (0) e ∧ Below w.heap.size w w' := by
  have q4 : 0 < (s.length : Int) := by omega
  have q5 : ¬ s = [] := fun e => by rw [e] at hs0; simp at hs0
  have q0 : (s[0].toNat : Int) = 45 := by rw [hs]; rfl
  have q1 : ((s[0].toNat : Int) == 45) = true := by rw [hs]; rfl
  have q6 : 1 ≤ (s.length : Int) := by omega
  have g3 : ¬ (t.length : Int) = 0 := by omega
  have g4 : 0 < (t.length : Int) := by omega
  have g5 : ¬ t = [] := fun e => by rw [e] at h0; simp at h0
  have g6 : ((t.length : Int) == 0) = false := beq_eq_false_iff_ne.2 (by omega)
  have g2 : 17 < (t.length : Int) := by omega
  obtain ⟨V, hV⟩ : ∃ V : Int, V = 0 := ⟨_, rfl⟩
  rw [← hV]
  have HV := Lib.hid hV; clear hV
  go_enter Tryd.func82, Tryd.ntmps82
  go_wp2_with fail
  all_goals exact bodyPost_ret (v := numV 0 false) (by simp [results, Tryd.results82, go_sem, numV]) rfl ⟨(⟨false, by rw [HV.out]⟩ : NumPost _ _), Below.refl _ _⟩

set_option maxRecDepth 100000 in
set_option maxHeartbeats 1000000 in
theorem num_n3 (s t : By) (w : World) (hs0 : 0 < s.length) (hs : s[0] = 45) (hx : (⟨s.toArray⟩ : ByteArray).extract 1 s.length = ⟨t.toArray⟩) (h0 : 0 < t.length) (hl : t.length ≤ 17) (hz : t[0] = 48) :
    Calls Tryd.prog 82 #[.string ⟨s.toArray⟩] w fun e w' => NumPost (0) e ∧ Below w.heap.size w w' := by
  have q4 : 0 < (s.length : Int) := by omega
  have q5 : ¬ s = [] := fun e => by rw [e] at hs0; simp at hs0
  have q0 : (s[0].toNat : Int) = 45 := by rw [hs]; rfl
  have q1 : ((s[0].toNat : Int) == 45) = true := by rw [hs]; rfl
  have q6 : 1 ≤ (s.length : Int) := by omega
  have g3 : ¬ (t.length : Int) = 0 := by omega
  have g4 : 0 < (t.length : Int) := by omega
  have g5 : ¬ t = [] := fun e => by rw [e] at h0; simp at h0
  have g6 : ((t.length : Int) == 0) = false := beq_eq_false_iff_ne.2 (by omega)
  have f1 : ((t[0].toNat : Int) == 48) = true := by rw [hz]; rfl
  have g1 : (t[0].toNat : Int) = 48 := by rw [hz]; rfl
  have g2 : ¬ 17 < (t.length : Int) := by omega
  obtain ⟨V, hV⟩ : ∃ V : Int, V = 0 := ⟨_, rfl⟩
  rw [← hV]
  have HV := Lib.hid hV; clear hV
  go_enter Tryd.func82, Tryd.ntmps82
  go_wp2_with fail
  all_goals exact bodyPost_ret (v := numV 0 false) (by simp [results, Tryd.results82, go_sem, numV]) rfl ⟨(⟨false, by rw [HV.out]⟩ : NumPost _ _), Below.refl _ _⟩

set_option maxRecDepth 100000 in
set_option maxHeartbeats 1000000 in
theorem num_n0 (s : By) (w : World) (hs0 : 0 < s.length) (hs : s[0] = 45) (hx : (⟨s.toArray⟩ : ByteArray).extract 1 s.length = ⟨#[]⟩) :
    Calls Tryd.prog 82 #[.string ⟨s.toArray⟩] w fun e w' => NumPost (0) e ∧ Below w.heap.size w w' := by
  have q4 : 0 < (s.length : Int) := by omega
  have q5 : ¬ s = [] := fun e => by rw [e] at hs0; simp at hs0
  have q0 : (s[0].toNat : Int) = 45 := by rw [hs]; rfl
  have q1 : ((s[0].toNat : Int) == 45) = true := by rw [hs]; rfl
  have q6 : 1 ≤ (s.length : Int) := by omega
  obtain ⟨V, hV⟩ : ∃ V : Int, V = 0 := ⟨_, rfl⟩
  rw [← hV]
  have HV := Lib.hid hV; clear hV
  go_enter Tryd.func82, Tryd.ntmps82
  go_wp2_with fail
  all_goals exact bodyPost_ret (v := numV 0 false) (by simp [results, Tryd.results82, go_sem, numV]) rfl ⟨(⟨false, by rw [HV.out]⟩ : NumPost _ _), Below.refl _ _⟩

theorem head_get (s : By) (h : 0 < s.length) : s.head? = some s[0] := by
  cases s with
  | nil => simp at h
  | cons c r => rfl

theorem num_any (s : By) (w : World) :
    Calls Tryd.prog 82 #[.string ⟨s.toArray⟩] w fun e w' => NumPost (n17 s) e ∧ Below w.heap.size w w' := by
  cases s with
  | nil => exact num_e w
  | cons c r =>
    have h0 : 0 < (c :: r).length := by simp
    by_cases hc : c = 45
    · subst hc
      have hx := ba_tail 45 r
      have e : n17 (45 :: r) = if r = [] ∨ 17 < r.length ∨ (r.head? = some 48 ∧ (1 < r.length ∨ true = true)) then 0 else match dval 0 r with | none => 0 | some n => -n := rfl
      by_cases hr : r = []
      · subst hr
        rw [e, if_pos (.inl rfl)]
        exact num_n0 [45] w h0 rfl hx
      · have hr0 : 0 < r.length := List.length_pos_iff.2 hr
        by_cases hl : 17 < r.length
        · rw [e, if_pos (.inr (.inl hl))]
          exact num_n2 (45 :: r) r w h0 rfl hx hr0 hl
        · have hhd := head_get r hr0
          by_cases hz : r[0] = 48
          · rw [e, if_pos (.inr (.inr ⟨by rw [hhd, hz], .inr rfl⟩))]
            exact num_n3 (45 :: r) r w h0 rfl hx hr0 (by omega) hz
          · rw [e, if_neg (by rintro (h | h | ⟨h, -⟩); exact hr h; exact hl h; rw [hhd] at h; exact hz (Option.some.inj h))]
            exact num_n1 (45 :: r) r w h0 rfl hx hr0 (by omega) hz
    · have hb : ((some c : Option UInt8) == some 45) = false := by simpa using hc
      have e : n17 (c :: r) = if (c :: r) = [] ∨ 17 < (c :: r).length ∨ ((c :: r).head? = some 48 ∧ (1 < (c :: r).length ∨ false = true)) then 0 else match dval 0 (c :: r) with | none => 0 | some n => n := by
        unfold n17
        simp only [List.head?_cons, hb]
        rfl
      by_cases hl : 17 < (c :: r).length
      · rw [e, if_pos (.inr (.inl hl))]
        exact num_p3 (c :: r) w h0 hc hl
      · by_cases hz : c = 48
        · by_cases h1 : 1 < (c :: r).length
          · rw [e, if_pos (.inr (.inr ⟨by rw [hz]; rfl, .inl h1⟩))]
            exact num_p4 (c :: r) w h0 hc (by omega) hz h1
          · rw [e, if_neg (by rintro (h | h | ⟨-, h | h⟩); cases h; exact hl h; exact h1 h; cases h)]
            exact num_p2 (c :: r) w h0 hc (by omega) hz (by omega)
        · rw [e, if_neg (by rintro (h | h | ⟨h, -⟩); cases h; exact hl h; exact hz (Option.some.inj h))]
          exact num_p1 (c :: r) w h0 hc (by omega) hz
end Go.Proofs.YtlknhjibadbeeaaDoor
