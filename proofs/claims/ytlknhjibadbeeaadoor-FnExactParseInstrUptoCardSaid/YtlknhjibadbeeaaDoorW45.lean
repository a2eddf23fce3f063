/- Walks of the reference's l1Sign and l8Int. -/
import Derived.Test.YtlknhjibadbeeaaDoorW44
namespace Go.Proofs.YtlknhjibadbeeaaDoor
open Go.RowKit Go.Deep

attribute [local go_sem] ba_get ba_append

theorem dval_bound : ∀ (t : By) (acc v : Int) (k : Nat), 0 ≤ acc → acc < 10 ^ k → dval acc t = some v → 0 ≤ v ∧ v < 10 ^ (k + t.length)
  | [], acc, v, k, h0, h1, h => by
    simp only [dval, Option.some.injEq] at h
    subst h
    exact ⟨h0, by simpa using h1⟩
  | c :: r, acc, v, k, h0, h1, h => by
    simp only [dval] at h
    split at h
    · next hd =>
      have hp : (10 : Int) ^ (k + 1) = 10 ^ k * 10 := Int.pow_succ ..
      have := dval_bound r _ v (k + 1) (by omega) (by rw [hp]; omega) h
      rw [show k + (c :: r).length = k + 1 + r.length by simp; omega]
      exact this
    · cases h
theorem pow_len (t : By) (h : t.length ≤ 17) : (10 : Int) ^ (0 + t.length) ≤ 100000000000000000 := by rw [Nat.zero_add]; exact pow_le17 _ h
theorem n17_bound' (neg : Bool) (t : By) : -100000000000000000 ≤ (if t = [] ∨ 17 < t.length ∨ (t.head? = some 48 ∧ (1 < t.length ∨ neg = true)) then (0 : Int) else match dval 0 t with | none => 0 | some n => if neg then -n else n) ∧
    (if t = [] ∨ 17 < t.length ∨ (t.head? = some 48 ∧ (1 < t.length ∨ neg = true)) then (0 : Int) else match dval 0 t with | none => 0 | some n => if neg then -n else n) ≤ 100000000000000000 := by
  by_cases hb : t = [] ∨ 17 < t.length ∨ (t.head? = some 48 ∧ (1 < t.length ∨ neg = true))
  · rw [if_pos hb]; omega
  · rw [if_neg hb]
    simp only [not_or] at hb
    have hp := pow_len t (by omega)
    cases hv : dval 0 t with
    | none => simp
    | some v =>
      have := dval_bound t 0 v 0 (by omega) (by decide) hv
      simp only
      cases neg
      · simp; omega
      · simp; omega
theorem n17_bound (s : By) : -100000000000000000 ≤ n17 s ∧ n17 s ≤ 100000000000000000 := n17_bound' (s.head? == some 45) (if (s.head? == some 45) = true then s.tail else s)

set_option maxRecDepth 100000 in
theorem l1Sign_any (s : By) (w : World) : Calls Tryd.prog 81 #[.string ⟨s.toArray⟩, .int .i64 0, .int .u8 45] w fun e w' => e = .returned (.bool (s.head? == some 45)) ∧ w' = w := by
  cases s with
  | nil =>
    go_enter Tryd.func81, Tryd.ntmps81
    go_wp2_with fail
    go_ret
    exact ⟨rfl, rfl⟩
  | cons c r =>
    have h1 : (0 : Int) < (r.length : Int) + 1 := by omega
    have HE := Lib.hid (show ((c :: r).head? == some 45) = ((c.toNat : Int) == 45) by
      rw [Bool.eq_iff_iff]
      simp
      constructor
      · rintro rfl; rfl
      · intro h; exact UInt8.toNat_inj.1 (by show c.toNat = 45; omega))
    go_enter Tryd.func81, Tryd.ntmps81
    go_wp2_with fail
    go_ret
    exact ⟨by rw [HE.out]; rfl, rfl⟩

set_option maxRecDepth 100000 in
theorem l8Int_any (s : By) (w : World) : Calls Tryd.prog 51 #[.string ⟨s.toArray⟩] w fun e w' => e = .returned (.int .i64 (num8 s)) ∧ Below w.heap.size w w' := by
  cases hq : (s.head? == some 45)
  · have HE := Lib.hid (show num8 s = n17 s by unfold num8; rw [if_neg (by simpa using hq)])
    have hb := n17_bound s
    go_enter Tryd.func51, Tryd.ntmps51
    go_wp2_with fail
    refine (l1Sign_any s _).mono ?_
    rintro e w1 ⟨rfl, rfl⟩
    rw [hq]
    go_wp2_with fail
    refine (num_any s _).mono ?_
    rintro e w2 ⟨⟨ok, rfl⟩, hb2⟩
    rw [show numV (n17 s) ok = .tuple #[.int .i64 (n17 s), .bool ok] from rfl]
    have HB := Lib.hid hb2; clear hb2
    obtain ⟨v, hv⟩ : ∃ v, v = n17 s := ⟨_, rfl⟩
    rw [← hv] at hb ⊢
    have HV := Lib.hid hv; clear hv
    go_wp2_with fail
    go_ret
    exact ⟨by rw [HE.out, ← HV.out]; rfl, HB.out⟩
  · have HE := Lib.hid (show num8 s = -(n17 s.tail) by unfold num8; rw [if_pos (by simpa using hq)])
    have hb := n17_bound s.tail
    obtain ⟨r, rfl⟩ : ∃ r, s = 45 :: r := by
      cases s with
      | nil => simp at hq
      | cons c r => exact ⟨r, by simp at hq; rw [hq]⟩
    have hx := ba_tail 45 r
    have hr1 : (1 : Int) ≤ (r.length : Int) + 1 := by omega
    go_enter Tryd.func51, Tryd.ntmps51
    go_wp2_with fail
    refine (l1Sign_any (45 :: r) _).mono ?_
    rintro e w1 ⟨rfl, rfl⟩
    rw [hq]
    go_wp2_with fail
    refine (num_any r _).mono ?_
    rintro e w2 ⟨⟨ok, rfl⟩, hb2⟩
    rw [show numV (n17 r) ok = .tuple #[.int .i64 (n17 r), .bool ok] from rfl]
    have HB := Lib.hid hb2; clear hb2
    replace hb : -100000000000000000 ≤ n17 r ∧ n17 r ≤ 100000000000000000 := hb
    obtain ⟨v, hv⟩ : ∃ v, v = n17 r := ⟨_, rfl⟩
    rw [← hv] at hb ⊢
    have HV := Lib.hid hv; clear hv
    go_wp2_with fail
    go_ret
    exact ⟨by rw [HE.out, show n17 (45 :: r).tail = v from HV.out.symm]; first | rfl | (congr; omega), HB.out⟩
end Go.Proofs.YtlknhjibadbeeaaDoor
