/- Walks of the laws' eqIntS, markIntS and heldIntS. -/
import Derived.Test.YtlknhjibadbeeaaDoorW34
import Derived.Test.YtlknhjibadbeeaaDoorW37
namespace Go.Proofs.YtlknhjibadbeeaaDoor
open Go.RowKit Go.Deep

attribute [local go_sem] ba_get ba_append

set_option maxRecDepth 100000 in
set_option maxHeartbeats 1000000 in
theorem eqIntS_any (S S' : Nat → Prop) (xs : List Nat) (w : World) (a a' : Option Addr) (m c c' : Nat) (hm : m ≤ 1048576) (h : IntSl S w xs a m) (h' : IntSl S' w xs a' m) :
    Calls Tryd.prog 17 #[.slice a m c, .slice a' m c'] w fun e w' => e = .returned (.bool true) ∧ Below w.heap.size w w' := by
  have H := Lib.hid h; clear h
  have H' := Lib.hid h'; clear h'
  go_enter Tryd.func17, Tryd.ntmps17
  go_wp2_with fail
  go_loopw [5] (fun j wr => ∃ k : Nat, k ≤ m ∧ j = .int .i64 k ∧ Below w.heap.size w wr) (fun i _ => m - (intOf i).toNat)
  case atStart => exact ⟨0, Nat.zero_le _, rfl, Below.refl _ _⟩
  case round =>
    obtain ⟨k, hk, rfl, hb⟩ := hrel
    by_cases hlt : k < m
    · have hlx : k < xs.length := by rw [← H.out.1]; exact hlt
      obtain ⟨b, o, rfl, hb0, -, hr⟩ := H.out.2 (by omega)
      obtain ⟨b2, o2, rfl, hb02, -, hr2⟩ := H'.out.2 (by omega)
      have c0 := (hb.cell (p := ⟨b, o + k, none⟩) hb0).trans (hr k hlx)
      have c1 := (hb.cell (p := ⟨b2, o2 + k, none⟩) hb02).trans (hr2 k hlx)
      clear hr hr2
      go_wp2_with fail
      go_quiet (fail)
      go_wp2_with fail
      go_roundw
      case rel => exact ⟨k + 1, by omega, by go_num, below_drewN hb _⟩
      case measure => simp [intOf]; omega
    · go_wp2_with fail
      go_ret
      exact ⟨rfl, hb⟩

/-- the cells hold k0, k0 + 1, .. -/
def HeldSl (w : World) (a : Option Addr) (n : Nat) (k0 : Int) : Prop := 0 < n → ∃ b o, a = some ⟨b, o, none⟩ ∧ b < w.heap.size ∧ ∀ k, k < n → w.cell? ⟨b, o + k, none⟩ = some (.int .i64 (k0 + k))

theorem HeldSl.below {w w' : World} {a : Option Addr} {n : Nat} {k0 : Int} (h : HeldSl w a n k0) (hb : Below w.heap.size w w') : HeldSl w' a n k0 := by
  intro hn
  obtain ⟨b, o, ha, hlt, hr⟩ := h hn
  exact ⟨b, o, ha, Nat.lt_of_lt_of_le hlt hb.size, fun k hk => (hb.cell (p := ⟨b, o + k, none⟩) hlt).trans (hr k hk)⟩

set_option maxRecDepth 100000 in
set_option maxHeartbeats 1000000 in
theorem heldIntS_any (w : World) (a : Option Addr) (m c : Nat) (k0 : Int) (hm : m ≤ 1048576) (h0 : 0 ≤ k0) (h1 : k0 ≤ 1000000000) (h : HeldSl w a m k0) :
    Calls Tryd.prog 23 #[.slice a m c, .int .i64 k0] w fun e w' => e = .returned (.int .i64 (k0 + m)) ∧ Below w.heap.size w w' := by
  have H := Lib.hid h; clear h
  go_enter Tryd.func23, Tryd.ntmps23
  go_wp2_with fail
  go_loopw [1, 5] (fun q j wr => ∃ k : Nat, k ≤ m ∧ j = .int .i64 k ∧ q = .int .i64 (k0 + k) ∧ Below w.heap.size w wr) (fun _ i _ => m - (intOf i).toNat)
  case atStart => exact ⟨0, Nat.zero_le _, rfl, by go_num, Below.refl _ _⟩
  case round =>
    obtain ⟨k, hk, rfl, rfl, hb⟩ := hrel
    by_cases hlt : k < m
    · obtain ⟨b, o, rfl, hb0, hr⟩ := H.out (by omega)
      have c0 := (hb.cell (p := ⟨b, o + k, none⟩) hb0).trans (hr k hlt)
      clear hr
      go_wp2_with fail
      go_roundw
      case rel => exact ⟨k + 1, by omega, by go_num, by go_num, hb⟩
      case measure => simp [intOf]; omega
    · go_wp2_with fail
      go_ret
      have e : k = m := by omega
      exact ⟨by rw [e]; rfl, hb⟩

set_option maxRecDepth 100000 in
set_option maxHeartbeats 1000000 in
theorem markIntS_any (S : Nat → Prop) (xs : List Nat) (w : World) (a : Option Addr) (m c : Nat) (k0 : Int) (hm : m ≤ 1048576) (h0 : 0 ≤ k0) (h1 : k0 ≤ 1000000000) (h : IntSl S w xs a m) (hf : NFz w a m) :
    Calls Tryd.prog 22 #[.slice a m c, .int .i64 k0] w fun e w' => e = .returned (.int .i64 (k0 + m)) ∧ HeldSl w' a m k0 ∧ ∀ G, (m = 0 ∨ ∃ o, a = some ⟨G, o, none⟩) → w.grownBy w' (some G) := by
  have H := Lib.hid h; clear h
  have HF := Lib.hid hf; clear hf
  go_enter Tryd.func22, Tryd.ntmps22
  go_wp2_with fail
  go_loopw [1, 5] (fun q j wr => ∃ k : Nat, k ≤ m ∧ j = .int .i64 k ∧ q = .int .i64 (k0 + k) ∧ Hid ((∀ G, (m = 0 ∨ ∃ o, a = some ⟨G, o, none⟩) → w.grownBy wr (some G)) ∧ ∀ b o, a = some ⟨b, o, none⟩ → (∀ i, i < m → wr.frozen? ⟨b, o + i, none⟩ = false) ∧ (∀ i, i < m → ∃ u, wr.cell? ⟨b, o + i, none⟩ = some u) ∧ ∀ i, i < k → wr.cell? ⟨b, o + i, none⟩ = some (.int .i64 (k0 + i)))) (fun _ i _ => m - (intOf i).toNat)
  case atStart =>
    refine ⟨0, Nat.zero_le _, rfl, by go_num, Lib.hid ⟨fun G _ => World.grownBy.refl _ _, fun b o ha => ⟨fun i hi => HF.out b o i ha hi, fun i hi => ?_, fun i hi => absurd hi (by omega)⟩⟩⟩
    obtain ⟨b', o', ha', -, -, hr⟩ := H.out.2 (by omega)
    rw [ha] at ha'
    simp only [Option.some.injEq, Addr.mk.injEq, and_true] at ha'
    obtain ⟨rfl, rfl⟩ := ha'
    exact ⟨_, hr i (by have := H.out.1; omega)⟩
  case round =>
    obtain ⟨k, hk, rfl, rfl, HR⟩ := hrel
    by_cases hlt : k < m
    · obtain ⟨b, o, rfl, hb0, -, -⟩ := H.out.2 (by omega)
      obtain ⟨f1, f2, f3⟩ := HR.out.2 b o rfl
      have hfk := f1 k hlt
      obtain ⟨u, hu⟩ := f2 k hlt
      have F1 := Lib.hid f1; have F2 := Lib.hid f2; have F3 := Lib.hid f3
      have HU := Lib.hid hu
      clear f1 f2 f3
      go_wp2_with fail
      go_roundw
      case rel =>
        refine ⟨k + 1, by omega, by go_num, by go_num, Lib.hid ⟨fun G hG => ?_, fun b' o' ha' => ?_⟩⟩
        · have hGb : G = b := by
            rcases hG with h | ⟨o', h⟩
            · omega
            · simp at h; exact h.1.symm
          subst hGb
          exact set_grown2 (HR.out.1 G (.inr ⟨o, rfl⟩)) _ _
        · simp only [Option.some.injEq, Addr.mk.injEq, and_true] at ha'
          obtain ⟨rfl, rfl⟩ := ha'
          refine ⟨fun i hi => (World.frozen?_setCell ..).trans (F1.out i hi), fun i hi => ?_, fun i hi => ?_⟩
          · by_cases he : i = k
            · subst he
              exact ⟨_, World.cell?_setCell_same' wr ⟨b, o + i, none⟩ _ (by rw [HU.out]; rfl)⟩
            · rw [World.cell?_setCell_other _ _ _ _ (fun e => by have : o + k = o + i := congrArg Addr.off e; omega)]
              exact F2.out i hi
          · by_cases he : i = k
            · subst he
              exact World.cell?_setCell_same' wr ⟨b, o + i, none⟩ _ (by rw [HU.out]; rfl)
            · rw [World.cell?_setCell_other _ _ _ _ (fun e => by have : o + k = o + i := congrArg Addr.off e; omega)]
              exact F3.out i (by omega)
      case measure => simp [intOf]; omega
    · go_wp2_with fail
      go_ret
      have e : k = m := by omega
      refine ⟨by rw [e]; rfl, fun hp => ?_, HR.out.1⟩
      obtain ⟨b, o, rfl, hb0, -, -⟩ := H.out.2 hp
      refine ⟨b, o, rfl, Nat.lt_of_lt_of_le hb0 (HR.out.1 b (.inr ⟨o, rfl⟩)).size, fun i hi => (HR.out.2 b o rfl).2.2 i (by omega)⟩
end Go.Proofs.YtlknhjibadbeeaaDoor
