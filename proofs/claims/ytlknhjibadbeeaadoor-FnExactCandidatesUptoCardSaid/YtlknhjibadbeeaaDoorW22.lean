/- Walks of slices.IndexFunc and slices.ContainsFunc over clauses, for any predicate. -/
import Derived.Test.YtlknhjibadbeeaaDoorW21
import Derived.Lib.SliceRun
namespace Go.Proofs.YtlknhjibadbeeaaDoor
open Go.RowKit Go.Deep

attribute [local go_sem] ba_get ba_append

set_option maxRecDepth 100000 in
set_option maxHeartbeats 2000000 in
theorem idxClause_any (g : Nat) (lb : Array Value) (eg : ∀ args w, (callFunc g args).run Tryd.prog w = .ok (.enter g args) w) (Inv Q : Nat → World → Prop) (ts : List Cl) (ks bs : Nat → Value) (a : Option Addr) (c : Nat) (hm : ts.length ≤ 1048576)
    (hload : ∀ W k (h : k < ts.length), Inv k W → ∃ b o, a = some ⟨b, o, none⟩ ∧ W.cell? ⟨b, o + k * 5, none⟩ = some (.int .i64 ts[k].head.kind) ∧ W.cell? ⟨b, o + k * 5 + 1, none⟩ = some (.int .i64 ts[k].head.n) ∧ W.cell? ⟨b, o + k * 5 + 2, none⟩ = some (.string ⟨ts[k].head.name.toArray⟩) ∧ W.cell? ⟨b, o + k * 5 + 3, none⟩ = some (ks k) ∧ W.cell? ⟨b, o + k * 5 + 4, none⟩ = some (bs k))
    (hcall : ∀ W k (h : k < ts.length), Inv k W → Calls Tryd.prog g (#[.agg #[.int .i64 ts[k].head.kind, .int .i64 ts[k].head.n, .string ⟨ts[k].head.name.toArray⟩, ks k, bs k]] ++ lb) W fun e W' => ∃ r, e = .returned (.bool r) ∧ (r = true → Q k W') ∧ (r = false → Inv (k + 1) W'))
    (w : World) (h0 : Inv 0 w) :
    Calls Tryd.prog 114 #[.slice a ts.length c, .func (.func g) #[] lb] w fun e w' =>
      (∃ k : Nat, k < ts.length ∧ e = .returned (.int .i64 k) ∧ Q k w') ∨ (e = .returned (.int .i64 (-1)) ∧ Inv ts.length w') := by
  have HL := Lib.hid hload; clear hload
  have HC := Lib.hid hcall; clear hcall
  have H0 := Lib.hid h0; clear h0
  obtain ⟨m, hmm⟩ : ∃ m, m = ts.length := ⟨_, rfl⟩
  rw [← hmm] at hm ⊢
  have HM := Lib.hid hmm; clear hmm
  go_enter Tryd.func114, Tryd.ntmps114
  go_wp2_with fail
  go_loopw [5, 8] (fun _ j wr => ∃ i : Nat, i ≤ m ∧ j = .int .i64 i ∧ Hid (Inv i wr)) (fun _ i _ => m - (intOf i).toNat)
  case atStart => exact ⟨0, Nat.zero_le _, rfl, H0⟩
  case round =>
    obtain ⟨i, hi, rfl, HI⟩ := hrel
    by_cases hlt : i < m
    · have hlx : i < ts.length := by rw [← HM.out]; exact hlt
      obtain ⟨b, o, rfl, c0, c1, c2, c3, c4⟩ := HL.out wr i hlx HI.out
      go_wp2_with fail
      refine (HC.out wr i hlx HI.out).mono ?_
      rintro e w2 ⟨r, rfl, hq, hinv⟩
      cases r
      · have HI2 := Lib.hid (hinv rfl)
        clear hq hinv
        go_wp2_with fail
        go_roundw
        case rel => exact ⟨i + 1, by omega, by go_num, HI2⟩
        case measure => simp [intOf]; omega
      · have HQ := Lib.hid (hq rfl)
        clear hq hinv
        go_wp2_with fail
        go_ret
        exact .inl ⟨i, hlt, rfl, HQ.out⟩
    · go_wp2_with fail
      go_ret
      have e : i = m := by omega
      exact .inr ⟨rfl, e ▸ HI.out⟩

set_option maxRecDepth 100000 in
set_option maxHeartbeats 2000000 in
theorem hasClause_any (g : Nat) (lb : Array Value) (eg : ∀ args w, (callFunc g args).run Tryd.prog w = .ok (.enter g args) w) (Inv Q : Nat → World → Prop) (ts : List Cl) (ks bs : Nat → Value) (a : Option Addr) (c : Nat) (hm : ts.length ≤ 1048576)
    (hload : ∀ W k (h : k < ts.length), Inv k W → ∃ b o, a = some ⟨b, o, none⟩ ∧ W.cell? ⟨b, o + k * 5, none⟩ = some (.int .i64 ts[k].head.kind) ∧ W.cell? ⟨b, o + k * 5 + 1, none⟩ = some (.int .i64 ts[k].head.n) ∧ W.cell? ⟨b, o + k * 5 + 2, none⟩ = some (.string ⟨ts[k].head.name.toArray⟩) ∧ W.cell? ⟨b, o + k * 5 + 3, none⟩ = some (ks k) ∧ W.cell? ⟨b, o + k * 5 + 4, none⟩ = some (bs k))
    (hcall : ∀ W k (h : k < ts.length), Inv k W → Calls Tryd.prog g (#[.agg #[.int .i64 ts[k].head.kind, .int .i64 ts[k].head.n, .string ⟨ts[k].head.name.toArray⟩, ks k, bs k]] ++ lb) W fun e W' => ∃ r, e = .returned (.bool r) ∧ (r = true → Q k W') ∧ (r = false → Inv (k + 1) W'))
    (w : World) (h0 : Inv 0 w) :
    Calls Tryd.prog 97 #[.slice a ts.length c, .func (.func g) #[] lb] w fun e w' =>
      (e = .returned (.bool true) ∧ ∃ k, k < ts.length ∧ Q k w') ∨ (e = .returned (.bool false) ∧ Inv ts.length w') := by
  go_enter Tryd.func97, Tryd.ntmps97
  go_wp2_with fail
  refine (idxClause_any g lb eg Inv Q ts ks bs a c hm hload hcall _ h0).mono ?_
  rintro e w2 (⟨k, hk, rfl, hq⟩ | ⟨rfl, hq⟩)
  · go_wp2_with fail
    go_ret
    exact .inl ⟨by simp, k, hk, hq⟩
  · go_wp2_with fail
    go_ret
    exact .inr ⟨rfl, hq⟩
end Go.Proofs.YtlknhjibadbeeaaDoor
