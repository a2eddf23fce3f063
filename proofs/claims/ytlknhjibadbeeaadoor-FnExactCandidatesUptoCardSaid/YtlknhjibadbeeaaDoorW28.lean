/- Walks of impl.GoalValid, goalsValid, ClauseValid and ProgramValid. -/
import Derived.Test.YtlknhjibadbeeaaDoorW27
namespace Go.Proofs.YtlknhjibadbeeaaDoor
open Go.RowKit Go.Deep

attribute [local go_sem] ba_get ba_append

set_option maxRecDepth 100000 in
set_option maxHeartbeats 1000000 in
theorem implGoalValid_any (S : Nat → Prop) (k n : Int) (nm : By) (ks : List Tm) (w : World) (a : Option Addr) (m c : Nat) (hN : nodes (.mk k n nm ks) ≤ 1048576) (hnm : namesLe (.mk k n nm ks) 1048576 = true) (h : TmSl S w ks a m) :
    Calls Tryd.prog 133 #[.agg #[.int .i64 k, .int .i64 n, .string ⟨nm.toArray⟩, .slice a m c]] w fun e w' => e = .returned (.bool (goalOk (.mk k n nm ks))) ∧ Below w.heap.size w w' := by
  have HE := Lib.hid (show goalOk (.mk k n nm ks) = (termOk (.mk k n nm ks) && (isCutT (.mk k n nm ks) || isPlainT (.mk k n nm ks) || isBltT (.mk k n nm ks))) from rfl)
  have hlen := nodesL_len ks
  have hl : nm.length ≤ 1048576 := by simp only [namesLe, Bool.and_eq_true, decide_eq_true_eq] at hnm; exact hnm.1
  have hm2 : m ≤ 1048576 := by have := h.1; simp only [nodes] at hN; omega
  have HN := Lib.hid (And.intro hN hnm); clear hN hnm
  have HM := Lib.hid h.1
  have H := Lib.hid h; clear h
  go_enter Tryd.func133, Tryd.ntmps133
  go_wp2_with fail
  refine (implTermValid_any S _ _ _ ks _ _ _ _ HN.out.1 HN.out.2 (H.out.below (bal0 _ _))).mono ?_
  rintro e w1 ⟨rfl, hb1⟩
  obtain ⟨hc1, hf1⟩ := bcell hb1
  have hz1 := bsz w.heap.size hb1 (by simp)
  have HB1 := Lib.hid (bnext (bal0 _ _) hb1)
  cases hq : termOk (.mk k n nm ks)
  · have HQ := Lib.hid hq; clear hq
    go_wp2_with fail
    go_ret
    exact ⟨ret_bool (by rw [HE.out, HQ.out]; rfl), HB1.out⟩
  · have HQ := Lib.hid hq; clear hq
    go_wp2_with fail
    refine (isPlain_any _ _ _ ks _ _ _ _ hl HM.out).mono ?_
    rintro e w2 ⟨rfl, hb2⟩
    obtain ⟨hc2, hf2⟩ := bcell hb2
    have hz2 := bsz w.heap.size hb2 (by omega)
    have HB2 := Lib.hid (bnext HB1.out hb2)
    cases hp : isPlainT (.mk k n nm ks)
    · have HP := Lib.hid hp; clear hp
      go_wp2_with fail
      refine (isBuilt_any _ _ _ ks _ _ _ _ HM.out).mono ?_
      rintro e w3 ⟨rfl, hb3⟩
      obtain ⟨hc3, hf3⟩ := bcell hb3
      have hz3 := bsz w.heap.size hb3 (by omega)
      have HB3 := Lib.hid (bnext HB2.out hb3)
      cases hbl : isBltT (.mk k n nm ks)
      · have HBL := Lib.hid hbl; clear hbl
        go_wp2_with fail
        refine (isCut_any _ _ _ ks _ _ _ _ HM.out hm2).mono ?_
        rintro e w4 ⟨rfl, hb4⟩
        have HB4 := Lib.hid (bnext HB3.out hb4)
        go_wp2_with fail
        go_ret
        exact ⟨ret_bool (by rw [HE.out, HQ.out, HP.out, HBL.out]; simp), HB4.out⟩
      · have HBL := Lib.hid hbl; clear hbl
        go_wp2_with fail
        go_ret
        exact ⟨ret_bool (by rw [HE.out, HQ.out, HBL.out]; simp), HB3.out⟩
    · have HP := Lib.hid hp; clear hp
      go_wp2_with fail
      go_ret
      exact ⟨ret_bool (by rw [HE.out, HQ.out, HP.out]; simp), HB2.out⟩

set_option maxRecDepth 100000 in
theorem enter_goals1 : ∀ args w, (callFunc 132 args).run Tryd.prog w = .ok (.enter 132 args) w := by
  intro args w
  simp [callFunc]
  rfl

set_option maxRecDepth 100000 in
theorem goals1_any (S : Nat → Prop) (k n : Int) (nm : By) (ks : List Tm) (w : World) (a : Option Addr) (m c : Nat) (hN : nodes (.mk k n nm ks) ≤ 1048576) (hnm : namesLe (.mk k n nm ks) 1048576 = true) (h : TmSl S w ks a m) :
    Calls Tryd.prog 132 #[.agg #[.int .i64 k, .int .i64 n, .string ⟨nm.toArray⟩, .slice a m c]] w fun e w' => e = .returned (.bool (!goalOk (.mk k n nm ks))) ∧ Below w.heap.size w w' := by
  have HN := Lib.hid (And.intro hN hnm); clear hN hnm
  have H := Lib.hid h; clear h
  go_enter Tryd.func132, Tryd.ntmps132
  go_wp2_with fail
  refine (implGoalValid_any S _ _ _ ks _ _ _ _ HN.out.1 HN.out.2 (H.out.below (bal0 _ _))).mono ?_
  rintro e w1 ⟨rfl, hb1⟩
  have HB1 := Lib.hid (bnext (bal0 _ _) hb1)
  go_wp2_with fail
  go_ret
  exact ⟨rfl, HB1.out⟩

/-- ContainsFunc over terms with a predicate that touches nothing of what was there -/
theorem hasTermB_any (g : Nat) (eg : ∀ args w, (callFunc g args).run Tryd.prog w = .ok (.enter g args) w) (P : Tm → Bool) (S : Nat → Prop) (ts : List Tm) (w : World) (a : Option Addr) (m c : Nat) (hm : m ≤ 1048576) (h : TmSl S w ts a m)
    (hcall : ∀ W (k : Nat) (hk : k < ts.length) a' m' c', TmSl S W ts[k].kids a' m' → Calls Tryd.prog g #[.agg #[.int .i64 ts[k].kind, .int .i64 ts[k].n, .string ⟨ts[k].name.toArray⟩, .slice a' m' c']] W fun e W' => e = .returned (.bool (!P ts[k])) ∧ Below W.heap.size W W') :
    Calls Tryd.prog 116 #[.slice a m c, .func (.func g) #[] #[]] w fun e w' => e = .returned (.bool (!ts.all P)) ∧ Below w.heap.size w w' := by
  have hmm := h.1
  subst hmm
  have hload0 : ∀ (k : Nat) (hk : k < ts.length), ∃ b o, a = some ⟨b, o, none⟩ ∧ b < w.heap.size ∧ w.cell? ⟨b, o + k * 4, none⟩ = some (.int .i64 ts[k].kind) ∧ w.cell? ⟨b, o + k * 4 + 1, none⟩ = some (.int .i64 ts[k].n) ∧ w.cell? ⟨b, o + k * 4 + 2, none⟩ = some (.string ⟨ts[k].name.toArray⟩) ∧
      ∃ a' n' c', w.cell? ⟨b, o + k * 4 + 3, none⟩ = some (.slice a' n' c') ∧ TmSl S w ts[k].kids a' n' := by
    intro k hk
    obtain ⟨b, o, ha, hlt, -, hr⟩ := h.2 (by omega)
    exact ⟨b, o, ha, hlt, rowAt_get hr k hk⟩
  obtain ⟨kv, hkv⟩ : ∃ kv : Nat → Value, ∀ (k : Nat) b o, a = some ⟨b, o, none⟩ → kv k = (w.cell? ⟨b, o + k * 4 + 3, none⟩).getD .nilFunc := by
    refine ⟨fun k => match a with | none => .nilFunc | some p => (w.cell? ⟨p.block, p.off + k * 4 + 3, none⟩).getD .nilFunc, ?_⟩
    rintro k b o rfl
    rfl
  refine (hasTerm_any g #[] eg (fun k V => Below w.heap.size w V ∧ (ts.take k).all P = true) (fun _ V => Below w.heap.size w V ∧ ts.all P = false) ts kv a c hm ?_ ?_ w ⟨Below.refl _ _, by simp⟩).mono ?_
  · rintro V k hk ⟨hb, -⟩
    obtain ⟨b, o, ha, hlt, c0, c1, c2, a', n', c', c3, -⟩ := hload0 k hk
    refine ⟨b, o, ha, (hb.cell (p := ⟨b, _, none⟩) hlt).trans c0, (hb.cell (p := ⟨b, _, none⟩) hlt).trans c1, (hb.cell (p := ⟨b, _, none⟩) hlt).trans c2, (hb.cell (p := ⟨b, _, none⟩) hlt).trans ?_⟩
    rw [hkv k b o ha, c3]; rfl
  · rintro V k hk ⟨hb, hall⟩
    obtain ⟨b, o, ha, hlt, -, -, -, a', n', c', c3, hts⟩ := hload0 k hk
    have hkk : kv k = .slice a' n' c' := by rw [hkv k b o ha, c3]; rfl
    rw [hkk]
    refine (hcall V k hk a' n' c' (hts.below hb)).mono ?_
    rintro e V2 ⟨rfl, hb2⟩
    refine ⟨_, rfl, fun hr => ⟨bnext hb hb2, all_noS P ts k hk (by simpa using hr)⟩, fun hr => ⟨bnext hb hb2, all_takeS P ts k hk hall (by simpa using hr)⟩⟩
  · rintro e V (⟨rfl, k, hk, hb, hall⟩ | ⟨rfl, hb, hall⟩)
    · exact ⟨by rw [hall]; rfl, hb⟩
    · rw [List.take_length] at hall
      exact ⟨by rw [hall]; rfl, hb⟩

set_option maxRecDepth 100000 in
theorem goalsValid_any (S : Nat → Prop) (ts : List Tm) (w : World) (a : Option Addr) (m c : Nat) (hN : nodesL ts ≤ 1048576) (hnm : namesLeL ts 1048576 = true) (h : TmSl S w ts a m) :
    Calls Tryd.prog 115 #[.slice a m c] w fun e w' => e = .returned (.bool (decide (m ≤ 6) && ts.all goalOk)) ∧ Below w.heap.size w w' := by
  have hlen := nodesL_len ts
  have hm2 : m ≤ 1048576 := by have := h.1; omega
  have HN := Lib.hid (And.intro hN hnm); clear hN hnm
  have H := Lib.hid h; clear h
  by_cases h6 : m ≤ 6
  · go_enter Tryd.func115, Tryd.ntmps115
    go_wp2_with fail
    refine (hasTermB_any 132 enter_goals1 goalOk S ts w a m c hm2 H.out ?_).mono ?_
    · intro W k hk a' m' c' hts
      have := nodes_mem (List.getElem_mem hk)
      have hN := HN.out.1
      have := goals1_any S ts[k].kind ts[k].n ts[k].name ts[k].kids W a' m' c' (by rw [Tm.eta']; omega) (by rw [Tm.eta']; exact namesLeL_mem HN.out.2 (List.getElem_mem hk)) hts
      rw [Tm.eta'] at this
      exact this
    · rintro e w1 ⟨rfl, hb1⟩
      have HB1 := Lib.hid hb1
      go_wp2_with fail
      go_ret
      exact ⟨ret_bool (by simp [h6]), HB1.out⟩
  · go_enter Tryd.func115, Tryd.ntmps115
    go_wp2_with fail
    go_ret
    exact ⟨ret_bool (by simp), Below.refl _ _⟩
end Go.Proofs.YtlknhjibadbeeaaDoor
