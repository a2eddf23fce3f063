/- Walks of impl.ClauseValid and impl.ProgramValid. -/
import Derived.Test.YtlknhjibadbeeaaDoorW28
namespace Go.Proofs.YtlknhjibadbeeaaDoor
open Go.RowKit Go.Deep

attribute [local go_sem] ba_get ba_append

set_option maxRecDepth 100000 in
set_option maxHeartbeats 1000000 in
theorem implClauseValid_any (S : Nat → Prop) (cl : Cl) (w : World) (a a' : Option Addr) (m c m' c' : Nat) (hs : ClSmall cl) (h : TmSl S w cl.head.kids a m) (h' : TmSl S w cl.body a' m') :
    Calls Tryd.prog 99 #[.agg #[.int .i64 cl.head.kind, .int .i64 cl.head.n, .string ⟨cl.head.name.toArray⟩, .slice a m c, .slice a' m' c']] w fun e w' => e = .returned (.bool (clauseOk cl)) ∧ Below w.heap.size w w' := by
  have HE := Lib.hid (show clauseOk cl = (decide (m' ≤ 6) && cl.body.all goalOk && termOk cl.head && isPlainT cl.head) by rw [h'.1]; rfl)
  have hl : cl.head.name.length ≤ 1048576 := by
    have := hs.2.2.1
    rw [← Tm.eta' cl.head] at this
    simp only [namesLe, Bool.and_eq_true, decide_eq_true_eq] at this; exact this.1
  have HN := Lib.hid hs; clear hs
  have HM := Lib.hid h.1
  have H := Lib.hid h; clear h
  have H' := Lib.hid h'; clear h'
  have HT1 := Lib.hid (Tm.eta' cl.head)
  go_enter Tryd.func99, Tryd.ntmps99
  go_wp2_with fail
  refine (implTermValid_any S _ _ _ cl.head.kids _ _ _ _ (by rw [HT1.out]; exact HN.out.1) (by rw [HT1.out]; exact HN.out.2.2.1) (H.out.below (bal0 _ _))).mono ?_
  rw [HT1.out]
  rintro e w1 ⟨rfl, hb1⟩
  obtain ⟨hc1, hf1⟩ := bcell hb1
  have hz1 := bsz w.heap.size hb1 (by simp)
  have HB1 := Lib.hid (bnext (bal0 _ _) hb1)
  cases hq : termOk cl.head
  · have HQ := Lib.hid hq; clear hq
    go_wp2_with fail
    go_ret
    exact ⟨ret_bool (by rw [HE.out, HQ.out]; simp), HB1.out⟩
  · have HQ := Lib.hid hq; clear hq
    go_wp2_with fail
    refine (isPlain_any _ _ _ cl.head.kids _ _ _ _ hl HM.out).mono ?_
    rw [HT1.out]
    rintro e w2 ⟨rfl, hb2⟩
    obtain ⟨hc2, hf2⟩ := bcell hb2
    have hz2 := bsz w.heap.size hb2 (by omega)
    have HB2 := Lib.hid (bnext HB1.out hb2)
    cases hp : isPlainT cl.head
    · have HP := Lib.hid hp; clear hp
      go_wp2_with fail
      go_ret
      exact ⟨ret_bool (by rw [HE.out, HP.out]; simp), HB2.out⟩
    · have HP := Lib.hid hp; clear hp
      go_wp2_with fail
      refine (goalsValid_any S cl.body _ _ _ _ HN.out.2.1 HN.out.2.2.2 (H'.out.below HB2.out)).mono ?_
      rintro e w3 ⟨rfl, hb3⟩
      have HB3 := Lib.hid (bnext HB2.out hb3)
      go_wp2_with fail
      go_ret
      exact ⟨ret_bool (by rw [HE.out, HQ.out, HP.out]; simp), HB3.out⟩

set_option maxRecDepth 100000 in
theorem enter_program1 : ∀ args w, (callFunc 98 args).run Tryd.prog w = .ok (.enter 98 args) w := by
  intro args w
  simp [callFunc]
  rfl

set_option maxRecDepth 100000 in
theorem program1_any (S : Nat → Prop) (cl : Cl) (w : World) (a a' : Option Addr) (m c m' c' : Nat) (hs : ClSmall cl) (h : TmSl S w cl.head.kids a m) (h' : TmSl S w cl.body a' m') :
    Calls Tryd.prog 98 #[.agg #[.int .i64 cl.head.kind, .int .i64 cl.head.n, .string ⟨cl.head.name.toArray⟩, .slice a m c, .slice a' m' c']] w fun e w' => e = .returned (.bool (!clauseOk cl)) ∧ Below w.heap.size w w' := by
  have HN := Lib.hid hs; clear hs
  have H := Lib.hid h; clear h
  have H' := Lib.hid h'; clear h'
  go_enter Tryd.func98, Tryd.ntmps98
  go_wp2_with fail
  refine (implClauseValid_any S cl _ _ _ _ _ _ _ HN.out (H.out.below (bal0 _ _)) (H'.out.below (bal0 _ _))).mono ?_
  rintro e w1 ⟨rfl, hb1⟩
  have HB1 := Lib.hid (bnext (bal0 _ _) hb1)
  go_wp2_with fail
  go_ret
  exact ⟨rfl, HB1.out⟩

/-- ContainsFunc over clauses with a predicate that touches nothing of what was there -/
theorem hasClauseB_any (g : Nat) (eg : ∀ args w, (callFunc g args).run Tryd.prog w = .ok (.enter g args) w) (P : Cl → Bool) (S : Nat → Prop) (ts : List Cl) (w : World) (a : Option Addr) (m c : Nat) (hm : m ≤ 1048576) (h : ClSl S w ts a m)
    (hcall : ∀ W (k : Nat) (hk : k < ts.length) a' m' c' a'' m'' c'', TmSl S W ts[k].head.kids a' m' → TmSl S W ts[k].body a'' m'' → Calls Tryd.prog g #[.agg #[.int .i64 ts[k].head.kind, .int .i64 ts[k].head.n, .string ⟨ts[k].head.name.toArray⟩, .slice a' m' c', .slice a'' m'' c'']] W fun e W' => e = .returned (.bool (!P ts[k])) ∧ Below W.heap.size W W') :
    Calls Tryd.prog 97 #[.slice a m c, .func (.func g) #[] #[]] w fun e w' => e = .returned (.bool (!ts.all P)) ∧ Below w.heap.size w w' := by
  have hmm := h.1
  subst hmm
  have hload0 : ∀ (k : Nat) (hk : k < ts.length), ∃ b o, a = some ⟨b, o, none⟩ ∧ b < w.heap.size ∧ w.cell? ⟨b, o + k * 5, none⟩ = some (.int .i64 ts[k].head.kind) ∧ w.cell? ⟨b, o + k * 5 + 1, none⟩ = some (.int .i64 ts[k].head.n) ∧ w.cell? ⟨b, o + k * 5 + 2, none⟩ = some (.string ⟨ts[k].head.name.toArray⟩) ∧
      (∃ a' n' c', w.cell? ⟨b, o + k * 5 + 3, none⟩ = some (.slice a' n' c') ∧ TmSl S w ts[k].head.kids a' n') ∧ (∃ a' n' c', w.cell? ⟨b, o + k * 5 + 4, none⟩ = some (.slice a' n' c') ∧ TmSl S w ts[k].body a' n') := by
    intro k hk
    obtain ⟨b, o, ha, hlt, -, hr⟩ := h.2 (by omega)
    exact ⟨b, o, ha, hlt, hr k hk⟩
  obtain ⟨kv, hkv⟩ : ∃ kv : Nat → Nat → Value, ∀ (i k : Nat) b o, a = some ⟨b, o, none⟩ → kv i k = (w.cell? ⟨b, o + k * 5 + i, none⟩).getD .nilFunc := by
    refine ⟨fun i k => match a with | none => .nilFunc | some p => (w.cell? ⟨p.block, p.off + k * 5 + i, none⟩).getD .nilFunc, ?_⟩
    rintro i k b o rfl
    rfl
  refine (hasClause_any g #[] eg (fun k V => Below w.heap.size w V ∧ (ts.take k).all P = true) (fun _ V => Below w.heap.size w V ∧ ts.all P = false) ts (kv 3) (kv 4) a c hm ?_ ?_ w ⟨Below.refl _ _, by simp⟩).mono ?_
  · rintro V k hk ⟨hb, -⟩
    obtain ⟨b, o, ha, hlt, c0, c1, c2, ⟨a', n', c', c3, -⟩, a'', n'', c'', c4, -⟩ := hload0 k hk
    refine ⟨b, o, ha, (hb.cell (p := ⟨b, _, none⟩) hlt).trans c0, (hb.cell (p := ⟨b, _, none⟩) hlt).trans c1, (hb.cell (p := ⟨b, _, none⟩) hlt).trans c2, (hb.cell (p := ⟨b, _, none⟩) hlt).trans ?_, (hb.cell (p := ⟨b, _, none⟩) hlt).trans ?_⟩
    · rw [hkv 3 k b o ha, c3]; rfl
    · rw [hkv 4 k b o ha, c4]; rfl
  · rintro V k hk ⟨hb, hall⟩
    obtain ⟨b, o, ha, hlt, -, -, -, ⟨a', n', c', c3, hts⟩, a'', n'', c'', c4, hts'⟩ := hload0 k hk
    have hkk : kv 3 k = .slice a' n' c' := by rw [hkv 3 k b o ha, c3]; rfl
    have hkk' : kv 4 k = .slice a'' n'' c'' := by rw [hkv 4 k b o ha, c4]; rfl
    rw [hkk, hkk']
    refine (hcall V k hk a' n' c' a'' n'' c'' (hts.below hb) (hts'.below hb)).mono ?_
    rintro e V2 ⟨rfl, hb2⟩
    refine ⟨_, rfl, fun hr => ⟨bnext hb hb2, all_noS P ts k hk (by simpa using hr)⟩, fun hr => ⟨bnext hb hb2, all_takeS P ts k hk hall (by simpa using hr)⟩⟩
  · rintro e V (⟨rfl, k, hk, hb, hall⟩ | ⟨rfl, hb, hall⟩)
    · exact ⟨by rw [hall]; rfl, hb⟩
    · rw [List.take_length] at hall
      exact ⟨by rw [hall]; rfl, hb⟩

set_option maxRecDepth 100000 in
theorem implProgramValid_any (S : Nat → Prop) (ks : List Cl) (w : World) (a : Option Addr) (m c : Nat) (hs : ∀ x ∈ ks, ClSmall x) (h : ClSl S w ks a m) (hm : m ≤ 1048576) :
    Calls Tryd.prog 76 #[.slice a m c] w fun e w' => e = .returned (.bool (progOk ks)) ∧ Below w.heap.size w w' := by
  have HE := Lib.hid (show progOk ks = (decide (m ≤ 20) && ks.all clauseOk) by rw [h.1]; rfl)
  have HN := Lib.hid hs; clear hs
  have H := Lib.hid h; clear h
  by_cases h6 : m ≤ 20
  · go_enter Tryd.func76, Tryd.ntmps76
    go_wp2_with fail
    refine (hasClauseB_any 98 enter_program1 clauseOk S ks w a m c hm H.out ?_).mono ?_
    · intro W k hk a' m' c' a'' m'' c'' hts hts'
      exact program1_any S ks[k] W a' a'' m' c' m'' c'' (HN.out _ (List.getElem_mem hk)) hts hts'
    · rintro e w1 ⟨rfl, hb1⟩
      have HB1 := Lib.hid hb1
      go_wp2_with fail
      go_ret
      exact ⟨ret_bool (by rw [HE.out]; simp [h6]), HB1.out⟩
  · go_enter Tryd.func76, Tryd.ntmps76
    go_wp2_with fail
    go_ret
    exact ⟨ret_bool (by rw [HE.out]; simp [h6]), Below.refl _ _⟩
end Go.Proofs.YtlknhjibadbeeaaDoor
