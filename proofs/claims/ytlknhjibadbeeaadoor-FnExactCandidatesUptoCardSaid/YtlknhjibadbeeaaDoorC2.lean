/- The program's Candidates returns what the reference's returns, for all arguments: the tied card of the law FnExactCandidates, where what it reads is of bulk at most 1048576.
   Conditions: none beside the statement's own. -/
import Derived.Test.YtlknhjibadbeeaaDoorCards
import Derived.Test.YtlknhjibadbeeaaDoorTie
import Derived.Test.YtlknhjibadbeeaaDoorL2
import Derived.Test.YtlknhjibadbeeaaDoorOp2
import Derived.SevenTiedAt
import Derived.Stop.LaidErr
namespace Go.Proofs.YtlknhjibadbeeaaDoor.cardCandidates
open Go.ChangeShapes Go.WideShapes Go.ChangeAt Go.RowKit Go.Deep

theorem own : ownKnob Tryd.prog.godebug = none := by kernel_rfl
theorem laidOut : laidOutB Tryd.prog = true := by kernel_rfl
theorem gTabType : (Tryd.prog.globals[3]?).map (·.type) = some 157 := by kernel_rfl
theorem cellsT : Tryd.prog.cellsOf 157 = 20 := by kernel_rfl
theorem cellsE : Tryd.prog.cellsOf 137 = 1 := by kernel_rfl

theorem tab_lt {W : World} {k : IntKind} {zs : List Int} (h : Lib.TabIs Tryd.prog W "internal/strconv.uint64pow10" k zs) : 3 < W.heap.size := by
  unfold Lib.TabIs World.var? at h
  simp only [gPow, Option.bind_some] at h
  rcases Nat.lt_or_ge 3 W.heap.size with h1 | h1
  · exact h1
  · simp [Array.getElem?_eq_none h1] at h

/-- What the row's list gives: the library's table of powers of ten. -/
theorem table {W : World} (h : laidMetH Tryd.prog Rows.fnExactCandidatesUptoRow.laid W) : Tb W := by
  have h1 : Lib.TabIs Tryd.prog W "internal/strconv.uint64pow10" .u64 Lib.pow10Tab :=
    Lib.tabIs_of_head (rest := []) gPow gTabType Tryd.underlying157 Tryd.underlying137 cellsE cellsT (laidMet.tail (laidMet.tail h))
  exact ⟨h1, tab_lt h1⟩

set_option maxRecDepth 100000 in
theorem contract (H : Type) (enc : TypeId × Value → H) (W : World) (base : Nat) (args : Array Value) (ds gs : List (DataW H)) (before : List MemPlace)
    (hval : ∀ (j : Nat) t v, Tryd.f4.params[j]? = some t → args[j]? = some v → Value.okWide Tryd.prog W .any base t v)
    (hW : DataW.Whole enc Tryd.prog Tryd.f4.params.toList Rows.fnExactCandidatesSpec.vars false W args.toList ds gs before) (hL : laidMetH Tryd.prog Rows.fnExactCandidatesUptoRow.laid W) (hk : Rows.uptoSmall H (ds ++ gs) = true) :
    Calls Tryd.prog 4 args W fun e W' => ∃ v, e = .returned v ∧ Rows.fnExactCandidatesSpec.post enc Tryd.prog Tryd.f4 false true false false W args v W' := by
  have hW' := hW
  obtain ⟨p, q, hA0, hV, rfl, hfz, hnd⟩ := hW
  have hA : DataW.TrodAll enc Tryd.prog W 0 (fun _ => true) true Tryd.f4.params.toList args.toList ds p := hA0
  rw [Tryd.params4] at hA hval
  obtain ⟨v0, vs0, d0, ds0, p0, q0, hargs, rfl, rfl, h0, r0⟩ := trodAll_cons hA
  obtain ⟨v1, vs1, d1, ds1, p1, q1, hargs1, rfl, rfl, h1, r1⟩ := trodAll_cons r0
  obtain ⟨rfl, rfl, rfl⟩ := trodAll_nil r1
  subst hargs1
  obtain rfl : args = #[v0, v1] := by cases args; simp_all
  obtain ⟨rfl, rfl⟩ := trodVars_none hV
  obtain ⟨a0, len, cap, rfl⟩ := okWide_slice Tryd.underlying29 (hval 0 29 v0 rfl rfl)
  obtain ⟨cs1, rfl, -⟩ := okWide_struct Tryd.underlying32 (hval 1 32 v1 rfl rfl)
  have h0k := h0
  have h1k := h1
  obtain ⟨fuel, hf⟩ := h0
  obtain ⟨fuel1, hf1⟩ := h1
  obtain ⟨ad, n, c, xs, hcs, hx, hn, hl⟩ := open_clauses enc W hf
  simp only [Value.cells, List.cons.injEq, Value.slice.injEq, and_true] at hcs
  obtain ⟨rfl, rfl, rfl⟩ := hcs
  obtain ⟨tk, tn, tnm, tad, tm, tc, tks, hcs1, htx, htn, htl, -, hti⟩ := (open_all enc W (Rows.uptoBulk d1)).1 _ _ _ (Nat.le_refl _) hf1
  obtain rfl : cs1 = #[.int .i64 tk, .int .i64 tn, .string ⟨tnm.toArray⟩, .slice tad tm tc] := by
    cases cs1
    simp only [Value.cells] at hcs1
    rw [hcs1]
  clear hA0
  simp only [List.append_nil] at hW' hk
  have hbk := bulk_le hk
  simp only [Rows.uptoBulkAll] at hbk
  simp only at hn htn
  have hcl : clN xs ≤ 1048576 := by omega
  have hsm : ∀ y ∈ xs, ClSmall y := fun y hy => by
    obtain ⟨h1, h2⟩ := hl y hy 1048576 (by simp only; omega)
    obtain ⟨i, hi, rfl⟩ := List.mem_iff_getElem.1 hy
    have h3 := clN_take xs i hi
    have h4 := clN_take_le xs (i + 1)
    exact ⟨by omega, by omega, h1, h2⟩
  refine (lawCandidates_any _ _ xs tk tn tnm tks W a0 tad len cap tm tc (table hL) hx htx hsm hcl (by omega) (htl 1048576 (by simp only; omega)) hti).mono fun e W' ⟨he, hb⟩ => ?_
  subst he
  refine ⟨_, rfl, _, _, _, [], p0 ++ (p1 ++ []), [], hW', ?_, ?_, rfl, ?_, fun h => by cases h⟩
  · exact trodAll_cons_mk (shut_bool Tryd.underlying4 _) trodAll_mk0
  · exact trodAll_cons_mk (Below.trod laidOut (by kernel_rfl) (of_decide_eq_true (by kernel_rfl)) h0k hb (fun x hx => hW'.lt x (by simp; exact .inl hx)))
      (trodAll_cons_mk (Below.trod laidOut (by kernel_rfl) (of_decide_eq_true (by kernel_rfl)) h1k hb (fun x hx => hW'.lt x (by simp; exact .inr hx))) trodAll_mk0)
  · exact hb.frame _

/-- A world for the witness: what the door's own run leaves. -/
theorem reads (os : Os) {H : Type} (enc : TypeId × Value → H) : ∃ places, DataW.whole enc Tryd.prog ((World.doorLaid Tryd.prog 4000 os).forCall (fun _ _ => 0) ⟨#[], #[.slice none 0 0, .agg #[.int .i64 0, .int .i64 0, .string ⟨#[]⟩, .slice none 0 0]], []⟩).memory Tryd.f4.params.toList Rows.fnExactCandidatesSpec.vars false (#[.slice none 0 0, .agg #[.int .i64 0, .int .i64 0, .string ⟨#[]⟩, .slice none 0 0]] : Array Value).toList 8 = some ([.nil, .agg [.lit (.int .i64 0), .lit (.int .i64 0), .lit (.string []), .nil]], [], places) :=
  ⟨[], by kernel_rfl⟩
theorem laid_met (os : Os) : laidMet Tryd.prog Rows.fnExactCandidatesUptoRow.laid ((World.doorLaid Tryd.prog 4000 os).forCall (fun _ _ => 0) ⟨#[], #[.slice none 0 0, .agg #[.int .i64 0, .int .i64 0, .string ⟨#[]⟩, .slice none 0 0]], []⟩).memory :=
  laidMet_of_run' 8 (by kernel_rfl) (by kernel_rfl)

set_option maxRecDepth 100000 in
theorem liftedUpto (os : Os) (started : os.Started) (H : Type) (enc : TypeId × Value → H) (F : Stop.Interp) :
    ReturnsInHanded {} Tryd.checked os 4 .any ((Rows.OpenSpec.upto Rows.fnExactCandidatesSpec).preRow enc Tryd.prog Tryd.f4 Rows.fnExactCandidatesUptoRow.domain false Rows.fnExactCandidatesUptoRow.laid) (((Rows.OpenSpec.upto Rows.fnExactCandidatesSpec).at F).post enc Tryd.prog Tryd.f4 false true false false) := by
  obtain ⟨places, hx⟩ := reads os enc
  refine returnsInHanded_of_row (C := Tryd.checked) (s := Rows.OpenSpec.upto Rows.fnExactCandidatesSpec) own started (by kernel_rfl) Tryd.func4
    (witness_row_at (enc := enc) (C := Tryd.checked) false (World.doorLaid Tryd.prog 4000 os) #[.slice none 0 0, .agg #[.int .i64 0, .int .i64 0, .string ⟨#[]⟩, .slice none 0 0]] rfl (by kernel_rfl) (by kernel_rfl) (by kernel_rfl)
      (OpenSpec.preRow_of_cond 8 hx (by kernel_rfl) (fun k hk => by cases hk; kernel_rfl) (by kernel_rfl) (laid_met os))) ?_
  intro W base args ds gs before hval hW _ hcond _ hL _ _
  exact contract H enc W base args ds gs before hval hW hL (hcond _ rfl)

theorem saidUpto : Rows.FnExactCandidatesUptoSaid :=
  OpenClaim.holds_of_cond 4 Tryd.f4 rfl rfl rfl rfl rfl rfl rfl ⟨rfl, rfl, rfl, rfl, rfl⟩ rfl rfl rfl rfl rfl (by kernel_rfl) Tryd.func4 (by kernel_rfl)
    (of_decide_eq_true (by kernel_rfl)) (by unfold Func.isWrapper; first | (rw [if_pos (by decide +kernel)]; kernel_rfl) | (rw [if_neg (by decide +kernel)]; exact ⟨rfl, rfl⟩))
    (fun os started H enc _ F => by rw [OpenClaim.pre_eq_preRow]; exact liftedUpto os started H enc F)

/-- No parameter wants a stand-in; the program's own looks are off: what the card asks. -/
theorem plain (f : FuncId) (fn : Func) (hf : Tryd.pinned.checked.prog.funcNamed "loop.example/prologserver/laws.FnExactCandidates" = some f) (hfn : Tryd.pinned.checked.prog.funcs[f]? = some fn) :
    true = Tryd.pinned.checked.prog.looks [] ∧ ∀ (j : Nat) t, fn.params[j]? = some t → Tryd.pinned.checked.prog.wantsStandIn t = false := by
  obtain rfl : f = 4 := Option.some.inj ((show Tryd.prog.funcNamed "loop.example/prologserver/laws.FnExactCandidates" = some 4 by kernel_rfl).symm.trans hf) |>.symm
  obtain rfl : fn = Tryd.f4 := (Option.some.inj (Tryd.func4.symm.trans hfn)).symm
  refine ⟨by kernel_rfl, fun j t ht => ?_⟩
  rw [Tryd.params4] at ht
  rcases j with _ | _ | j
  · obtain rfl : t = 29 := by simpa using ht.symm
    exact (show Tryd.prog.wantsStandIn 29 = false by kernel_rfl)
  · obtain rfl : t = 32 := by simpa using ht.symm
    exact (show Tryd.prog.wantsStandIn 32 = false by kernel_rfl)
  · simp at ht

/-- THE CARD -/
theorem cardUpto : Rows.FnExactCandidatesUptoCardSaid :=
  Claim7.holds_tied_plain_at .later [] _ _ _ _ saidUpto (fun _ h => by cases h) (by kernel_rfl) (fun _ h => by cases h) fnExactCandidatesUpto_row_tie rfl ⟨rfl, rfl⟩ (by kernel_rfl) rfl plain (by kernel_rfl)

end Go.Proofs.YtlknhjibadbeeaaDoor.cardCandidates
