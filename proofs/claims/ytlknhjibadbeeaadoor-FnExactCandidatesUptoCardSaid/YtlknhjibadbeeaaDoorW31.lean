/- Walks of slices.IndexFunc and slices.DeleteFunc over numbers. -/
import Derived.Test.YtlknhjibadbeeaaDoorW30
import Derived.Lib.SliceRun
namespace Go.Proofs.YtlknhjibadbeeaaDoor
open Go.RowKit Go.Deep

attribute [local go_sem] ba_get ba_append

set_option maxRecDepth 100000 in
set_option maxHeartbeats 2000000 in
theorem idxInt_any (g : Nat) (lb : Array Value) (eg : ∀ args w, (callFunc g args).run Tryd.prog w = .ok (.enter g args) w) (D : Nat → Bool) (S : Nat → Prop) (xs : List Nat) (w : World) (a : Option Addr) (m c : Nat) (hm : m ≤ 1048576) (h : IntSl S w xs a m)
    (hcall : ∀ V, Below w.heap.size w V → ∀ (k : Nat) (hk : k < xs.length), Calls Tryd.prog g (#[.int .i64 xs[k]] ++ lb) V fun e V' => e = .returned (.bool (D xs[k])) ∧ Below V.heap.size V V') :
    Calls Tryd.prog 96 #[.slice a m c, .func (.func g) #[] lb] w fun e w' =>
      ((∃ (k : Nat) (_ : k < xs.length), e = .returned (.int .i64 k) ∧ D xs[k] = true ∧ ∀ j, j < k → ∀ hj' : j < xs.length, D xs[j] = false) ∨ (e = .returned (.int .i64 (-1)) ∧ ∀ x ∈ xs, D x = false)) ∧ Below w.heap.size w w' := by
  have HC := Lib.hid hcall; clear hcall
  have H := Lib.hid h; clear h
  go_enter Tryd.func96, Tryd.ntmps96
  go_wp2_with fail
  go_loopw [5, 8] (fun _ j wr => ∃ i : Nat, i ≤ m ∧ j = .int .i64 i ∧ Below w.heap.size w wr ∧ Hid (∀ j, j < i → ∀ hj' : j < xs.length, D xs[j] = false)) (fun _ i _ => m - (intOf i).toNat)
  case atStart => exact ⟨0, Nat.zero_le _, rfl, Below.refl _ _, Lib.hid (fun _ h => absurd h (by omega))⟩
  case round =>
    obtain ⟨i, hi, rfl, hb, HI⟩ := hrel
    by_cases hlt : i < m
    · have hlx : i < xs.length := by rw [← H.out.1]; exact hlt
      obtain ⟨b, o, rfl, hb0, -, hr⟩ := H.out.2 (by omega)
      have c0 := (hb.cell (p := ⟨b, o + i, none⟩) hb0).trans (hr i hlx)
      clear hr
      go_wp2_with fail
      refine (HC.out wr hb i hlx).mono ?_
      rintro e w2 ⟨rfl, hb2⟩
      have HB2 := Lib.hid (bnext hb hb2)
      cases hd : D xs[i]
      · have HD := Lib.hid hd; clear hd
        go_wp2_with fail
        go_roundw
        case rel =>
          refine ⟨i + 1, by omega, by go_num, HB2.out, Lib.hid ?_⟩
          intro j hj hj'
          by_cases he : j = i
          · subst he; exact HD.out
          · exact HI.out j (by omega) hj'
        case measure => simp [intOf]; omega
      · have HD := Lib.hid hd; clear hd
        go_wp2_with fail
        go_ret
        exact ⟨.inl ⟨i, hlx, rfl, HD.out, HI.out⟩, HB2.out⟩
    · go_wp2_with fail
      go_ret
      refine ⟨.inr ⟨rfl, fun x hx => ?_⟩, hb⟩
      obtain ⟨j, hj, rfl⟩ := List.mem_iff_getElem.1 hx
      exact HI.out j (by have := H.out.1; omega) hj

theorem set_grown2 {w w0 : World} {G : Nat} (hb : w.grownBy w0 (some G)) (i : Nat) (v : Value) : w.grownBy (w0.setCell ⟨G, i, none⟩ v) (some G) := by
  have h2 : Below G w0 (w0.setCell ⟨G, i, none⟩ v) := (Below.refl G w0).setCell (p := ⟨G, i, none⟩) (Nat.le_refl _) v
  refine ⟨h2.os.trans hb.os, h2.tape.trans hb.tape, h2.output.trans hb.output, Nat.le_trans hb.size h2.size, fun q hq hne => ?_⟩
  rw [Below.heap_setCell _ _ _ _ (fun e => hne (congrArg some e))]
  exact hb.block q hq hne
theorem sets_grown2 {w : World} {G : Nat} : ∀ (vs : List Value) (o : Nat) (w0 : World), w.grownBy w0 (some G) → w.grownBy (w0.setCells G o vs) (some G)
  | [], _, _, h => h
  | v :: vs, o, w0, h => sets_grown2 vs (o + 1) (w0.setCell ⟨G, o, none⟩ v) (set_grown2 h o v)

/-- no cell of the slice is frozen -/
def NFz (w : World) (a : Option Addr) (n : Nat) : Prop := ∀ b o k, a = some ⟨b, o, none⟩ → k < n → w.frozen? ⟨b, o + k, none⟩ = false

/-- what is kept of the first j -/
def kept (D : Nat → Bool) (xs : List Nat) (j : Nat) : List Nat := (xs.take j).filter fun x => !D x
theorem kept_yes (D : Nat → Bool) (xs : List Nat) (j : Nat) (h : j < xs.length) (hd : D xs[j] = false) : kept D xs (j + 1) = kept D xs j ++ [xs[j]] := by
  unfold kept; rw [List.take_succ_eq_append_getElem h, List.filter_append]; simp [hd]
theorem kept_no (D : Nat → Bool) (xs : List Nat) (j : Nat) (h : j < xs.length) (hd : D xs[j] = true) : kept D xs (j + 1) = kept D xs j := by
  unfold kept; rw [List.take_succ_eq_append_getElem h, List.filter_append]; simp [hd]
theorem kept_len (D : Nat → Bool) (xs : List Nat) (j : Nat) : (kept D xs j).length ≤ j := Nat.le_trans (List.length_filter_le _ _) (List.length_take_le _ _)
theorem kept_all (D : Nat → Bool) (xs : List Nat) (j : Nat) (h : ∀ i, i < j → ∀ hi : i < xs.length, D xs[i] = false) (hj : j ≤ xs.length) : kept D xs j = xs.take j := by
  refine List.filter_eq_self.2 fun x hx => ?_
  obtain ⟨i, hi, rfl⟩ := List.mem_iff_getElem.1 hx
  rw [List.getElem_take, h i (by simp at hi; omega) (by simp at hi; omega)]; rfl

set_option maxRecDepth 100000 in
set_option maxHeartbeats 2000000 in
theorem delInt_any (g : Nat) (lb : Array Value) (eg : ∀ args w, (callFunc g args).run Tryd.prog w = .ok (.enter g args) w) (D : Nat → Bool) (S : Nat → Prop) (xs : List Nat) (w : World) (a : Option Addr) (m c : Nat) (hm : m ≤ 1048576) (hc : m ≤ c) (hc2 : c ≤ 9223372036854775807) (h : IntSl S w xs a m)
    (hown : 0 < m → ∃ G, a = some ⟨G, 0, none⟩ ∧ (∀ k, k < m → w.frozen? ⟨G, k, none⟩ = false) ∧
      ∀ V, w.grownBy V (some G) → ∀ (k : Nat) (hk : k < xs.length), Calls Tryd.prog g (#[.int .i64 xs[k]] ++ lb) V fun e V' => e = .returned (.bool (D xs[k])) ∧ Below V.heap.size V V') :
    Calls Tryd.prog 72 #[.slice a m c, .func (.func g) #[] lb] w fun e w' =>
      (∃ m' c', e = .returned (.slice a m' c') ∧ IntSl S w' (xs.filter fun x => !D x) a m' ∧ NFz w' a m') ∧ ∀ G, (m = 0 ∨ ∃ o, a = some ⟨G, o, none⟩) → w.grownBy w' (some G) := by
  have HO := Lib.hid hown; clear hown
  have H := Lib.hid h; clear h
  have HIdx : Calls Tryd.prog 96 #[.slice a m c, .func (.func g) #[] lb] w fun e w' =>
      ((∃ (k : Nat) (_ : k < xs.length), e = .returned (.int .i64 k) ∧ D xs[k] = true ∧ ∀ j, j < k → ∀ hj' : j < xs.length, D xs[j] = false) ∨ (e = .returned (.int .i64 (-1)) ∧ ∀ x ∈ xs, D x = false)) ∧ Below w.heap.size w w' := by
    refine idxInt_any g lb eg D S xs w a m c hm H.out ?_
    intro V hV k hk
    obtain ⟨G, -, -, hcl⟩ := HO.out (by have := H.out.1; omega)
    exact hcl V ⟨hV.os, hV.tape, hV.output, hV.size, fun q hq _ => hV.block q hq⟩ k hk
  have HI := Lib.hid HIdx; clear HIdx
  go_enter Tryd.func72, Tryd.ntmps72
  go_wp2_with fail
  refine HI.out.mono ?_
  rintro e w1 ⟨⟨k0, hk0, rfl, hD, hbef⟩ | ⟨rfl, hall⟩, hb1⟩
  · have HD := Lib.hid (And.intro hD hbef); clear hD hbef
    have hmp : 0 < m := by have := H.out.1; omega
    obtain ⟨G, rfl, hfz, hcl⟩ := HO.out hmp
    have HC := Lib.hid hcl; clear hcl
    have hG : G < w.heap.size := by
      obtain ⟨b, o, e, hb, -⟩ := H.out.2 hmp
      simp at e; omega
    have HF := Lib.hid hfz; clear hfz
    have hk0' : k0 < m := by have := H.out.1; omega
    have hkn : ((k0 : Int) == -1) = false := by simp
    have HB1 := Lib.hid hb1
    have hgo : k0 + 1 ≤ xs.length := hk0
    go_wp2_with fail
    go_loopw [5, 6, 7] (fun s5 s6 _ wr => ∃ (j : Nat) (F : Nat → Nat), s5 = .int .i64 (kept D xs j).length ∧ s6 = .int .i64 j ∧ j ≤ m ∧ (kept D xs j).length < j ∧ w.grownBy wr (some G) ∧ (∀ k, k < m → wr.frozen? ⟨G, k, none⟩ = false) ∧ (∀ k, k < m → wr.cell? ⟨G, k, none⟩ = some (.int .i64 (F k))) ∧ Hid ((∀ k (h : k < (kept D xs j).length), F k = (kept D xs j)[k]) ∧ ∀ k, j ≤ k → ∀ h : k < xs.length, F k = xs[k])) (fun _ j _ _ => m - (intOf j).toNat)
    case atStart =>
      have hkk : kept D xs (k0 + 1) = xs.take k0 := by rw [kept_no D xs k0 hk0 HD.out.1, kept_all D xs k0 (fun i hi hi' => HD.out.2 i hi hi') (by omega)]
      have hkl : (kept D xs (k0 + 1)).length = k0 := by rw [hkk]; simp; omega
      have hG1 := HB1.out
      obtain ⟨b, o, hbo, -, -, hr⟩ := H.out.2 hmp
      simp only [Option.some.injEq, Addr.mk.injEq, and_true] at hbo
      obtain ⟨rfl, rfl⟩ := hbo
      refine ⟨k0 + 1, fun k => xs.getD k 0, by rw [hkl], by go_num, by omega, by omega, ⟨hG1.os, hG1.tape, hG1.output, hG1.size, fun q hq _ => hG1.block q hq⟩, fun k hk => (hG1.frozen (p := ⟨G, k, none⟩) hG).trans (HF.out k hk), fun k hk => ?_, Lib.hid ⟨fun k hk => ?_, fun k _ hk => ?_⟩⟩
      · have hkx : k < xs.length := by rw [← H.out.1]; exact hk
        have h3 : w.cell? ⟨G, k, none⟩ = some (.int .i64 xs[k]) := by have := hr k hkx; rwa [Nat.zero_add] at this
        rw [(hG1.cell (p := ⟨G, k, none⟩) hG).trans h3]
        simp [List.getElem?_eq_getElem hkx]
      · have hkx : k < xs.length := by rw [hkl] at hk; omega
        simp only [hkk, List.getElem_take]
        simp [List.getElem?_eq_getElem hkx]
      · simp [List.getElem?_eq_getElem hk]
    case round =>
      obtain ⟨j, F, rfl, rfl, hjm, hlt0, hgr, hfr, hcel, HF2⟩ := hrel
      obtain ⟨i, hi⟩ : ∃ i, i = (kept D xs j).length := ⟨_, rfl⟩
      by_cases hlt : j < m
      · have hjx : j < xs.length := by rw [← H.out.1]; exact hlt
        have hcj := hcel j hlt
        rw [HF2.out.2 j (Nat.le_refl _) hjx] at hcj
        have hci := hcel i (by omega)
        have hfi := hfr i (by omega)
        have hGr : G < wr.heap.size := Nat.lt_of_lt_of_le hG hgr.size
        have HC2 := Lib.hid hcel; clear hcel
        have HF3 := Lib.hid hfr; clear hfr
        have hltz : (j : Int) < (m : Int) := by omega
        rw [← hi] at hlt0 ⊢
        have HI2 := Lib.hid hi; clear hi
        go_wp2_with fail
        refine (HC.out wr hgr j hjx).mono ?_
        rintro e w2 ⟨rfl, hb2⟩
        have hci2 : w2.cell? ⟨G, i, none⟩ = _ := (hb2.cell (p := ⟨G, i, none⟩) hGr).trans hci
        have hfi2 : w2.frozen? ⟨G, i, none⟩ = false := (hb2.frozen (p := ⟨G, i, none⟩) hGr).trans hfi
        have HB2 := Lib.hid hb2
        cases hd : D xs[j]
        · have HDD := Lib.hid hd; clear hd
          have hky := kept_yes D xs j hjx HDD.out
          have HKY := Lib.hid hky; clear hky
          go_wp2_with fail
          go_roundw
          case rel =>
            have hkl : (kept D xs (j + 1)).length = i + 1 := by rw [HKY.out, List.length_append, ← HI2.out]; rfl
            refine ⟨j + 1, fun k => if k = i then xs[j] else F k, by rw [hkl]; go_num, by go_num, by omega, by omega, set_grown2 (hgr.below_next HB2.out) i _, fun k hk => ?_, fun k hk => ?_, Lib.hid ⟨fun k hk => ?_, fun k hk1 hk => ?_⟩⟩
            · rw [World.frozen?_setCell]
              exact (HB2.out.frozen (p := ⟨G, k, none⟩) hGr).trans (HF3.out k hk)
            · dsimp only
              by_cases hki : k = i
              · subst hki
                simp only [↓reduceIte]
                exact World.cell?_setCell_same' w2 ⟨G, k, none⟩ _ (by rw [hci2]; rfl)
              · rw [if_neg hki, World.cell?_setCell_other _ _ _ _ (fun e => hki (by have := congrArg Addr.off e; exact this.symm))]
                exact (HB2.out.cell (p := ⟨G, k, none⟩) hGr).trans (HC2.out k hk)
            · have hkk : (kept D xs (j + 1))[k] = (kept D xs j ++ [xs[j]])[k]'(by rw [← HKY.out]; exact hk) := by simp only [HKY.out]
              rw [hkk]
              dsimp only
              by_cases hki : k = i
              · subst hki
                rw [if_pos rfl, List.getElem_append_right (by rw [HI2.out]; exact Nat.le_refl _)]
                simp
              · have hlt2 : k < (kept D xs j).length := by rw [← HI2.out]; omega
                rw [if_neg hki, List.getElem_append_left hlt2]
                exact HF2.out.1 k hlt2
            · dsimp only
              rw [if_neg (by omega)]
              exact HF2.out.2 k (by omega) hk
          case measure => simp [intOf]; omega
        · have HDD := Lib.hid hd; clear hd
          have hky := kept_no D xs j hjx HDD.out
          have HKY := Lib.hid hky; clear hky
          go_wp2_with fail
          go_roundw
          case rel =>
            refine ⟨j + 1, F, by rw [HKY.out, ← HI2.out], by go_num, by omega, by rw [HKY.out, ← HI2.out]; omega, hgr.below_next HB2.out, fun k hk => ?_, fun k hk => ?_, Lib.hid ⟨fun k hk => ?_, fun k hk1 hk => ?_⟩⟩
            · exact (HB2.out.frozen (p := ⟨G, k, none⟩) hGr).trans (HF3.out k hk)
            · exact (HB2.out.cell (p := ⟨G, k, none⟩) hGr).trans (HC2.out k hk)
            · have hk' : k < (kept D xs j).length := by rw [← HKY.out]; exact hk
              have hkk : (kept D xs (j + 1))[k] = (kept D xs j)[k] := by simp only [HKY.out]
              rw [hkk]
              exact HF2.out.1 k hk'
            · exact HF2.out.2 k (by omega) hk
          case measure => simp [intOf]; omega
      · have hjm' : j = m := by omega
        subst hjm'
        have hcl : ∀ ty, (Builtin.clear_ #[35] ty #[.slice (some ⟨G, i, none⟩) (j - i) (c - i)]).run Tryd.prog wr = .ok (.tuple #[]) (wr.setCells G i (List.replicate (j - i) (.int .i64 0))) :=
          fun ty => Lib.run_clear_slice wr _ _ ty _ Tryd.underlying35 (by intro w; rfl) rfl rfl G i _ _ (by omega) (fun t ht => by rw [hcel (i + t) (by omega)]; rfl) (fun t ht => hfr (i + t) (by omega))
        have HC2 := Lib.hid hcel; clear hcel
        have HF3 := Lib.hid hfr; clear hfr
        rw [← hi] at hlt0 ⊢
        have HI2 := Lib.hid hi; clear hi
        go_wp2_with fail
        go_ret
        have hxl : j = xs.length := H.out.1
        have hfull : kept D xs j = xs.filter fun x => !D x := by unfold kept; rw [List.take_of_length_le (by omega)]
        refine ⟨⟨i, _, rfl, ⟨by rw [HI2.out, hfull], fun hi0 => ?_⟩, ?_⟩, fun G' hG' => ?_⟩
        · obtain ⟨b, o, hbo, -, hSb, -⟩ := H.out.2 hmp
          simp only [Option.some.injEq, Addr.mk.injEq, and_true] at hbo
          obtain ⟨rfl, rfl⟩ := hbo
          have hgs := (sets_grown2 (List.replicate (j - i) (.int .i64 0)) i wr hgr).size
          refine ⟨G, 0, rfl, Nat.lt_of_lt_of_le hG hgs, hSb, fun k hk => ?_⟩
          have hk' : k < (kept D xs j).length := by rw [hfull]; exact hk
          have hki : k < i := by rw [HI2.out]; exact hk'
          rw [World.cell?_setCells_out G _ i wr ⟨G, 0 + k, none⟩ (fun _ _ => .inl (by show 0 + k < i; omega)), Nat.zero_add, HC2.out k (by omega), HF2.out.1 k hk']
          simp only [hfull]
        · rintro b o k hbo hk
          simp only [Option.some.injEq, Addr.mk.injEq, and_true] at hbo
          obtain ⟨rfl, rfl⟩ := hbo
          rw [World.frozen?_setCells, Nat.zero_add]
          exact HF3.out k (by omega)
        · have hGG : G' = G := by
            rcases hG' with h | ⟨o, h⟩
            · omega
            · simp at h; exact h.1.symm
          rw [hGG]
          exact sets_grown2 _ _ _ hgr
  · have HA := Lib.hid hall; clear hall
    have HB1 := Lib.hid hb1
    go_wp2_with fail
    go_ret
    refine ⟨⟨_, _, rfl, ?_, ?_⟩, fun G _ => ⟨HB1.out.os, HB1.out.tape, HB1.out.output, HB1.out.size, fun q hq _ => HB1.out.block q hq⟩⟩
    · rw [List.filter_eq_self.2 (fun x hx => by rw [HA.out x hx]; rfl)]
      exact H.out.below HB1.out
    · rintro b o k hbo hk
      obtain ⟨G, hG, hfz, -⟩ := HO.out (by omega)
      obtain ⟨b2, o2, hb2, hlt, -⟩ := H.out.2 (by omega)
      rw [hG] at hbo hb2
      simp only [Option.some.injEq, Addr.mk.injEq, and_true] at hbo hb2
      obtain ⟨rfl, rfl⟩ := hbo
      rw [Nat.zero_add, HB1.out.frozen (p := ⟨G, k, none⟩) (by show G < _; omega)]
      exact hfz k hk
end Go.Proofs.YtlknhjibadbeeaaDoor
