/- Copies of terms and clauses: what may be written in them. -/
import Derived.Test.YtlknhjibadbeeaaDoorW10
import Derived.Test.YtlknhjibadbeeaaDoorM5
namespace Go.Proofs.YtlknhjibadbeeaaDoor
open Go.RowKit

attribute [local go_sem] ba_get ba_append

/-- toTerm, for terms of at most N nodes: a copy in new memory -/
def ToTermM (N : Nat) : Prop := ∀ (S : Nat → Prop) (k n : Int) (nm : By) (ks : List Tm) (w : World) (a : Option Addr) (m c : Nat), nodes (.mk k n nm ks) ≤ N → N ≤ 1048576 → TmSl S w ks a m →
  Calls Tryd.prog 15 #[.agg #[.int .i64 k, .int .i64 n, .string ⟨nm.toArray⟩, .slice a m c]] w fun e w' => (∃ a' m' c', e = .returned (.agg #[.int .i64 k, .int .i64 n, .string ⟨nm.toArray⟩, .slice a' m' c']) ∧ TmSl (fun b => w.heap.size ≤ b) w' ks a' m' ∧ MkSl w.heap.size w'.heap.size w' ks a' m') ∧ Below w.heap.size w w'
def ToTermSM (N : Nat) : Prop := ∀ (S : Nat → Prop) (ks : List Tm) (w : World) (a : Option Addr) (m c : Nat), nodesL ks ≤ N → N ≤ 1048576 → TmSl S w ks a m →
  Calls Tryd.prog 41 #[.slice a m c] w fun e w' => (∃ b, e = .returned (.slice (some ⟨b, 0, none⟩) m m) ∧ TmSl (fun b => w.heap.size ≤ b) w' ks (some ⟨b, 0, none⟩) m ∧ MkSl w.heap.size w'.heap.size w' ks (some ⟨b, 0, none⟩) m) ∧ Below w.heap.size w w'

set_option maxRecDepth 100000 in
set_option maxHeartbeats 400000 in
theorem toTermSM_of (N : Nat) (ih : ToTermM N) : ToTermSM N := by
  intro S ks w a m c hN hN2 h
  obtain ⟨i0, hi, hz0, hz1, hz2⟩ := info_parts infoTerm
  have IH := Lib.hid ih; clear ih
  have hlen := nodesL_len ks
  have hm : m ≤ 1048576 := by have := h.1; omega
  have H := Lib.hid h; clear h
  go_enter Tryd.func41, Tryd.ntmps41
  go_wp2_with (refine wpList_make_full _ rfl _ _ 39 rfl w.heap.size 41 i0 _ 4 Tryd.underlying39 hi hz0 hz1 _ _ _ _ m rfl rfl rfl rfl ?c2 ?c3 ?c4 ?_)
  case c2 => rw [hz2]; omega
  case c3 => unfold maxLen; omega
  case c4 => exact Nat.le_refl _
  intro w1 hown hgrow
  have HB1 := Lib.hid (show Below w.heap.size w w1 from (Below.refl _ _).grown hgrow (Nat.le_refl _) (fun k hk => by cases hk))
  have HO1 := Lib.hid hown; clear hown hgrow
  go_wp2_with fail
  go_loopw [4] (fun j wr => ∃ k : Nat, k ≤ m ∧ j = .int .i64 k ∧ Below w.heap.size w wr ∧ Hid (∃ cs vs, wr.ownsRow w.heap.size 41 4 (.slice (some ⟨w.heap.size, 0, none⟩) m m) m cs ∧ Done cs (tmF ks vs) k ∧ vs.length = k ∧ KidsAt (fun b => w.heap.size < b) wr ks vs ∧ MkKids (w.heap.size + 1) wr.heap.size wr ks vs)) (fun i _ => m - (intOf i).toNat)
  case atStart => exact ⟨0, Nat.zero_le _, rfl, HB1.out, Lib.hid ⟨_, [], HO1.out, done_zero _ _, rfl, (fun j t v _ hv => by simp at hv), fun j t v _ hv => by simp at hv⟩⟩
  case round =>
    obtain ⟨k, hk, rfl, hb, HD⟩ := hrel
    by_cases hlt : k < m
    · have hlx : k < ks.length := by rw [← H.out.1]; exact hlt
      obtain ⟨b, o, rfl, hb0, -, hr⟩ := H.out.2 (by omega)
      obtain ⟨c0, c1, c2, a', n', c', c3, hs⟩ := rowAt_get (rowAt_below hb hb0 hr) k hlx
      have HS := Lib.hid hs
      clear hr hs
      have hmem := nodes_mem (List.getElem_mem hlx)
      go_wp2_with fail
      refine (IH.out S ks[k].kind ks[k].n ks[k].name ks[k].kids _ _ _ _ (by cases hq : ks[k]; rw [hq] at hmem; simp only [Tm.kind, Tm.n, Tm.name, Tm.kids]; omega) hN2 HS.out).mono ?_
      rintro e w2 ⟨⟨a2, m2, c2', rfl, hts, hms⟩, hb2⟩
      obtain ⟨cs, vs, hown, hd, hvl, hka, hmk⟩ := HD.out
      have hg : w.heap.size < wr.heap.size := own_lt hown
      have hown2 := own_next hown hb2
      obtain ⟨u0, hu0⟩ := own_has hown2 (k * 4) (by omega)
      obtain ⟨u1, hu1⟩ := own_has hown2 (k * 4 + 1) (by omega)
      obtain ⟨u2, hu2⟩ := own_has hown2 (k * 4 + 2) (by omega)
      obtain ⟨u3, hu3⟩ := own_has hown2 (k * 4 + 3) (by omega)
      have hf0 := hown2.frozenAt (k * 4)
      have hf1 := hown2.frozenAt (k * 4 + 1)
      have hf2 := hown2.frozenAt (k * 4 + 2)
      have hf3 := hown2.frozenAt (k * 4 + 3)
      have HO2 := Lib.hid hown2
      have HK := Lib.hid (show KidsAt (fun b => w.heap.size < b) w2 ks (vs ++ [.slice a2 m2 c2']) from (hka.mono hb2.size (fun b _ hl => hb2.block b hl)).snoc (fun t ht => by
        rw [hvl, List.getElem?_eq_getElem hlx] at ht
        cases ht
        exact (kidAt_iff _ _ _ _).2 ⟨a2, m2, c2', rfl, hts.mono (Nat.le_refl _) (fun b hb => by omega) (fun _ _ _ => rfl)⟩))
      have HMk := Lib.hid (show MkKids (w.heap.size + 1) w2.heap.size w2 ks (vs ++ [.slice a2 m2 c2']) from (hmk.keep (Keep.of_below hb2) hb2.size).snoc (fun t ht => by
        rw [hvl, List.getElem?_eq_getElem hlx] at ht
        cases ht
        exact (mkKid_iff _ _ _ _ _).2 ⟨a2, m2, c2', rfl, hms.keep (Keep.refl _ _) (by omega) (Nat.le_refl _)⟩))
      have HD2 := Lib.hid (done_snoc (v := .slice a2 m2 c2') hvl hd)
      have hv3 : Value.slice a2 m2 c2' = tmF ks (vs ++ [.slice a2 m2 c2']) k 3 := by rw [tmF_3 hlx, ← hvl]; simp
      have HV3 := Lib.hid hv3
      have HVL := Lib.hid hvl
      clear hown hown2 hka hd hts hv3 hvl hms hmk
      go_wp2_with fail
      go_roundw
      case rel => exact ⟨k + 1, by omega, by go_num, below_store4 (bnext hb hb2) (Nat.le_refl _) _ _ _ _ _ _ _ _, Lib.hid ⟨_, vs ++ [.slice a2 m2 c2'], own_store4 HO2.out k _ _ _ _, done_set HO2.out.1 hlt HD2.out (tmF_0 hlx).symm (tmF_1 hlx).symm (tmF_2 hlx).symm HV3.out, by simp [HVL.out], HK.out.mono (by rw [store4_size]; exact Nat.le_refl _) (fun b hb _ => store4_block _ _ _ _ _ _ _ _ b (by omega)), HMk.out.keep (Keep.of_blocks (by rw [store4_size]; exact Nat.le_refl _) (fun b hb _ => store4_block _ _ _ _ _ _ _ _ b (by omega))) (by rw [store4_size]; exact Nat.le_refl _)⟩⟩
      case measure => simp [intOf]; omega
    · obtain ⟨cs, vs, hown, hd, hvl, hka, hmk⟩ := HD.out
      obtain rfl : k = m := by omega
      have HO2 := Lib.hid hown
      have HK := Lib.hid hka
      have HD2 := Lib.hid hd
      have HVL := Lib.hid hvl
      have HMk := Lib.hid hmk
      clear hown hka hd hvl hmk
      go_wp2_with fail
      go_ret
      exact ⟨⟨_, rfl, tmSl_of_done HO2.out H.out.1 HVL.out HD2.out (fun j t v ht hv => kidAt_mono (Nat.le_refl _) (fun b hb => Nat.le_of_lt hb) (fun _ _ _ => rfl) t v (HK.out j t v ht hv)) (Nat.le_refl _), mkSl_of_done HO2.out H.out.1 HVL.out HD2.out (fun j t v ht hv => mkKid_keep (Keep.refl (w.heap.size + 1) _) (by omega) (Nat.le_refl _) t v (HMk.out j t v ht hv)) (Nat.le_refl _) (own_lt HO2.out)⟩, hb⟩

set_option maxRecDepth 100000 in
theorem toTermM_of (N : Nat) (ih : ToTermSM N) : ToTermM (N + 1) := by
  intro S k n nm ks w a m c hN hN2 h
  have IH := Lib.hid ih; clear ih
  simp only [nodes] at hN
  have H := Lib.hid h; clear h
  go_enter Tryd.func15, Tryd.ntmps15
  go_wp2_with fail
  have hB0 := Lib.hid (bal (bal (bal0 w (.cells #[.int .i64 k, .int .i64 n, .string ⟨nm.toArray⟩, .slice a m c] 32)) (.cells #[.int .i64 0, .int .i64 0, .string ⟨#[]⟩, .slice none 0 0] 41)) (.cells #[.int .i64 k, .int .i64 n, .string ⟨nm.toArray⟩, .slice none 0 0] 41))
  refine (IH.out S ks _ _ _ _ (by omega) (by omega) (H.out.below hB0.out)).mono ?_
  rintro e w1 ⟨⟨b1, rfl, hts, hms⟩, hb1⟩
  have HMs := Lib.hid hms; clear hms
  obtain ⟨hc1, hf1⟩ := bcell hb1
  have hz1 := bsz w.heap.size hb1 (by simp; omega)
  have hz2 := bsz (w.heap.size + 1) hb1 (by simp)
  have hz3 := bsz (w.heap.size + 1 + 1) hb1 (by simp)
  have HT := Lib.hid hts; clear hts
  have HB1 := Lib.hid (bnext hB0.out hb1)
  go_wp2_with fail
  refine bodyPost_ret (v := .agg #[.int .i64 k, .int .i64 n, .string ⟨nm.toArray⟩, .slice (some ⟨b1, 0, none⟩) m m]) (by simp [results, Tryd.results15, go_sem, hc1]) rfl ⟨⟨_, _, _, rfl, ?_, ?_⟩, ?_⟩
  · refine HT.out.mono (by simp [World.setCell]) (fun b hb => by simp at hb; omega) (fun b hb _ => ?_)
    simp at hb
    rw [Below.heap_setCell, Below.heap_setCell, Below.heap_setCell, Below.heap_setCell, Below.heap_setCell] <;> (simp; omega)
  · refine HMs.out.keep (Keep.of_blocks (by simp [World.setCell]) (fun b hb _ => ?_)) (by simp; omega) (by simp [World.setCell])
    simp at hb
    rw [Below.heap_setCell, Below.heap_setCell, Below.heap_setCell, Below.heap_setCell, Below.heap_setCell] <;> (simp; omega)
  · refine (((((HB1.out.setCell ?_ _).setCell ?_ _).setCell ?_ _).setCell ?_ _).setCell ?_ _) <;> (simp; try omega)

theorem toTermM_all : ∀ N, ToTermM N ∧ ToTermSM N
  | 0 => by
    have h : ToTermM 0 := by intro S k n nm ks w a m c hN; simp [nodes] at hN
    exact ⟨h, toTermSM_of 0 h⟩
  | N + 1 => by
    have h := toTermM_of N (toTermM_all N).2
    exact ⟨h, toTermSM_of _ h⟩

set_option maxRecDepth 100000 in
theorem toClauseM_any (S : Nat → Prop) (cl : Cl) (w : World) (a a' : Option Addr) (m c m' c' : Nat) (hs : ClSmall cl) (h : TmSl S w cl.head.kids a m) (h' : TmSl S w cl.body a' m') :
    Calls Tryd.prog 40 #[.agg #[.int .i64 cl.head.kind, .int .i64 cl.head.n, .string ⟨cl.head.name.toArray⟩, .slice a m c, .slice a' m' c']] w fun e w' =>
      (∃ a1 m1 c1 a2 m2 c2, e = .returned (.agg #[.int .i64 cl.head.kind, .int .i64 cl.head.n, .string ⟨cl.head.name.toArray⟩, .slice a1 m1 c1, .slice a2 m2 c2]) ∧ (TmSl (fun b => w.heap.size ≤ b) w' cl.head.kids a1 m1 ∧ TmSl (fun b => w.heap.size ≤ b) w' cl.body a2 m2) ∧ MkSl w.heap.size w'.heap.size w' cl.head.kids a1 m1 ∧ MkSl w.heap.size w'.heap.size w' cl.body a2 m2) ∧ Below w.heap.size w w' := by
  obtain ⟨s1, s2, s3, s4⟩ := hs
  have H := Lib.hid h; clear h
  have H' := Lib.hid h'; clear h'
  have S1 := Lib.hid (show nodes (.mk cl.head.kind cl.head.n cl.head.name cl.head.kids) ≤ 1048576 by rw [Tm.eta]; exact s1)
  clear s1 s3 s4
  go_enter Tryd.func40, Tryd.ntmps40
  go_wp2_with fail
  refine ((toTermM_all 1048576).1 S _ _ _ _ _ _ _ _ S1.out (by omega) (H.out.below (bal (bal (bal0 _ _) _) _))).mono ?_
  rintro e w1 ⟨⟨a1, m1, c1, rfl, ht1, hm1⟩, hb1⟩
  have HM1 := Lib.hid hm1; clear hm1
  obtain ⟨hc1, hf1⟩ := bcell hb1
  have hz1 := bsz w.heap.size hb1 (by simp; omega)
  have hz2 := bsz (w.heap.size + 1) hb1 (by simp)
  have hz3 := bsz (w.heap.size + 1 + 1) hb1 (by simp)
  have HT1 := Lib.hid ht1; clear ht1
  have HB1 := Lib.hid (bnext (bal (bal (bal0 _ _) _) _) hb1)
  go_wp2_with fail
  have HB2 := Lib.hid (below_store4 HB1.out (show w.heap.size ≤ w.heap.size + 1 + 1 by omega) 0 1 2 3 (.int .i64 cl.head.kind) (.int .i64 cl.head.n) (.string ⟨cl.head.name.toArray⟩) (.slice a1 m1 c1))
  have HT1' := Lib.hid (HT1.out.mono (S' := fun b => w.heap.size + 1 + 1 < b) (w' := (((w1.setCell ⟨w.heap.size + 1 + 1, 0, none⟩ (.int .i64 cl.head.kind)).setCell ⟨w.heap.size + 1 + 1, 1, none⟩ (.int .i64 cl.head.n)).setCell ⟨w.heap.size + 1 + 1, 2, none⟩ (.string ⟨cl.head.name.toArray⟩)).setCell ⟨w.heap.size + 1 + 1, 3, none⟩ (.slice a1 m1 c1)) (by rw [store4_size]; exact Nat.le_refl _) (fun b hb => by simp at hb; omega) (fun b hb _ => store4_block _ _ _ _ _ _ _ _ b (by simp at hb; omega)))
  have HM1' := Lib.hid (HM1.out.keep (lo' := w.heap.size + 1 + 1 + 1) (hi' := w1.heap.size) (w' := (((w1.setCell ⟨w.heap.size + 1 + 1, 0, none⟩ (.int .i64 cl.head.kind)).setCell ⟨w.heap.size + 1 + 1, 1, none⟩ (.int .i64 cl.head.n)).setCell ⟨w.heap.size + 1 + 1, 2, none⟩ (.string ⟨cl.head.name.toArray⟩)).setCell ⟨w.heap.size + 1 + 1, 3, none⟩ (.slice a1 m1 c1)) (Keep.of_blocks (by rw [store4_size]; exact Nat.le_refl _) (fun b hb _ => store4_block _ _ _ _ _ _ _ _ b (by simp at hb; omega))) (by simp; try omega) (Nat.le_refl _))
  clear HT1 HM1
  refine ((toTermM_all 1048576).2 S _ _ _ _ _ s2 (by omega) (H'.out.below HB2.out)).mono ?_
  rintro e w3 ⟨⟨b3, rfl, ht3, hm3⟩, hb3⟩
  have HM3 := Lib.hid (hm3.keep (lo' := w.heap.size + 1 + 1 + 1) (Keep.refl _ _) (by rw [store4_size]; omega) (Nat.le_refl _)); clear hm3
  have HM1'' := Lib.hid (HM1'.out.keep (lo' := w.heap.size + 1 + 1 + 1) (hi' := w3.heap.size) (Keep.of_below hb3) (Nat.le_refl _) (by have := hb3.size; rw [store4_size] at this; exact this))
  have HT3 := Lib.hid (ht3.mono (S' := fun b => w.heap.size + 1 + 1 < b) (Nat.le_refl _) (fun b hb => by rw [store4_size] at hb; omega) (fun _ _ _ => rfl)); clear ht3
  have HT1'' := Lib.hid (HT1'.out.below hb3)
  have HB3 := Lib.hid (bnext HB2.out hb3)
  obtain ⟨hc3, hf3⟩ := bcell hb3
  have hq1 := bsz w.heap.size hb3 (by rw [store4_size]; omega)
  have hq2 := bsz (w.heap.size + 1) hb3 (by rw [store4_size]; omega)
  have hq3 := bsz (w.heap.size + 1 + 1) hb3 (by rw [store4_size]; omega)
  clear HT1' HM1'
  go_wp2_with fail
  refine bodyPost_ret (v := .agg #[.int .i64 cl.head.kind, .int .i64 cl.head.n, .string ⟨cl.head.name.toArray⟩, .slice a1 m1 c1, .slice (some ⟨b3, 0, none⟩) m' m']) (by simp [results, Tryd.results40, go_sem, hc3, hc1, hz2]) rfl ⟨⟨_, _, _, _, _, _, rfl, ⟨?_, ?_⟩, ?_, ?_⟩, ?_⟩
  · refine HT1''.out.mono (by simp [World.setCell]) (fun b hb => by omega) (fun b hb _ => ?_)
    rw [Below.heap_setCell, Below.heap_setCell, Below.heap_setCell, Below.heap_setCell, Below.heap_setCell, Below.heap_setCell] <;> (simp; omega)
  · refine HT3.out.mono (by simp [World.setCell]) (fun b hb => by omega) (fun b hb _ => ?_)
    rw [Below.heap_setCell, Below.heap_setCell, Below.heap_setCell, Below.heap_setCell, Below.heap_setCell, Below.heap_setCell] <;> (simp; omega)
  · refine HM1''.out.keep (Keep.of_blocks (by simp [World.setCell]) (fun b hb _ => ?_)) (by omega) (by simp [World.setCell])
    rw [Below.heap_setCell, Below.heap_setCell, Below.heap_setCell, Below.heap_setCell, Below.heap_setCell, Below.heap_setCell] <;> (simp; omega)
  · refine HM3.out.keep (Keep.of_blocks (by simp [World.setCell]) (fun b hb _ => ?_)) (by omega) (by simp [World.setCell])
    rw [Below.heap_setCell, Below.heap_setCell, Below.heap_setCell, Below.heap_setCell, Below.heap_setCell, Below.heap_setCell] <;> (simp; omega)
  · refine ((((((HB3.out.setCell ?_ _).setCell ?_ _).setCell ?_ _).setCell ?_ _).setCell ?_ _).setCell ?_ _) <;> (simp; try omega)

set_option maxRecDepth 100000 in
set_option maxHeartbeats 1000000 in
theorem toClauseSM_any (S : Nat → Prop) (ks : List Cl) (w : World) (a : Option Addr) (m c : Nat) (hs : ∀ x ∈ ks, ClSmall x) (h : ClSl S w ks a m) (hm : m ≤ 1048576) :
    Calls Tryd.prog 14 #[.slice a m c] w fun e w' => (e = .returned (.slice (some ⟨w.heap.size, 0, none⟩) m m) ∧ ClSl (fun b => w.heap.size ≤ b) w' ks (some ⟨w.heap.size, 0, none⟩) m ∧ MkCl w.heap.size w'.heap.size w' ks (some ⟨w.heap.size, 0, none⟩) m) ∧ Below w.heap.size w w' := by
  obtain ⟨i0, hi, hz0, hz1, hz2⟩ := info_parts infoClause
  have H := Lib.hid h; clear h
  have HM := Lib.hid hs; clear hs
  go_enter Tryd.func14, Tryd.ntmps14
  go_wp2_with (refine wpList_make_full _ rfl _ _ 37 rfl w.heap.size 77 i0 _ 5 Tryd.underlying37 hi hz0 hz1 _ _ _ _ m rfl rfl rfl rfl ?c2 ?c3 ?c4 ?_)
  case c2 => rw [hz2]; omega
  case c3 => unfold maxLen; omega
  case c4 => exact Nat.le_refl _
  intro w1 hown hgrow
  have HB1 := Lib.hid (show Below w.heap.size w w1 from (Below.refl _ _).grown hgrow (Nat.le_refl _) (fun k hk => by cases hk))
  have HO1 := Lib.hid hown; clear hown hgrow
  go_wp2_with fail
  go_loopw [4] (fun j wr => ∃ k : Nat, k ≤ m ∧ j = .int .i64 k ∧ Below w.heap.size w wr ∧ Hid (∃ cs vs us, wr.ownsRow w.heap.size 77 5 (.slice (some ⟨w.heap.size, 0, none⟩) m m) m cs ∧ Done5 cs (clF ks vs us) k ∧ vs.length = k ∧ us.length = k ∧ SlsAt (fun b => w.heap.size < b) wr (fun c => c.head.kids) ks vs ∧ SlsAt (fun b => w.heap.size < b) wr (fun c => c.body) ks us ∧ MkSls (w.heap.size + 1) wr.heap.size wr (fun c => c.head.kids) ks vs ∧ MkSls (w.heap.size + 1) wr.heap.size wr (fun c => c.body) ks us)) (fun i _ => m - (intOf i).toNat)
  case atStart => exact ⟨0, Nat.zero_le _, rfl, HB1.out, Lib.hid ⟨_, [], [], HO1.out, fun j hj => by omega, rfl, rfl, (fun j t v _ hv => by simp at hv), (fun j t v _ hv => by simp at hv), (fun j t v _ hv => by simp at hv), fun j t v _ hv => by simp at hv⟩⟩
  case round =>
    obtain ⟨k, hk, rfl, hb, HD⟩ := hrel
    by_cases hlt : k < m
    · have hlx : k < ks.length := by rw [← H.out.1]; exact hlt
      obtain ⟨b, o, rfl, hb0, -, hr⟩ := H.out.2 (by omega)
      obtain ⟨c0, c1, c2, ⟨a3, n3, c3', c3, hs3⟩, ⟨a4, n4, c4', c4, hs4⟩⟩ := (hr.below hb hb0) k hlx
      have H3 := Lib.hid hs3
      have H4 := Lib.hid hs4
      have HMk := Lib.hid (HM.out _ (List.getElem_mem hlx))
      clear hr hs3 hs4
      go_wp2_with fail
      refine (toClauseM_any S ks[k] _ _ _ _ _ _ _ HMk.out H3.out H4.out).mono ?_
      rintro e w2 ⟨⟨a1, m1, c1', a2, m2, c2', rfl, ⟨ht1, ht2⟩, hm1, hm2⟩, hb2⟩
      obtain ⟨cs, vs, us, hown, hd, hvl, hul, hka, hkb, hma, hmb⟩ := HD.out
      have hg : w.heap.size < wr.heap.size := own_lt5 hown
      have hown2 := own_next hown hb2
      obtain ⟨u0, hu0⟩ := own_has5 hown2 (k * 5) (by omega)
      obtain ⟨u1, hu1⟩ := own_has5 hown2 (k * 5 + 1) (by omega)
      obtain ⟨u2, hu2⟩ := own_has5 hown2 (k * 5 + 2) (by omega)
      obtain ⟨u3, hu3⟩ := own_has5 hown2 (k * 5 + 3) (by omega)
      obtain ⟨u4, hu4⟩ := own_has5 hown2 (k * 5 + 4) (by omega)
      have hf0 := hown2.frozenAt (k * 5)
      have hf1 := hown2.frozenAt (k * 5 + 1)
      have hf2 := hown2.frozenAt (k * 5 + 2)
      have hf3 := hown2.frozenAt (k * 5 + 3)
      have hf4 := hown2.frozenAt (k * 5 + 4)
      have HO2 := Lib.hid hown2
      have HK := Lib.hid (show SlsAt (fun b => w.heap.size < b) w2 (fun c => c.head.kids) ks (vs ++ [.slice a1 m1 c1']) from (hka.mono hb2.size (fun _ h => h) (fun b _ hl => hb2.block b hl)).snoc (fun t ht => by
        rw [hvl, List.getElem?_eq_getElem hlx] at ht
        cases ht
        exact ht1.mono (Nat.le_refl _) (fun b hb => by omega) (fun _ _ _ => rfl)))
      have HK2 := Lib.hid (show SlsAt (fun b => w.heap.size < b) w2 (fun c => c.body) ks (us ++ [.slice a2 m2 c2']) from (hkb.mono hb2.size (fun _ h => h) (fun b _ hl => hb2.block b hl)).snoc (fun t ht => by
        rw [hul, List.getElem?_eq_getElem hlx] at ht
        cases ht
        exact ht2.mono (Nat.le_refl _) (fun b hb => by omega) (fun _ _ _ => rfl)))
      have HMA := Lib.hid (show MkSls (w.heap.size + 1) w2.heap.size w2 (fun c => c.head.kids) ks (vs ++ [.slice a1 m1 c1']) from (hma.keep (Keep.of_below hb2) hb2.size).snoc (fun t ht => by
        rw [hvl, List.getElem?_eq_getElem hlx] at ht
        cases ht
        exact hm1.keep (Keep.refl _ _) (by omega) (Nat.le_refl _)))
      have HMB := Lib.hid (show MkSls (w.heap.size + 1) w2.heap.size w2 (fun c => c.body) ks (us ++ [.slice a2 m2 c2']) from (hmb.keep (Keep.of_below hb2) hb2.size).snoc (fun t ht => by
        rw [hul, List.getElem?_eq_getElem hlx] at ht
        cases ht
        exact hm2.keep (Keep.refl _ _) (by omega) (Nat.le_refl _)))
      have HD2 := Lib.hid (done5_snoc (v := .slice a1 m1 c1') (u := .slice a2 m2 c2') hvl hul hd)
      have HV3 := Lib.hid (show Value.slice a1 m1 c1' = clF ks (vs ++ [.slice a1 m1 c1']) (us ++ [.slice a2 m2 c2']) k 3 by rw [clF_3 hlx, ← hvl]; simp)
      have HV4 := Lib.hid (show Value.slice a2 m2 c2' = clF ks (vs ++ [.slice a1 m1 c1']) (us ++ [.slice a2 m2 c2']) k 4 by rw [clF_4 hlx, ← hul]; simp)
      have HVL := Lib.hid hvl
      have HUL := Lib.hid hul
      clear hown hown2 hka hkb hd ht1 ht2 hvl hul hm1 hm2 hma hmb
      go_wp2_with fail
      go_roundw
      case rel => exact ⟨k + 1, by omega, by go_num, below_store5 (bnext hb hb2) (Nat.le_refl _) _ _ _ _ _ _ _ _ _ _, Lib.hid ⟨_, vs ++ [.slice a1 m1 c1'], us ++ [.slice a2 m2 c2'], own_store5 HO2.out k _ _ _ _ _, done5_set HO2.out.1 hlt HD2.out (clF_0 hlx).symm (clF_1 hlx).symm (clF_2 hlx).symm HV3.out HV4.out, by simp [HVL.out], by simp [HUL.out], HK.out.mono (by rw [store5_size]; exact Nat.le_refl _) (fun _ h => h) (fun b hb _ => store5_block _ _ _ _ _ _ _ _ _ _ b (by omega)), HK2.out.mono (by rw [store5_size]; exact Nat.le_refl _) (fun _ h => h) (fun b hb _ => store5_block _ _ _ _ _ _ _ _ _ _ b (by omega)), HMA.out.keep (Keep.of_blocks (by rw [store5_size]; exact Nat.le_refl _) (fun b hb _ => store5_block _ _ _ _ _ _ _ _ _ _ b (by omega))) (by rw [store5_size]; exact Nat.le_refl _), HMB.out.keep (Keep.of_blocks (by rw [store5_size]; exact Nat.le_refl _) (fun b hb _ => store5_block _ _ _ _ _ _ _ _ _ _ b (by omega))) (by rw [store5_size]; exact Nat.le_refl _)⟩⟩
      case measure => simp [intOf]; omega
    · obtain ⟨cs, vs, us, hown, hd, hvl, hul, hka, hkb, hma, hmb⟩ := HD.out
      obtain rfl : k = m := by omega
      have HO2 := Lib.hid hown
      have HK := Lib.hid (hka.mono (S' := fun b => w.heap.size ≤ b) (Nat.le_refl _) (fun b hb => Nat.le_of_lt hb) (fun _ _ _ => rfl))
      have HK2 := Lib.hid (hkb.mono (S' := fun b => w.heap.size ≤ b) (Nat.le_refl _) (fun b hb => Nat.le_of_lt hb) (fun _ _ _ => rfl))
      have HD2 := Lib.hid hd
      have HVL := Lib.hid hvl
      have HUL := Lib.hid hul
      have HMA := Lib.hid hma
      have HMB := Lib.hid hmb
      clear hown hka hkb hd hvl hul hma hmb
      go_wp2_with fail
      go_ret
      exact ⟨⟨rfl, clSl_of_done HO2.out H.out.1 HVL.out HUL.out HD2.out HK.out HK2.out (Nat.le_refl _), mkCl_of_done HO2.out H.out.1 HVL.out HUL.out HD2.out HMA.out HMB.out (own_lt5 HO2.out)⟩, hb⟩

end Go.Proofs.YtlknhjibadbeeaaDoor
