/- Texts of this proof, merged: E17, E18, F7, F8. -/
import Derived.Test.YtpaoppgbgjnkmaaC2
import Derived.Test.YtpaoppgbgjnkmaaRows
section
/- Numbers the same where they are seen; what is set of some variables; what is told to a host. -/
set_option linter.unusedVariables false
set_option linter.unusedSimpArgs false
namespace Go.Proofs.YtpaoppgbgjnkmaaI
open Go Go.RowKit
def sameEnd : ICode := (.seq (.reg none [
    ⟨(some 41), none, .mov (.t 0)⟩,
    ⟨(some 42), none, .len (.t 41)⟩,
    ⟨(some 43), none, .mov (.t 1)⟩,
    ⟨(some 44), none, .len (.t 43)⟩,
    ⟨(some 45), none, .bin .eql (.t 42) (.t 44)⟩,
    ⟨(some 6), none, .mov (.t 45)⟩])
 (.ret))
def SameOk (F : Nat → Option IFn) (f : Nat) : Prop := ∀ (H : Heap) (v w u : Value) (a b : List Int) (vs : List Bool), SlR Co.int (vw 0 H) v a → SlR Co.int (vw 0 H) w b → SlR Co.bool (vw 0 H) u vs → a.length = b.length → (∀ i : Nat, i < a.length → vs.getD i false = true → a.getD i 0 = b.getD i 0) → QC F f [v, w, u] H (.bool true)
theorem lcSameOf_ok {F : Nat → Option IFn} {f : Nat} (hf : F f = some c_lcSameOf) : SameOk F f := by
  intro H v w u a b vs hv hw hu hab heq
  obtain ⟨hal, va, rfl, _⟩ := id hv
  obtain ⟨hbl, wa, rfl, _⟩ := id hw
  obtain ⟨hvl, ua, rfl, _⟩ := id hu
  refine QC.mk hf rfl ?_
  refine seq_reg ?_
  simp only [go_sem, binC]
  refine seq_assoc (seq_reg ?_)
  simp only [go_sem, binC]
  refine seq_block (wpc_loop ?_)
  have hend : ∀ (e : Env), e 0 = .slice va a.length a.length → e 1 = .slice wa b.length b.length → wpc F H.length sameEnd e H (fin [.t 6] fun w' _ => w' = .bool true ∧ scal w' = true) := by
    intro e e0 e1
    unfold sameEnd
    refine seq_reg ?_
    simp only [go_sem, binC, e0, e1]
    refine wpc_ret ⟨Or.inr rfl, _, (by (simp only [go_sem, binC]) <;> rfl), ?_, rfl⟩
    rw [beq_t (show (a.length : Int) = b.length by omega)]
  suffices hh : ∀ (k i : Nat) (e : Env), i + k = a.length → e 0 = .slice va a.length a.length → e 1 = .slice wa b.length b.length → e 2 = .slice ua vs.length vs.length → e 7 = .int .i64 i → W F H.length _ e H _ from
    hh a.length 0 _ (by omega) (by simp only [go_sem, binC]) (by simp only [go_sem, binC]) (by simp only [go_sem, binC]) (by (simp only [go_sem, binC]) <;> rfl)
  intro k
  induction k with
  | zero =>
    intro i e hi e0 e1 e2 e7
    refine lp_step ?_
    refine seq_assoc (seq_reg ?_)
    simp only [go_sem, binC, e0, e1, e2, e7, decide_eq_false (show ¬ (i : Int) < a.length by omega)]
    refine seq_cond (t := false) rfl ?_
    simp only [go_sem, binC]
    refine seq_exit ?_
    simp only [go_sem, binC, thenX_e, out_e, thenX_n]
    exact hend _ (by simp only [go_sem, binC, e0]) (by simp only [go_sem, binC, e1])
  | succ k ih =>
    intro i e hi e0 e1 e2 e7
    have hia : i < a.length := by omega
    have hw1 : IntKind.i64.wrap ((i : Int) + 1) = ((i + 1 : Nat) : Int) := by rw [wrap_id (by omega) (by omega)]; omega
    refine lp_step ?_
    refine seq_assoc (seq_reg ?_)
    by_cases hiv : i < vs.length
    rotate_left
    · simp only [go_sem, binC, e0, e1, e2, e7, decide_eq_true (show (i : Int) < a.length by omega), decide_eq_true (show (i : Int) < b.length by omega), decide_eq_false (show ¬ (i : Int) < vs.length by omega)]
      refine seq_cond (t := false) rfl ?_
      simp only [go_sem, binC]
      refine seq_exit ?_
      simp only [go_sem, binC, thenX_e, out_e, thenX_n]
      exact hend _ (by simp only [go_sem, binC, e0]) (by simp only [go_sem, binC, e1])
    simp only [go_sem, binC, e0, e1, e2, e7, decide_eq_true (show (i : Int) < a.length by omega), decide_eq_true (show (i : Int) < b.length by omega), decide_eq_true (show (i : Int) < vs.length by omega)]
    refine seq_cond (t := true) rfl ?_
    simp only [go_sem, binC]
    obtain ⟨ub, uo, huv, hgu⟩ := gcBo hu hiv
    obtain ⟨vb, vo, hvv, hgv⟩ := gcI0 hv hia
    obtain ⟨wb, wo, hwv, hgw⟩ := gcI0 hw (show i < b.length by omega)
    simp only [Value.slice.injEq, and_true] at huv hvv hwv
    subst huv hvv hwv
    have hvs : vs.getD i false = vs[i] := by simp [List.getD, hiv]
    have hq := heq i hia
    rw [hvs] at hq
    have ha2 : a.getD i 0 = a[i] := by simp [List.getD, hia]
    have hb2 : b.getD i 0 = b[i]'(by omega) := by simp [List.getD, show i < b.length by omega]
    rw [ha2, hb2] at hq
    refine seq_skip (seq_block (seq_regD ?_))
    simp only [go_sem, binC, e2, e7]
    refine ⟨⟨by omega, by omega⟩, ?_⟩
    simp only [go_sem, binC, Int.toNat_natCast, Nat.mul_one, hgu]
    have hnext : ∀ e' : Env, e' 0 = .slice (some ⟨vb, vo, none⟩) a.length a.length → e' 1 = .slice (some ⟨wb, wo, none⟩) b.length b.length → e' 2 = .slice (some ⟨ub, uo, none⟩) vs.length vs.length → e' 7 = .int .i64 ((i + 1 : Nat) : Int) → W F H.length _ e' H _ := fun e' q0 q1 q2 q7 => ih (i + 1) e' (by omega) q0 q1 q2 q7
    cases hvi : vs[i] with
    | false =>
      simp only [go_sem, binC]
      refine wpc_cond (t := false) rfl ?_
      simp only [go_sem, binC]
      refine wpc_skip ?_
      simp only [go_sem, binC, out_n, thenX_n]
      refine wpc_reg ?_
      simp only [go_sem, binC, e7, hw1]
      simp only [go_sem, binC, thenX_n]
      exact hnext _ (by simp only [go_sem, binC, e0]) (by simp only [go_sem, binC, e1]) (by simp only [go_sem, binC, e2]) (by simp only [go_sem, binC])
    | true =>
      have hne : (a[i] != b[i]'(by omega)) = false := by rw [hq hvi]; exact bne_self_eq_false _
      simp only [go_sem, binC, e0, e7]
      refine ⟨⟨by omega, by omega⟩, ?_⟩
      simp only [go_sem, binC, Int.toNat_natCast, Nat.mul_one, hgv, e1, e7]
      refine ⟨⟨by omega, by omega⟩, ?_⟩
      simp only [go_sem, binC, Int.toNat_natCast, Nat.mul_one, hgw, hne]
      refine wpc_cond (t := false) rfl ?_
      simp only [go_sem, binC]
      refine wpc_skip ?_
      simp only [go_sem, binC, out_n, thenX_n]
      refine wpc_reg ?_
      simp only [go_sem, binC, e7, hw1]
      simp only [go_sem, binC, thenX_n]
      exact hnext _ (by simp only [go_sem, binC, e0]) (by simp only [go_sem, binC, e1]) (by simp only [go_sem, binC, e2]) (by simp only [go_sem, binC])
def seenW (vs : List Bool) (w : Int × Int) : Bool := inB w.1 0 ((vs.length : Int) - 1) && vs.getD w.1.toNat false
def SetsOk (F : Nat → Option IFn) (f : Nat) : Prop := ∀ (H : Heap) (nv wv sv u : Value) (r : RunS) (vs : List Bool), one nv = true → SlR Co.p2 (vw 0 H) wv r.2.1 → one sv = true → SlR Co.bool (vw 0 H) u vs → r.2.1.length ≤ 1000 → (∀ w ∈ r.2.1, RgI w.1 ∧ RgI w.2) → ∃ z H', KC F f [.agg #[nv, wv, sv], u] H z H' ∧ AgX [] H H' ∧ SlR Co.p2 (vw 0 H') z (r.2.1.filter (seenW vs))
theorem iRunSets_ok {F : Nat → Option IFn} {f : Nat} (hf : F f = some c_iRunSets) (gi : ∀ (H : Heap) (a b c : Int), QC F 72 [.int .i64 a, .int .i64 b, .int .i64 c] H (.bool (inB a b c))) : SetsOk F f := by
  intro H nv wv sv u r vs on hw os hu hl hrg
  suffices hh : ∃ z H', KC F f [.agg #[nv, wv, sv], u] H z H' ∧ (AgX [] H H' ∧ SlR Co.p2 (vw 0 H') z (r.2.1.filter (seenW vs))) from hh
  obtain ⟨_, wa, rfl, _⟩ := id hw
  obtain ⟨hul, ua, rfl, _⟩ := id hu
  generalize r.2.1 = ws at hw hl hrg
  refine KC.mk hf rfl ?_
  refine seq_reg ?_
  simp only [go_sem, binC, on, os]
  refine wpc_gen fun H1 hH1 => ?_
  have hx1 : AgX [] H H1 := hH1 ▸ AgX.app [] _ _
  have hb : H1[H.length]? = some ⟨[nv, .slice wa ws.length ws.length, sv], 0, 0, false, true⟩ := hH1 ▸ get_new0 _ _
  clear hH1
  have hl1 := hx1.1
  refine seq_reg ?_
  simp only [go_sem, binC]
  refine seq_assoc (seq_reg ?_)
  simp only [go_sem, binC, gc_of hb, inBlk_some]
  refine seq_block (wpc_loop ?_)
  suffices hh : ∀ (k i : Nat) (e : Env) (Hc : Heap) (v5 : Value), i + k = ws.length → AgX [] H1 Hc → GLi fp 2 48 H1.length Hc v5 ((ws.take i).filter (seenW vs)) → e 1 = .slice ua vs.length vs.length → e 5 = v5 → e 9 = .slice wa ws.length ws.length → e 10 = .int .i64 ws.length → e 11 = .int .i64 i → W F H.length _ e Hc _ from
    hh ws.length 0 _ H1 _ (by omega) (AgX.refl _ _) (.inl ⟨rfl, rfl⟩) (by simp only [go_sem, binC]) (by simp only [go_sem, binC]) (by simp only [go_sem, binC]) (by simp only [go_sem, binC]) (by (simp only [go_sem, binC]) <;> rfl)
  intro k
  induction k with
  | zero =>
    intro i e Hc v5 hi hxc q e1 e5 e9 e10 e11
    refine lp_step ?_
    refine seq_reg ?_
    simp only [go_sem, binC, e10, e11]
    refine seq_cond (t := false) (by simp only [go_sem, binC]; rw [decide_eq_false (by omega)]) ?_
    simp only [go_sem, binC]
    refine seq_exit ?_
    simp only [go_sem, binC, thenX_e, out_e, thenX_n]
    refine seq_reg ?_
    simp only [go_sem, binC, e5]
    rw [List.take_of_length_le (by omega)] at q
    exact wpc_ret ⟨Or.inr rfl, _, (by (simp only [go_sem, binC]) <;> rfl), hx1.tr hxc, q.slP (es := 2) (fun p hp => hrg p (List.mem_filter.1 hp).1) (Nat.le_trans (List.length_filter_le _ _) hl)⟩
  | succ k ih =>
    intro i e Hc v5 hi hxc q e1 e5 e9 e10 e11
    have hil : i < ws.length := by omega
    obtain ⟨b, o, hv1, hg⟩ := gcP (hw.mono (agx_sub (hx1.tr hxc))) hil
    simp only [Value.slice.injEq, and_true] at hv1
    subst hv1
    have hw1 : IntKind.i64.wrap ((i : Int) + 1) = ((i + 1 : Nat) : Int) := by rw [wrap_id (by omega) (by omega)]; omega
    have htk : (ws.take (i + 1)).filter (seenW vs) = (ws.take i).filter (seenW vs) ++ (if seenW vs ws[i] = true then [ws[i]] else []) := by
      rw [List.take_add_one, List.getElem?_eq_getElem hil, List.filter_append]
      congr 1
      by_cases hs : seenW vs ws[i] = true <;> simp [hs]
    have hlc := hxc.1
    have hw2 : IntKind.i64.wrap ((vs.length : Int) - 1) = (vs.length : Int) - 1 := wrap_id (by omega) (by omega)
    refine lp_step ?_
    refine seq_reg ?_
    simp only [go_sem, binC, e10, e11]
    refine seq_cond (t := true) (by simp only [go_sem, binC]; rw [decide_eq_true (by omega)]) ?_
    simp only [go_sem, binC]
    refine seq_skip (seq_block (seq_reg ?_))
    simp only [go_sem, binC, e9, e11]
    refine ⟨⟨by omega, by omega⟩, ?_⟩
    simp only [go_sem, binC, Int.toNat_natCast, hg]
    refine ⟨by omega, ?_⟩
    refine wpc_gen fun H2 hH2 => ?_
    have hx2 : AgX [] Hc H2 := hH2 ▸ AgX.app [] _ _
    have hb7 : H2[Hc.length]? = some ⟨[.int .i64 ws[i].1, .int .i64 ws[i].2], 0, 0, false, true⟩ := hH2 ▸ get_new0 _ _
    clear hH2
    have q2 := q.keep hx2 (fun _ _ _ _ _ => by simp)
    have hl2 := hx2.1
    have hno : seenW vs ws[i] = false → ∀ e' : Env, e' 1 = .slice ua vs.length vs.length → e' 5 = v5 → e' 9 = .slice (some ⟨b, o, none⟩) ws.length ws.length → e' 10 = .int .i64 ws.length → e' 11 = .int .i64 ((i + 1 : Nat) : Int) → W F H.length _ e' H2 _ := fun hs e' p1 p5 p9 p10 p11 =>
      ih (i + 1) e' H2 v5 (by omega) (hxc.tr hx2) (by rw [htk, hs, if_neg (by simp), List.append_nil]; exact q2) p1 p5 p9 p10 p11
    refine seq_reg ?_
    simp only [go_sem, binC, e1, gc_of hb7, inBlk_some, hw2]
    refine op_callB (by simp only [go_sem, binC]; exact gi _ _ _ _) (fun hin => ?_) (fun hin => ?_)
    rotate_left
    · simp only [go_sem, binC]
      refine wpc_cond (t := false) rfl ?_
      simp only [go_sem, binC]
      refine wpc_skip ?_
      simp only [go_sem, binC, out_n, thenX_n]
      refine wpc_reg ?_
      simp only [go_sem, binC, e11, hw1]
      simp only [go_sem, binC, thenX_n]
      exact hno (by unfold seenW; rw [hin]; rfl) _ (by simp only [go_sem, binC, e1]) (by simp only [go_sem, binC, e5]) (by simp only [go_sem, binC, e9]) (by simp only [go_sem, binC, e10]) (by simp only [go_sem, binC])
    have hin2 := inB_iff.1 hin
    have hvl : ws[i].1.toNat < vs.length := by omega
    obtain ⟨ub, uo, huv, hgu⟩ := gcBo (hu.mono (agx_sub ((hx1.tr hxc).tr hx2))) hvl
    simp only [Value.slice.injEq, and_true] at huv
    subst huv
    simp only [go_sem, binC, e1, gc_of hb7, inBlk_some]
    refine ⟨⟨by omega, by omega⟩, ?_⟩
    simp only [go_sem, binC, Nat.mul_one, hgu]
    have hgd : vs.getD ws[i].1.toNat false = vs[ws[i].1.toNat] := by simp [List.getD, hvl]
    cases hvi : vs[ws[i].1.toNat] with
    | false =>
      refine wpc_cond (t := false) rfl ?_
      simp only [go_sem, binC]
      refine wpc_skip ?_
      simp only [go_sem, binC, out_n, thenX_n]
      refine wpc_reg ?_
      simp only [go_sem, binC, e11, hw1]
      simp only [go_sem, binC, thenX_n]
      exact hno (by unfold seenW; rw [hgd, hvi, Bool.and_false]) _ (by simp only [go_sem, binC, e1]) (by simp only [go_sem, binC, e5]) (by simp only [go_sem, binC, e9]) (by simp only [go_sem, binC, e10]) (by simp only [go_sem, binC])
    | true =>
      have hs : seenW vs ws[i] = true := by unfold seenW; rw [hin, hgd, hvi]; rfl
      rw [hs, if_pos rfl] at htk
      refine wpc_cond (t := true) rfl ?_
      simp only [go_sem, binC]
      refine wpc_reg ?_
      simp only [go_sem, binC, e5, gc_of hb7, inBlk_some]
      refine op_app_fl (fl := fp) (a := ws[i]) (lo := H1.length) (fun _ => rfl) q2 (by simp only [go_sem, binC, e5]) (by (simp only [go_sem, binC]) <;> rfl) hl1 (by omega) (by have := List.length_filter_le (seenW vs) (ws.take i); rw [List.length_take] at this; omega) (by omega) fun H3 w3 hx3 q3 => ?_
      rw [← htk] at q3
      have hblk := q2.blk
      simp only [go_sem, binC, out_n, thenX_n]
      refine wpc_reg ?_
      simp only [go_sem, binC, e11, hw1]
      simp only [go_sem, binC, thenX_n]
      exact ih (i + 1) _ H3 w3 (by omega) ((hxc.tr hx2).trans hx3 (fun _ h _ => h) (fun b h1 h2 => by have := hblk b h1; omega)) q3 (by simp only [go_sem, binC, e1]) (by simp only [go_sem, binC]) (by simp only [go_sem, binC, e9]) (by simp only [go_sem, binC, e10]) (by simp only [go_sem, binC])
def toldL (h : Int) (ss : List (Int × Int)) : List Int := (ss.filter (fun w => decide (w.1 = h))).map (·.2)
def ToldOk (F : Nat → Option IFn) (f : Nat) : Prop := ∀ (H : Heap) (nv wv sv : Value) (r : RunS) (h : Int), one nv = true → one wv = true → SlR Co.p2 (vw 0 H) sv r.2.2 → r.2.2.length ≤ 1000 → (∀ w ∈ r.2.2, RgI w.1 ∧ RgI w.2) → ∃ z H', KC F f [.agg #[nv, wv, sv], .int .i64 h] H z H' ∧ AgX [] H H' ∧ SlR Co.int (vw 0 H') z (toldL h r.2.2)
theorem iRunTo_ok {F : Nat → Option IFn} {f : Nat} (hf : F f = some c_iRunTo) : ToldOk F f := by
  intro H nv wv sv r h on ow hs hl hrg
  suffices hh : ∃ z H', KC F f [.agg #[nv, wv, sv], .int .i64 h] H z H' ∧ (AgX [] H H' ∧ SlR Co.int (vw 0 H') z (toldL h r.2.2)) from hh
  obtain ⟨_, sa, rfl, _⟩ := id hs
  generalize r.2.2 = ss at hs hl hrg
  refine KC.mk hf rfl ?_
  refine seq_reg ?_
  simp only [go_sem, binC, on, ow]
  refine wpc_gen fun H1 hH1 => ?_
  have hx1 : AgX [] H H1 := hH1 ▸ AgX.app [] _ _
  have hb : H1[H.length]? = some ⟨[nv, wv, .slice sa ss.length ss.length], 0, 0, false, true⟩ := hH1 ▸ get_new0 _ _
  clear hH1
  have hl1 := hx1.1
  have hlt : ∀ l : List (Int × Int), (toldL h l).length ≤ l.length := fun l => by unfold toldL; rw [List.length_map]; exact List.length_filter_le _ _
  refine seq_reg ?_
  simp only [go_sem, binC]
  refine seq_assoc (seq_reg ?_)
  simp only [go_sem, binC, gc_of hb, inBlk_some]
  refine seq_block (wpc_loop ?_)
  suffices hh : ∀ (k i : Nat) (e : Env) (Hc : Heap) (v5 : Value), i + k = ss.length → AgX [] H1 Hc → GLi fi 1 3 H1.length Hc v5 (toldL h (ss.take i)) → e 1 = .int .i64 h → e 5 = v5 → e 9 = .slice sa ss.length ss.length → e 10 = .int .i64 ss.length → e 11 = .int .i64 i → W F H.length _ e Hc _ from
    hh ss.length 0 _ H1 _ (by omega) (AgX.refl _ _) (.inl ⟨rfl, rfl⟩) (by simp only [go_sem, binC]) (by simp only [go_sem, binC]) (by simp only [go_sem, binC]) (by simp only [go_sem, binC]) (by (simp only [go_sem, binC]) <;> rfl)
  intro k
  induction k with
  | zero =>
    intro i e Hc v5 hi hxc q e1 e5 e9 e10 e11
    refine lp_step ?_
    refine seq_reg ?_
    simp only [go_sem, binC, e10, e11]
    refine seq_cond (t := false) (by simp only [go_sem, binC]; rw [decide_eq_false (by omega)]) ?_
    simp only [go_sem, binC]
    refine seq_exit ?_
    simp only [go_sem, binC, thenX_e, out_e, thenX_n]
    refine seq_reg ?_
    simp only [go_sem, binC, e5]
    rw [List.take_of_length_le (by omega)] at q
    refine wpc_ret ⟨Or.inr rfl, _, (by (simp only [go_sem, binC]) <;> rfl), hx1.tr hxc, q.slI (es := 1) (fun x hx => ?_) (Nat.le_trans (hlt _) hl)⟩
    unfold toldL at hx
    obtain ⟨w, hw, rfl⟩ := List.mem_map.1 hx
    exact (hrg w (List.mem_filter.1 hw).1).2
  | succ k ih =>
    intro i e Hc v5 hi hxc q e1 e5 e9 e10 e11
    have hil : i < ss.length := by omega
    obtain ⟨b, o, hv1, hg⟩ := gcP (hs.mono (agx_sub (hx1.tr hxc))) hil
    simp only [Value.slice.injEq, and_true] at hv1
    subst hv1
    have hw1 : IntKind.i64.wrap ((i : Int) + 1) = ((i + 1 : Nat) : Int) := by rw [wrap_id (by omega) (by omega)]; omega
    have htk : toldL h (ss.take (i + 1)) = toldL h (ss.take i) ++ (if ss[i].1 = h then [ss[i].2] else []) := by
      unfold toldL
      rw [List.take_add_one, List.getElem?_eq_getElem hil, List.filter_append, List.map_append]
      congr 1
      by_cases hh : ss[i].1 = h <;> simp [hh]
    have hlc := hxc.1
    refine lp_step ?_
    refine seq_reg ?_
    simp only [go_sem, binC, e10, e11]
    refine seq_cond (t := true) (by simp only [go_sem, binC]; rw [decide_eq_true (by omega)]) ?_
    simp only [go_sem, binC]
    refine seq_skip (seq_block (seq_reg ?_))
    simp only [go_sem, binC, e9, e11]
    refine ⟨⟨by omega, by omega⟩, ?_⟩
    simp only [go_sem, binC, Int.toNat_natCast, hg]
    refine ⟨by omega, ?_⟩
    refine wpc_gen fun H2 hH2 => ?_
    have hx2 : AgX [] Hc H2 := hH2 ▸ AgX.app [] _ _
    have hb7 : H2[Hc.length]? = some ⟨[.int .i64 ss[i].1, .int .i64 ss[i].2], 0, 0, false, true⟩ := hH2 ▸ get_new0 _ _
    clear hH2
    have q2 := q.keep hx2 (fun _ _ _ _ _ => by simp)
    have hl2 := hx2.1
    refine seq_reg ?_
    simp only [go_sem, binC, e1, gc_of hb7, inBlk_some]
    by_cases he : ss[i].1 = h
    · rw [if_pos he] at htk
      simp only [go_sem, binC, beq_t he]
      refine wpc_cond (t := true) (by first | rfl | (simp only [go_sem, binC]; rw [beq_t he])) ?_
      simp only [go_sem, binC]
      refine wpc_reg ?_
      simp only [go_sem, binC, e5, gc_of hb7, inBlk_some]
      refine op_app_fl (fl := fi) (a := ss[i].2) (lo := H1.length) (fun _ => rfl) q2 (by simp only [go_sem, binC, e5]) (by (simp only [go_sem, binC]) <;> rfl) hl1 (by omega) (by have := hlt (ss.take i); rw [List.length_take] at this; omega) (by omega) fun H3 w3 hx3 q3 => ?_
      rw [← htk] at q3
      have hblk := q2.blk
      simp only [go_sem, binC, out_n, thenX_n]
      refine wpc_reg ?_
      simp only [go_sem, binC, e11, hw1]
      simp only [go_sem, binC, thenX_n]
      exact ih (i + 1) _ H3 w3 (by omega) ((hxc.tr hx2).trans hx3 (fun _ h _ => h) (fun b h1 h2 => by have := hblk b h1; omega)) q3 (by simp only [go_sem, binC, e1]) (by simp only [go_sem, binC]) (by simp only [go_sem, binC, e9]) (by simp only [go_sem, binC, e10]) (by simp only [go_sem, binC])
    · rw [if_neg he, List.append_nil] at htk
      simp only [go_sem, binC, beq_f he]
      refine wpc_cond (t := false) (by first | rfl | (simp only [go_sem, binC]; rw [beq_f he])) ?_
      simp only [go_sem, binC]
      refine wpc_skip ?_
      simp only [go_sem, binC, out_n, thenX_n]
      refine wpc_reg ?_
      simp only [go_sem, binC, e11, hw1]
      simp only [go_sem, binC, thenX_n]
      exact ih (i + 1) _ H2 v5 (by omega) (hxc.tr hx2) (by rw [htk]; exact q2) (by simp only [go_sem, binC, e1]) (by simp only [go_sem, binC, e5]) (by simp only [go_sem, binC, e9]) (by simp only [go_sem, binC, e10]) (by simp only [go_sem, binC])
end Go.Proofs.YtpaoppgbgjnkmaaI
end
section
/- The laws FnTypeKeeps and FnTypeHides on the ideal machine. -/
set_option linter.unusedVariables false
set_option linter.unusedSimpArgs false
namespace Go.Proofs.YtpaoppgbgjnkmaaI
open Go Go.RowKit
def c_lawTK : IFn := ⟨2, 103, [.t 4],
 .seq (.reg none [
    ⟨(some 4), none, .mov (.c (.bool false))⟩])
 (.seq (.seq (.reg none [
     ⟨(some 15), none, .mov (.t 0)⟩,
     ⟨(some 16), none, .len (.t 15)⟩,
     ⟨(some 17), none, .bin .gtr (.t 16) (.c (.int .i64 1048576))⟩,
     ⟨(some 18), none, .mov (.t 17)⟩,
     ⟨(some 19), (some (18, false)), .mov (.t 1)⟩,
     ⟨(some 20), (some (18, false)), .len (.t 19)⟩,
     ⟨(some 21), (some (18, false)), .bin .gtr (.t 20) (.c (.int .i64 1048576))⟩,
     ⟨(some 22), none, .pick (.t 18) (.c (.bool true)) (.t 21)⟩])
  (.cond (.t 22) (.seq (.reg none [
      ⟨(some 4), none, .mov (.c (.bool true))⟩])
   (.ret)) (.skip)))
 (.seq (.reg none [
    ⟨(some 24), none, .mov (.t 0)⟩,
    ⟨(some 25), none, .call .k (.f 17) [(.t 24)]⟩,
    ⟨(some 23), none, .mov (.t 25)⟩,
    ⟨(some 26), none, .ext (.t 23) 0⟩,
    ⟨(some 27), none, .ext (.t 23) 1⟩,
    ⟨(some 5), none, .new [(.slice none 0 0), (.slice none 0 0)]⟩,
    ⟨none, none, .store 2 (.t 5) (.t 26)⟩,
    ⟨(some 6), none, .mov (.t 27)⟩])
 (.seq (.reg none [
    ⟨(some 29), none, .load true 2 (.t 5)⟩,
    ⟨(some 30), none, .mov (.t 6)⟩,
    ⟨(some 31), none, .call .k (.f 18) [(.t 29), (.t 30)]⟩,
    ⟨(some 28), none, .mov (.t 31)⟩,
    ⟨(some 32), none, .ext (.t 28) 0⟩,
    ⟨(some 33), none, .ext (.t 28) 1⟩,
    ⟨(some 7), none, .new [(.slice none 0 0), (.slice none 0 0), (.slice none 0 0)]⟩,
    ⟨none, none, .store 3 (.t 7) (.t 32)⟩,
    ⟨(some 8), none, .mov (.t 33)⟩])
 (.seq (.reg none [
    ⟨(some 35), none, .load true 2 (.t 5)⟩,
    ⟨(some 36), none, .mov (.t 6)⟩,
    ⟨(some 37), none, .call .k (.f 14) [(.t 35), (.t 36)]⟩,
    ⟨(some 34), none, .mov (.t 37)⟩,
    ⟨(some 38), none, .ext (.t 34) 0⟩,
    ⟨(some 39), none, .ext (.t 34) 1⟩,
    ⟨(some 9), none, .new [(.slice none 0 0), (.slice none 0 0), (.slice none 0 0)]⟩,
    ⟨none, none, .store 3 (.t 9) (.t 38)⟩,
    ⟨(some 10), none, .mov (.t 39)⟩])
 (.seq (.seq (.reg none [
     ⟨(some 40), none, .mov (.t 10)⟩,
     ⟨(some 41), none, .mov (.t 8)⟩,
     ⟨(some 42), none, .beq true (.t 40) (.t 41)⟩,
     ⟨(some 43), none, .mov (.t 42)⟩,
     ⟨(some 44), (some (43, false)), .load true 3 (.t 9)⟩,
     ⟨(some 45), (some (43, false)), .load true 3 (.t 7)⟩,
     ⟨(some 46), (some (43, false)), .call .q (.f 19) [(.t 44), (.t 45)]⟩,
     ⟨(some 47), (some (43, false)), .un .not (.t 46)⟩,
     ⟨(some 48), none, .pick (.t 43) (.c (.bool true)) (.t 47)⟩,
     ⟨(some 49), none, .mov (.t 48)⟩,
     ⟨(some 50), (some (49, false)), .mov (.t 10)⟩,
     ⟨(some 51), (some (49, false)), .un .not (.t 50)⟩,
     ⟨(some 52), none, .pick (.t 49) (.c (.bool true)) (.t 51)⟩,
     ⟨(some 53), none, .mov (.t 52)⟩,
     ⟨(some 54), (some (53, false)), .load true 2 (.t 5)⟩,
     ⟨(some 55), (some (53, false)), .call .q (.f 32) [(.t 54)]⟩,
     ⟨(some 56), (some (53, false)), .un .not (.t 55)⟩,
     ⟨(some 57), none, .pick (.t 53) (.c (.bool true)) (.t 56)⟩])
  (.cond (.t 57) (.seq (.reg none [
      ⟨(some 58), none, .mov (.t 10)⟩,
      ⟨(some 59), none, .mov (.t 8)⟩,
      ⟨(some 60), none, .beq false (.t 58) (.t 59)⟩,
      ⟨(some 61), none, .mov (.t 60)⟩,
      ⟨(some 62), (some (61, true)), .load true 3 (.t 9)⟩,
      ⟨(some 63), (some (61, true)), .load true 3 (.t 7)⟩,
      ⟨(some 64), (some (61, true)), .call .q (.f 19) [(.t 62), (.t 63)]⟩,
      ⟨(some 65), none, .pick (.t 61) (.t 64) (.c (.bool false))⟩,
      ⟨(some 4), none, .mov (.t 65)⟩])
   (.ret)) (.skip)))
 (.seq (.seq (.reg none [
     ⟨(some 11), none, .mov (.c (.int .i64 0))⟩])
  (.block 0 (.loop (.seq (.seq (.reg none [
        ⟨(some 66), none, .mov (.t 11)⟩,
        ⟨(some 67), none, .bin .lss (.t 66) (.c (.int .i64 3))⟩])
     (.cond (.t 67) (.skip) (.exit 0)))
    (.seq (.block 1 (.seq (.reg none [
         ⟨(some 70), none, .load true 2 (.t 5)⟩,
         ⟨(some 71), none, .mov (.t 11)⟩,
         ⟨(some 72), none, .call .k (.f 33) [(.t 70), (.t 71)]⟩,
         ⟨(some 12), none, .mov (.t 72)⟩])
      (.seq (.regW 10 [
         ⟨(some 74), none, .load true 2 (.t 5)⟩,
         ⟨(some 75), none, .mov (.t 6)⟩,
         ⟨(some 76), none, .mov (.t 12)⟩,
         ⟨(some 77), none, .mov (.t 1)⟩,
         ⟨(some 78), none, .call .k (.f 34) [(.t 75), (.t 76), (.t 77)]⟩,
         ⟨(some 79), none, .call .k (.f 14) [(.t 74), (.t 78)]⟩,
         ⟨(some 73), none, .mov (.t 79)⟩,
         ⟨(some 80), none, .ext (.t 73) 0⟩,
         ⟨(some 81), none, .ext (.t 73) 1⟩,
         ⟨(some 13), none, .new [(.slice none 0 0), (.slice none 0 0), (.slice none 0 0)]⟩,
         ⟨none, none, .store 3 (.t 13) (.t 80)⟩,
         ⟨(some 14), none, .mov (.t 81)⟩])
      (.seq (.reg (some 17) [
         ⟨(some 82), none, .mov (.t 14)⟩,
         ⟨(some 83), none, .un .not (.t 82)⟩,
         ⟨(some 84), none, .mov (.t 83)⟩,
         ⟨(some 85), (some (84, false)), .fad 0 (.t 9)⟩,
         ⟨(some 86), (some (84, false)), .load false 1 (.t 85)⟩,
         ⟨(some 87), (some (84, false)), .fad 0 (.t 13)⟩,
         ⟨(some 88), (some (84, false)), .load false 1 (.t 87)⟩,
         ⟨(some 89), (some (84, false)), .mov (.t 12)⟩,
         ⟨(some 90), (some (84, false)), .call .q (.f 35) [(.t 86), (.t 88), (.t 89)]⟩,
         ⟨(some 91), (some (84, false)), .un .not (.t 90)⟩,
         ⟨(some 92), none, .pick (.t 84) (.c (.bool true)) (.t 91)⟩,
         ⟨(some 93), none, .mov (.t 92)⟩,
         ⟨(some 94), (some (93, false)), .load true 3 (.t 9)⟩,
         ⟨(some 95), (some (93, false)), .mov (.t 12)⟩,
         ⟨(some 96), (some (93, false)), .call .k (.f 37) [(.t 94), (.t 95)]⟩,
         ⟨(some 97), (some (93, false)), .load true 3 (.t 13)⟩,
         ⟨(some 98), (some (93, false)), .mov (.t 12)⟩,
         ⟨(some 99), (some (93, false)), .call .k (.f 37) [(.t 97), (.t 98)]⟩,
         ⟨(some 100), (some (93, false)), .call .q (.f 36) [(.t 96), (.t 99)]⟩,
         ⟨(some 101), (some (93, false)), .un .not (.t 100)⟩,
         ⟨(some 102), none, .pick (.t 93) (.c (.bool true)) (.t 101)⟩])
      (.cond (.t 102) (.seq (.reg none [
          ⟨(some 4), none, .mov (.c (.bool false))⟩])
       (.ret)) (.skip))))))
    (.reg none [
      ⟨(some 68), none, .mov (.t 11)⟩,
      ⟨(some 69), none, .bin .add (.t 68) (.c (.int .i64 1))⟩,
      ⟨(some 11), none, .mov (.t 69)⟩]))))))
 (.seq (.reg none [
    ⟨(some 4), none, .mov (.c (.bool true))⟩])
 (.ret))))))))⟩
def c_lawTH : IFn := ⟨2, 113, [.t 4],
 .seq (.reg none [
    ⟨(some 4), none, .mov (.c (.bool false))⟩])
 (.seq (.seq (.reg none [
     ⟨(some 15), none, .mov (.t 0)⟩,
     ⟨(some 16), none, .len (.t 15)⟩,
     ⟨(some 17), none, .bin .gtr (.t 16) (.c (.int .i64 1048576))⟩,
     ⟨(some 18), none, .mov (.t 17)⟩,
     ⟨(some 19), (some (18, false)), .mov (.t 1)⟩,
     ⟨(some 20), (some (18, false)), .len (.t 19)⟩,
     ⟨(some 21), (some (18, false)), .bin .gtr (.t 20) (.c (.int .i64 1048576))⟩,
     ⟨(some 22), none, .pick (.t 18) (.c (.bool true)) (.t 21)⟩])
  (.cond (.t 22) (.seq (.reg none [
      ⟨(some 4), none, .mov (.c (.bool true))⟩])
   (.ret)) (.skip)))
 (.seq (.reg none [
    ⟨(some 24), none, .mov (.t 0)⟩,
    ⟨(some 25), none, .call .k (.f 17) [(.t 24)]⟩,
    ⟨(some 23), none, .mov (.t 25)⟩,
    ⟨(some 26), none, .ext (.t 23) 0⟩,
    ⟨(some 27), none, .ext (.t 23) 1⟩,
    ⟨(some 5), none, .new [(.slice none 0 0), (.slice none 0 0)]⟩,
    ⟨none, none, .store 2 (.t 5) (.t 26)⟩,
    ⟨(some 6), none, .mov (.t 27)⟩])
 (.seq (.reg none [
    ⟨(some 29), none, .load true 2 (.t 5)⟩,
    ⟨(some 30), none, .mov (.t 6)⟩,
    ⟨(some 31), none, .call .k (.f 18) [(.t 29), (.t 30)]⟩,
    ⟨(some 28), none, .mov (.t 31)⟩,
    ⟨(some 32), none, .ext (.t 28) 0⟩,
    ⟨(some 33), none, .ext (.t 28) 1⟩,
    ⟨(some 7), none, .new [(.slice none 0 0), (.slice none 0 0), (.slice none 0 0)]⟩,
    ⟨none, none, .store 3 (.t 7) (.t 32)⟩,
    ⟨(some 8), none, .mov (.t 33)⟩])
 (.seq (.reg none [
    ⟨(some 35), none, .load true 2 (.t 5)⟩,
    ⟨(some 36), none, .mov (.t 6)⟩,
    ⟨(some 37), none, .call .k (.f 14) [(.t 35), (.t 36)]⟩,
    ⟨(some 34), none, .mov (.t 37)⟩,
    ⟨(some 38), none, .ext (.t 34) 0⟩,
    ⟨(some 39), none, .ext (.t 34) 1⟩,
    ⟨(some 9), none, .new [(.slice none 0 0), (.slice none 0 0), (.slice none 0 0)]⟩,
    ⟨none, none, .store 3 (.t 9) (.t 38)⟩,
    ⟨(some 10), none, .mov (.t 39)⟩])
 (.seq (.seq (.reg none [
     ⟨(some 40), none, .mov (.t 10)⟩,
     ⟨(some 41), none, .mov (.t 8)⟩,
     ⟨(some 42), none, .beq true (.t 40) (.t 41)⟩,
     ⟨(some 43), none, .mov (.t 42)⟩,
     ⟨(some 44), (some (43, false)), .load true 3 (.t 9)⟩,
     ⟨(some 45), (some (43, false)), .load true 3 (.t 7)⟩,
     ⟨(some 46), (some (43, false)), .call .q (.f 19) [(.t 44), (.t 45)]⟩,
     ⟨(some 47), (some (43, false)), .un .not (.t 46)⟩,
     ⟨(some 48), none, .pick (.t 43) (.c (.bool true)) (.t 47)⟩,
     ⟨(some 49), none, .mov (.t 48)⟩,
     ⟨(some 50), (some (49, false)), .mov (.t 10)⟩,
     ⟨(some 51), (some (49, false)), .un .not (.t 50)⟩,
     ⟨(some 52), none, .pick (.t 49) (.c (.bool true)) (.t 51)⟩,
     ⟨(some 53), none, .mov (.t 52)⟩,
     ⟨(some 54), (some (53, false)), .load true 2 (.t 5)⟩,
     ⟨(some 55), (some (53, false)), .call .q (.f 32) [(.t 54)]⟩,
     ⟨(some 56), (some (53, false)), .un .not (.t 55)⟩,
     ⟨(some 57), none, .pick (.t 53) (.c (.bool true)) (.t 56)⟩])
  (.cond (.t 57) (.seq (.reg none [
      ⟨(some 58), none, .mov (.t 10)⟩,
      ⟨(some 59), none, .mov (.t 8)⟩,
      ⟨(some 60), none, .beq false (.t 58) (.t 59)⟩,
      ⟨(some 61), none, .mov (.t 60)⟩,
      ⟨(some 62), (some (61, true)), .load true 3 (.t 9)⟩,
      ⟨(some 63), (some (61, true)), .load true 3 (.t 7)⟩,
      ⟨(some 64), (some (61, true)), .call .q (.f 19) [(.t 62), (.t 63)]⟩,
      ⟨(some 65), none, .pick (.t 61) (.t 64) (.c (.bool false))⟩,
      ⟨(some 4), none, .mov (.t 65)⟩])
   (.ret)) (.skip)))
 (.seq (.seq (.reg none [
     ⟨(some 11), none, .mov (.c (.int .i64 0))⟩])
  (.block 0 (.loop (.seq (.seq (.reg none [
        ⟨(some 66), none, .mov (.t 11)⟩,
        ⟨(some 67), none, .bin .lss (.t 66) (.c (.int .i64 3))⟩])
     (.cond (.t 67) (.skip) (.exit 0)))
    (.seq (.block 1 (.seq (.reg none [
         ⟨(some 70), none, .load true 2 (.t 5)⟩,
         ⟨(some 71), none, .mov (.t 11)⟩,
         ⟨(some 72), none, .call .k (.f 38) [(.t 70), (.t 71)]⟩,
         ⟨(some 12), none, .mov (.t 72)⟩])
      (.seq (.regW 10 [
         ⟨(some 74), none, .load true 2 (.t 5)⟩,
         ⟨(some 75), none, .mov (.t 6)⟩,
         ⟨(some 76), none, .mov (.t 12)⟩,
         ⟨(some 77), none, .mov (.t 1)⟩,
         ⟨(some 78), none, .call .k (.f 34) [(.t 75), (.t 76), (.t 77)]⟩,
         ⟨(some 79), none, .call .k (.f 14) [(.t 74), (.t 78)]⟩,
         ⟨(some 73), none, .mov (.t 79)⟩,
         ⟨(some 80), none, .ext (.t 73) 0⟩,
         ⟨(some 81), none, .ext (.t 73) 1⟩,
         ⟨(some 13), none, .new [(.slice none 0 0), (.slice none 0 0), (.slice none 0 0)]⟩,
         ⟨none, none, .store 3 (.t 13) (.t 80)⟩,
         ⟨(some 14), none, .mov (.t 81)⟩])
      (.seq (.reg (some 27) [
         ⟨(some 82), none, .mov (.t 14)⟩,
         ⟨(some 83), none, .un .not (.t 82)⟩,
         ⟨(some 84), none, .mov (.t 83)⟩,
         ⟨(some 85), (some (84, false)), .load true 3 (.t 9)⟩,
         ⟨(some 86), (some (84, false)), .mov (.t 11)⟩,
         ⟨(some 87), (some (84, false)), .call .k (.f 39) [(.t 85), (.t 86)]⟩,
         ⟨(some 88), (some (84, false)), .load true 3 (.t 13)⟩,
         ⟨(some 89), (some (84, false)), .mov (.t 11)⟩,
         ⟨(some 90), (some (84, false)), .call .k (.f 39) [(.t 88), (.t 89)]⟩,
         ⟨(some 91), (some (84, false)), .call .q (.f 16) [(.t 87), (.t 90)]⟩,
         ⟨(some 92), (some (84, false)), .un .not (.t 91)⟩,
         ⟨(some 93), none, .pick (.t 84) (.c (.bool true)) (.t 92)⟩,
         ⟨(some 94), none, .mov (.t 93)⟩,
         ⟨(some 95), (some (94, false)), .fad 0 (.t 9)⟩,
         ⟨(some 96), (some (94, false)), .load false 1 (.t 95)⟩,
         ⟨(some 97), (some (94, false)), .fad 0 (.t 13)⟩,
         ⟨(some 98), (some (94, false)), .load false 1 (.t 97)⟩,
         ⟨(some 99), (some (94, false)), .mov (.t 12)⟩,
         ⟨(some 100), (some (94, false)), .call .q (.f 35) [(.t 96), (.t 98), (.t 99)]⟩,
         ⟨(some 101), (some (94, false)), .un .not (.t 100)⟩,
         ⟨(some 102), none, .pick (.t 94) (.c (.bool true)) (.t 101)⟩,
         ⟨(some 103), none, .mov (.t 102)⟩,
         ⟨(some 104), (some (103, false)), .load true 3 (.t 9)⟩,
         ⟨(some 105), (some (103, false)), .mov (.t 12)⟩,
         ⟨(some 106), (some (103, false)), .call .k (.f 37) [(.t 104), (.t 105)]⟩,
         ⟨(some 107), (some (103, false)), .load true 3 (.t 13)⟩,
         ⟨(some 108), (some (103, false)), .mov (.t 12)⟩,
         ⟨(some 109), (some (103, false)), .call .k (.f 37) [(.t 107), (.t 108)]⟩,
         ⟨(some 110), (some (103, false)), .call .q (.f 36) [(.t 106), (.t 109)]⟩,
         ⟨(some 111), (some (103, false)), .un .not (.t 110)⟩,
         ⟨(some 112), none, .pick (.t 103) (.c (.bool true)) (.t 111)⟩])
      (.cond (.t 112) (.seq (.reg none [
          ⟨(some 4), none, .mov (.c (.bool false))⟩])
       (.ret)) (.skip))))))
    (.reg none [
      ⟨(some 68), none, .mov (.t 11)⟩,
      ⟨(some 69), none, .bin .add (.t 68) (.c (.int .i64 1))⟩,
      ⟨(some 11), none, .mov (.t 69)⟩]))))))
 (.seq (.reg none [
    ⟨(some 4), none, .mov (.c (.bool true))⟩])
 (.ret))))))))⟩
theorem p2_rg {V : Vw} {v : Value} {l : List (Int × Int)} (h : SlR Co.p2 V v l) : ∀ w ∈ l, RgI w.1 ∧ RgI w.2 := by
  intro w hw
  obtain ⟨i, hi, rfl⟩ := List.getElem_of_mem hw
  obtain ⟨_, a, rfl, h2⟩ := h
  rcases h2 with h2 | ⟨b, o, _, h2⟩
  · rw [h2] at hi; simp at hi
  · obtain ⟨cs, _, _, _, _, ⟨_, r1⟩, ⟨_, r2⟩⟩ := h2 i hi
    exact ⟨r1, r2⟩
theorem numsB_nums {d : Nat} {ls : List (Int × Int)} {l : List (TStep d)} {nums nums' : List Int} (h : numsB d (ls, l) nums = true) (hl : nums'.length = ls.length) (hr : ∀ x ∈ nums', 0 ≤ x ∧ x ≤ 9) : numsB d (ls, l) nums' = true := by
  simp only [numsB, Bool.and_eq_true, decide_eq_true_eq, List.all_eq_true] at h ⊢
  exact ⟨⟨h.1.1, hl⟩, fun x hx => inB_iff'.2 (hr x hx)⟩
theorem map_low {c : Bool} {h : Int} {ls : List (Int × Int)} {i : Nat} (hi : i < ls.length) (d : Bool) : (ls.map (lowL c h)).getD i d = lowX c h ls i := by
  simp [lowX, List.getD, hi]
theorem other_low {c : Bool} {h : Int} {ls : List (Int × Int)} {nums : List Int} {m : Nat} (hl : nums.length = ls.length) : ∀ i : Nat, i < ls.length → lowX c h ls i = true → nums.getD i 0 = (otherL nums (ls.map (lowL c h)) m).getD i 0 := by
  intro i hi hlo
  rw [List.getD_eq_getElem?_getD, List.getD_eq_getElem?_getD, List.getElem?_eq_getElem (show i < nums.length by omega), List.getElem?_eq_getElem (by rw [otherL_len]; omega)]
  simp only [Option.getD_some, otherL, List.getElem_mapIdx]
  rw [map_low hi, if_pos hlo]
theorem seen_low {c : Bool} {h : Int} {ls : List (Int × Int)} {ws : List (Int × Int)} (hr : ∀ w ∈ ws, 0 ≤ w.1 ∧ w.1 < ls.length) : ws.filter (seenW (ls.map (lowL c h))) = ws.filter (fun w => lowX c h ls w.1) := by
  refine List.filter_congr fun w hw => ?_
  have := hr w hw
  unfold seenW
  rw [List.length_map, inB_iff.2 ⟨this.1, by omega⟩, Bool.true_and, map_low (by omega)]
  unfold lowX
  rw [Int.toNat_natCast]
/-- What one host sees, of a program done with other numbers elsewhere. -/
theorem same_low {c : Bool} {h : Int} {d : Nat} {ls : List (Int × Int)} {l : List (TStep d)} {nums : List Int} {m : Nat} (h0 : 0 ≤ h) (h2 : h ≤ 2) (hB : numsB d (ls, l) nums = true) (hT : typeB d (ls, l) = true) :
    numsB d (ls, l) (otherL nums (ls.map (lowL c h)) m) = true ∧ (runOf d (ls, l) nums).1.length = (runOf d (ls, l) (otherL nums (ls.map (lowL c h)) m)).1.length ∧
    (∀ i : Nat, i < (runOf d (ls, l) nums).1.length → (ls.map (lowL c h)).getD i false = true → (runOf d (ls, l) nums).1.getD i 0 = (runOf d (ls, l) (otherL nums (ls.map (lowL c h)) m)).1.getD i 0) ∧
    (runOf d (ls, l) nums).2.1.filter (seenW (ls.map (lowL c h))) = (runOf d (ls, l) (otherL nums (ls.map (lowL c h)) m)).2.1.filter (seenW (ls.map (lowL c h))) ∧
    (c = true → toldL h (runOf d (ls, l) nums).2.2 = toldL h (runOf d (ls, l) (otherL nums (ls.map (lowL c h)) m)).2.2) := by
  obtain ⟨hl, hl4, hrg⟩ := numsB_len hB
  have hB' : numsB d (ls, l) (otherL nums (ls.map (lowL c h)) m) = true := numsB_nums hB (by rw [otherL_len]; exact hl) (otherL_rg hrg)
  have hT' : (progB d (ls, l) && !(whyV d (ls, l)).2) = true := hT
  rw [Bool.and_eq_true, Bool.not_eq_true'] at hT'
  have L := runOf_Lo (c := c) h0 h2 hB hB' hT'.2 (other_low hl)
  obtain ⟨P, _⟩ := runOf_P hB
  obtain ⟨P', _⟩ := runOf_P hB'
  refine ⟨hB', by rw [P.len, P'.len], fun i hi hv => ?_, ?_, fun hc => ?_⟩
  · rw [P.len] at hi
    rw [map_low hi] at hv
    exact L.nu i hi hv
  · rw [seen_low P.vr, seen_low P'.vr]
    exact L.wr
  · unfold toldL
    rw [L.sd hc]
theorem run_bd {d : Nat} {ls : List (Int × Int)} {l : List (TStep d)} {nums : List Int} (hB : numsB d (ls, l) nums = true) (hsm : (Co.prog d).sm (ls, l)) : (runOf d (ls, l) nums).2.1.length ≤ 1000 ∧ (runOf d (ls, l) nums).2.2.length ≤ 1000 := by
  obtain ⟨P, _⟩ := runOf_P hB
  have hP : progB d (ls, l) = true := by
    have := hB
    simp only [numsB, Bool.and_eq_true] at this
    exact this.1.1
  have h1 := progB_cnt hP hsm
  simp only at h1
  have h2 := P.sm
  omega
set_option maxHeartbeats 8000000 in
theorem lawTK_ok {F : Nat → Option IFn} {f : Nat} (hf : F f = some c_lawTK) (gd : DrawNumsOk F 17) (gs : RunOk F 18) (gr : RunOk F 14) (glr : RunsOk F 19) (gt : TypeOkB F 32) (gv : VarsOk F 33 false) (go : OtherOk F 34) (gsa : SameOk F 35) (gst : SetsOk F 37) (glw : PairsOk F 36) : LawB2 F f := by
  intro H v w code more hv hw
  have hv0 := hv
  obtain ⟨h0, a, rfl, _⟩ := hv
  have hw0 := hw
  obtain ⟨hm0, am, rfl, _⟩ := hw
  refine QC.mk hf rfl ?_
  refine seq_reg ?_
  simp only [go_sem, binC]
  by_cases hbig : 1048576 < (code.length : Int)
  · refine seq_assoc (seq_reg ?_)
    simp only [go_sem, binC, decide_eq_true hbig]
    refine seq_cond (t := true) rfl ?_
    simp only [go_sem, binC]
    refine seq_assoc (seq_reg ?_)
    simp only [go_sem, binC]
    exact seq_ret ⟨Or.inr rfl, .bool true, by simp only [go_sem, binC], rfl, rfl⟩
  by_cases hbig2 : 1048576 < (more.length : Int)
  · refine seq_assoc (seq_reg ?_)
    simp only [go_sem, binC, decide_eq_false hbig, decide_eq_true hbig2]
    refine seq_cond (t := true) rfl ?_
    simp only [go_sem, binC]
    refine seq_assoc (seq_reg ?_)
    simp only [go_sem, binC]
    exact seq_ret ⟨Or.inr rfl, .bool true, by simp only [go_sem, binC], rfl, rfl⟩
  refine seq_assoc (seq_reg ?_)
  simp only [go_sem, binC, decide_eq_false hbig, decide_eq_false hbig2]
  refine seq_cond (t := false) rfl ?_
  simp only [go_sem, binC]
  refine seq_skip (seq_reg ?_)
  simp only [go_sem, binC]
  obtain ⟨d, lv, sv, nv, ls, l, nums, H1, k, hx, r1, r2, r3, r4⟩ := gd H _ code hv0
  have hl1 := hx.1
  have olv : one lv = true := by obtain ⟨_, a, rfl, _⟩ := r1; rfl
  have osv : one sv = true := by obtain ⟨_, a, rfl, _⟩ := r2; rfl
  refine op_callK (by simp only [go_sem, binC]; exact k) ?_
  simp only [go_sem, binC, olv, osv]
  refine ⟨by omega, ?_⟩
  refine wpc_gen fun H2 hH2 => ?_
  have hb : H2[H1.length]? = some ⟨[lv, sv], 0, 0, false, true⟩ := hH2 ▸ get_new0 _ _
  have hy : AgX [] H1 H2 := hH2 ▸ AgX.app [] _ _
  have hS : Sub (vw 0 H1) (vw 0 H2) := hH2 ▸ vw_app 0 H1 _
  have hl2 : H2.length = H1.length + 1 := by rw [hH2, List.length_append]; rfl
  replace r1 := r1.mono hS
  replace r2 := r2.mono hS
  replace r4 := r4.mono hS
  clear hH2 hS
  obtain ⟨hln, na0, hnv, _⟩ := id r4
  subst hnv
  obtain ⟨hlls, la0, hlv, _⟩ := id r1
  subst hlv
  obtain ⟨hlsv, sa0, hsv, _⟩ := id r2
  subst hsv
  refine seq_reg ?_
  simp only [go_sem, binC, gc_of hb, inBlk_some, osv]
  obtain ⟨nw, ww, tw, H3, k3, hx3, s1, s2, s3⟩ := gs H2 d _ _ _ ls l nums r1 r2 r3 r4
  obtain ⟨_, nwa, rfl, _⟩ := id s1
  obtain ⟨_, wwa, rfl, _⟩ := id s2
  obtain ⟨_, twa, rfl, _⟩ := id s3
  have hl3 := hx3.1
  refine op_callK (by simp only [go_sem, binC]; exact k3) ?_
  simp only [go_sem, binC]
  refine ⟨by omega, ?_⟩
  refine wpc_gen fun H4 hH4 => ?_
  have hx4 : AgX [] H3 H4 := hH4 ▸ AgX.app [] _ _
  have hbw : H4[H3.length]? = some ⟨[.slice nwa (runOf d (ls, l) nums).1.length (runOf d (ls, l) nums).1.length, .slice wwa (runOf d (ls, l) nums).2.1.length (runOf d (ls, l) nums).2.1.length, .slice twa (runOf d (ls, l) nums).2.2.length (runOf d (ls, l) nums).2.2.length], 0, 0, false, true⟩ := hH4 ▸ get_new0 _ _
  have hl4' : H4.length = H3.length + 1 := by rw [hH4, List.length_append]; rfl
  clear hH4
  have hx24 := hx3.tr hx4
  have hb4 := hx24.get hb (by simp)
  have hS4 := agx_sub hx24
  refine seq_reg ?_
  simp only [go_sem, binC, gc_of hb4, inBlk_some, osv]
  obtain ⟨nx, wx, tx, H5, k5, hx5, t1, t2, t3⟩ := gr H4 d _ _ _ ls l nums (r1.mono hS4) (r2.mono hS4) r3 (r4.mono hS4)
  obtain ⟨_, nxa, rfl, _⟩ := id t1
  obtain ⟨_, wxa, rfl, _⟩ := id t2
  obtain ⟨_, txa, rfl, _⟩ := id t3
  have hl5 := hx5.1
  refine op_callK (by simp only [go_sem, binC]; exact k5) ?_
  simp only [go_sem, binC]
  refine ⟨by omega, ?_⟩
  refine wpc_gen fun H6 hH6 => ?_
  have hx6 : AgX [] H5 H6 := hH6 ▸ AgX.app [] _ _
  have hbx : H6[H5.length]? = some ⟨[.slice nxa (runOf d (ls, l) nums).1.length (runOf d (ls, l) nums).1.length, .slice wxa (runOf d (ls, l) nums).2.1.length (runOf d (ls, l) nums).2.1.length, .slice txa (runOf d (ls, l) nums).2.2.length (runOf d (ls, l) nums).2.2.length], 0, 0, false, true⟩ := hH6 ▸ get_new0 _ _
  have hl6 : H6.length = H5.length + 1 := by rw [hH6, List.length_append]; rfl
  clear hH6
  have hx46 := hx5.tr hx6
  have hx26 := hx24.tr hx46
  have hb6 := hx46.get hb4 (by simp)
  have hbw6 := hx46.get hbw (by simp)
  replace r1 := r1.mono (agx_sub hx26)
  replace r2 := r2.mono (agx_sub hx26)
  replace r4 := r4.mono (agx_sub hx26)
  replace s1 := s1.mono (agx_sub (hx4.tr hx46))
  replace s2 := s2.mono (agx_sub (hx4.tr hx46))
  replace s3 := s3.mono (agx_sub (hx4.tr hx46))
  replace t1 := t1.mono (agx_sub hx6)
  replace t2 := t2.mono (agx_sub hx6)
  replace t3 := t3.mono (agx_sub hx6)
  have hEq := glr H6 _ _ _ _ _ _ _ _ t1 t2 t3 s1 s2 s3
  rw [decide_eq_true rfl] at hEq
  have hl2 := hx.1
  have hl24 := hx24.1
  clear k k3 k5
  cases hB : numsB d (ls, l) nums with
  | false =>
    refine seq_assoc (seq_reg ?_)
    simp only [go_sem, binC, hB, beq_self_eq_true, bne_self_eq_false, gc_of hbw6, gc_of hbx, inBlk_some]
    refine op_callQ (by simp only [go_sem, binC]; exact hEq) ?_
    simp only [go_sem, binC]
    refine seq_cond (t := true) rfl ?_
    simp only [go_sem, binC]
    refine seq_assoc (seq_reg ?_)
    simp only [go_sem, binC, hB, beq_self_eq_true, bne_self_eq_false, gc_of hbw6, gc_of hbx, inBlk_some]
    refine op_callQ (by simp only [go_sem, binC]; exact hEq) ?_
    simp only [go_sem, binC]
    exact seq_ret ⟨Or.inr rfl, .bool true, by simp only [go_sem, binC], rfl, rfl⟩
  | true =>
  obtain ⟨hnl, hl4, hrg⟩ := numsB_len hB
  have hPB : progB d (ls, l) = true := by
    have := hB
    simp only [numsB, Bool.and_eq_true] at this
    exact this.1.1
  refine seq_assoc (seq_reg ?_)
  simp only [go_sem, binC, hB, beq_self_eq_true, bne_self_eq_false, gc_of hbw6, gc_of hbx, inBlk_some]
  refine op_callQ (by simp only [go_sem, binC]; exact hEq) ?_
  simp only [go_sem, binC, gc_of hb6, inBlk_some]
  refine op_callQ (by simp only [go_sem, binC]; exact gt H6 d _ _ ls l r1 r2 r3) ?_
  cases hT : typeB d (ls, l) with
  | false =>
    simp only [go_sem, binC]
    refine seq_cond (t := true) rfl ?_
    simp only [go_sem, binC]
    refine seq_assoc (seq_reg ?_)
    simp only [go_sem, binC, hB, beq_self_eq_true, bne_self_eq_false, gc_of hbw6, gc_of hbx, inBlk_some]
    refine op_callQ (by simp only [go_sem, binC]; exact hEq) ?_
    simp only [go_sem, binC]
    exact seq_ret ⟨Or.inr rfl, .bool true, by simp only [go_sem, binC], rfl, rfl⟩
  | true =>
  simp only [go_sem, binC]
  refine seq_cond (t := false) rfl ?_
  simp only [go_sem, binC]
  clear hEq s1 s2 s3 hbw6
  obtain ⟨hbd1, hbd2⟩ := run_bd hB r3
  refine seq_skip (seq_assoc (seq_reg ?_))
  simp only [go_sem, binC]
  refine seq_block (wpc_loop ?_)
  suffices hh : ∀ (k i : Nat) (e : Env) (Hc : Heap), i + k = 3 → AgX [] H6 Hc → e 1 = .slice am more.length more.length → e 5 = ptr H1.length 0 → e 6 = .slice na0 nums.length nums.length → e 9 = ptr H5.length 0 → e 11 = .int .i64 i → W F H.length _ e Hc _ from
    hh 3 0 _ H6 rfl (AgX.refl _ _) (by simp only [go_sem, binC]) (by simp only [go_sem, binC]) (by simp only [go_sem, binC]) (by simp only [go_sem, binC]) (by (simp only [go_sem, binC]) <;> rfl)
  intro k
  induction k with
  | zero =>
    intro i e Hc hik hxc e1 e5 e6 e9 e11
    refine lp_step ?_
    refine seq_assoc (seq_reg ?_)
    simp only [go_sem, binC, e11]
    refine seq_cond (t := false) (by simp only [go_sem, binC]; rw [decide_eq_false (by omega)]) ?_
    simp only [go_sem, binC]
    refine seq_exit ?_
    simp only [go_sem, binC, thenX_e, out_e, thenX_n]
    refine seq_reg ?_
    simp only [go_sem, binC]
    exact wpc_ret ⟨Or.inr rfl, .bool true, by simp only [go_sem, binC], rfl, rfl⟩
  | succ k ih =>
    intro i e Hc hik hxc e1 e5 e6 e9 e11
    have hw1 : IntKind.i64.wrap ((i : Int) + 1) = ((i + 1 : Nat) : Int) := by rw [wrap_id (by omega) (by omega)]; omega
    have hi0 : (0 : Int) ≤ (i : Int) := by omega
    have hi2 : (i : Int) ≤ 2 := by omega
    have hbc := hxc.get hb6 (by simp)
    have hbxc := hxc.get hbx (by simp)
    have hSc := agx_sub hxc
    refine lp_step ?_
    refine seq_assoc (seq_reg ?_)
    simp only [go_sem, binC, e11]
    refine seq_cond (t := true) (by simp only [go_sem, binC]; rw [decide_eq_true (by omega)]) ?_
    simp only [go_sem, binC]
    refine seq_skip (seq_block (seq_reg ?_))
    simp only [go_sem, binC, e5, e11, gc_of hbc, inBlk_some]
    obtain ⟨vk, H7, k7, x7, q7⟩ := gv Hc d _ _ ls l i hi0 hi2 (r1.mono hSc) (r2.mono hSc) r3 hPB
    obtain ⟨_, ka, rfl, _⟩ := id q7
    rw [List.length_map] at q7 k7
    refine op_callK (by simp only [go_sem, binC]; exact k7) ?_
    simp only [go_sem, binC]
    have hb7 := x7.get hbc (by simp)
    have hbx7 := x7.get hbxc (by simp)
    have hx67 := hxc.tr x7
    have hw7 := hw0.mono (agx_sub (hx.tr (hy.tr (hx26.tr hx67))))
    obtain ⟨vo, H8, k8, x8, q8⟩ := go H7 _ _ _ nums _ more (r4.mono (agx_sub hx67)) q7 hw7 hrg (by omega) (by omega)
    obtain ⟨_, oa, rfl, _⟩ := id q8
    have hx68 := hx67.tr x8
    obtain ⟨n1, n2, n3, n4, n5⟩ := same_low (c := false) (m := more.length) hi0 hi2 hB hT
    obtain ⟨hbd1', hbd2'⟩ := run_bd n1 r3
    obtain ⟨ny, wy, ty, H9, k9, x9, u1, u2, u3⟩ := gr H8 d _ _ _ ls l _ (r1.mono (agx_sub hx68)) (r2.mono (agx_sub hx68)) r3 q8
    generalize otherL nums (ls.map (lowL false (i : Int))) more.length = on_ at *
    obtain ⟨_, nya, rfl, _⟩ := id u1
    obtain ⟨_, wya, rfl, _⟩ := id u2
    obtain ⟨_, tya, rfl, _⟩ := id u3
    have hl6c := hxc.1
    have hl7 := x7.1
    have hl8 := x8.1
    have hl9 := x9.1
    refine seq_regW ?_
    simp only [go_sem, binC, e1, e5, e6, gc_of hb7, inBlk_some]
    refine op_callK (by simp only [go_sem, binC, e1, e6]; exact k8) ?_
    simp only [go_sem, binC]
    refine op_callK (by simp only [go_sem, binC]; exact k9) ?_
    simp only [go_sem, binC, n1]
    refine ⟨by omega, ?_⟩
    refine wpc_gen fun H10 hh => ?_
    have x10 : AgX [] H9 H10 := hh ▸ AgX.app [] _ _
    have hby : H10[H9.length]? = some ⟨[.slice nya (runOf d (ls, l) on_).1.length (runOf d (ls, l) on_).1.length, .slice wya (runOf d (ls, l) on_).2.1.length (runOf d (ls, l) on_).2.1.length, .slice tya (runOf d (ls, l) on_).2.2.length (runOf d (ls, l) on_).2.2.length], 0, 0, false, true⟩ := hh ▸ get_new0 _ _
    clear hh
    have hx710 := x8.tr (x9.tr x10)
    have hx610 := hx67.tr hx710
    have hbx10 := hx710.get hbx7 (by simp)
    have q10 := q7.mono (agx_sub hx710)
    have t10 := t1.mono (agx_sub hx610)
    have t20 := t2.mono (agx_sub hx610)
    have t30 := t3.mono (agx_sub hx610)
    replace u1 := u1.mono (agx_sub x10)
    replace u2 := u2.mono (agx_sub x10)
    replace u3 := u3.mono (agx_sub x10)
    have otx : one (.slice txa (runOf d (ls, l) nums).2.2.length (runOf d (ls, l) nums).2.2.length) = true := rfl
    refine wpc_genE fun e0 he => ?_
    have f1 : e0 1 = .slice am more.length more.length := by rw [he]; simp only [go_sem, binC, e1]
    have f5 : e0 5 = ptr H1.length 0 := by rw [he]; simp only [go_sem, binC, e5]
    have f6 : e0 6 = .slice na0 nums.length nums.length := by rw [he]; simp only [go_sem, binC, e6]
    have f9 : e0 9 = ptr H5.length 0 := by rw [he]; simp only [go_sem, binC, e9]
    have f11 : e0 11 = .int .i64 i := by rw [he]; simp only [go_sem, binC, e11]
    have f12 : e0 12 = .slice ka ls.length ls.length := by rw [he]; simp only [go_sem, binC]
    have f13 : e0 13 = ptr H9.length 0 := by rw [he]; simp only [go_sem, binC]
    have f14 : e0 14 = .bool true := by rw [he]; simp only [go_sem, binC]
    clear he
    refine seq_regD ?_
    have hx1012 : AgX [] H10 H10 := AgX.refl _ _
    have hbxS := hbx10
    have hbyS := hby
    refine wpp_cut 9 (by omega) (by simp only [List.length_cons, List.length_nil]; omega) fun Kc hK => ?_
    simp only [List.take_succ_cons, List.take_zero]
    simp only [go_sem, binC, f9, f12, f13, f14, gc_of hbxS, gc_of hbyS, inBlk_some]
    refine op_callQ (by simp only [go_sem, binC, f12]; exact gsa H10 _ _ _ _ _ _ (t10.mono (agx_sub hx1012)) (u1.mono (agx_sub hx1012)) (q10.mono (agx_sub hx1012)) n2 n3) ?_
    simp only [go_sem, binC]
    refine hK _ _ ?_
    simp only [List.drop_succ_cons, List.drop_zero, Nat.reduceSub]
    refine wpp_cut 6 (by omega) (by simp only [List.length_cons, List.length_nil]; omega) fun Kc hK => ?_
    simp only [List.take_succ_cons, List.take_zero]
    simp only [go_sem, binC, f9, f12, gc_of hbxS, inBlk_some]
    obtain ⟨zc, H13, k13, x13, z13⟩ := gst H10 (.slice nxa (runOf d (ls, l) nums).1.length (runOf d (ls, l) nums).1.length) (.slice wxa (runOf d (ls, l) nums).2.1.length (runOf d (ls, l) nums).2.1.length) (.slice txa (runOf d (ls, l) nums).2.2.length (runOf d (ls, l) nums).2.2.length) _ (runOf d (ls, l) nums) _ rfl (t20.mono (agx_sub hx1012)) rfl (q10.mono (agx_sub hx1012)) hbd1 (p2_rg t20)
    refine op_callK (by simp only [go_sem, binC, f12]; exact k13) ?_
    simp only [go_sem, binC]
    refine hK _ _ ?_
    simp only [List.drop_succ_cons, List.drop_zero, Nat.reduceSub]
    have hbyT := x13.get hbyS (by simp)
    have hx1013 := hx1012.tr x13
    simp only [go_sem, binC, f12, f13, gc_of hbyT, inBlk_some]
    obtain ⟨zd, H14, k14, x14, z14⟩ := gst H13 (.slice nya (runOf d (ls, l) on_).1.length (runOf d (ls, l) on_).1.length) (.slice wya (runOf d (ls, l) on_).2.1.length (runOf d (ls, l) on_).2.1.length) (.slice tya (runOf d (ls, l) on_).2.2.length (runOf d (ls, l) on_).2.2.length) _ (runOf d (ls, l) on_) _ rfl (u2.mono (agx_sub hx1013)) rfl (q10.mono (agx_sub hx1013)) hbd1' (p2_rg u2)
    refine op_callK (by simp only [go_sem, binC, f12]; exact k14) ?_
    simp only [go_sem, binC]
    have hwr := glw H14 _ _ _ _ (z13.mono (agx_sub x14)) z14
    rw [decide_eq_true n4] at hwr
    refine op_callQ (by simp only [go_sem, binC]; exact hwr) ?_
    simp only [go_sem, binC]
    refine wpc_cond (t := false) rfl ?_
    simp only [go_sem, binC]
    refine wpc_skip ?_
    simp only [go_sem, binC, out_n, thenX_n]
    refine wpc_reg ?_
    simp only [go_sem, binC, f11, hw1]
    simp only [go_sem, binC, thenX_n]
    exact ih (i + 1) _ H14 (by omega) ((hx610.tr hx1013).tr x14) (by simp only [go_sem, binC, f1]) (by simp only [go_sem, binC, f5]) (by simp only [go_sem, binC, f6]) (by simp only [go_sem, binC, f9]) (by simp only [go_sem, binC])
set_option maxHeartbeats 8000000 in
theorem lawTH_ok {F : Nat → Option IFn} {f : Nat} (hf : F f = some c_lawTH) (gd : DrawNumsOk F 17) (gs : RunOk F 18) (gr : RunOk F 14) (glr : RunsOk F 19) (gt : TypeOkB F 32) (gv : VarsOk F 38 true) (go : OtherOk F 34) (gsa : SameOk F 35) (gst : SetsOk F 37) (glw : PairsOk F 36) (gtl : ToldOk F 39) (gli : IntsOk F 16) : LawB2 F f := by
  intro H v w code more hv hw
  have hv0 := hv
  obtain ⟨h0, a, rfl, _⟩ := hv
  have hw0 := hw
  obtain ⟨hm0, am, rfl, _⟩ := hw
  refine QC.mk hf rfl ?_
  refine seq_reg ?_
  simp only [go_sem, binC]
  by_cases hbig : 1048576 < (code.length : Int)
  · refine seq_assoc (seq_reg ?_)
    simp only [go_sem, binC, decide_eq_true hbig]
    refine seq_cond (t := true) rfl ?_
    simp only [go_sem, binC]
    refine seq_assoc (seq_reg ?_)
    simp only [go_sem, binC]
    exact seq_ret ⟨Or.inr rfl, .bool true, by simp only [go_sem, binC], rfl, rfl⟩
  by_cases hbig2 : 1048576 < (more.length : Int)
  · refine seq_assoc (seq_reg ?_)
    simp only [go_sem, binC, decide_eq_false hbig, decide_eq_true hbig2]
    refine seq_cond (t := true) rfl ?_
    simp only [go_sem, binC]
    refine seq_assoc (seq_reg ?_)
    simp only [go_sem, binC]
    exact seq_ret ⟨Or.inr rfl, .bool true, by simp only [go_sem, binC], rfl, rfl⟩
  refine seq_assoc (seq_reg ?_)
  simp only [go_sem, binC, decide_eq_false hbig, decide_eq_false hbig2]
  refine seq_cond (t := false) rfl ?_
  simp only [go_sem, binC]
  refine seq_skip (seq_reg ?_)
  simp only [go_sem, binC]
  obtain ⟨d, lv, sv, nv, ls, l, nums, H1, k, hx, r1, r2, r3, r4⟩ := gd H _ code hv0
  have hl1 := hx.1
  have olv : one lv = true := by obtain ⟨_, a, rfl, _⟩ := r1; rfl
  have osv : one sv = true := by obtain ⟨_, a, rfl, _⟩ := r2; rfl
  refine op_callK (by simp only [go_sem, binC]; exact k) ?_
  simp only [go_sem, binC, olv, osv]
  refine ⟨by omega, ?_⟩
  refine wpc_gen fun H2 hH2 => ?_
  have hb : H2[H1.length]? = some ⟨[lv, sv], 0, 0, false, true⟩ := hH2 ▸ get_new0 _ _
  have hy : AgX [] H1 H2 := hH2 ▸ AgX.app [] _ _
  have hS : Sub (vw 0 H1) (vw 0 H2) := hH2 ▸ vw_app 0 H1 _
  have hl2 : H2.length = H1.length + 1 := by rw [hH2, List.length_append]; rfl
  replace r1 := r1.mono hS
  replace r2 := r2.mono hS
  replace r4 := r4.mono hS
  clear hH2 hS
  obtain ⟨hln, na0, hnv, _⟩ := id r4
  subst hnv
  obtain ⟨hlls, la0, hlv, _⟩ := id r1
  subst hlv
  obtain ⟨hlsv, sa0, hsv, _⟩ := id r2
  subst hsv
  refine seq_reg ?_
  simp only [go_sem, binC, gc_of hb, inBlk_some, osv]
  obtain ⟨nw, ww, tw, H3, k3, hx3, s1, s2, s3⟩ := gs H2 d _ _ _ ls l nums r1 r2 r3 r4
  obtain ⟨_, nwa, rfl, _⟩ := id s1
  obtain ⟨_, wwa, rfl, _⟩ := id s2
  obtain ⟨_, twa, rfl, _⟩ := id s3
  have hl3 := hx3.1
  refine op_callK (by simp only [go_sem, binC]; exact k3) ?_
  simp only [go_sem, binC]
  refine ⟨by omega, ?_⟩
  refine wpc_gen fun H4 hH4 => ?_
  have hx4 : AgX [] H3 H4 := hH4 ▸ AgX.app [] _ _
  have hbw : H4[H3.length]? = some ⟨[.slice nwa (runOf d (ls, l) nums).1.length (runOf d (ls, l) nums).1.length, .slice wwa (runOf d (ls, l) nums).2.1.length (runOf d (ls, l) nums).2.1.length, .slice twa (runOf d (ls, l) nums).2.2.length (runOf d (ls, l) nums).2.2.length], 0, 0, false, true⟩ := hH4 ▸ get_new0 _ _
  have hl4' : H4.length = H3.length + 1 := by rw [hH4, List.length_append]; rfl
  clear hH4
  have hx24 := hx3.tr hx4
  have hb4 := hx24.get hb (by simp)
  have hS4 := agx_sub hx24
  refine seq_reg ?_
  simp only [go_sem, binC, gc_of hb4, inBlk_some, osv]
  obtain ⟨nx, wx, tx, H5, k5, hx5, t1, t2, t3⟩ := gr H4 d _ _ _ ls l nums (r1.mono hS4) (r2.mono hS4) r3 (r4.mono hS4)
  obtain ⟨_, nxa, rfl, _⟩ := id t1
  obtain ⟨_, wxa, rfl, _⟩ := id t2
  obtain ⟨_, txa, rfl, _⟩ := id t3
  have hl5 := hx5.1
  refine op_callK (by simp only [go_sem, binC]; exact k5) ?_
  simp only [go_sem, binC]
  refine ⟨by omega, ?_⟩
  refine wpc_gen fun H6 hH6 => ?_
  have hx6 : AgX [] H5 H6 := hH6 ▸ AgX.app [] _ _
  have hbx : H6[H5.length]? = some ⟨[.slice nxa (runOf d (ls, l) nums).1.length (runOf d (ls, l) nums).1.length, .slice wxa (runOf d (ls, l) nums).2.1.length (runOf d (ls, l) nums).2.1.length, .slice txa (runOf d (ls, l) nums).2.2.length (runOf d (ls, l) nums).2.2.length], 0, 0, false, true⟩ := hH6 ▸ get_new0 _ _
  have hl6 : H6.length = H5.length + 1 := by rw [hH6, List.length_append]; rfl
  clear hH6
  have hx46 := hx5.tr hx6
  have hx26 := hx24.tr hx46
  have hb6 := hx46.get hb4 (by simp)
  have hbw6 := hx46.get hbw (by simp)
  replace r1 := r1.mono (agx_sub hx26)
  replace r2 := r2.mono (agx_sub hx26)
  replace r4 := r4.mono (agx_sub hx26)
  replace s1 := s1.mono (agx_sub (hx4.tr hx46))
  replace s2 := s2.mono (agx_sub (hx4.tr hx46))
  replace s3 := s3.mono (agx_sub (hx4.tr hx46))
  replace t1 := t1.mono (agx_sub hx6)
  replace t2 := t2.mono (agx_sub hx6)
  replace t3 := t3.mono (agx_sub hx6)
  have hEq := glr H6 _ _ _ _ _ _ _ _ t1 t2 t3 s1 s2 s3
  rw [decide_eq_true rfl] at hEq
  have hl2 := hx.1
  have hl24 := hx24.1
  clear k k3 k5
  cases hB : numsB d (ls, l) nums with
  | false =>
    refine seq_assoc (seq_reg ?_)
    simp only [go_sem, binC, hB, beq_self_eq_true, bne_self_eq_false, gc_of hbw6, gc_of hbx, inBlk_some]
    refine op_callQ (by simp only [go_sem, binC]; exact hEq) ?_
    simp only [go_sem, binC]
    refine seq_cond (t := true) rfl ?_
    simp only [go_sem, binC]
    refine seq_assoc (seq_reg ?_)
    simp only [go_sem, binC, hB, beq_self_eq_true, bne_self_eq_false, gc_of hbw6, gc_of hbx, inBlk_some]
    refine op_callQ (by simp only [go_sem, binC]; exact hEq) ?_
    simp only [go_sem, binC]
    exact seq_ret ⟨Or.inr rfl, .bool true, by simp only [go_sem, binC], rfl, rfl⟩
  | true =>
  obtain ⟨hnl, hl4, hrg⟩ := numsB_len hB
  have hPB : progB d (ls, l) = true := by
    have := hB
    simp only [numsB, Bool.and_eq_true] at this
    exact this.1.1
  refine seq_assoc (seq_reg ?_)
  simp only [go_sem, binC, hB, beq_self_eq_true, bne_self_eq_false, gc_of hbw6, gc_of hbx, inBlk_some]
  refine op_callQ (by simp only [go_sem, binC]; exact hEq) ?_
  simp only [go_sem, binC, gc_of hb6, inBlk_some]
  refine op_callQ (by simp only [go_sem, binC]; exact gt H6 d _ _ ls l r1 r2 r3) ?_
  cases hT : typeB d (ls, l) with
  | false =>
    simp only [go_sem, binC]
    refine seq_cond (t := true) rfl ?_
    simp only [go_sem, binC]
    refine seq_assoc (seq_reg ?_)
    simp only [go_sem, binC, hB, beq_self_eq_true, bne_self_eq_false, gc_of hbw6, gc_of hbx, inBlk_some]
    refine op_callQ (by simp only [go_sem, binC]; exact hEq) ?_
    simp only [go_sem, binC]
    exact seq_ret ⟨Or.inr rfl, .bool true, by simp only [go_sem, binC], rfl, rfl⟩
  | true =>
  simp only [go_sem, binC]
  refine seq_cond (t := false) rfl ?_
  simp only [go_sem, binC]
  clear hEq s1 s2 s3 hbw6
  obtain ⟨hbd1, hbd2⟩ := run_bd hB r3
  refine seq_skip (seq_assoc (seq_reg ?_))
  simp only [go_sem, binC]
  refine seq_block (wpc_loop ?_)
  suffices hh : ∀ (k i : Nat) (e : Env) (Hc : Heap), i + k = 3 → AgX [] H6 Hc → e 1 = .slice am more.length more.length → e 5 = ptr H1.length 0 → e 6 = .slice na0 nums.length nums.length → e 9 = ptr H5.length 0 → e 11 = .int .i64 i → W F H.length _ e Hc _ from
    hh 3 0 _ H6 rfl (AgX.refl _ _) (by simp only [go_sem, binC]) (by simp only [go_sem, binC]) (by simp only [go_sem, binC]) (by simp only [go_sem, binC]) (by (simp only [go_sem, binC]) <;> rfl)
  intro k
  induction k with
  | zero =>
    intro i e Hc hik hxc e1 e5 e6 e9 e11
    refine lp_step ?_
    refine seq_assoc (seq_reg ?_)
    simp only [go_sem, binC, e11]
    refine seq_cond (t := false) (by simp only [go_sem, binC]; rw [decide_eq_false (by omega)]) ?_
    simp only [go_sem, binC]
    refine seq_exit ?_
    simp only [go_sem, binC, thenX_e, out_e, thenX_n]
    refine seq_reg ?_
    simp only [go_sem, binC]
    exact wpc_ret ⟨Or.inr rfl, .bool true, by simp only [go_sem, binC], rfl, rfl⟩
  | succ k ih =>
    intro i e Hc hik hxc e1 e5 e6 e9 e11
    have hw1 : IntKind.i64.wrap ((i : Int) + 1) = ((i + 1 : Nat) : Int) := by rw [wrap_id (by omega) (by omega)]; omega
    have hi0 : (0 : Int) ≤ (i : Int) := by omega
    have hi2 : (i : Int) ≤ 2 := by omega
    have hbc := hxc.get hb6 (by simp)
    have hbxc := hxc.get hbx (by simp)
    have hSc := agx_sub hxc
    refine lp_step ?_
    refine seq_assoc (seq_reg ?_)
    simp only [go_sem, binC, e11]
    refine seq_cond (t := true) (by simp only [go_sem, binC]; rw [decide_eq_true (by omega)]) ?_
    simp only [go_sem, binC]
    refine seq_skip (seq_block (seq_reg ?_))
    simp only [go_sem, binC, e5, e11, gc_of hbc, inBlk_some]
    obtain ⟨vk, H7, k7, x7, q7⟩ := gv Hc d _ _ ls l i hi0 hi2 (r1.mono hSc) (r2.mono hSc) r3 hPB
    obtain ⟨_, ka, rfl, _⟩ := id q7
    rw [List.length_map] at q7 k7
    refine op_callK (by simp only [go_sem, binC]; exact k7) ?_
    simp only [go_sem, binC]
    have hb7 := x7.get hbc (by simp)
    have hbx7 := x7.get hbxc (by simp)
    have hx67 := hxc.tr x7
    have hw7 := hw0.mono (agx_sub (hx.tr (hy.tr (hx26.tr hx67))))
    obtain ⟨vo, H8, k8, x8, q8⟩ := go H7 _ _ _ nums _ more (r4.mono (agx_sub hx67)) q7 hw7 hrg (by omega) (by omega)
    obtain ⟨_, oa, rfl, _⟩ := id q8
    have hx68 := hx67.tr x8
    obtain ⟨n1, n2, n3, n4, n5⟩ := same_low (c := true) (m := more.length) hi0 hi2 hB hT
    obtain ⟨hbd1', hbd2'⟩ := run_bd n1 r3
    obtain ⟨ny, wy, ty, H9, k9, x9, u1, u2, u3⟩ := gr H8 d _ _ _ ls l _ (r1.mono (agx_sub hx68)) (r2.mono (agx_sub hx68)) r3 q8
    generalize otherL nums (ls.map (lowL true (i : Int))) more.length = on_ at *
    obtain ⟨_, nya, rfl, _⟩ := id u1
    obtain ⟨_, wya, rfl, _⟩ := id u2
    obtain ⟨_, tya, rfl, _⟩ := id u3
    have hl6c := hxc.1
    have hl7 := x7.1
    have hl8 := x8.1
    have hl9 := x9.1
    refine seq_regW ?_
    simp only [go_sem, binC, e1, e5, e6, gc_of hb7, inBlk_some]
    refine op_callK (by simp only [go_sem, binC, e1, e6]; exact k8) ?_
    simp only [go_sem, binC]
    refine op_callK (by simp only [go_sem, binC]; exact k9) ?_
    simp only [go_sem, binC, n1]
    refine ⟨by omega, ?_⟩
    refine wpc_gen fun H10 hh => ?_
    have x10 : AgX [] H9 H10 := hh ▸ AgX.app [] _ _
    have hby : H10[H9.length]? = some ⟨[.slice nya (runOf d (ls, l) on_).1.length (runOf d (ls, l) on_).1.length, .slice wya (runOf d (ls, l) on_).2.1.length (runOf d (ls, l) on_).2.1.length, .slice tya (runOf d (ls, l) on_).2.2.length (runOf d (ls, l) on_).2.2.length], 0, 0, false, true⟩ := hh ▸ get_new0 _ _
    clear hh
    have hx710 := x8.tr (x9.tr x10)
    have hx610 := hx67.tr hx710
    have hbx10 := hx710.get hbx7 (by simp)
    have q10 := q7.mono (agx_sub hx710)
    have t10 := t1.mono (agx_sub hx610)
    have t20 := t2.mono (agx_sub hx610)
    have t30 := t3.mono (agx_sub hx610)
    replace u1 := u1.mono (agx_sub x10)
    replace u2 := u2.mono (agx_sub x10)
    replace u3 := u3.mono (agx_sub x10)
    have otx : one (.slice txa (runOf d (ls, l) nums).2.2.length (runOf d (ls, l) nums).2.2.length) = true := rfl
    refine wpc_genE fun e0 he => ?_
    have f1 : e0 1 = .slice am more.length more.length := by rw [he]; simp only [go_sem, binC, e1]
    have f5 : e0 5 = ptr H1.length 0 := by rw [he]; simp only [go_sem, binC, e5]
    have f6 : e0 6 = .slice na0 nums.length nums.length := by rw [he]; simp only [go_sem, binC, e6]
    have f9 : e0 9 = ptr H5.length 0 := by rw [he]; simp only [go_sem, binC, e9]
    have f11 : e0 11 = .int .i64 i := by rw [he]; simp only [go_sem, binC, e11]
    have f12 : e0 12 = .slice ka ls.length ls.length := by rw [he]; simp only [go_sem, binC]
    have f13 : e0 13 = ptr H9.length 0 := by rw [he]; simp only [go_sem, binC]
    have f14 : e0 14 = .bool true := by rw [he]; simp only [go_sem, binC]
    clear he
    refine seq_regD ?_
    refine wpp_cut 6 (by omega) (by simp only [List.length_cons, List.length_nil]; omega) fun Kc hK => ?_
    simp only [List.take_succ_cons, List.take_zero]
    simp only [go_sem, binC, f9, f11, f14, gc_of hbx10, inBlk_some]
    obtain ⟨za, H11, k11, x11, z11⟩ := gtl H10 (.slice nxa (runOf d (ls, l) nums).1.length (runOf d (ls, l) nums).1.length) (.slice wxa (runOf d (ls, l) nums).2.1.length (runOf d (ls, l) nums).2.1.length) (.slice txa (runOf d (ls, l) nums).2.2.length (runOf d (ls, l) nums).2.2.length) (runOf d (ls, l) nums) i rfl rfl t30 hbd2 (p2_rg t30)
    refine op_callK (by simp only [go_sem, binC]; exact k11) ?_
    simp only [go_sem, binC]
    refine hK _ _ ?_
    simp only [List.drop_succ_cons, List.drop_zero, Nat.reduceSub]
    have hby11 := x11.get hby (by simp)
    refine wpp_cut 3 (by omega) (by simp only [List.length_cons, List.length_nil]; omega) fun Kc hK => ?_
    simp only [List.take_succ_cons, List.take_zero]
    simp only [go_sem, binC, f11, f13, gc_of hby11, inBlk_some]
    obtain ⟨zb, H12, k12, x12, z12⟩ := gtl H11 (.slice nya (runOf d (ls, l) on_).1.length (runOf d (ls, l) on_).1.length) (.slice wya (runOf d (ls, l) on_).2.1.length (runOf d (ls, l) on_).2.1.length) (.slice tya (runOf d (ls, l) on_).2.2.length (runOf d (ls, l) on_).2.2.length) (runOf d (ls, l) on_) i rfl rfl (u3.mono (agx_sub x11)) hbd2' (p2_rg u3)
    refine op_callK (by simp only [go_sem, binC]; exact k12) ?_
    simp only [go_sem, binC]
    refine hK _ _ ?_
    simp only [List.drop_succ_cons, List.drop_zero, Nat.reduceSub]
    refine wpp_cut 1 (by omega) (by simp only [List.length_cons, List.length_nil]; omega) fun Kc hK => ?_
    simp only [List.take_succ_cons, List.take_zero]
    simp only [go_sem, binC]
    have hin := gli H12 _ _ _ _ (z11.mono (agx_sub x12)) z12
    rw [decide_eq_true (n5 rfl)] at hin
    refine op_callQ (by simp only [go_sem, binC]; exact hin) ?_
    simp only [go_sem, binC]
    refine hK _ _ ?_
    simp only [List.drop_succ_cons, List.drop_zero, Nat.reduceSub]
    have hx1012 := x11.tr x12
    have hbxS := hx1012.get hbx10 (by simp)
    have hbyS := hx1012.get hby (by simp)
    refine wpp_cut 9 (by omega) (by simp only [List.length_cons, List.length_nil]; omega) fun Kc hK => ?_
    simp only [List.take_succ_cons, List.take_zero]
    simp only [go_sem, binC, f9, f12, f13, f14, gc_of hbxS, gc_of hbyS, inBlk_some]
    refine op_callQ (by simp only [go_sem, binC, f12]; exact gsa H12 _ _ _ _ _ _ (t10.mono (agx_sub hx1012)) (u1.mono (agx_sub hx1012)) (q10.mono (agx_sub hx1012)) n2 n3) ?_
    simp only [go_sem, binC]
    refine hK _ _ ?_
    simp only [List.drop_succ_cons, List.drop_zero, Nat.reduceSub]
    refine wpp_cut 6 (by omega) (by simp only [List.length_cons, List.length_nil]; omega) fun Kc hK => ?_
    simp only [List.take_succ_cons, List.take_zero]
    simp only [go_sem, binC, f9, f12, gc_of hbxS, inBlk_some]
    obtain ⟨zc, H13, k13, x13, z13⟩ := gst H12 (.slice nxa (runOf d (ls, l) nums).1.length (runOf d (ls, l) nums).1.length) (.slice wxa (runOf d (ls, l) nums).2.1.length (runOf d (ls, l) nums).2.1.length) (.slice txa (runOf d (ls, l) nums).2.2.length (runOf d (ls, l) nums).2.2.length) _ (runOf d (ls, l) nums) _ rfl (t20.mono (agx_sub hx1012)) rfl (q10.mono (agx_sub hx1012)) hbd1 (p2_rg t20)
    refine op_callK (by simp only [go_sem, binC, f12]; exact k13) ?_
    simp only [go_sem, binC]
    refine hK _ _ ?_
    simp only [List.drop_succ_cons, List.drop_zero, Nat.reduceSub]
    have hbyT := x13.get hbyS (by simp)
    have hx1013 := hx1012.tr x13
    simp only [go_sem, binC, f12, f13, gc_of hbyT, inBlk_some]
    obtain ⟨zd, H14, k14, x14, z14⟩ := gst H13 (.slice nya (runOf d (ls, l) on_).1.length (runOf d (ls, l) on_).1.length) (.slice wya (runOf d (ls, l) on_).2.1.length (runOf d (ls, l) on_).2.1.length) (.slice tya (runOf d (ls, l) on_).2.2.length (runOf d (ls, l) on_).2.2.length) _ (runOf d (ls, l) on_) _ rfl (u2.mono (agx_sub hx1013)) rfl (q10.mono (agx_sub hx1013)) hbd1' (p2_rg u2)
    refine op_callK (by simp only [go_sem, binC, f12]; exact k14) ?_
    simp only [go_sem, binC]
    have hwr := glw H14 _ _ _ _ (z13.mono (agx_sub x14)) z14
    rw [decide_eq_true n4] at hwr
    refine op_callQ (by simp only [go_sem, binC]; exact hwr) ?_
    simp only [go_sem, binC]
    refine wpc_cond (t := false) rfl ?_
    simp only [go_sem, binC]
    refine wpc_skip ?_
    simp only [go_sem, binC, out_n, thenX_n]
    refine wpc_reg ?_
    simp only [go_sem, binC, f11, hw1]
    simp only [go_sem, binC, thenX_n]
    exact ih (i + 1) _ H14 (by omega) ((hx610.tr hx1013).tr x14) (by simp only [go_sem, binC, f1]) (by simp only [go_sem, binC, f5]) (by simp only [go_sem, binC, f6]) (by simp only [go_sem, binC, f9]) (by simp only [go_sem, binC])
end Go.Proofs.YtpaoppgbgjnkmaaI
end
section
/- The functions that the laws FnTypeKeeps and FnTypeHides reach, as ideal functions. -/
set_option linter.unusedVariables false
set_option linter.unusedSimpArgs false
namespace Go.Proofs.YtpaoppgbgjnkmaaI
open Go Go.RowKit
def fnOf : Nat → Option IFn
  | 10 => some (c_lawTK)
  | 11 => some (c_lawTH)
  | 12 => some (c_drNumsOk)
  | 13 => some (c_iNums)
  | 14 => some (c_iRunOf)
  | 15 => some (c_sNums)
  | 16 => some (c_lcInts)
  | 17 => some (c_drRunOf)
  | 18 => some (c_sRunOf)
  | 19 => some (c_lcRun)
  | 20 => some (c_sProg)
  | 32 => some (c_sTypeOk)
  | 33 => some (c_iTrustsV)
  | 34 => some (c_lcOther)
  | 35 => some (c_lcSameOf)
  | 36 => some (c_lcWrites)
  | 37 => some (c_iRunSets)
  | 38 => some (c_iKnows)
  | 39 => some (c_iRunTo)
  | 40 => some (c_l6Open)
  | 41 => some (c_drAny)
  | 42 => some (c_drNums)
  | 43 => some (c_iNum)
  | 44 => some (c_iProg)
  | 45 => some (c_cloneInts)
  | 46 => some (c_do)
  | 47 => some (c_clone)
  | 48 => some (c_sIn)
  | 49 => some (c_sDo)
  | 50 => some (c_sLabelOk)
  | 51 => some (c_sSteps)
  | 52 => some (c_sCount)
  | 53 => some (c_iSize)
  | 69 => some (c_sWhy)
  | 70 => some (c_each)
  | 71 => some (c_tru1)
  | 72 => some (c_iIn)
  | 73 => some (c_kno1)
  | 74 => some (c_drProg)
  | 75 => some (c_pick)
  | 76 => some (c_drFine)
  | 77 => some (c_drBent)
  | 78 => some (c_con)
  | 79 => some (c_p1)
  | 80 => some (c_iLabelOk)
  | 81 => some (c_iSteps)
  | 82 => some (c_vars)
  | 83 => some (c_set)
  | 84 => some (c_of)
  | 85 => some (c_sNum)
  | 86 => some (c_sSet)
  | 87 => some (c_sStep)
  | 95 => some (c_sAllSteps)
  | 96 => some (c_sTypeAt)
  | 97 => some (c_sFine)
  | 98 => some (c_iHas)
  | 99 => some (c_drLabel)
  | 100 => some (c_drSteps)
  | 101 => some (c_sWithout)
  | 102 => some (c_sCopy)
  | 103 => some (c_idx)
  | 104 => some (c_iSet)
  | 105 => some (c_iVar)
  | 106 => some (c_iVal)
  | 107 => some (c_iHost)
  | 108 => some (c_sAll)
  | 109 => some (c_sVar)
  | 110 => some (c_sVal)
  | 113 => some (c_sAt)
  | 114 => some (c_sAny)
  | 115 => some (c_sFlows)
  | 116 => some (c_sLBoth)
  | 117 => some (c_sValL)
  | 118 => some (c_sHas)
  | 119 => some (c_sBoth)
  | 120 => some (c_drVal)
  | 121 => some (c_sWithin)
  | _ => none
def cmOf (f : Nat) : CM := ⟨fun g => if [10, 11, 13, 15, 16, 19, 20, 32, 35, 36, 43, 44, 48, 50, 51, 52, 53, 69, 71, 72, 73, 78, 79, 80, 81, 84, 85, 86, 87, 97, 98, 103, 104, 105, 106, 107, 108, 109, 110, 114, 115, 116, 117, 118, 119, 121].contains g then .q else if [40, 41, 42, 46, 49, 74, 75, 76, 77, 83, 99, 100, 113, 120].contains g then .n else .k, if [40, 41, 42, 46, 49, 74, 75, 76, 77, 83, 99, 100, 113, 120].contains f then .n else .q, [42].contains f⟩
theorem hF10 : cFn Try.prog cmOf 10 = some (c_lawTK) := by kernel_rfl
theorem hF11 : cFn Try.prog cmOf 11 = some (c_lawTH) := by kernel_rfl
theorem hF12 : cFn Try.prog cmOf 12 = some (c_drNumsOk) := by kernel_rfl
theorem hF13 : cFn Try.prog cmOf 13 = some (c_iNums) := by kernel_rfl
theorem hF14 : cFn Try.prog cmOf 14 = some (c_iRunOf) := by kernel_rfl
theorem hF15 : cFn Try.prog cmOf 15 = some (c_sNums) := by kernel_rfl
theorem hF16 : cFn Try.prog cmOf 16 = some (c_lcInts) := by kernel_rfl
theorem hF17 : cFn Try.prog cmOf 17 = some (c_drRunOf) := by kernel_rfl
theorem hF18 : cFn Try.prog cmOf 18 = some (c_sRunOf) := by kernel_rfl
theorem hF19 : cFn Try.prog cmOf 19 = some (c_lcRun) := by kernel_rfl
theorem hF20 : cFn Try.prog cmOf 20 = some (c_sProg) := by kernel_rfl
theorem hF32 : cFn Try.prog cmOf 32 = some (c_sTypeOk) := by kernel_rfl
theorem hF33 : cFn Try.prog cmOf 33 = some (c_iTrustsV) := by kernel_rfl
theorem hF34 : cFn Try.prog cmOf 34 = some (c_lcOther) := by kernel_rfl
theorem hF35 : cFn Try.prog cmOf 35 = some (c_lcSameOf) := by kernel_rfl
theorem hF36 : cFn Try.prog cmOf 36 = some (c_lcWrites) := by kernel_rfl
theorem hF37 : cFn Try.prog cmOf 37 = some (c_iRunSets) := by kernel_rfl
theorem hF38 : cFn Try.prog cmOf 38 = some (c_iKnows) := by kernel_rfl
theorem hF39 : cFn Try.prog cmOf 39 = some (c_iRunTo) := by kernel_rfl
theorem hF40 : cFn Try.prog cmOf 40 = some (c_l6Open) := by kernel_rfl
theorem hF41 : cFn Try.prog cmOf 41 = some (c_drAny) := by kernel_rfl
theorem hF42 : cFn Try.prog cmOf 42 = some (c_drNums) := by kernel_rfl
theorem hF43 : cFn Try.prog cmOf 43 = some (c_iNum) := by kernel_rfl
theorem hF44 : cFn Try.prog cmOf 44 = some (c_iProg) := by kernel_rfl
theorem hF45 : cFn Try.prog cmOf 45 = some (c_cloneInts) := by kernel_rfl
theorem hF46 : cFn Try.prog cmOf 46 = some (c_do) := by kernel_rfl
theorem hF47 : cFn Try.prog cmOf 47 = some (c_clone) := by kernel_rfl
theorem hF48 : cFn Try.prog cmOf 48 = some (c_sIn) := by kernel_rfl
theorem hF49 : cFn Try.prog cmOf 49 = some (c_sDo) := by kernel_rfl
theorem hF50 : cFn Try.prog cmOf 50 = some (c_sLabelOk) := by kernel_rfl
theorem hF51 : cFn Try.prog cmOf 51 = some (c_sSteps) := by kernel_rfl
theorem hF52 : cFn Try.prog cmOf 52 = some (c_sCount) := by kernel_rfl
theorem hF53 : cFn Try.prog cmOf 53 = some (c_iSize) := by kernel_rfl
theorem hF69 : cFn Try.prog cmOf 69 = some (c_sWhy) := by kernel_rfl
theorem hF70 : cFn Try.prog cmOf 70 = some (c_each) := by kernel_rfl
theorem hF71 : cFn Try.prog cmOf 71 = some (c_tru1) := by kernel_rfl
theorem hF72 : cFn Try.prog cmOf 72 = some (c_iIn) := by kernel_rfl
theorem hF73 : cFn Try.prog cmOf 73 = some (c_kno1) := by kernel_rfl
theorem hF74 : cFn Try.prog cmOf 74 = some (c_drProg) := by kernel_rfl
theorem hF75 : cFn Try.prog cmOf 75 = some (c_pick) := by kernel_rfl
theorem hF76 : cFn Try.prog cmOf 76 = some (c_drFine) := by kernel_rfl
theorem hF77 : cFn Try.prog cmOf 77 = some (c_drBent) := by kernel_rfl
theorem hF78 : cFn Try.prog cmOf 78 = some (c_con) := by kernel_rfl
theorem hF79 : cFn Try.prog cmOf 79 = some (c_p1) := by kernel_rfl
theorem hF80 : cFn Try.prog cmOf 80 = some (c_iLabelOk) := by kernel_rfl
theorem hF81 : cFn Try.prog cmOf 81 = some (c_iSteps) := by kernel_rfl
theorem hF82 : cFn Try.prog cmOf 82 = some (c_vars) := by kernel_rfl
theorem hF83 : cFn Try.prog cmOf 83 = some (c_set) := by kernel_rfl
theorem hF84 : cFn Try.prog cmOf 84 = some (c_of) := by kernel_rfl
theorem hF85 : cFn Try.prog cmOf 85 = some (c_sNum) := by kernel_rfl
theorem hF86 : cFn Try.prog cmOf 86 = some (c_sSet) := by kernel_rfl
theorem hF87 : cFn Try.prog cmOf 87 = some (c_sStep) := by kernel_rfl
theorem hF95 : cFn Try.prog cmOf 95 = some (c_sAllSteps) := by kernel_rfl
theorem hF96 : cFn Try.prog cmOf 96 = some (c_sTypeAt) := by kernel_rfl
theorem hF97 : cFn Try.prog cmOf 97 = some (c_sFine) := by kernel_rfl
theorem hF98 : cFn Try.prog cmOf 98 = some (c_iHas) := by kernel_rfl
theorem hF99 : cFn Try.prog cmOf 99 = some (c_drLabel) := by kernel_rfl
theorem hF100 : cFn Try.prog cmOf 100 = some (c_drSteps) := by kernel_rfl
theorem hF101 : cFn Try.prog cmOf 101 = some (c_sWithout) := by kernel_rfl
theorem hF102 : cFn Try.prog cmOf 102 = some (c_sCopy) := by kernel_rfl
theorem hF103 : cFn Try.prog cmOf 103 = some (c_idx) := by kernel_rfl
theorem hF104 : cFn Try.prog cmOf 104 = some (c_iSet) := by kernel_rfl
theorem hF105 : cFn Try.prog cmOf 105 = some (c_iVar) := by kernel_rfl
theorem hF106 : cFn Try.prog cmOf 106 = some (c_iVal) := by kernel_rfl
theorem hF107 : cFn Try.prog cmOf 107 = some (c_iHost) := by kernel_rfl
theorem hF108 : cFn Try.prog cmOf 108 = some (c_sAll) := by kernel_rfl
theorem hF109 : cFn Try.prog cmOf 109 = some (c_sVar) := by kernel_rfl
theorem hF110 : cFn Try.prog cmOf 110 = some (c_sVal) := by kernel_rfl
theorem hF113 : cFn Try.prog cmOf 113 = some (c_sAt) := by kernel_rfl
theorem hF114 : cFn Try.prog cmOf 114 = some (c_sAny) := by kernel_rfl
theorem hF115 : cFn Try.prog cmOf 115 = some (c_sFlows) := by kernel_rfl
theorem hF116 : cFn Try.prog cmOf 116 = some (c_sLBoth) := by kernel_rfl
theorem hF117 : cFn Try.prog cmOf 117 = some (c_sValL) := by kernel_rfl
theorem hF118 : cFn Try.prog cmOf 118 = some (c_sHas) := by kernel_rfl
theorem hF119 : cFn Try.prog cmOf 119 = some (c_sBoth) := by kernel_rfl
theorem hF120 : cFn Try.prog cmOf 120 = some (c_drVal) := by kernel_rfl
theorem hF121 : cFn Try.prog cmOf 121 = some (c_sWithin) := by kernel_rfl
theorem hF (g : Nat) (fn : IFn) (h : fnOf g = some fn) : cFn Try.prog cmOf g = some fn := by
  unfold fnOf at h
  split at h
  · rw [← h]; exact hF10
  · rw [← h]; exact hF11
  · rw [← h]; exact hF12
  · rw [← h]; exact hF13
  · rw [← h]; exact hF14
  · rw [← h]; exact hF15
  · rw [← h]; exact hF16
  · rw [← h]; exact hF17
  · rw [← h]; exact hF18
  · rw [← h]; exact hF19
  · rw [← h]; exact hF20
  · rw [← h]; exact hF32
  · rw [← h]; exact hF33
  · rw [← h]; exact hF34
  · rw [← h]; exact hF35
  · rw [← h]; exact hF36
  · rw [← h]; exact hF37
  · rw [← h]; exact hF38
  · rw [← h]; exact hF39
  · rw [← h]; exact hF40
  · rw [← h]; exact hF41
  · rw [← h]; exact hF42
  · rw [← h]; exact hF43
  · rw [← h]; exact hF44
  · rw [← h]; exact hF45
  · rw [← h]; exact hF46
  · rw [← h]; exact hF47
  · rw [← h]; exact hF48
  · rw [← h]; exact hF49
  · rw [← h]; exact hF50
  · rw [← h]; exact hF51
  · rw [← h]; exact hF52
  · rw [← h]; exact hF53
  · rw [← h]; exact hF69
  · rw [← h]; exact hF70
  · rw [← h]; exact hF71
  · rw [← h]; exact hF72
  · rw [← h]; exact hF73
  · rw [← h]; exact hF74
  · rw [← h]; exact hF75
  · rw [← h]; exact hF76
  · rw [← h]; exact hF77
  · rw [← h]; exact hF78
  · rw [← h]; exact hF79
  · rw [← h]; exact hF80
  · rw [← h]; exact hF81
  · rw [← h]; exact hF82
  · rw [← h]; exact hF83
  · rw [← h]; exact hF84
  · rw [← h]; exact hF85
  · rw [← h]; exact hF86
  · rw [← h]; exact hF87
  · rw [← h]; exact hF95
  · rw [← h]; exact hF96
  · rw [← h]; exact hF97
  · rw [← h]; exact hF98
  · rw [← h]; exact hF99
  · rw [← h]; exact hF100
  · rw [← h]; exact hF101
  · rw [← h]; exact hF102
  · rw [← h]; exact hF103
  · rw [← h]; exact hF104
  · rw [← h]; exact hF105
  · rw [← h]; exact hF106
  · rw [← h]; exact hF107
  · rw [← h]; exact hF108
  · rw [← h]; exact hF109
  · rw [← h]; exact hF110
  · rw [← h]; exact hF113
  · rw [← h]; exact hF114
  · rw [← h]; exact hF115
  · rw [← h]; exact hF116
  · rw [← h]; exact hF117
  · rw [← h]; exact hF118
  · rw [← h]; exact hF119
  · rw [← h]; exact hF120
  · rw [← h]; exact hF121
  · cases h
theorem hMixed : Try.prog.follows .mixedOrders = true := by kernel_rfl
theorem ok_iIn : ∀ (H : Heap) (a b c : Int), QC fnOf 72 [.int .i64 a, .int .i64 b, .int .i64 c] H (.bool (inB a b c)) := iIn_ok rfl
theorem ok_sIn : ∀ (H : Heap) (a b c : Int), QC fnOf 48 [.int .i64 a, .int .i64 b, .int .i64 c] H (.bool (inB a b c)) := sIn_ok rfl
theorem ok_iSet : ∀ (H : Heap) (a : Int), QC fnOf 104 [.int .i64 a] H (.bool (inB a 0 7)) := iSet_ok rfl ok_iIn
theorem ok_iHost : ∀ (H : Heap) (a : Int), QC fnOf 107 [.int .i64 a] H (.bool (inB a 0 2)) := iHost_ok rfl ok_iIn
theorem ok_iNum : ∀ (H : Heap) (a : Int), QC fnOf 43 [.int .i64 a] H (.bool (inB a 0 9)) := iNum_ok rfl ok_iIn
theorem ok_sAll : ∀ H, QC fnOf 108 [] H (.int .i64 7) := sAll_ok rfl
theorem ok_sSet : ∀ (H : Heap) (a : Int), QC fnOf 86 [.int .i64 a] H (.bool (inB a 0 7)) := sSet_ok rfl ok_sIn ok_sAll
theorem ok_iLabelOk : LabOk fnOf 80 := iLabelOk_ok rfl ok_iSet
theorem ok_sLabelOk : LabOk fnOf 50 := sLabelOk_ok rfl ok_sSet
theorem ok_iVar : VarOk fnOf 105 := iVar_ok rfl ok_iIn
theorem ok_sVar : VarOk fnOf 109 := sVar_ok rfl ok_sIn
theorem ok_iVal : ValOk fnOf 106 := iVal_ok rfl ok_iNum ok_iVar
theorem ok_sVal : ValOk fnOf 110 := sVal_ok rfl ok_sIn ok_sVar
theorem ok_sSteps : ∀ n, StepsOk fnOf 51 n := fun n => (sSteps_all rfl rfl ok_sIn ok_sVar ok_sVal n).1
theorem ok_iSteps : ∀ n, StepsOk fnOf 81 n := iSteps_all rfl ok_iVar ok_iVal ok_iHost
theorem ok_sCount : ∀ n, CntOk fnOf 52 n := cnt_all (fun _ h => sCount_ok rfl h) (sCount_z rfl)
theorem ok_iSize : ∀ n, CntOk fnOf 53 n := cnt_all (fun _ h => iSize_ok rfl h) (iSize_z rfl)
theorem ok_sProg : ProgOk fnOf 20 := sProg_ok rfl ok_sLabelOk ok_sSteps ok_sCount
theorem ok_iProg : ProgOk fnOf 44 := iProg_ok rfl (con_ok rfl (idx_ok rfl (p1_ok rfl ok_iLabelOk))) ok_iSteps ok_iSize
theorem ok_sHas : HasOk fnOf 118 := sHas_ok rfl
theorem ok_sWit : WitOk fnOf 121 := sWithin_ok rfl ok_sHas
theorem ok_sBoth : BothOk fnOf 119 := sBoth_ok rfl ok_sHas
theorem ok_sLBoth : LBothOk fnOf 116 := sLBoth_ok rfl ok_sLabelOk ok_sBoth
theorem ok_sFlows : FlowsOk fnOf 115 := sFlows_ok rfl ok_sLabelOk ok_sWit
theorem ok_sAny : ∀ H, QC fnOf 114 [] H (.agg #[.int .i64 7, .int .i64 7]) := sAny_ok rfl ok_sAll
theorem ok_sFine : FineOk fnOf 97 := sFine_ok rfl (sValL_ok rfl ok_sAny ok_sLBoth) ok_sLBoth ok_sFlows ok_sBoth ok_sHas
theorem ok_sAllSteps : ∀ n, AllOk fnOf 95 n := sAllSteps_all rfl
theorem ok_sAt : ∀ n, AtOk fnOf 113 n := sAt_all rfl ok_sLBoth
theorem ok_sTypeAt : TypeAtOk fnOf 96 := sTypeAt_ok rfl ok_sProg ok_sAny ok_sAt
theorem ok_sWhy : WhyOk fnOf 69 := sWhy_ok rfl ok_sProg ok_sAllSteps ok_sTypeAt ok_sFine
theorem ok_sCopy : ∀ n, CopyOk fnOf 102 n := sCopy_all rfl
theorem ok_sWithout : ∀ n, WoOk fnOf 101 n := sWithout_all rfl ok_sCount
theorem ok_drProg {H0 : Heap} {rb : Nat} {bv : Value} {code : List Int} (hc : RdC H0 rb bv code) : DrawS fnOf H0 rb bv 74 [] 40000 (ProgQ 3) := drProg_ok rfl rfl rfl rfl rfl ok_sProg hc
theorem ok_drFine {H0 : Heap} {rb : Nat} {bv : Value} {code : List Int} (hc : RdC H0 rb bv code) : DrawS fnOf H0 rb bv 76 [] 40000 (ProgQ 3) := drFine_ok rfl hc (ok_drProg hc) ok_sWhy ok_sWithout
theorem ok_drAny {H0 : Heap} {rb : Nat} {bv : Value} {code : List Int} (hc : RdC H0 rb bv code) : DrawS fnOf H0 rb bv 41 [] 90000 ProgR := drAny_ok rfl rfl hc (ok_drProg hc) (ok_drFine hc) (drBent_ok rfl rfl ok_sCopy hc)
theorem ok_iNums : NumsOk fnOf 13 := iNums_ok rfl ok_iNum ok_iProg
theorem ok_sNums : NumsOk fnOf 15 := sNums_ok rfl ok_sIn ok_sProg
theorem ok_do : ∀ n, DoOk fnOf 46 n := do_all rfl rfl rfl rfl
theorem ok_iRunOf : RunOk fnOf 14 := iRunOf_ok rfl ok_iNums rfl ok_do rfl
theorem ok_drNumsOk : DrawNumsV fnOf 12 := drNumsV_ok rfl rfl rfl rfl ok_drAny
theorem ok_drRunOf : DrawNumsOk fnOf 17 := drRunOf_ok rfl ok_drNumsOk
theorem ok_sDo : ∀ n, DoSOk fnOf 49 n := sDo_all rfl rfl
theorem ok_sRunOf : RunOk fnOf 18 := sRunOf_ok rfl ok_sNums ok_sDo
theorem ok_lcInts : IntsOk fnOf 16 := lcInts_ok rfl
theorem ok_lcWrites : PairsOk fnOf 36 := lcWrites_ok rfl
theorem ok_lcRun : RunsOk fnOf 19 := lcRun_ok rfl ok_lcInts ok_lcWrites
theorem ok_iHas : HasOk fnOf 98 := iHas_ok rfl ok_iHost
theorem ok_sWhyV : WhyV fnOf 69 := sWhyV_ok rfl ok_sProg ok_sAllSteps ok_sTypeAt ok_sFine
theorem ok_sTypeOk : TypeOkB fnOf 32 := sTypeOk_ok rfl ok_sWhyV ok_sProg
theorem ok_each : EachOk fnOf 70 := each_ok rfl ok_iProg ok_iHas
theorem ok_iKnows : VarsOk fnOf 38 true := iKnows_ok rfl rfl ok_each
theorem ok_iTrustsV : VarsOk fnOf 33 false := iTrustsV_ok rfl rfl ok_each
theorem ok_lcOther : OtherOk fnOf 34 := lcOther_ok rfl
theorem ok_lcSameOf : SameOk fnOf 35 := lcSameOf_ok rfl
theorem ok_iRunSets : SetsOk fnOf 37 := iRunSets_ok rfl ok_iIn
theorem ok_iRunTo : ToldOk fnOf 39 := iRunTo_ok rfl
theorem ok_lawTK : LawB2 fnOf 10 := lawTK_ok rfl ok_drRunOf ok_sRunOf ok_iRunOf ok_lcRun ok_sTypeOk ok_iTrustsV ok_lcOther ok_lcSameOf ok_iRunSets ok_lcWrites
theorem ok_lawTH : LawB2 fnOf 11 := lawTH_ok rfl ok_drRunOf ok_sRunOf ok_iRunOf ok_lcRun ok_sTypeOk ok_iKnows ok_lcOther ok_lcSameOf ok_iRunSets ok_lcWrites ok_iRunTo ok_lcInts
end Go.Proofs.YtpaoppgbgjnkmaaI
end
section
/- Laws of two arguments, lists of bytes, called in the model. -/
set_option linter.unusedVariables false
set_option linter.unusedSimpArgs false
namespace Go.Proofs.YtpaoppgbgjnkmaaI
open Go Go.RowKit
theorem Good.byte {w : World} {n : Int} (h : (Lit.int .u8 n).wf = true) : Good Co.byte w [.int .u8 n] := fun H m s =>
  ⟨n, [], m, [.int .u8 n], by simpa using s, sub_refl m, ⟨rfl, by simpa [Lit.wf, IntKind.min, IntKind.max, IntKind.signed, IntKind.bits] using h⟩, All2.cons (.inl rfl) All2.nil⟩
theorem good_5 {T : Type} {enc : TypeId × Value → T} {w : World} {spare : Nat → Bool} {held : Bool} {n : Nat} {cs : List Value} {x : DataW T × List MemPlace} (h : DataW.trod enc Try.prog w 0 spare held n 5 cs = some x) : Good Co.byte w cs := by
  obtain ⟨m, rfl, _, hw⟩ := DataW.trod_int Try.underlying5 h
  exact Good.byte hw
theorem good_22 {T : Type} {enc : TypeId × Value → T} {w : World} {spare : Nat → Bool} {held : Bool} {n : Nat} {cs : List Value} {x : DataW T × List MemPlace} (h : DataW.trod enc Try.prog w 0 spare held n 22 cs = some x) : Good (Co.sl Co.byte) w cs :=
  Good.sl Try.underlying22 (by kernel_rfl) (by decide) h fun _ _ _ _ h => good_5 h
theorem lawB2_calls {n : Nat} (hl : LawB2 fnOf n) {W : World} {a b : Option Addr} {l c l' c' : Nat} (g0 : Good (Co.sl Co.byte) W [.slice a l c]) (g1 : Good (Co.sl Co.byte) W [.slice b l' c']) :
    Calls Try.prog n #[.slice a l c, .slice b l' c'] W fun e w' => e = .returned (.bool true) ∧ Below W.heap.size W w' := by
  obtain ⟨ts, L, m, cs0, s, q, r, e⟩ := g0 [] (fun _ => none) (SL.none _)
  rw [List.nil_append] at s r
  obtain ⟨ts', L2, m2, cs1, s2, q2, r2, e2⟩ := g1 L m s
  obtain ⟨u, rfl, hu⟩ := r
  obtain ⟨u', rfl, hu'⟩ := r2
  exact law_core hF hMixed s2 (vals := [u, u']) (All2.cons (VR.one_mk (e.mono fun _ _ _ h => VR1.mono q2 h)) (All2.cons (VR.one_mk e2) All2.nil)) (hl _ u u' ts ts' (hu.mono (vw_app 0 L L2)) hu')
end Go.Proofs.YtpaoppgbgjnkmaaI
end
