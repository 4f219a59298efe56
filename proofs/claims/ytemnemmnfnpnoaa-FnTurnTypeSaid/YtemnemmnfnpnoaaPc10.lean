/- Texts of this proof, merged: H8, H9, H10, H11, H12, H13, H14, H15, H16, H17, H18. -/
import Derived.Test.YtemnemmnfnpnoaaPc9
section
/- Steps turned (the reference's). -/
set_option linter.unusedVariables false
set_option linter.unusedSimpArgs false
namespace Go.Proofs.YtemnemmnfnpnoaaI
open Go Go.RowKit
def STurnOk (F : Nat → Option IFn) (f n : Nat) (row : List Int) (P : Shal → Prop) (T : Shal → Shal) : Prop := ∀ (H : Heap) (v w : Value) (l : List (TStep n)), SlR (Co.step n) (vw 0 H) v l → (Co.sl (Co.step n)).sm l → SlR Co.int (vw 0 H) w row → (∀ s ∈ allL n l, P s) →
  ∃ b so H', KC F f [v, w] H (sli b 0 l.length) H' ∧ (AgX [] H H' ∧ OwnL (Co.step n) 8 72 H.length [] H' b so (l.map (mapT T n)))
theorem bne_f {a b : Int} (h : a = b) : (a != b) = false := by simp [h]
/-- A step with its hosts named otherwise. -/
def turnH (row : List Int) (s : Shal) : Shal := (s.1, s.2.1, s.2.2.1, if s.1 = 3 then nameO row s.2.2.2 else s.2.2.2)
def sHostsTail : ICode := (.seq (.reg none [
         ⟨(some 28), none, .fad 6 (.t 7)⟩,
         ⟨(some 29), none, .load false 1 (.t 28)⟩,
         ⟨(some 30), none, .mov (.t 1)⟩,
         ⟨(some 31), none, .call .k (.f 61) [(.t 29), (.t 30)]⟩,
         ⟨(some 32), none, .fad 6 (.t 7)⟩,
         ⟨none, none, .store 1 (.t 32) (.t 31)⟩])
      (.seq (.reg none [
         ⟨(some 33), none, .fad 7 (.t 7)⟩,
         ⟨(some 34), none, .load false 1 (.t 33)⟩,
         ⟨(some 35), none, .mov (.t 1)⟩,
         ⟨(some 36), none, .call .k (.f 61) [(.t 34), (.t 35)]⟩,
         ⟨(some 37), none, .fad 7 (.t 7)⟩,
         ⟨none, none, .store 1 (.t 37) (.t 36)⟩])
      (.reg none [
        ⟨(some 38), none, .mov (.t 5)⟩,
        ⟨(some 39), none, .load true 8 (.t 7)⟩,
        ⟨(some 40), none, .lit 8 72 1 [(.int .i64 0), (.int .i64 0), (.int .i64 0), (.int .i64 0), (.int .i64 0), (.int .i64 0), (.slice none 0 0), (.slice none 0 0)] [(0, 8, (.t 39))]⟩,
        ⟨(some 41), none, .app 8 72 96 false (.t 38) (.t 40)⟩,
        ⟨(some 5), none, .mov (.t 41)⟩])))
def sHostsBody : ICode := (.seq (.seq (.reg none [
          ⟨(some 19), none, .fad 0 (.t 7)⟩,
          ⟨(some 20), none, .load false 1 (.t 19)⟩,
          ⟨(some 21), none, .bin .eql (.t 20) (.c (.int .i64 3))⟩])
       (.cond (.t 21) (.reg none [
          ⟨(some 22), none, .mov (.t 1)⟩,
          ⟨(some 23), none, .fad 5 (.t 7)⟩,
          ⟨(some 24), none, .load false 1 (.t 23)⟩,
          ⟨(some 25), none, .iad 1 (.t 22) (.t 24)⟩,
          ⟨(some 26), none, .load false 1 (.t 25)⟩,
          ⟨(some 27), none, .fad 5 (.t 7)⟩,
          ⟨none, none, .store 1 (.t 27) (.t 26)⟩]) (.skip)))
      sHostsTail)
def c_sHosts : IFn := ⟨2, 43, [.t 4],
 .seq (.reg none [
    ⟨(some 4), none, .mov (.c (.slice none 0 0))⟩])
 (.seq (.reg none [
    ⟨(some 8), none, .lit 8 72 0 [] []⟩,
    ⟨(some 5), none, .mov (.t 8)⟩])
 (.seq (.seq (.reg none [
     ⟨(some 6), none, .mov (.c (.int .i64 0))⟩])
  (.block 0 (.loop (.seq (.seq (.reg none [
        ⟨(some 9), none, .mov (.t 6)⟩,
        ⟨(some 10), none, .mov (.t 0)⟩,
        ⟨(some 11), none, .len (.t 10)⟩,
        ⟨(some 12), none, .bin .lss (.t 9) (.t 11)⟩])
     (.cond (.t 12) (.skip) (.exit 0)))
    (.seq (.block 1 (.seq (.reg none [
         ⟨(some 15), none, .mov (.t 0)⟩,
         ⟨(some 16), none, .mov (.t 6)⟩,
         ⟨(some 17), none, .iad 8 (.t 15) (.t 16)⟩,
         ⟨(some 18), none, .load true 8 (.t 17)⟩,
         ⟨(some 7), none, .new [(.int .i64 0), (.int .i64 0), (.int .i64 0), (.int .i64 0), (.int .i64 0), (.int .i64 0), (.slice none 0 0), (.slice none 0 0)]⟩,
         ⟨none, none, .store 8 (.t 7) (.t 18)⟩])
      sHostsBody))
    (.reg none [
      ⟨(some 13), none, .mov (.t 6)⟩,
      ⟨(some 14), none, .bin .add (.t 13) (.c (.int .i64 1))⟩,
      ⟨(some 6), none, .mov (.t 14)⟩]))))))
 (.seq (.reg none [
    ⟨(some 42), none, .mov (.t 5)⟩,
    ⟨(some 4), none, .mov (.t 42)⟩])
 (.ret))))⟩
theorem sHostsTail_ok {F : Nat → Option IFn} {H Hc : Heap} {n b : Nat} {so : Bool} {acc : List (TStep (n + 1))} {bs : Nat} {sk sx sa sbb sc sg : Int} {tv ev w : Value} {tl el : List (TStep n)} {row : List Int} {P : Shal → Prop} {T : Shal → Shal} {e : Env} {K : X → Env → Heap → Prop} (hA : STurnOk F 61 n row P T)
    (hB : Cd H H.length [] n b so acc bs [.int .i64 sk, .int .i64 sx, .int .i64 sa, .int .i64 sbb, .int .i64 sc, .int .i64 sg, tv, ev] Hc) (htl : SlR (Co.step n) (vw 0 H) tv tl) (hel : SlR (Co.step n) (vw 0 H) ev el) (mtl : (Co.sl (Co.step n)).sm tl) (mel : (Co.sl (Co.step n)).sm el) (hw : SlR Co.int (vw 0 H) w row)
    (hpt : ∀ s ∈ allL n tl, P s) (hpe : ∀ s ∈ allL n el, P s) (rg : Rg sk ∧ Rg sx ∧ Rg sa ∧ Rg sbb ∧ Rg sc ∧ Rg sg) (hl : acc.length < 1048576) (e1 : e 1 = w) (e5 : e 5 = sli b 0 acc.length) (e7 : e 7 = ptr bs 0)
    (hK : ∀ e' Hc' b' so', (e' 0 = e 0 ∧ e' 1 = e 1 ∧ e' 6 = e 6 ∧ e' 5 = sli b' 0 (acc.length + 1)) → AgX [] H Hc' → OwnG (Co.step (n + 1)) 8 72 H.length H.length [] Hc' b' so' (acc ++ ([(sk, sx, (sa, sbb, sc), sg, tl.map (mapT T n), el.map (mapT T n))] : List (TStep (n + 1)))) → K .n e' Hc') : wpc F H.length sHostsTail e Hc K := by
  obtain ⟨_, wa, rfl, _⟩ := id hw
  have otv : one tv = true := by obtain ⟨_, a, rfl, _⟩ := htl; rfl
  have oev : one ev = true := by obtain ⟨_, a, rfl, _⟩ := hel; rfl
  have hbl : bs < Hc.length := (List.getElem?_eq_some_iff.1 hB.box).1
  unfold sHostsTail
  refine seq_reg ?_
  simp only [go_sem, binC, e1, e7, gc_of hB.box, inBlk_some]
  obtain ⟨b3, so3, H3, k3, x3, o3⟩ := hA Hc tv _ tl (htl.mono (agx_sub hB.ag)) mtl (hw.mono (agx_sub hB.ag)) hpt
  refine op_callK (by simp only [go_sem, binC]; exact k3) ?_
  have hB3 := hB.grow x3
  simp only [go_sem, binC, e7, hB3.box]
  refine ⟨by have := hB.lo; omega, ?_⟩
  have hB4 := hB3.store (cells' := [.int .i64 sk, .int .i64 sx, .int .i64 sa, .int .i64 sbb, .int .i64 sc, .int .i64 sg, sli b3 0 tl.length, ev])
  have r3 := (o3.slR (step_w n) (by simp)).mono (hB.new x3 ⟨[.int .i64 sk, .int .i64 sx, .int .i64 sa, .int .i64 sbb, .int .i64 sc, .int .i64 sg, sli b3 0 tl.length, ev], 0, 0, false, true⟩)
  rw [List.length_map] at r3
  refine seq_reg ?_
  simp only [go_sem, binC, e1, e7, gc_of hB4.box, inBlk_some]
  obtain ⟨b5, so5, H5, k5, x5, o5⟩ := hA _ ev _ el (hel.mono (agx_sub hB4.ag)) mel (hw.mono (agx_sub hB4.ag)) hpe
  refine op_callK (by simp only [go_sem, binC]; exact k5) ?_
  have hB5 := hB4.grow x5
  simp only [go_sem, binC, e7, hB5.box]
  refine ⟨by have := hB.lo; omega, ?_⟩
  have hB6 := hB5.store (cells' := [.int .i64 sk, .int .i64 sx, .int .i64 sa, .int .i64 sbb, .int .i64 sc, .int .i64 sg, sli b3 0 tl.length, sli b5 0 el.length])
  have r5 := (o5.slR (step_w n) (by simp)).mono (hB4.new x5 ⟨[.int .i64 sk, .int .i64 sx, .int .i64 sa, .int .i64 sbb, .int .i64 sc, .int .i64 sg, sli b3 0 tl.length, sli b5 0 el.length], 0, 0, false, true⟩)
  rw [List.length_map] at r5
  have r6 := r3.mono ((vwl_sub x5 (Nat.le_refl _) (fun b' _ _ h => ⟨by simp, h⟩)).trans (vwl_sub (AgX.set H5 bs ⟨[.int .i64 sk, .int .i64 sx, .int .i64 sa, .int .i64 sbb, .int .i64 sc, .int .i64 sg, sli b3 0 tl.length, sli b5 0 el.length], 0, 0, false, true⟩) (Nat.le_refl _) (fun b' _ _ h => ⟨by simp at h ⊢; exact h.2, h⟩)) : Sub (vwl H.length [b, bs] _) (vwl H.length [b, bs] _))
  obtain ⟨g1, g2, g3, g4, g5, g6⟩ := rg
  have hrd := step_rd g1 g2 g3 g4 g5 g6 r6 r5
  have hbl6 := (List.getElem?_eq_some_iff.1 hB6.box).1
  have h1 := hB6.lo
  have hob := hB6.own.1
  refine wpc_reg ?_
  simp only [go_sem, binC, e5, e7, gc_of hB6.box, inBlk_some]
  refine op_app_own (xs := [bs]) hB6.own (by simp only [go_sem, binC, e5]) (by simp only [go_sem, binC]) (Nat.le_refl _) (step_w _) hrd hl (by omega) (fun b' hm => by
    simp only [List.mem_singleton] at hm; subst hm; exact hbl6) fun H' hx hown => ?_
  simp only [go_sem, binC]
  exact hK _ H' _ _ ⟨by simp only [go_sem, binC], by simp only [go_sem, binC], by simp only [go_sem, binC], by simp only [go_sem, binC]⟩ (agx_nil hB6.ag hx hob) (hown.sub (AgX.refl [] H') (by simp) fun b' _ _ _ h => ⟨by simp, by simp⟩)
theorem sHostsBody_ok {F : Nat → Option IFn} {H Hc : Heap} {n b k : Nat} {so : Bool} {acc : List (TStep (n + 1))} {bs : Nat} {sk sx sa sbb sc sg : Int} {tv ev w : Value} {tl el : List (TStep n)} {row : List Int} {e : Env} {K : X → Env → Heap → Prop} (hrow : rowB row 3 = true) (hk : 3 ≤ 1000) (hA : STurnOk F 61 n row (okS k) (turnH row))
    (hB : Cd H H.length [] n b so acc bs [.int .i64 sk, .int .i64 sx, .int .i64 sa, .int .i64 sbb, .int .i64 sc, .int .i64 sg, tv, ev] Hc) (htl : SlR (Co.step n) (vw 0 H) tv tl) (hel : SlR (Co.step n) (vw 0 H) ev el) (mtl : (Co.sl (Co.step n)).sm tl) (mel : (Co.sl (Co.step n)).sm el) (hw : SlR Co.int (vw 0 H) w row)
    (hPs : okS k (sk, sx, (sa, sbb, sc), sg)) (hpt : ∀ s ∈ allL n tl, okS k s) (hpe : ∀ s ∈ allL n el, okS k s) (rg : Rg sk ∧ Rg sx ∧ Rg sa ∧ Rg sbb ∧ Rg sc ∧ Rg sg) (hl : acc.length < 1048576) (e1 : e 1 = w) (e5 : e 5 = sli b 0 acc.length) (e7 : e 7 = ptr bs 0)
    (hK : ∀ e' Hc' b' so', (e' 0 = e 0 ∧ e' 1 = e 1 ∧ e' 6 = e 6 ∧ e' 5 = sli b' 0 (acc.length + 1)) → AgX [] H Hc' → OwnG (Co.step (n + 1)) 8 72 H.length H.length [] Hc' b' so' (acc ++ [mapT (turnH row) (n + 1) (sk, sx, (sa, sbb, sc), sg, tl, el)]) → K .n e' Hc') : wpc F H.length sHostsBody e Hc K := by
  obtain ⟨hr1, hr2, hr3⟩ := rowB_iff.1 hrow
  have hnm : ∀ x : Int, 0 ≤ x → x ≤ (3 : Int) - 1 → ∃ (h : x.toNat < row.length), nameO row x = row[x.toNat] ∧ 0 ≤ nameO row x ∧ nameO row x < 3 := fun x h1 h2 => by
    have h : x.toNat < row.length := by omega
    have h3 : nameO row x = row[x.toNat] := by simp [nameO, List.getD, h]
    exact ⟨h, h3, by rw [h3]; exact hr2 _ (List.getElem_mem h)⟩
  have fin : ∀ (x2 a2 b2 c2 h2 : Int) (e2 : Env) (H2 : Heap), Cd H H.length [] n b so acc bs [.int .i64 sk, .int .i64 x2, .int .i64 a2, .int .i64 b2, .int .i64 c2, .int .i64 h2, tv, ev] H2 → (Rg x2 ∧ Rg a2 ∧ Rg b2 ∧ Rg c2 ∧ Rg h2) → turnH row (sk, sx, (sa, sbb, sc), sg) = (sk, x2, (a2, b2, c2), h2) → e2 0 = e 0 → e2 1 = e 1 → e2 5 = e 5 → e2 6 = e 6 → e2 7 = ptr bs 0 → wpc F H.length sHostsTail e2 H2 K := fun x2 a2 b2 c2 h2 e2 H2 hB2 hrg2 hT f0 f1 f5 f6 f7 =>
    sHostsTail_ok hA hB2 htl hel mtl mel hw hpt hpe ⟨rg.1, hrg2⟩ hl (by rw [f1, e1]) (by rw [f5, e5]) f7 fun e7 H7 b7 so7 ⟨q0, q1, q6, q5⟩ x7 o7 => by
      refine hK e7 H7 b7 so7 ⟨by rw [q0, f0], by rw [q1, f1], by rw [q6, f6], q5⟩ x7 ?_
      have hm : mapT (turnH row) (n + 1) (sk, sx, (sa, sbb, sc), sg, tl, el) = (((turnH row (sk, sx, (sa, sbb, sc), sg)).1, (turnH row (sk, sx, (sa, sbb, sc), sg)).2.1, (turnH row (sk, sx, (sa, sbb, sc), sg)).2.2.1, (turnH row (sk, sx, (sa, sbb, sc), sg)).2.2.2, tl.map (mapT (turnH row) n), el.map (mapT (turnH row) n)) : TStep (n + 1)) := rfl
      rw [hm, hT]
      exact o7
  have hlo := hB.lo
  have hrow1 := hw.mono (agx_sub hB.ag)
  obtain ⟨g1, g2, g3, g4, g5, g6⟩ := rg
  obtain ⟨_, wa, rfl, _⟩ := id hw
  unfold sHostsBody
  obtain ⟨p1, p2, p3, p4, p5⟩ := hPs
  simp only at p5
  by_cases k3 : sk = 3
  · obtain ⟨q1, q2⟩ := p5 k3
    obtain ⟨hxl, hxe, hxr⟩ := hnm sg q1 (by omega)
    obtain ⟨rblk, ro, hrv, hg⟩ := gcI0 hrow1 hxl
    simp only [Value.slice.injEq, and_true] at hrv
    subst hrv
    refine seq_assoc (seq_reg ?_)
    simp only [go_sem, binC, e7, gc_of hB.box, inBlk_some, beq_t k3]
    refine seq_cond (t := true) rfl ?_
    simp only [go_sem, binC]
    refine seq_reg ?_
    simp only [go_sem, binC, e1, e7, gc_of hB.box, inBlk_some]
    refine ⟨⟨by omega, by omega⟩, ?_⟩
    simp only [go_sem, binC, Nat.mul_one, hg, hB.box]
    refine ⟨by omega, ?_⟩
    rw [← hxe]
    refine fin sx sa sbb sc (nameO row sg) _ _ hB.store ⟨g2, g3, g4, g5, by unfold Rg; omega⟩ ?_ (by simp only [go_sem, binC]) (by simp only [go_sem, binC]) (by simp only [go_sem, binC]) (by simp only [go_sem, binC]) (by simp only [go_sem, binC, e7])
    simp only [turnH, if_pos k3]
  · refine seq_assoc (seq_reg ?_)
    simp only [go_sem, binC, e7, gc_of hB.box, inBlk_some, beq_f k3]
    refine seq_cond (t := false) rfl ?_
    simp only [go_sem, binC]
    refine seq_skip ?_
    refine fin sx sa sbb sc sg _ _ hB ⟨g2, g3, g4, g5, g6⟩ ?_ (by simp only [go_sem, binC]) (by simp only [go_sem, binC]) (by simp only [go_sem, binC]) (by simp only [go_sem, binC]) (by simp only [go_sem, binC, e7])
    simp only [turnH, if_neg k3]
theorem sHosts_ok {F : Nat → Option IFn} {f n k : Nat} {row : List Int} (hf : F f = some c_sHosts) (hrow : rowB row 3 = true) (hk : 3 ≤ 1000) (ih : ∀ m, n = m + 1 → STurnOk F 61 m row (okS k) (turnH row)) : STurnOk F f n row (okS k) (turnH row) := by
  intro H v w l hv hsm hw hP
  have hv0 := hv
  obtain ⟨h0, av, rfl, hv1⟩ := hv
  obtain ⟨_, wa, rfl, _⟩ := id hw
  have hsm1 := hsm.1
  obtain ⟨hr1, hr2, hr3⟩ := rowB_iff.1 hrow
  suffices h : ∃ v' H', KC F f [.slice av l.length l.length, .slice wa row.length row.length] H v' H' ∧ (∃ b so, v' = sli b 0 l.length ∧ (AgX [] H H' ∧ OwnL (Co.step n) 8 72 H.length [] H' b so (l.map (mapT (turnH row) n)))) by
    obtain ⟨v', H', h1, b, so, rfl, h2⟩ := h
    exact ⟨b, so, H', h1, h2⟩
  refine KC.mk hf rfl ?_
  refine seq_reg ?_
  simp only [go_sem, binC]
  refine seq_reg ?_
  simp only [go_sem, binC]
  refine seq_assoc (seq_reg ?_)
  simp only [go_sem, binC]
  refine wpc_gen fun Hb hHb => ?_
  have ht0 : AgX [] H Hb := hHb ▸ AgX.app [] _ _
  have ho0 : OwnL (Co.step n) 8 72 H.length [] Hb H.length true [] := hHb ▸ OwnG.nil (Nat.le_refl _)
  clear hHb
  refine seq_block (wpc_loop ?_)
  suffices h : ∀ (k i : Nat) (e : Env) (Hc : Heap) (b : Nat) (so : Bool) (acc : List (TStep n)), i + k = l.length → acc = (l.take i).map (mapT (turnH row) n) → AgX [] H Hc → OwnL (Co.step n) 8 72 H.length [] Hc b so acc → e 0 = .slice av l.length l.length → e 1 = .slice wa row.length row.length → e 5 = sli b 0 acc.length → e 6 = .int .i64 i → W F H.length _ e Hc _ from
    h l.length 0 _ Hb H.length true [] (by omega) rfl ht0 ho0 (by simp only [go_sem, binC]) (by simp only [go_sem, binC]) (by (simp only [go_sem, binC]) <;> rfl) (by (simp only [go_sem, binC]) <;> rfl)
  intro k
  induction k with
  | zero =>
    intro i e Hc b so acc hi hacc ht ho e0 e1 e5 e6
    obtain rfl : i = l.length := by omega
    rw [List.take_length] at hacc
    refine lp_step ?_
    refine seq_assoc (seq_reg ?_)
    simp only [go_sem, binC, e0, e6]
    refine seq_cond (t := false) (by simp only [go_sem, binC]; rw [decide_eq_false (by omega)]) ?_
    simp only [go_sem, binC]
    refine seq_exit ?_
    simp only [go_sem, binC, thenX_e, out_e, thenX_n]
    refine seq_reg ?_
    simp only [go_sem, binC, e5]
    refine wpc_ret ⟨Or.inr rfl, _, (by (simp only [go_sem, binC]) <;> rfl), b, so, by rw [hacc, List.length_map], ht, hacc ▸ ho⟩
  | succ k ihk =>
    intro i e Hc b so acc hi hacc ht ho e0 e1 e5 e6
    have hil : i < l.length := by omega
    have hal : acc.length = i := by rw [hacc, List.length_map, List.length_take]; omega
    cases n with
    | zero => exact (l[i]).elim
    | succ n =>
    obtain ⟨vb, vo, sk, sx, sa, sbb, sc, sg, tv, ev, tl, el, hav, hs, rg, otv, oev, hgc, htl, hel⟩ := step_atV hv0 hil
    simp only [Value.slice.injEq, and_true] at hav
    subst hav
    have hA := ih n rfl
    have hsmi := hsm.2 _ (List.getElem_mem hil)
    have hPs := hP _ (mem_allL hil (by rw [allT_sh]; exact List.mem_cons_self))
    have hPt : ∀ s ∈ allL n (thOf l[i]), _ := fun s hs => hP s (mem_allL hil (by rw [allT_sh]; exact List.mem_cons_of_mem _ (List.mem_append_left _ hs)))
    have hPe : ∀ s ∈ allL n (elOf l[i]), _ := fun s hs => hP s (mem_allL hil (by rw [allT_sh]; exact List.mem_cons_of_mem _ (List.mem_append_right _ hs)))
    have hnext : acc ++ [mapT (turnH row) (n + 1) l[i]] = (l.take (i + 1)).map (mapT (turnH row) (n + 1)) := by rw [hacc, List.take_add_one, List.map_append, List.getElem?_eq_getElem hil]; rfl
    rw [hs] at hsmi hPs hPt hPe hnext
    obtain ⟨_, _, _, _, mtl, mel⟩ := hsmi
    have hbl : b < Hc.length := by obtain ⟨_, _, cs, h, _⟩ := ho; exact (List.getElem?_eq_some_iff.1 h).1
    have hw1 : IntKind.i64.wrap ((i : Int) + 1) = ((i + 1 : Nat) : Int) := by rw [wrap_id (by omega) (by omega)]; omega
    refine lp_step ?_
    refine seq_assoc (seq_reg ?_)
    simp only [go_sem, binC, e0, e6]
    refine seq_cond (t := true) (by simp only [go_sem, binC]; rw [decide_eq_true (by omega)]) ?_
    simp only [go_sem, binC]
    refine seq_skip (seq_block ?_)
    refine seq_reg ?_
    simp only [go_sem, binC, e0, e6, hgc _ (agx_sub ht), otv, oev]
    refine ⟨⟨by omega, by omega⟩, by have := ht.1; omega, ?_⟩
    refine wpc_gen fun H1 hH1 => ?_
    have hB : Cd H H.length [] n b so acc Hc.length [.int .i64 sk, .int .i64 sx, .int .i64 sa, .int .i64 sbb, .int .i64 sc, .int .i64 sg, tv, ev] H1 := by
      subst hH1
      exact ⟨ht.appN _, ho.sub (AgX.app [] _ _) (by simp) (fun b' h4 h5 h6 h7 => ⟨by simp, by simp; omega⟩), get_new0 _ _, ht.1, hbl, by simp, Nat.le_refl _⟩
    clear hH1
    have hlo := hB.lo
    have hrow1 := hw.mono (agx_sub hB.ag)
    obtain ⟨g1, g2, g3, g4, g5, g6⟩ := rg
    refine sHostsBody_ok hrow hk hA hB htl hel mtl mel hw hPs hPt hPe ⟨g1, g2, g3, g4, g5, g6⟩ (by omega) (by simp only [go_sem, binC, e1]) (by simp only [go_sem, binC, e5]) (by simp only [go_sem, binC]) fun e7 H7 b7 so7 ⟨q0, q1, q6, q5⟩ x7 o7 => ?_
    simp only [go_sem, binC, out_n, thenX_n]
    refine wpc_reg ?_
    simp only [go_sem, binC, q6, e6, hw1]
    simp only [go_sem, binC, thenX_n]
    refine ihk (i + 1) _ H7 b7 so7 _ (by omega) hnext x7 o7 (by simp only [go_sem, binC, q0, e0]) (by simp only [go_sem, binC, q1, e1]) (by (simp only [go_sem, binC, q5]) <;> (rw [List.length_append]; rfl)) (by simp only [go_sem, binC])
theorem sHosts_all {F : Nat → Option IFn} {k : Nat} {row : List Int} (hf : F 61 = some c_sHosts) (hrow : rowB row 3 = true) (hk : 3 ≤ 1000) : ∀ n, STurnOk F 61 n row (okS k) (turnH row)
  | 0 => sHosts_ok hf hrow hk fun m h => by omega
  | n + 1 => sHosts_ok hf hrow hk fun m h => by cases h; exact sHosts_all hf hrow hk n
end Go.Proofs.YtemnemmnfnpnoaaI
end
section
/- Variables named otherwise (the reference's). -/
set_option linter.unusedVariables false
set_option linter.unusedSimpArgs false
namespace Go.Proofs.YtemnemmnfnpnoaaI
open Go Go.RowKit
theorem blk_slP {es et b : Nat} {ap so : Bool} {H : Heap} {l : List (Int × Int)} (h : H[b]? = some ⟨l.flatMap fp, es, et, ap, so⟩) (hr : ∀ p ∈ l, RgI p.1 ∧ RgI p.2) (hl : l.length ≤ 1000) : SlR Co.p2 (vw 0 H) (sli b 0 l.length) l := by
  by_cases h0 : l = []
  · subst h0; exact ⟨by simp, _, rfl, .inl rfl⟩
  · have hfl := flat_len (fl := fp) (w := 2) (fun _ => rfl) l
    refine ⟨by omega, _, rfl, .inr ⟨b, 0, rfl, fun i hi => ⟨fp l[i], ?_, ⟨[.int .i64 l[i].1], [.int .i64 l[i].2], rfl, ⟨rfl, (hr _ (List.getElem_mem hi)).1⟩, ⟨rfl, (hr _ (List.getElem_mem hi)).2⟩⟩⟩⟩⟩
    unfold rng vw
    rw [if_pos (Nat.zero_le _), h]
    simp only [Option.map_some, Nat.zero_add, show Co.p2.w = 2 from rfl]
    rw [if_pos (by omega)]
    congr 1
    have : l.flatMap fp = (l.take i).flatMap fp ++ (fp l[i] ++ (l.drop (i + 1)).flatMap fp) := by
      conv => lhs; rw [← List.take_append_drop i l, List.drop_eq_getElem_cons hi]
      rw [List.flatMap_append, List.flatMap_cons]
    rw [this]
    have hlt : ((l.take i).flatMap fp).length = i * 2 := by rw [flat_len (fl := fp) (w := 2) (fun _ => rfl), List.length_take]; omega
    rw [List.drop_append, List.drop_of_length_le (by omega), hlt, Nat.sub_self, List.nil_append, List.drop_zero]
    rfl
end Go.Proofs.YtemnemmnfnpnoaaI
end
section
/- What the laws' functions say of steps and programs. -/
set_option linter.unusedVariables false
set_option linter.unusedSimpArgs false
namespace Go.Proofs.YtemnemmnfnpnoaaI
open Go Go.RowKit
def lcsA : List IOper := [
    ⟨(some 17), none, .mov (.t 0)⟩,
    ⟨(some 18), none, .mov (.t 5)⟩,
    ⟨(some 19), none, .iad 8 (.t 17) (.t 18)⟩,
    ⟨(some 20), none, .fad 0 (.t 19)⟩,
    ⟨(some 21), none, .load false 1 (.t 20)⟩,
    ⟨(some 22), none, .mov (.t 1)⟩,
    ⟨(some 23), none, .mov (.t 5)⟩,
    ⟨(some 24), none, .iad 8 (.t 22) (.t 23)⟩,
    ⟨(some 25), none, .fad 0 (.t 24)⟩,
    ⟨(some 26), none, .load false 1 (.t 25)⟩,
    ⟨(some 27), none, .bin .neq (.t 21) (.t 26)⟩,
    ⟨(some 28), none, .mov (.t 27)⟩]
def lcsB : List IOper := [
    ⟨(some 29), (some (28, false)), .mov (.t 0)⟩,
    ⟨(some 30), (some (28, false)), .mov (.t 5)⟩,
    ⟨(some 31), (some (28, false)), .iad 8 (.t 29) (.t 30)⟩,
    ⟨(some 32), (some (28, false)), .fad 1 (.t 31)⟩,
    ⟨(some 33), (some (28, false)), .load false 1 (.t 32)⟩,
    ⟨(some 34), (some (28, false)), .mov (.t 1)⟩,
    ⟨(some 35), (some (28, false)), .mov (.t 5)⟩,
    ⟨(some 36), (some (28, false)), .iad 8 (.t 34) (.t 35)⟩,
    ⟨(some 37), (some (28, false)), .fad 1 (.t 36)⟩,
    ⟨(some 38), (some (28, false)), .load false 1 (.t 37)⟩,
    ⟨(some 39), (some (28, false)), .bin .neq (.t 33) (.t 38)⟩,
    ⟨(some 40), none, .pick (.t 28) (.c (.bool true)) (.t 39)⟩,
    ⟨(some 41), none, .mov (.t 40)⟩]
def lcsC : List IOper := [
    ⟨(some 42), (some (41, false)), .mov (.t 0)⟩,
    ⟨(some 43), (some (41, false)), .mov (.t 5)⟩,
    ⟨(some 44), (some (41, false)), .iad 8 (.t 42) (.t 43)⟩,
    ⟨(some 45), (some (41, false)), .fad 2 (.t 44)⟩,
    ⟨(some 46), (some (41, false)), .load true 3 (.t 45)⟩,
    ⟨(some 47), (some (41, false)), .mov (.t 1)⟩,
    ⟨(some 48), (some (41, false)), .mov (.t 5)⟩,
    ⟨(some 49), (some (41, false)), .iad 8 (.t 47) (.t 48)⟩,
    ⟨(some 50), (some (41, false)), .fad 2 (.t 49)⟩,
    ⟨(some 51), (some (41, false)), .load true 3 (.t 50)⟩,
    ⟨(some 52), (some (41, false)), .eqs true 3 (.t 46) (.t 51)⟩,
    ⟨(some 53), none, .pick (.t 41) (.c (.bool true)) (.t 52)⟩,
    ⟨(some 54), none, .mov (.t 53)⟩]
def lcsD : List IOper := [
    ⟨(some 55), (some (54, false)), .mov (.t 0)⟩,
    ⟨(some 56), (some (54, false)), .mov (.t 5)⟩,
    ⟨(some 57), (some (54, false)), .iad 8 (.t 55) (.t 56)⟩,
    ⟨(some 58), (some (54, false)), .fad 5 (.t 57)⟩,
    ⟨(some 59), (some (54, false)), .load false 1 (.t 58)⟩,
    ⟨(some 60), (some (54, false)), .mov (.t 1)⟩,
    ⟨(some 61), (some (54, false)), .mov (.t 5)⟩,
    ⟨(some 62), (some (54, false)), .iad 8 (.t 60) (.t 61)⟩,
    ⟨(some 63), (some (54, false)), .fad 5 (.t 62)⟩,
    ⟨(some 64), (some (54, false)), .load false 1 (.t 63)⟩,
    ⟨(some 65), (some (54, false)), .bin .neq (.t 59) (.t 64)⟩,
    ⟨(some 66), none, .pick (.t 54) (.c (.bool true)) (.t 65)⟩,
    ⟨(some 67), none, .mov (.t 66)⟩]
def lcsE : List IOper := [
    ⟨(some 68), (some (67, false)), .mov (.t 0)⟩,
    ⟨(some 69), (some (67, false)), .mov (.t 5)⟩,
    ⟨(some 70), (some (67, false)), .iad 8 (.t 68) (.t 69)⟩,
    ⟨(some 71), (some (67, false)), .fad 6 (.t 70)⟩,
    ⟨(some 72), (some (67, false)), .load false 1 (.t 71)⟩,
    ⟨(some 73), (some (67, false)), .mov (.t 1)⟩,
    ⟨(some 74), (some (67, false)), .mov (.t 5)⟩,
    ⟨(some 75), (some (67, false)), .iad 8 (.t 73) (.t 74)⟩,
    ⟨(some 76), (some (67, false)), .fad 6 (.t 75)⟩,
    ⟨(some 77), (some (67, false)), .load false 1 (.t 76)⟩,
    ⟨(some 78), (some (67, false)), .call .q (.f 55) [(.t 72), (.t 77)]⟩,
    ⟨(some 79), (some (67, false)), .un .not (.t 78)⟩,
    ⟨(some 80), none, .pick (.t 67) (.c (.bool true)) (.t 79)⟩,
    ⟨(some 81), none, .mov (.t 80)⟩]
def lcsF : List IOper := [
    ⟨(some 82), (some (81, false)), .mov (.t 0)⟩,
    ⟨(some 83), (some (81, false)), .mov (.t 5)⟩,
    ⟨(some 84), (some (81, false)), .iad 8 (.t 82) (.t 83)⟩,
    ⟨(some 85), (some (81, false)), .fad 7 (.t 84)⟩,
    ⟨(some 86), (some (81, false)), .load false 1 (.t 85)⟩,
    ⟨(some 87), (some (81, false)), .mov (.t 1)⟩,
    ⟨(some 88), (some (81, false)), .mov (.t 5)⟩,
    ⟨(some 89), (some (81, false)), .iad 8 (.t 87) (.t 88)⟩,
    ⟨(some 90), (some (81, false)), .fad 7 (.t 89)⟩,
    ⟨(some 91), (some (81, false)), .load false 1 (.t 90)⟩,
    ⟨(some 92), (some (81, false)), .call .q (.f 55) [(.t 86), (.t 91)]⟩,
    ⟨(some 93), (some (81, false)), .un .not (.t 92)⟩,
    ⟨(some 94), none, .pick (.t 81) (.c (.bool true)) (.t 93)⟩]
def c_lcSteps : IFn := ⟨2, 95, [.t 4],
 .seq (.reg none [
    ⟨(some 4), none, .mov (.c (.bool false))⟩])
 (.seq (.seq (.reg none [
     ⟨(some 6), none, .mov (.t 0)⟩,
     ⟨(some 7), none, .len (.t 6)⟩,
     ⟨(some 8), none, .mov (.t 1)⟩,
     ⟨(some 9), none, .len (.t 8)⟩,
     ⟨(some 10), none, .bin .neq (.t 7) (.t 9)⟩])
  (.cond (.t 10) (.seq (.reg none [
      ⟨(some 4), none, .mov (.c (.bool false))⟩])
   (.ret)) (.skip)))
 (.seq (.seq (.reg none [
     ⟨(some 5), none, .mov (.c (.int .i64 0))⟩])
  (.block 0 (.loop (.seq (.seq (.reg none [
        ⟨(some 11), none, .mov (.t 5)⟩,
        ⟨(some 12), none, .mov (.t 0)⟩,
        ⟨(some 13), none, .len (.t 12)⟩,
        ⟨(some 14), none, .bin .lss (.t 11) (.t 13)⟩])
     (.cond (.t 14) (.skip) (.exit 0)))
    (.seq (.block 1 (.seq (.reg (some 75) (lcsA ++ (lcsB ++ (lcsC ++ (lcsD ++ (lcsE ++ lcsF))))))
      (.cond (.t 94) (.seq (.reg none [
          ⟨(some 4), none, .mov (.c (.bool false))⟩])
       (.ret)) (.skip))))
    (.reg none [
      ⟨(some 15), none, .mov (.t 5)⟩,
      ⟨(some 16), none, .bin .add (.t 15) (.c (.int .i64 1))⟩,
      ⟨(some 5), none, .mov (.t 16)⟩]))))))
 (.seq (.reg none [
    ⟨(some 4), none, .mov (.c (.bool true))⟩])
 (.ret))))⟩
def c_lcProg : IFn := ⟨2, 36, [.t 4],
 .seq (.reg none [
    ⟨(some 2), none, .box (.t 0)⟩,
    ⟨(some 3), none, .box (.t 1)⟩,
    ⟨(some 4), none, .mov (.c (.bool false))⟩])
 (.seq (.seq (.reg none [
     ⟨(some 6), none, .fad 0 (.t 2)⟩,
     ⟨(some 7), none, .load false 1 (.t 6)⟩,
     ⟨(some 8), none, .len (.t 7)⟩,
     ⟨(some 9), none, .fad 0 (.t 3)⟩,
     ⟨(some 10), none, .load false 1 (.t 9)⟩,
     ⟨(some 11), none, .len (.t 10)⟩,
     ⟨(some 12), none, .bin .neq (.t 8) (.t 11)⟩])
  (.cond (.t 12) (.seq (.reg none [
      ⟨(some 4), none, .mov (.c (.bool false))⟩])
   (.ret)) (.skip)))
 (.seq (.seq (.reg none [
     ⟨(some 5), none, .mov (.c (.int .i64 0))⟩])
  (.block 0 (.loop (.seq (.seq (.reg none [
        ⟨(some 13), none, .mov (.t 5)⟩,
        ⟨(some 14), none, .fad 0 (.t 2)⟩,
        ⟨(some 15), none, .load false 1 (.t 14)⟩,
        ⟨(some 16), none, .len (.t 15)⟩,
        ⟨(some 17), none, .bin .lss (.t 13) (.t 16)⟩])
     (.cond (.t 17) (.skip) (.exit 0)))
    (.seq (.block 1 (.seq (.reg (some 10) [
         ⟨(some 20), none, .fad 0 (.t 2)⟩,
         ⟨(some 21), none, .load false 1 (.t 20)⟩,
         ⟨(some 22), none, .mov (.t 5)⟩,
         ⟨(some 23), none, .iad 2 (.t 21) (.t 22)⟩,
         ⟨(some 24), none, .load true 2 (.t 23)⟩,
         ⟨(some 25), none, .fad 0 (.t 3)⟩,
         ⟨(some 26), none, .load false 1 (.t 25)⟩,
         ⟨(some 27), none, .mov (.t 5)⟩,
         ⟨(some 28), none, .iad 2 (.t 26) (.t 27)⟩,
         ⟨(some 29), none, .load true 2 (.t 28)⟩,
         ⟨(some 30), none, .eqs true 2 (.t 24) (.t 29)⟩])
      (.cond (.t 30) (.seq (.reg none [
          ⟨(some 4), none, .mov (.c (.bool false))⟩])
       (.ret)) (.skip))))
    (.reg none [
      ⟨(some 18), none, .mov (.t 5)⟩,
      ⟨(some 19), none, .bin .add (.t 18) (.c (.int .i64 1))⟩,
      ⟨(some 5), none, .mov (.t 19)⟩]))))))
 (.seq (.reg none [
    ⟨(some 31), none, .fad 1 (.t 2)⟩,
    ⟨(some 32), none, .load false 1 (.t 31)⟩,
    ⟨(some 33), none, .fad 1 (.t 3)⟩,
    ⟨(some 34), none, .load false 1 (.t 33)⟩,
    ⟨(some 35), none, .call .q (.f 55) [(.t 32), (.t 34)]⟩,
    ⟨(some 4), none, .mov (.t 35)⟩])
 (.ret))))⟩
/-- Steps that are the same are told the same. -/
def SameSOk (F : Nat → Option IFn) (f n : Nat) : Prop := ∀ (H : Heap) (v w : Value) (l : List (TStep n)), SlR (Co.step n) (vw 0 H) v l → SlR (Co.step n) (vw 0 H) w l → (Co.sl (Co.step n)).sm l → QC F f [v, w] H (.bool true)
theorem eqsV3 (a b c : Int) : eqsV true 3 (.agg #[.int .i64 a, .int .i64 b, .int .i64 c]) (.agg #[.int .i64 a, .int .i64 b, .int .i64 c]) = some (.bool false) := by
  have h : eqCells [.int .i64 a, .int .i64 b, .int .i64 c] [.int .i64 a, .int .i64 b, .int .i64 c] = some true := by simp [eqCells]
  simp only [eqsV, List.length_cons, List.length_nil, h]
  rfl
theorem wpp_app2 {F : Nat → Option IFn} {lo p : Nat} (q : Nat) {K : Env → Heap → Prop} {l1 l2 : List IOper} {e : Env} {H : Heap} (hq : p = l1.length + q) (h : wpp F lo l1.length l1 e H fun e1 H1 => wpp F lo q l2 e1 H1 K) : wpp F lo p (l1 ++ l2) e H K := by
  rw [hq]
  exact wpp_app l1 e H h
theorem lcsA_ok {F : Nat → Option IFn} {lo : Nat} {e : Env} {H : Heap} {K : Env → Heap → Prop} {vb vo wb wo i len : Nat} {x : Int} (e0 : e 0 = .slice (some ⟨vb, vo, none⟩) len len) (e1 : e 1 = .slice (some ⟨wb, wo, none⟩) len len) (e5 : e 5 = .int .i64 i) (hi : i < len)
    (g : getCells H vb (vo + i * 8) 1 = some [.int .i64 x]) (g' : getCells H wb (wo + i * 8) 1 = some [.int .i64 x]) (k : ∀ e2 : Env, e2 0 = e 0 → e2 1 = e 1 → e2 5 = e 5 → e2 28 = .bool false → K e2 H) : wpp F lo lcsA.length lcsA e H K := by
  have hij : (0 ≤ (i : Int) ∧ (i : Int) < (len : Int)) = True := eq_true ⟨by omega, by omega⟩
  show wpp F lo 12 _ e H K
  unfold lcsA
  simp only [go_sem, binC, e0, e1, e5, hij, Int.toNat_natCast, g, g', bne_f (a := x) (b := x) rfl]
  exact k _ (by simp only [go_sem, binC]) (by simp only [go_sem, binC]) (by simp only [go_sem, binC]) (by simp only [go_sem, binC])
theorem lcsB_ok {F : Nat → Option IFn} {lo : Nat} {e : Env} {H : Heap} {K : Env → Heap → Prop} {vb vo wb wo i len : Nat} {x : Int} (e0 : e 0 = .slice (some ⟨vb, vo, none⟩) len len) (e1 : e 1 = .slice (some ⟨wb, wo, none⟩) len len) (e5 : e 5 = .int .i64 i) (eg : e 28 = .bool false) (hi : i < len)
    (g : getCells H vb (vo + i * 8 + 1) 1 = some [.int .i64 x]) (g' : getCells H wb (wo + i * 8 + 1) 1 = some [.int .i64 x]) (k : ∀ e2 : Env, e2 0 = e 0 → e2 1 = e 1 → e2 5 = e 5 → e2 41 = .bool false → K e2 H) : wpp F lo lcsB.length lcsB e H K := by
  have hij : (0 ≤ (i : Int) ∧ (i : Int) < (len : Int)) = True := eq_true ⟨by omega, by omega⟩
  show wpp F lo 13 _ e H K
  unfold lcsB
  simp only [go_sem, binC, e0, e1, e5, hij, Int.toNat_natCast, g, g', bne_f (a := x) (b := x) rfl, eg]
  exact k _ (by simp only [go_sem, binC]) (by simp only [go_sem, binC]) (by simp only [go_sem, binC]) (by simp only [go_sem, binC])
theorem lcsC_ok {F : Nat → Option IFn} {lo : Nat} {e : Env} {H : Heap} {K : Env → Heap → Prop} {vb vo wb wo i len : Nat} {x y z : Int} (e0 : e 0 = .slice (some ⟨vb, vo, none⟩) len len) (e1 : e 1 = .slice (some ⟨wb, wo, none⟩) len len) (e5 : e 5 = .int .i64 i) (eg : e 41 = .bool false) (hi : i < len)
    (g : getCells H vb (vo + i * 8 + 2) 3 = some [.int .i64 x, .int .i64 y, .int .i64 z]) (g' : getCells H wb (wo + i * 8 + 2) 3 = some [.int .i64 x, .int .i64 y, .int .i64 z]) (k : ∀ e2 : Env, e2 0 = e 0 → e2 1 = e 1 → e2 5 = e 5 → e2 54 = .bool false → K e2 H) : wpp F lo lcsC.length lcsC e H K := by
  have hij : (0 ≤ (i : Int) ∧ (i : Int) < (len : Int)) = True := eq_true ⟨by omega, by omega⟩
  show wpp F lo 13 _ e H K
  unfold lcsC
  simp only [go_sem, binC, e0, e1, e5, hij, Int.toNat_natCast, g, g', eqsV3, optP_some, eg]
  exact k _ (by simp only [go_sem, binC]) (by simp only [go_sem, binC]) (by simp only [go_sem, binC]) (by simp only [go_sem, binC])
theorem lcsD_ok {F : Nat → Option IFn} {lo : Nat} {e : Env} {H : Heap} {K : Env → Heap → Prop} {vb vo wb wo i len : Nat} {x : Int} (e0 : e 0 = .slice (some ⟨vb, vo, none⟩) len len) (e1 : e 1 = .slice (some ⟨wb, wo, none⟩) len len) (e5 : e 5 = .int .i64 i) (eg : e 54 = .bool false) (hi : i < len)
    (g : getCells H vb (vo + i * 8 + 5) 1 = some [.int .i64 x]) (g' : getCells H wb (wo + i * 8 + 5) 1 = some [.int .i64 x]) (k : ∀ e2 : Env, e2 0 = e 0 → e2 1 = e 1 → e2 5 = e 5 → e2 67 = .bool false → K e2 H) : wpp F lo lcsD.length lcsD e H K := by
  have hij : (0 ≤ (i : Int) ∧ (i : Int) < (len : Int)) = True := eq_true ⟨by omega, by omega⟩
  show wpp F lo 13 _ e H K
  unfold lcsD
  simp only [go_sem, binC, e0, e1, e5, hij, Int.toNat_natCast, g, g', bne_f (a := x) (b := x) rfl, eg]
  exact k _ (by simp only [go_sem, binC]) (by simp only [go_sem, binC]) (by simp only [go_sem, binC]) (by simp only [go_sem, binC])
theorem lcsE_ok {F : Nat → Option IFn} {lo : Nat} {e : Env} {H : Heap} {K : Env → Heap → Prop} {vb vo wb wo i len : Nat} {x y : Value} (e0 : e 0 = .slice (some ⟨vb, vo, none⟩) len len) (e1 : e 1 = .slice (some ⟨wb, wo, none⟩) len len) (e5 : e 5 = .int .i64 i) (eg : e 67 = .bool false) (hi : i < len)
    (g : getCells H vb (vo + i * 8 + 6) 1 = some [x]) (g' : getCells H wb (wo + i * 8 + 6) 1 = some [y]) (ox : one x = true) (oy : one y = true) (q : ∀ lo : Nat, QC F 55 [x, y] H (.bool true)) (k : ∀ e2 : Env, e2 0 = e 0 → e2 1 = e 1 → e2 5 = e 5 → e2 81 = .bool false → K e2 H) : wpp F lo lcsE.length lcsE e H K := by
  have hij : (0 ≤ (i : Int) ∧ (i : Int) < (len : Int)) = True := eq_true ⟨by omega, by omega⟩
  show wpp F lo 14 _ e H K
  unfold lcsE
  simp only [go_sem, binC, e0, e1, e5, eg, hij, Int.toNat_natCast, g, g', ox, oy]
  refine op_callQ (by simp only [go_sem, binC]; exact q 0) ?_
  simp only [go_sem, binC, eg]
  exact k _ (by simp only [go_sem, binC]) (by simp only [go_sem, binC]) (by simp only [go_sem, binC]) (by simp only [go_sem, binC])
theorem lcsF_ok {F : Nat → Option IFn} {lo : Nat} {e : Env} {H : Heap} {K : Env → Heap → Prop} {vb vo wb wo i len : Nat} {x y : Value} (e0 : e 0 = .slice (some ⟨vb, vo, none⟩) len len) (e1 : e 1 = .slice (some ⟨wb, wo, none⟩) len len) (e5 : e 5 = .int .i64 i) (eg : e 81 = .bool false) (hi : i < len)
    (g : getCells H vb (vo + i * 8 + 7) 1 = some [x]) (g' : getCells H wb (wo + i * 8 + 7) 1 = some [y]) (ox : one x = true) (oy : one y = true) (q : ∀ lo : Nat, QC F 55 [x, y] H (.bool true)) (k : ∀ e2 : Env, e2 0 = e 0 → e2 1 = e 1 → e2 5 = e 5 → e2 94 = .bool false → K e2 H) : wpp F lo 10 lcsF e H K := by
  have hij : (0 ≤ (i : Int) ∧ (i : Int) < (len : Int)) = True := eq_true ⟨by omega, by omega⟩
  unfold lcsF
  simp only [go_sem, binC, e0, e1, e5, eg, hij, Int.toNat_natCast, g, g', ox, oy]
  refine op_callQ (by simp only [go_sem, binC]; exact q 0) ?_
  simp only [go_sem, binC, eg]
  exact k _ (by simp only [go_sem, binC]) (by simp only [go_sem, binC]) (by simp only [go_sem, binC]) (by simp only [go_sem, binC])
theorem lcSteps_ok {F : Nat → Option IFn} {f n : Nat} (hf : F f = some c_lcSteps) (ih : ∀ m, n = m + 1 → SameSOk F 55 m) : SameSOk F f n := by
  intro H v w l hv hw hsm
  have hv0 := hv
  have hw0 := hw
  obtain ⟨h0, av, rfl, hv1⟩ := hv
  obtain ⟨_, aw, rfl, hw1⟩ := hw
  have hsm1 := hsm.1
  refine QC.mk hf rfl ?_
  refine seq_reg ?_
  simp only [go_sem, binC]
  refine seq_assoc (seq_reg ?_)
  simp only [go_sem, binC, bne_f (a := (l.length : Int)) (b := (l.length : Int)) rfl]
  refine seq_cond (t := false) rfl ?_
  simp only [go_sem, binC]
  refine seq_skip (seq_assoc (seq_reg ?_))
  simp only [go_sem, binC]
  refine seq_block (wpc_loop ?_)
  suffices h : ∀ (k i : Nat) (e : Env), i + k = l.length → e 0 = .slice av l.length l.length → e 1 = .slice aw l.length l.length → e 5 = .int .i64 i → W F H.length _ e H _ from
    h l.length 0 _ (by omega) (by simp only [go_sem, binC]) (by simp only [go_sem, binC]) (by (simp only [go_sem, binC]) <;> rfl)
  intro k
  induction k with
  | zero =>
    intro i e hi e0 e1 e5
    refine lp_step ?_
    refine seq_assoc (seq_reg ?_)
    simp only [go_sem, binC, e0, e5]
    refine seq_cond (t := false) (by simp only [go_sem, binC]; rw [decide_eq_false (by omega)]) ?_
    simp only [go_sem, binC]
    refine seq_exit ?_
    simp only [go_sem, binC, thenX_e, out_e, thenX_n]
    refine seq_reg ?_
    simp only [go_sem, binC]
    exact wpc_ret ⟨Or.inr rfl, _, (by (simp only [go_sem, binC]) <;> rfl), rfl, rfl⟩
  | succ k ihk =>
    intro i e hi e0 e1 e5
    have hil : i < l.length := by omega
    cases n with
    | zero => exact (l[i]).elim
    | succ n =>
    obtain ⟨vb, vo, sk, sx, sa, sbb, sc, sg, tv, ev, tl, el, hav, hs, rg, otv, oev, hgc, htl, hel⟩ := step_atV hv0 hil
    obtain ⟨wb, wo, sk', sx', sa', sbb', sc', sg', tv', ev', tl', el', haw, hs', rg', otv', oev', hgc', htl', hel'⟩ := step_atV hw0 hil
    rw [hs] at hs'
    replace hs' : ((sk, sx, (sa, sbb, sc), sg, tl, el) : Int × Int × (Int × Int × Int) × Int × List (TStep n) × List (TStep n)) = (sk', sx', (sa', sbb', sc'), sg', tl', el') := hs'
    simp only [Prod.mk.injEq] at hs'
    obtain ⟨rfl, rfl, ⟨rfl, rfl, rfl⟩, rfl, rfl, rfl⟩ := hs'
    simp only [Value.slice.injEq, and_true] at hav haw
    subst hav haw
    have hsmi := hsm.2 _ (List.getElem_mem hil)
    rw [hs] at hsmi
    obtain ⟨_, _, _, _, mtl, mel⟩ := hsmi
    have hw1 : IntKind.i64.wrap ((i : Int) + 1) = ((i + 1 : Nat) : Int) := by rw [wrap_id (by omega) (by omega)]; omega
    have hg := hgc H (Sub.refl _)
    have hg' := hgc' H (Sub.refl _)
    have gc0 : getCells H vb (vo + i * 8) 1 = some [.int .i64 sk] := gc_part (off := 0) (k := 1) hg (by omega)
    have gc1 : getCells H vb (vo + i * 8 + 1) 1 = some [.int .i64 sx] := gc_part (off := 1) (k := 1) hg (by omega)
    have gc2 : getCells H vb (vo + i * 8 + 2) 3 = some [.int .i64 sa, .int .i64 sbb, .int .i64 sc] := gc_part (off := 2) (k := 3) hg (by omega)
    have gc5 : getCells H vb (vo + i * 8 + 5) 1 = some [.int .i64 sg] := gc_part (off := 5) (k := 1) hg (by omega)
    have gc6 : getCells H vb (vo + i * 8 + 6) 1 = some [tv] := gc_part (off := 6) (k := 1) hg (by omega)
    have gc7 : getCells H vb (vo + i * 8 + 7) 1 = some [ev] := gc_part (off := 7) (k := 1) hg (by omega)
    have gd0 : getCells H wb (wo + i * 8) 1 = some [.int .i64 sk] := gc_part (off := 0) (k := 1) hg' (by omega)
    have gd1 : getCells H wb (wo + i * 8 + 1) 1 = some [.int .i64 sx] := gc_part (off := 1) (k := 1) hg' (by omega)
    have gd2 : getCells H wb (wo + i * 8 + 2) 3 = some [.int .i64 sa, .int .i64 sbb, .int .i64 sc] := gc_part (off := 2) (k := 3) hg' (by omega)
    have gd5 : getCells H wb (wo + i * 8 + 5) 1 = some [.int .i64 sg] := gc_part (off := 5) (k := 1) hg' (by omega)
    have gd6 : getCells H wb (wo + i * 8 + 6) 1 = some [tv'] := gc_part (off := 6) (k := 1) hg' (by omega)
    have gd7 : getCells H wb (wo + i * 8 + 7) 1 = some [ev'] := gc_part (off := 7) (k := 1) hg' (by omega)
    refine lp_step ?_
    refine seq_assoc (seq_reg ?_)
    simp only [go_sem, binC, e0, e5]
    refine seq_cond (t := true) (by simp only [go_sem, binC]; rw [decide_eq_true (by omega)]) ?_
    simp only [go_sem, binC]
    refine seq_skip (seq_block (seq_regD ?_))
    have hij : (0 ≤ (i : Int) ∧ (i : Int) < (l.length : Int)) = True := eq_true ⟨by omega, by omega⟩
    refine wpp_app2 63 rfl (lcsA_ok e0 e1 e5 hil gc0 gd0 fun ea a0 a1 a5 ag => ?_)
    refine wpp_app2 50 rfl (lcsB_ok (a0.trans e0) (a1.trans e1) (a5.trans e5) ag hil gc1 gd1 fun eb b0 b1 b5 bg => ?_)
    refine wpp_app2 37 rfl (lcsC_ok (b0.trans (a0.trans e0)) (b1.trans (a1.trans e1)) (b5.trans (a5.trans e5)) bg hil gc2 gd2 fun ec c0 c1 c5 cg => ?_)
    refine wpp_app2 24 rfl (lcsD_ok (c0.trans (b0.trans (a0.trans e0))) (c1.trans (b1.trans (a1.trans e1))) (c5.trans (b5.trans (a5.trans e5))) cg hil gc5 gd5 fun e2 d0 d1 d5 f67 => ?_)
    have f0 := d0.trans (c0.trans (b0.trans (a0.trans e0)))
    have f1 := d1.trans (c1.trans (b1.trans (a1.trans e1)))
    have f5 := d5.trans (c5.trans (b5.trans (a5.trans e5)))
    clear d0 d1 d5 c0 c1 c5 b0 b1 b5 a0 a1 a5 ag bg cg
    refine wpp_app2 10 rfl (lcsE_ok f0 f1 f5 f67 hil gc6 gd6 otv otv' (fun lo => ih n rfl H tv tv' tl htl htl' mtl) fun e3 k0 k1 k5 f81 => ?_)
    refine lcsF_ok (k0.trans f0) (k1.trans f1) (k5.trans f5) f81 hil gc7 gd7 oev oev' (fun lo => ih n rfl H ev ev' el hel hel' mel) fun e4 j0 j1 j5 f94 => ?_
    replace j0 := j0.trans (k0.trans f0)
    replace j1 := j1.trans (k1.trans f1)
    replace j5 := j5.trans (k5.trans f5)
    clear k0 k1 k5 f81 f67
    refine wpc_cond (t := false) (by simp only [go_sem, binC, f94]) ?_
    simp only [go_sem, binC, out_n, thenX_n]
    refine wpc_skip ?_
    simp only [go_sem, binC, out_n, thenX_n]
    refine wpc_reg ?_
    simp only [go_sem, binC, j5, hw1]
    simp only [go_sem, binC, thenX_n]
    exact ihk (i + 1) _ (by omega) (by simp only [go_sem, binC, j0]) (by simp only [go_sem, binC, j1]) (by simp only [go_sem, binC])
theorem lcSteps_all {F : Nat → Option IFn} (hf : F 55 = some c_lcSteps) : ∀ n, SameSOk F 55 n
  | 0 => lcSteps_ok hf fun m h => by cases h
  | n + 1 => lcSteps_ok hf fun m h => by cases h; exact lcSteps_all hf n
/-- Programs that are the same are told the same. -/
def SamePOk (F : Nat → Option IFn) (f : Nat) : Prop := ∀ (H : Heap) (n : Nat) (lv sv lw sw : Value) (ls : List (Int × Int)) (l : List (TStep n)), SlR Co.p2 (vw 0 H) lv ls → SlR (Co.step n) (vw 0 H) sv l → SlR Co.p2 (vw 0 H) lw ls → SlR (Co.step n) (vw 0 H) sw l → (Co.prog n).sm (ls, l) → QC F f [.agg #[lv, sv], .agg #[lw, sw]] H (.bool true)
theorem lcProg_ok {F : Nat → Option IFn} {f : Nat} (hf : F f = some c_lcProg) (gs : ∀ n, SameSOk F 55 n) : SamePOk F f := by
  intro H n lv sv lw sw ls l r1 r2 r3 r4 hsm
  have osv : one sv = true := by obtain ⟨_, a, rfl, _⟩ := r2; rfl
  have osw : one sw = true := by obtain ⟨_, a, rfl, _⟩ := r4; rfl
  obtain ⟨_, la, rfl, _⟩ := id r1
  obtain ⟨_, lb, rfl, _⟩ := id r3
  have hls0 : ls.length ≤ 1048576 := hsm.1.1
  refine QC.mk hf rfl ?_
  refine seq_reg ?_
  simp only [go_sem, binC, osv, osw]
  refine wpc_gen fun H1 hH1 => ?_
  have hx1 : AgX [] H H1 := hH1 ▸ AgX.app [] _ _
  have hb2 : H1[H.length]? = some ⟨[.slice la ls.length ls.length, sv], 0, 0, false, true⟩ := hH1 ▸ get_new0 _ _
  have hb3 : H1[H.length + 1]? = some ⟨[.slice lb ls.length ls.length, sw], 0, 0, false, true⟩ := hH1 ▸ get_new _ _ 1
  clear hH1
  have r1' := r1.mono (agx_sub hx1)
  have r2' := r2.mono (agx_sub hx1)
  have r3' := r3.mono (agx_sub hx1)
  have r4' := r4.mono (agx_sub hx1)
  have hl1 := hx1.1
  refine seq_assoc (seq_reg ?_)
  simp only [go_sem, binC, gc_of hb2, gc_of hb3, inBlk_some, bne_f (a := (ls.length : Int)) (b := (ls.length : Int)) rfl]
  refine seq_cond (t := false) rfl ?_
  simp only [go_sem, binC]
  refine seq_skip (seq_assoc (seq_reg ?_))
  simp only [go_sem, binC]
  refine seq_block (wpc_loop ?_)
  suffices h : ∀ (k i : Nat) (e : Env), i + k = ls.length → e 2 = ptr H.length 0 → e 3 = ptr (H.length + 1) 0 → e 5 = .int .i64 i → W F H.length _ e H1 _ from
    h ls.length 0 _ (by omega) (by simp only [go_sem, binC]) (by simp only [go_sem, binC]) (by (simp only [go_sem, binC]) <;> rfl)
  intro k
  induction k with
  | zero =>
    intro i e hi e2 e3 e5
    refine lp_step ?_
    refine seq_assoc (seq_reg ?_)
    simp only [go_sem, binC, e2, e5, gc_of hb2, inBlk_some]
    refine seq_cond (t := false) (by simp only [go_sem, binC]; rw [decide_eq_false (by omega)]) ?_
    simp only [go_sem, binC]
    refine seq_exit ?_
    simp only [go_sem, binC, thenX_e, out_e, thenX_n]
    refine seq_reg ?_
    simp only [go_sem, binC, e2, e3, gc_of hb2, gc_of hb3, inBlk_some, osv, osw]
    refine op_callQ (by simp only [go_sem, binC]; exact gs n H1 sv sw l r2' r4' hsm.2) ?_
    simp only [go_sem, binC]
    exact wpc_ret ⟨Or.inr rfl, _, (by (simp only [go_sem, binC]) <;> rfl), rfl, rfl⟩
  | succ k ih =>
    intro i e hi e2 e3 e5
    have hil : i < ls.length := by omega
    obtain ⟨b, o, hv1, hg⟩ := gcP r1' hil
    obtain ⟨b', o', hv2, hg'⟩ := gcP r3' hil
    simp only [Value.slice.injEq, and_true] at hv1 hv2
    subst hv1 hv2
    have hw1 : IntKind.i64.wrap ((i : Int) + 1) = ((i + 1 : Nat) : Int) := by rw [wrap_id (by omega) (by omega)]; omega
    refine lp_step ?_
    refine seq_assoc (seq_reg ?_)
    simp only [go_sem, binC, e2, e5, gc_of hb2, inBlk_some]
    refine seq_cond (t := true) (by simp only [go_sem, binC]; rw [decide_eq_true (by omega)]) ?_
    simp only [go_sem, binC]
    refine seq_skip (seq_block (seq_regD ?_))
    simp only [go_sem, binC, e2, e3, e5, gc_of hb2, gc_of hb3, inBlk_some]
    refine ⟨⟨by omega, by omega⟩, ?_⟩
    simp only [go_sem, binC, Int.toNat_natCast, hg]
    refine ⟨⟨by omega, by omega⟩, ?_⟩
    simp only [go_sem, binC, Int.toNat_natCast, hg', eqsV2, decide_true]
    refine wpc_cond (t := false) rfl ?_
    simp only [go_sem, binC]
    refine wpc_skip ?_
    simp only [go_sem, binC, out_n, thenX_n]
    refine wpc_reg ?_
    simp only [go_sem, binC, e5, hw1]
    simp only [go_sem, binC, thenX_n]
    exact ih (i + 1) _ (by omega) (by simp only [go_sem, binC, e2]) (by simp only [go_sem, binC, e3]) (by simp only [go_sem, binC])
end Go.Proofs.YtemnemmnfnpnoaaI
end
section
/- Rows are drawn, with a program. -/
set_option linter.unusedVariables false
set_option linter.unusedSimpArgs false
namespace Go.Proofs.YtemnemmnfnpnoaaI
open Go Go.RowKit
def drRowTail : ICode := (.seq (.seq (.reg none [
     ⟨(some 45), none, .mov (.t 0)⟩,
     ⟨(some 46), none, .call .n (.f 82) [(.t 45), (.c (.int .i64 16))]⟩,
     ⟨(some 47), none, .bin .eql (.t 46) (.c (.int .i64 0))⟩])
  (.cond (.t 47) (.reg none [
     ⟨(some 48), none, .mov (.t 5)⟩,
     ⟨(some 49), none, .mov (.t 0)⟩,
     ⟨(some 50), none, .call .n (.f 82) [(.t 49), (.c (.int .i64 3))]⟩,
     ⟨(some 51), none, .lit 1 3 1 [(.int .i64 0)] [(0, 1, (.t 50))]⟩,
     ⟨(some 52), none, .app 1 3 8 false (.t 48) (.t 51)⟩,
     ⟨(some 5), none, .mov (.t 52)⟩]) (.skip)))
 (.seq (.reg none [
    ⟨(some 53), none, .mov (.t 5)⟩,
    ⟨(some 4), none, .mov (.t 53)⟩])
 (.ret)))
def c_drRow : IFn := ⟨2, 54, [.t 4],
 .seq (.reg none [
    ⟨(some 4), none, .mov (.c (.slice none 0 0))⟩])
 (.seq (.reg none [
    ⟨(some 10), none, .lit 1 3 0 [] []⟩,
    ⟨(some 5), none, .mov (.t 10)⟩])
 (.seq (.seq (.reg none [
     ⟨(some 6), none, .mov (.c (.int .i64 0))⟩])
  (.block 0 (.loop (.seq (.seq (.reg none [
        ⟨(some 11), none, .mov (.t 6)⟩,
        ⟨(some 12), none, .bin .lss (.t 11) (.c (.int .i64 60))⟩,
        ⟨(some 13), none, .mov (.t 12)⟩,
        ⟨(some 14), (some (13, true)), .mov (.t 5)⟩,
        ⟨(some 15), (some (13, true)), .len (.t 14)⟩,
        ⟨(some 16), (some (13, true)), .mov (.t 1)⟩,
        ⟨(some 17), (some (13, true)), .bin .lss (.t 15) (.t 16)⟩,
        ⟨(some 18), none, .pick (.t 13) (.t 17) (.c (.bool false))⟩])
     (.cond (.t 18) (.skip) (.exit 0)))
    (.seq (.block 1 (.seq (.reg none [
         ⟨(some 21), none, .mov (.t 0)⟩,
         ⟨(some 22), none, .mov (.t 1)⟩,
         ⟨(some 23), none, .call .n (.f 82) [(.t 21), (.t 22)]⟩,
         ⟨(some 7), none, .mov (.t 23)⟩])
      (.seq (.reg none [
         ⟨(some 8), none, .mov (.c (.bool false))⟩])
      (.seq (.seq (.reg none [
          ⟨(some 9), none, .mov (.c (.int .i64 0))⟩])
       (.block 2 (.loop (.seq (.seq (.reg none [
             ⟨(some 24), none, .mov (.t 9)⟩,
             ⟨(some 25), none, .mov (.t 5)⟩,
             ⟨(some 26), none, .len (.t 25)⟩,
             ⟨(some 27), none, .bin .lss (.t 24) (.t 26)⟩])
          (.cond (.t 27) (.skip) (.exit 2)))
         (.seq (.block 3 (.reg none [
             ⟨(some 30), none, .mov (.t 8)⟩,
             ⟨(some 31), none, .mov (.t 30)⟩,
             ⟨(some 32), (some (31, false)), .mov (.t 5)⟩,
             ⟨(some 33), (some (31, false)), .mov (.t 9)⟩,
             ⟨(some 34), (some (31, false)), .iad 1 (.t 32) (.t 33)⟩,
             ⟨(some 35), (some (31, false)), .load false 1 (.t 34)⟩,
             ⟨(some 36), (some (31, false)), .mov (.t 7)⟩,
             ⟨(some 37), (some (31, false)), .bin .eql (.t 35) (.t 36)⟩,
             ⟨(some 38), none, .pick (.t 31) (.c (.bool true)) (.t 37)⟩,
             ⟨(some 8), none, .mov (.t 38)⟩]))
         (.reg none [
           ⟨(some 28), none, .mov (.t 9)⟩,
           ⟨(some 29), none, .bin .add (.t 28) (.c (.int .i64 1))⟩,
           ⟨(some 9), none, .mov (.t 29)⟩]))))))
      (.seq (.reg none [
         ⟨(some 39), none, .mov (.t 8)⟩,
         ⟨(some 40), none, .un .not (.t 39)⟩])
      (.cond (.t 40) (.reg none [
         ⟨(some 41), none, .mov (.t 5)⟩,
         ⟨(some 42), none, .mov (.t 7)⟩,
         ⟨(some 43), none, .lit 1 3 1 [(.int .i64 0)] [(0, 1, (.t 42))]⟩,
         ⟨(some 44), none, .app 1 3 8 false (.t 41) (.t 43)⟩,
         ⟨(some 5), none, .mov (.t 44)⟩]) (.skip)))))))
    (.reg none [
      ⟨(some 19), none, .mov (.t 6)⟩,
      ⟨(some 20), none, .bin .add (.t 19) (.c (.int .i64 1))⟩,
      ⟨(some 6), none, .mov (.t 20)⟩]))))))
 drRowTail))⟩
def RowQ (H H' : Heap) (v : Value) : Prop := ∃ row : List Int, SlR Co.int (vwl H.length [] H') v row ∧ row.length ≤ 100
theorem drRowTail_ok {F : Nat → Option IFn} {lo : Nat} (hpk : F 82 = some c_pick) {H0 : Heap} {rb : Nat} {bv : Value} {code : List Int} (hc : RdC H0 rb bv code) {H Hc : Heap} {p q : Int} {e : Env} {b : Nat} {so : Bool} {l : List Int} (hs : St H0 rb bv q Hc) (hl : rb < H.length) (hx : AgX [rb] H Hc) (hO : OwnL Co.int 1 3 H.length [] Hc b so l) (hll : l.length ≤ 60) (hp : 0 ≤ p) (hpq : p ≤ q) (hq : q ≤ p + 60) (hp2 : p + 100 ≤ 1000000) (hlo : lo ≤ rb)
    (e0 : e 0 = ptr rb 0) (e5 : e 5 = sli b 0 l.length) : wpc F lo drRowTail e Hc (fin [.t 4] fun v H' => ∃ p', AgX [rb] H H' ∧ St H0 rb bv p' H' ∧ (p ≤ p' ∧ p' ≤ p + 100) ∧ RowQ H H' v) := by
  unfold drRowTail
  have hbl := hO.1
  refine seq_assoc (seq_reg ?_)
  simp only [go_sem, binC, e0]
  refine op_draw (n := 16) hpk hc hs (by omega) (by omega) hlo (by simp only [go_sem, binC, e0]) (by simp only [go_sem, binC]) fun H2 hl2 hx2 hs2 => ?_
  have ht2 := hx.tr hx2
  have hO2 : OwnL Co.int 1 3 H.length [] H2 b so l := hO.sub hx2 (by simp; omega) fun b' _ h1 h2 _ => ⟨by simp; omega, by simp⟩
  simp only [go_sem, binC]
  by_cases h0 : pickV code q 16 = 0
  · simp only [go_sem, binC, beq_t h0]
    refine seq_cond (t := true) rfl ?_
    simp only [go_sem, binC]
    refine seq_reg ?_
    simp only [go_sem, binC, e0, e5]
    refine op_draw (n := 3) hpk hc hs2 (by omega) (by omega) hlo (by simp only [go_sem, binC, e0]) (by simp only [go_sem, binC]) fun H3 hl3 hx3 hs3 => ?_
    have ht3 := ht2.tr hx3
    have hO3 : OwnL Co.int 1 3 H.length [] H3 b so l := hO2.sub hx3 (by simp; omega) fun b' _ h1 h2 _ => ⟨by simp; omega, by simp⟩
    have hbd := pickV_bd code (q + 1) (n := 3) (by omega)
    simp only [go_sem, binC, e5]
    refine op_app_own (A := Co.int) (lo := H.length) (a := pickV code (q + 1) 3) hO3 (by simp only [go_sem, binC, e5]) (by (simp only [go_sem, binC]) <;> rfl) (by omega) rfl ⟨rfl, by omega, by omega⟩ (by omega) (by omega) (by simp) fun H4 hx4 hO4 => ?_
    simp only [go_sem, binC]
    refine seq_reg ?_
    simp only [go_sem, binC]
    have hlen : (l ++ [pickV code (q + 1) 3]).length = l.length + 1 := by simp
    have hr := hO4.slR rfl (by simp)
    rw [hlen] at hr
    have ht4 : AgX [rb] H H4 := ht3.trans hx4 (fun _ h _ => h) (fun b' h1 h2 => by simp only [List.mem_singleton] at h1; omega)
    exact wpc_ret ⟨Or.inr rfl, _, (by (simp only [go_sem, binC]) <;> rfl), q + 1 + 1, ht4, hs3.mono hc hx4 (fun b' h1 => by simp only [List.mem_singleton] at h1; omega), by omega, _, hr, by omega⟩
  · simp only [go_sem, binC, beq_f h0]
    refine seq_cond (t := false) rfl ?_
    simp only [go_sem, binC]
    refine seq_skip (seq_reg ?_)
    simp only [go_sem, binC, e5]
    exact wpc_ret ⟨Or.inr rfl, _, (by (simp only [go_sem, binC]) <;> rfl), q + 1, ht2, hs2, by omega, _, hO2.slR rfl (by simp), by omega⟩
theorem drRow_ok {F : Nat → Option IFn} {f : Nat} (hf : F f = some c_drRow) (hpk : F 82 = some c_pick) {H0 : Heap} {rb : Nat} {bv : Value} {code : List Int} (hc : RdC H0 rb bv code) {n : Int} (hn : n ≤ 9223372036854775807) : DrawS F H0 rb bv f [.int .i64 n] 100 (fun H H' v => RowQ H H' v) := by
  refine DrawS.mk hf rfl fun H p lo hs hp hp2 hlo => ?_
  have hl := hs.lt
  refine seq_reg ?_
  simp only [go_sem, binC]
  refine seq_reg ?_
  simp only [go_sem, binC]
  refine wpc_gen fun H1 hH1 => ?_
  have hs1 : St H0 rb bv p H1 := hH1 ▸ hs.appN hc _
  have ht1 : AgX [rb] H H1 := hH1 ▸ AgX.app [rb] _ _
  have hO1 : OwnL Co.int 1 3 H.length [] H1 H.length true [] := hH1 ▸ OwnG.nil (Nat.le_refl _)
  clear hH1
  refine seq_assoc (seq_reg ?_)
  simp only [go_sem, binC]
  refine seq_block (wpc_loop ?_)
  suffices h : ∀ (k i : Nat) (e : Env) (Hc : Heap) (b : Nat) (so : Bool) (l : List Int), i + k = 60 → l.length ≤ i → St H0 rb bv (p + i) Hc → AgX [rb] H Hc → OwnL Co.int 1 3 H.length [] Hc b so l → e 0 = ptr rb 0 → e 1 = .int .i64 n → e 5 = sli b 0 l.length → e 6 = .int .i64 i → W F lo _ e Hc _ from
    h 60 0 _ H1 H.length true [] rfl (Nat.le_refl _) (by simpa using hs1) ht1 hO1 (by simp only [go_sem, binC]) (by simp only [go_sem, binC]) (by (simp only [go_sem, binC]) <;> rfl) (by (simp only [go_sem, binC]) <;> rfl)
  intro k
  induction k with
  | zero =>
    intro i e Hc b so l hik hli hsc hxc hO e0 e1 e5 e6
    refine lp_step ?_
    refine seq_assoc (seq_reg ?_)
    simp only [go_sem, binC, e0, e1, e5, e6]
    have hd : decide ((i : Int) < 60) = false := decide_eq_false (by omega)
    simp only [go_sem, binC, hd]
    refine seq_cond (t := false) (by simp only [go_sem, binC]) ?_
    simp only [go_sem, binC]
    refine seq_exit ?_
    simp only [go_sem, binC, thenX_e, out_e, thenX_n]
    exact drRowTail_ok hpk hc hsc hl hxc hO (by omega) hp (by omega) (by omega) hp2 hlo (by simp only [go_sem, binC, e0]) (by simp only [go_sem, binC, e5])
  | succ k ih =>
    intro i e Hc b so l hik hli hsc hxc hO e0 e1 e5 e6
    have hw1 : IntKind.i64.wrap ((i : Int) + 1) = ((i + 1 : Nat) : Int) := by rw [wrap_id (by omega) (by omega)]; omega
    refine lp_step ?_
    refine seq_assoc (seq_reg ?_)
    have hd : decide ((i : Int) < 60) = true := decide_eq_true (by omega)
    simp only [go_sem, binC, e0, e1, e5, e6, hd]
    by_cases hlt : (l.length : Int) < n
    rotate_left
    · simp only [go_sem, binC, decide_eq_false hlt]
      refine seq_cond (t := false) (by simp only [go_sem, binC]) ?_
      simp only [go_sem, binC]
      refine seq_exit ?_
      simp only [go_sem, binC, thenX_e, out_e, thenX_n]
      exact drRowTail_ok hpk hc hsc hl hxc hO (by omega) hp (by omega) (by omega) hp2 hlo (by simp only [go_sem, binC, e0]) (by simp only [go_sem, binC, e5])
    simp only [go_sem, binC, decide_eq_true hlt]
    refine seq_cond (t := true) (by simp only [go_sem, binC]) ?_
    simp only [go_sem, binC]
    refine seq_skip (seq_block (seq_reg ?_))
    simp only [go_sem, binC, e0, e1]
    refine op_draw (n := n) hpk hc hsc (by omega) (by omega) hlo (by simp only [go_sem, binC, e0]) (by simp only [go_sem, binC, e1]) fun H2 hl2 hx2 hs2 => ?_
    have hbl := hO.1
    have ht2 := hxc.tr hx2
    have hO2 : OwnL Co.int 1 3 H.length [] H2 b so l := hO.sub hx2 (by simp; omega) fun b' _ h1 h2 _ => ⟨by simp; omega, by simp⟩
    have hbd := pickV_i64 code (p + i) hn
    generalize pickV code (p + i) n = kv at hbd
    simp only [go_sem, binC]
    refine seq_reg ?_
    simp only [go_sem, binC]
    refine seq_assoc (seq_reg ?_)
    simp only [go_sem, binC]
    refine seq_block (wpc_loop ?_)
    suffices hin : ∀ (k2 m : Nat) (e2 : Env) (t : Bool), m + k2 = l.length → e2 0 = ptr rb 0 → e2 1 = .int .i64 n → e2 5 = sli b 0 l.length → e2 6 = .int .i64 i → e2 7 = .int .i64 kv → e2 8 = .bool t → e2 9 = .int .i64 m → W F lo _ e2 H2 _ from
      hin l.length 0 _ false (by omega) (by simp only [go_sem, binC, e0]) (by simp only [go_sem, binC, e1]) (by simp only [go_sem, binC, e5]) (by simp only [go_sem, binC, e6]) (by simp only [go_sem, binC]) (by simp only [go_sem, binC]) (by (simp only [go_sem, binC]) <;> rfl)
    intro k2
    induction k2 with
    | zero =>
      intro m e2 t hm f0 f1 f5 f6 f7 f8 f9
      refine lp_step ?_
      refine seq_assoc (seq_reg ?_)
      simp only [go_sem, binC, f5, f9]
      refine seq_cond (t := false) (by simp only [go_sem, binC]; rw [decide_eq_false (by omega)]) ?_
      simp only [go_sem, binC]
      refine seq_exit ?_
      simp only [go_sem, binC, thenX_e, out_e, thenX_n]
      refine seq_reg ?_
      simp only [go_sem, binC, f8]
      cases t with
      | true =>
        simp only [go_sem, binC]
        refine wpc_cond (t := false) (by simp only [go_sem, binC]) ?_
        simp only [go_sem, binC]
        refine wpc_skip ?_
        simp only [go_sem, binC, out_n, thenX_n]
        refine wpc_reg ?_
        simp only [go_sem, binC, f6, hw1]
        simp only [go_sem, binC, thenX_n]
        exact ih (i + 1) _ H2 b so l (by omega) (by omega) (by rw [show p + ((i + 1 : Nat) : Int) = p + i + 1 by omega]; exact hs2) ht2 hO2 (by simp only [go_sem, binC, f0]) (by simp only [go_sem, binC, f1]) (by simp only [go_sem, binC, f5]) (by simp only [go_sem, binC])
      | false =>
        simp only [go_sem, binC]
        refine wpc_cond (t := true) (by simp only [go_sem, binC]) ?_
        simp only [go_sem, binC]
        refine wpc_reg ?_
        simp only [go_sem, binC, f5, f7]
        refine op_app_own (A := Co.int) (lo := H.length) (a := kv) hO2 (by simp only [go_sem, binC, f5]) (by (simp only [go_sem, binC]) <;> rfl) (by omega) rfl ⟨rfl, by omega, by omega⟩ (by omega) (by omega) (by simp) fun H4 hx4 hO4 => ?_
        simp only [go_sem, binC, out_n, thenX_n]
        refine wpc_reg ?_
        simp only [go_sem, binC, f6, hw1]
        simp only [go_sem, binC, thenX_n]
        have hlen : (l ++ [kv]).length = l.length + 1 := by simp
        have ht4 : AgX [rb] H H4 := ht2.trans hx4 (fun _ h _ => h) (fun b' h1 h2 => by simp only [List.mem_singleton] at h1; omega)
        refine ih (i + 1) _ H4 (H2.length + 1) _ (l ++ [kv]) (by omega) (by omega) ?_ ht4 hO4 (by simp only [go_sem, binC, f0]) (by simp only [go_sem, binC, f1]) (by (simp only [go_sem, binC, hlen]) <;> rfl) (by simp only [go_sem, binC])
        rw [show p + ((i + 1 : Nat) : Int) = p + i + 1 by omega]
        exact hs2.mono hc hx4 (fun b' h1 => by simp only [List.mem_singleton] at h1; omega)
    | succ k2 ih2 =>
      intro m e2 t hm f0 f1 f5 f6 f7 f8 f9
      have hml : m < l.length := by omega
      obtain ⟨b9, o9, hv9, hg9⟩ := gcI ((hO2.slR rfl (by simp)).mono (vwl0 _ _ _)) hml
      simp only [sli, Value.slice.injEq, Option.some.injEq, Addr.mk.injEq, and_true] at hv9
      obtain ⟨rfl, rfl⟩ := hv9
      have hw2 : IntKind.i64.wrap ((m : Int) + 1) = ((m + 1 : Nat) : Int) := by rw [wrap_id (by omega) (by omega)]; omega
      refine lp_step ?_
      refine seq_assoc (seq_reg ?_)
      simp only [go_sem, binC, f5, f9]
      refine seq_cond (t := true) (by simp only [go_sem, binC]; rw [decide_eq_true (by omega)]) ?_
      simp only [go_sem, binC]
      refine seq_skip (seq_block (wpc_reg ?_))
      cases t with
      | true =>
        simp only [go_sem, binC, f8]
        simp only [go_sem, binC, out_n, thenX_n]
        refine wpc_reg ?_
        simp only [go_sem, binC, f9, hw2]
        simp only [go_sem, binC, thenX_n]
        exact ih2 (m + 1) _ true (by omega) (by simp only [go_sem, binC, f0]) (by simp only [go_sem, binC, f1]) (by simp only [go_sem, binC, f5]) (by simp only [go_sem, binC, f6]) (by simp only [go_sem, binC, f7]) (by simp only [go_sem, binC]) (by simp only [go_sem, binC])
      | false =>
        simp only [go_sem, binC, f5, f7, f8, f9, sli]
        refine ⟨⟨by omega, by omega⟩, ?_⟩
        rw [Nat.zero_add] at hg9
        simp only [go_sem, binC, f7, Int.toNat_natCast, Nat.mul_one, hg9]
        simp only [go_sem, binC, out_n, thenX_n]
        refine wpc_reg ?_
        simp only [go_sem, binC, f9, hw2]
        simp only [go_sem, binC, thenX_n]
        exact ih2 (m + 1) _ _ (by omega) (by simp only [go_sem, binC, f0]) (by simp only [go_sem, binC, f1]) (by simp only [go_sem, binC, f5, sli]) (by simp only [go_sem, binC, f6]) (by simp only [go_sem, binC, f7]) (by simp only [go_sem, binC]; rfl) (by simp only [go_sem, binC])
end Go.Proofs.YtemnemmnfnpnoaaI
end
section
/- A program and a row, drawn. -/
set_option linter.unusedVariables false
set_option linter.unusedSimpArgs false
namespace Go.Proofs.YtemnemmnfnpnoaaI
open Go Go.RowKit
def c_drTP : IFn := ⟨1, 11, [.cell true 2 2, .t 3],
 .seq (.reg none [
    ⟨(some 2), none, .new [(.slice none 0 0), (.slice none 0 0)]⟩,
    ⟨(some 3), none, .mov (.c (.slice none 0 0))⟩])
 (.seq (.reg none [
    ⟨(some 5), none, .mov (.t 0)⟩,
    ⟨(some 6), none, .call .n (.f 52) [(.t 5)]⟩,
    ⟨(some 4), none, .mov (.t 6)⟩])
 (.seq (.reg none [
    ⟨(some 7), none, .mov (.t 4)⟩,
    ⟨(some 8), none, .call .n (.f 53) [(.t 7)]⟩,
    ⟨(some 9), none, .mov (.t 4)⟩,
    ⟨(some 10), none, .call .n (.f 54) [(.t 9), (.c (.int .i64 3))]⟩,
    ⟨none, none, .store 2 (.t 2) (.t 8)⟩,
    ⟨(some 3), none, .mov (.t 10)⟩])
 (.ret)))⟩
def DrawNumsOk (F : Nat → Option IFn) (f : Nat) : Prop := ∀ (H : Heap) (v : Value) (code : List Int), SlR Co.byte (vw 0 H) v code → ∃ (d : Nat) (lv sv nv : Value) (ls : List (Int × Int)) (l : List (TStep d)) (nums : List Int) (H' : Heap), KC F f [v] H (.tuple #[.agg #[lv, sv], nv]) H' ∧
  (AgX [] H H' ∧ SlR Co.p2 (vw 0 H') lv ls ∧ SlR (Co.step d) (vw 0 H') sv l ∧ (Co.prog d).sm (ls, l) ∧ SlR Co.int (vw 0 H') nv nums)
def DrawNumsV (F : Nat → Option IFn) (f : Nat) : Prop := ∀ (H : Heap) (v : Value) (code : List Int), SlR Co.byte (vw 0 H) v code → ∃ (d : Nat) (lv sv nv : Value) (ls : List (Int × Int)) (l : List (TStep d)) (nums : List Int) (H' : Heap), KC F f [v] H (.tuple #[.agg #[lv, sv], nv]) H' ∧
  (AgX [] H H' ∧ SlR Co.p2 (vwl H.length [] H') lv ls ∧ SlR (Co.step d) (vwl H.length [] H') sv l ∧ (Co.prog d).sm (ls, l) ∧ SlR Co.int (vwl H.length [] H') nv nums)
theorem DrawNumsV.ok {F : Nat → Option IFn} {f : Nat} (h : DrawNumsV F f) : DrawNumsOk F f := by
  intro H v code hv
  obtain ⟨d, lv, sv, nv, ls, l, nums, H', h1, h2, r1, r2, r3, r4⟩ := h H v code hv
  exact ⟨d, lv, sv, nv, ls, l, nums, H', h1, h2, r1.mono (vwl0 _ _ _), r2.mono (vwl0 _ _ _), r3, r4.mono (vwl0 _ _ _)⟩
theorem drTP_ok {F : Nat → Option IFn} {f : Nat} (hf : F f = some c_drTP) (hop : F 52 = some c_l6Open) (hpk : F 82 = some c_pick) (hrw : F 54 = some c_drRow) (gan : ∀ {H0 : Heap} {rb : Nat} {bv : Value} {code : List Int}, RdC H0 rb bv code → DrawS F H0 rb bv 53 [] 90000 ProgR) : DrawNumsOk F f := by
  refine DrawNumsV.ok fun H v code hv => ?_
  suffices h : ∃ w H', KC F f [v] H w H' ∧ (∃ (d : Nat) (lv sv nv : Value) (ls : List (Int × Int)) (l : List (TStep d)) (nums : List Int), w = .tuple #[.agg #[lv, sv], nv] ∧ (AgX [] H H' ∧ SlR Co.p2 (vwl H.length [] H') lv ls ∧ SlR (Co.step d) (vwl H.length [] H') sv l ∧ (Co.prog d).sm (ls, l) ∧ SlR Co.int (vwl H.length [] H') nv nums)) by
    obtain ⟨w, H', h1, d, lv, sv, nv, ls, l, nums, rfl, h2⟩ := h
    exact ⟨d, lv, sv, nv, ls, l, nums, H', h1, h2⟩
  refine KC.mk hf rfl ?_
  refine seq_reg ?_
  simp only [go_sem, binC]
  refine wpc_gen fun H1 hH1 => ?_
  have ht1 : AgX [] H H1 := hH1 ▸ AgX.app [] _ _
  have hb1 : H1[H.length]? = some ⟨[nilS, nilS], 0, 0, false, true⟩ := hH1 ▸ get_new0 _ _
  have hn1 : H1.length = H.length + 1 := by rw [hH1, List.length_append]; rfl
  clear hH1
  refine seq_reg ?_
  simp only [go_sem, binC]
  obtain ⟨bv, code', k2, hc, hs2⟩ := l6Open_ok hop (hv.mono (agx_sub ht1)) H.length ht1.1
  refine op_callN (by simp only [go_sem, binC]; exact k2) ?_
  simp only [go_sem, binC]
  refine wpc_gen fun H2 hH2 => ?_
  rw [← hH2] at hs2
  have ht2 : AgX [] H H2 := hH2 ▸ ht1.appN _
  have hb2 : H2[H.length]? = some ⟨[nilS, nilS], 0, 0, false, true⟩ := by rw [hH2, List.getElem?_append_left (List.getElem?_eq_some_iff.1 hb1).1]; exact hb1
  have hn2 : H2.length = H1.length + 1 := by rw [hH2, List.length_append]; rfl
  clear hH2
  refine seq_reg ?_
  simp only [go_sem, binC]
  obtain ⟨v3, H3, p3, k3, x3, s3, c3, d, lv, sv, ls, l, rfl, r1, r2, r3, r4, r5⟩ := gan hc H2 0 H.length hs2 (by omega) (by omega) (by omega)
  refine op_callN (by simp only [go_sem, binC]; exact k3) ?_
  have olv : one lv = true := by obtain ⟨_, a, rfl, _⟩ := r1; rfl
  have osv : one sv = true := by obtain ⟨_, a, rfl, _⟩ := r2; rfl
  have hl3 := x3.1
  simp only [go_sem, binC, olv, osv]
  obtain ⟨v5, H5, p5, k5, x5, s5, c5, row, hns, hnl⟩ := drRow_ok hrw hpk hc (n := 3) (by omega) H3 p3 H.length s3 (by omega) (by omega) (by omega)
  refine op_callN (by simp only [go_sem, binC]; exact k5) ?_
  have hb5 := x5.get (x3.get hb2 (by simp; omega)) (by simp; omega)
  have hb5l := (List.getElem?_eq_some_iff.1 hb5).1
  simp only [go_sem, binC, hb5, olv, osv]
  have hvf : Sub (vwl H2.length [] H3) (vwl H.length [] (H5.set H.length ⟨[lv, sv], 0, 0, false, true⟩)) := (vwl_sub x5 (Nat.le_refl _) (xs' := []) fun b' h1 h2 _ => ⟨by simp; omega, by simp⟩ : Sub (vwl H2.length [] H3) (vwl H2.length [] H5)).trans (vwl_sub (AgX.set H5 H.length _) (show H.length ≤ H2.length by omega) (xs' := []) fun b' h1 h2 _ => ⟨by simp; omega, by simp⟩)
  have hvn : Sub (vwl H3.length [] H5) (vwl H.length [] (H5.set H.length ⟨[lv, sv], 0, 0, false, true⟩)) := vwl_sub (AgX.set H5 H.length _) (show H.length ≤ H3.length by omega) (xs' := []) fun b' h1 h2 h3 => ⟨by simp; omega, h3⟩
  refine wpc_ret ⟨Or.inr rfl, .tuple #[.agg #[lv, sv], v5], ?_, ?_⟩
  · obtain ⟨_, a5, rfl, _⟩ := hns
    simp [resV, resL, res1, putE_get, notT, ptr, gc_set hb5l, inBlk_some, valOf]
  · refine ⟨d, lv, sv, v5, ls, l, row, rfl, ?_, r1.mono hvf, r2.mono hvf, r3, hns.mono hvn⟩
    exact (ht2.trans (x3.tr x5) (fun _ h _ => h) (fun b h1 h2 => by simp at h1; omega)).setN (Nat.le_refl _) _
end Go.Proofs.YtemnemmnfnpnoaaI
end
section
/- Programs whose variables are named otherwise, and named back: plain facts. -/
set_option linter.unusedVariables false
set_option linter.unusedSimpArgs false
namespace Go.Proofs.YtemnemmnfnpnoaaI
open Go Go.RowKit
theorem mapT_succ (T : Shal → Shal) (n : Nat) (k x : Int) (v : Int × Int × Int) (g : Int) (th el : List (TStep n)) : mapT T (n + 1) (k, x, v, g, th, el) = ((T (k, x, v, g)).1, (T (k, x, v, g)).2.1, (T (k, x, v, g)).2.2.1, (T (k, x, v, g)).2.2.2, th.map (mapT T n), el.map (mapT T n)) := rfl
theorem cntT_map (T : Shal → Shal) : ∀ (n : Nat) (s : TStep n), cntT n (mapT T n s) = cntT n s
  | 0, s => s.elim
  | n + 1, (k, x, v, g, th, el) => by
    have go : ∀ l : List (TStep n), ((l.map (mapT T n)).map (cntT n)) = l.map (cntT n) := fun l => by
      rw [List.map_map]
      exact List.map_congr_left fun a _ => cntT_map T n a
    rw [mapT_succ]
    show 1 + ((((th.map (mapT T n)).map (cntT n))).sum + (((el.map (mapT T n)).map (cntT n))).sum) = _
    rw [go, go]
    rfl
theorem cntL_map (T : Shal → Shal) {n : Nat} (l : List (TStep n)) : cntL n (l.map (mapT T n)) = cntL n l := by
  unfold cntL
  rw [List.map_map]
  congr 1
  exact List.map_congr_left fun a _ => cntT_map T n a
/-- What leaves steps in form. -/
structure GoodT (k : Nat) (T : Shal → Shal) : Prop where
  kd : ∀ s, (T s).1 = s.1
  vr : ∀ s, varB k s.2.1 = true → varB k (T s).2.1 = true
  vl : ∀ s, valB k s.2.2.1 = true → valB k (T s).2.2.1 = true
  v0 : ∀ s, s.2.2.1 = (0, 0, 0) → (T s).2.2.1 = (0, 0, 0)
  h0 : ∀ s, s.1 ≠ 3 → (T s).2.2.2 = s.2.2.2
  h3 : ∀ s, s.1 = 3 → inB s.2.2.2 0 2 = true → inB (T s).2.2.2 0 2 = true
theorem stepB_map {k : Nat} {T : Shal → Shal} (hT : GoodT k T) : ∀ (n : Nat) (d : Int) (s : TStep n), stepB k n d s = true → stepB k n d (mapT T n s) = true
  | 0, _, s, _ => s.elim
  | n + 1, d, (kd, vr, v, ho, th, el), h => by
    have go : ∀ l : List (TStep n), l.all (stepB k n (d - 1)) = true → (l.map (mapT T n)).all (stepB k n (d - 1)) = true := fun l hl => by
      rw [List.all_eq_true] at hl ⊢
      intro a ha
      obtain ⟨a', ha', rfl⟩ := List.mem_map.1 ha
      exact stepB_map hT n (d - 1) a' (hl a' ha')
    have q0 := hT.kd (kd, vr, v, ho)
    have q1 := hT.vr (kd, vr, v, ho)
    have q2 := hT.vl (kd, vr, v, ho)
    have q3 := hT.v0 (kd, vr, v, ho)
    have q4 := hT.h0 (kd, vr, v, ho)
    have q5 := hT.h3 (kd, vr, v, ho)
    rw [mapT_succ]
    generalize T (kd, vr, v, ho) = t at *
    obtain ⟨kd', vr', v', ho'⟩ := t
    simp only at q0 q1 q2 q3 q4 q5 ⊢
    subst q0
    simp only [stepB, Bool.and_eq_true, decide_eq_true_eq] at h ⊢
    obtain ⟨⟨h1, hv⟩, h⟩ := h
    refine ⟨⟨h1, q1 hv⟩, ?_⟩
    by_cases k1 : kd' = 1
    · rw [if_pos k1] at h ⊢
      simp only [Bool.and_eq_true, decide_eq_true_eq, List.length_map] at h ⊢
      exact ⟨⟨q2 h.1.1, by rw [q4 (by omega)]; exact h.1.2⟩, h.2⟩
    rw [if_neg k1] at h ⊢
    by_cases k3 : kd' = 3
    · rw [if_pos k3] at h ⊢
      simp only [Bool.and_eq_true, decide_eq_true_eq, List.length_map] at h ⊢
      exact ⟨⟨q3 h.1.1, q5 k3 h.1.2⟩, h.2⟩
    rw [if_neg k3] at h ⊢
    by_cases k2 : kd' = 2
    · rw [if_pos k2] at h ⊢
      simp only [Bool.and_eq_true, decide_eq_true_eq] at h ⊢
      exact ⟨⟨⟨q3 h.1.1.1, by rw [q4 (by omega)]; exact h.1.1.2⟩, go th h.1.2⟩, go el h.2⟩
    · rw [if_neg k2] at h; cases h
theorem progB_map {n : Nat} {ls ls' : List (Int × Int)} {l : List (TStep n)} {T : Shal → Shal} (hT : GoodT ls.length T) (h : progB n (ls, l) = true) (hl : ls'.length = ls.length) (hls : ls'.all labB = true) : progB n (ls', l.map (mapT T n)) = true := by
  simp only [progB, Bool.and_eq_true, decide_eq_true_eq] at h ⊢
  obtain ⟨⟨⟨h1, h2⟩, h3⟩, h4⟩ := h
  refine ⟨⟨⟨by rw [hl]; exact h1, hls⟩, ?_⟩, by rw [cntL_map]; exact h4⟩
  rw [hl, List.all_eq_true]
  intro a ha
  obtain ⟨a', ha', rfl⟩ := List.mem_map.1 ha
  exact stepB_map hT n 3 a' (List.all_eq_true.1 h3 a' ha')
theorem step_sm_map {T : Shal → Shal} : ∀ (n : Nat) (s : TStep n), (Co.step n).sm s → (Co.step n).sm (mapT T n s)
  | 0, s, _ => s.elim
  | n + 1, (k, x, v, g, th, el), h => by
    have go : ∀ l : List (TStep n), (Co.sl (Co.step n)).sm l → (Co.sl (Co.step n)).sm (l.map (mapT T n)) := fun l hl => ⟨by rw [List.length_map]; exact hl.1, fun a ha => by
      obtain ⟨a', ha', rfl⟩ := List.mem_map.1 ha
      exact step_sm_map n a' (hl.2 a' ha')⟩
    obtain ⟨h1, h2, h3, h4, h5, h6⟩ := h
    exact ⟨trivial, trivial, ⟨trivial, trivial, trivial⟩, trivial, go th h5, go el h6⟩
theorem steps_sm_map {T : Shal → Shal} {n : Nat} {l : List (TStep n)} (hl : (Co.sl (Co.step n)).sm l) : (Co.sl (Co.step n)).sm (l.map (mapT T n)) := ⟨by rw [List.length_map]; exact hl.1, fun a ha => by
  obtain ⟨a', ha', rfl⟩ := List.mem_map.1 ha
  exact step_sm_map n a' (hl.2 a' ha')⟩
theorem labs_sm {ls : List (Int × Int)} (h : ls.length ≤ 1048576) : (Co.sl Co.p2).sm ls := ⟨h, fun a _ => ⟨trivial, trivial⟩⟩
/-! ### Names -/
theorem nameO_get {row : List Int} {k : Nat} (hr : rowB row k = true) {x : Int} (hx : 0 ≤ x ∧ x < k) : ∃ h : x.toNat < row.length, nameO row x = row[x.toNat] ∧ 0 ≤ nameO row x ∧ nameO row x < k := by
  obtain ⟨h1, h2, h3⟩ := rowB_iff.1 hr
  have h : x.toNat < row.length := by omega
  have e : nameO row x = row[x.toNat] := by
    unfold nameO
    rw [List.getD_eq_getElem?_getD, List.getElem?_eq_getElem h]
    rfl
  have := h2 _ (List.getElem_mem h)
  exact ⟨h, e, by omega, by omega⟩
end Go.Proofs.YtemnemmnfnpnoaaI
end
section
/- The law FnTurnVars on the ideal machine. -/
set_option linter.unusedVariables false
set_option linter.unusedSimpArgs false
namespace Go.Proofs.YtemnemmnfnpnoaaI
open Go Go.RowKit
theorem turnO_sm {n : Nat} {m : Nat → Nat} {lab : List Int → List (Int × Int) → List (Int × Int)} {T : List Int → Shal → Shal} {ls : List (Int × Int)} {l : List (TStep n)} {row : List Int} (h : (Co.prog n).sm (ls, l)) (hl : (lab row ls).length = ls.length) : (Co.prog n).sm (turnO n m lab T ls l row) := by
  unfold turnO
  split
  · exact ⟨labs_sm (by rw [hl]; exact h.1.1), steps_sm_map h.2⟩
  · exact ⟨⟨by simp, by simp⟩, ⟨by simp, by simp⟩⟩
end Go.Proofs.YtemnemmnfnpnoaaI
end
section
/- Sets of hosts that are named otherwise. -/
set_option linter.unusedVariables false
set_option linter.unusedSimpArgs false
namespace Go.Proofs.YtemnemmnfnpnoaaI
open Go Go.RowKit
def c_turned : IFn := ⟨2, 24, [.t 4],
 .seq (.reg none [
    ⟨(some 4), none, .mov (.c (.int .i64 0))⟩])
 (.seq (.reg none [
    ⟨(some 5), none, .mov (.c (.int .i64 0))⟩])
 (.seq (.seq (.reg none [
     ⟨(some 8), none, .mov (.t 1)⟩,
     ⟨(some 9), none, .len (.t 8)⟩,
     ⟨(some 10), none, .mov (.c (.int .i64 0))⟩])
  (.block 0 (.loop (.seq (.reg none [
       ⟨(some 11), none, .bin .lss (.t 10) (.t 9)⟩])
    (.seq (.cond (.t 11) (.skip) (.exit 0))
    (.seq (.block 1 (.seq (.reg none [
         ⟨(some 12), none, .mov (.t 10)⟩,
         ⟨(some 13), none, .iad 1 (.t 8) (.t 10)⟩,
         ⟨(some 14), none, .load false 1 (.t 13)⟩,
         ⟨(some 6), none, .mov (.t 12)⟩,
         ⟨(some 7), none, .mov (.t 14)⟩])
      (.seq (.reg none [
         ⟨(some 15), none, .mov (.t 0)⟩,
         ⟨(some 16), none, .mov (.t 6)⟩,
         ⟨(some 17), none, .call .q (.f 92) [(.t 15), (.t 16)]⟩])
      (.cond (.t 17) (.reg none [
         ⟨(some 18), none, .mov (.t 5)⟩,
         ⟨(some 19), none, .mov (.t 7)⟩,
         ⟨(some 20), none, .bin .shl (.c (.int .i64 1)) (.t 19)⟩,
         ⟨(some 21), none, .bin .or (.t 18) (.t 20)⟩,
         ⟨(some 5), none, .mov (.t 21)⟩]) (.skip)))))
    (.reg none [
      ⟨(some 22), none, .bin .add (.t 10) (.c (.int .i64 1))⟩,
      ⟨(some 10), none, .mov (.t 22)⟩])))))))
 (.seq (.reg none [
    ⟨(some 23), none, .mov (.t 5)⟩,
    ⟨(some 4), none, .mov (.t 23)⟩])
 (.ret))))⟩
def c_sTSet : IFn := ⟨2, 30, [.t 4],
 .seq (.reg none [
    ⟨(some 4), none, .mov (.c (.int .i64 0))⟩])
 (.seq (.reg none [
    ⟨(some 5), none, .mov (.c (.int .i64 0))⟩])
 (.seq (.seq (.reg none [
     ⟨(some 6), none, .mov (.c (.int .i64 0))⟩])
  (.block 0 (.loop (.seq (.seq (.reg none [
        ⟨(some 7), none, .mov (.t 6)⟩,
        ⟨(some 8), none, .bin .lss (.t 7) (.c (.int .i64 3))⟩,
        ⟨(some 9), none, .mov (.t 8)⟩,
        ⟨(some 10), (some (9, true)), .mov (.t 0)⟩,
        ⟨(some 11), (some (9, true)), .call .q (.f 90) [(.t 10)]⟩,
        ⟨(some 12), none, .pick (.t 9) (.t 11) (.c (.bool false))⟩,
        ⟨(some 13), none, .mov (.t 12)⟩,
        ⟨(some 14), (some (13, true)), .mov (.t 1)⟩,
        ⟨(some 15), (some (13, true)), .call .q (.f 38) [(.t 14), (.c (.int .i64 3))]⟩,
        ⟨(some 16), none, .pick (.t 13) (.t 15) (.c (.bool false))⟩])
     (.cond (.t 16) (.skip) (.exit 0)))
    (.seq (.block 1 (.seq (.reg none [
         ⟨(some 19), none, .mov (.t 0)⟩,
         ⟨(some 20), none, .mov (.t 6)⟩,
         ⟨(some 21), none, .call .q (.f 91) [(.t 19), (.t 20)]⟩])
      (.cond (.t 21) (.reg none [
         ⟨(some 22), none, .mov (.t 5)⟩,
         ⟨(some 23), none, .mov (.t 1)⟩,
         ⟨(some 24), none, .mov (.t 6)⟩,
         ⟨(some 25), none, .iad 1 (.t 23) (.t 24)⟩,
         ⟨(some 26), none, .load false 1 (.t 25)⟩,
         ⟨(some 27), none, .bin .shl (.c (.int .i64 1)) (.t 26)⟩,
         ⟨(some 28), none, .bin .add (.t 22) (.t 27)⟩,
         ⟨(some 5), none, .mov (.t 28)⟩]) (.skip))))
    (.reg none [
      ⟨(some 17), none, .mov (.t 6)⟩,
      ⟨(some 18), none, .bin .add (.t 17) (.c (.int .i64 1))⟩,
      ⟨(some 6), none, .mov (.t 18)⟩]))))))
 (.seq (.reg none [
    ⟨(some 29), none, .mov (.t 5)⟩,
    ⟨(some 4), none, .mov (.t 29)⟩])
 (.ret))))⟩
theorem row3 {row : List Int} (h : rowB row 3 = true) : row = [0, 1, 2] ∨ row = [0, 2, 1] ∨ row = [1, 0, 2] ∨ row = [1, 2, 0] ∨ row = [2, 0, 1] ∨ row = [2, 1, 0] := by
  obtain ⟨h1, h2, h3⟩ := rowB_iff.1 h
  match row, h1 with
  | [a, b, c], _ =>
    have ha := h2 a (by simp)
    have hb := h2 b (by simp)
    have hc := h2 c (by simp)
    simp only [List.nodup_cons, List.mem_cons, List.not_mem_nil, or_false, not_or, not_false_eq_true, and_true] at h3
    obtain ⟨⟨d1, d2⟩, d3, -⟩ := h3
    have qa : a = 0 ∨ a = 1 ∨ a = 2 := by omega
    have qb : b = 0 ∨ b = 1 ∨ b = 2 := by omega
    have qc : c = 0 ∨ c = 1 ∨ c = 2 := by omega
    rcases qa with rfl | rfl | rfl <;> rcases qb with rfl | rfl | rfl <;> rcases qc with rfl | rfl | rfl <;> first | (exfalso; omega) | simp
/-- The set of new names, host by host. -/
def tsI (row : List Int) (s : Int) : Nat → Int
  | 0 => 0
  | i + 1 => tsI row s i + (if hasB s i = true then 2 ^ (row.getD i 0).toNat else 0)
def tset (row : List Int) (s : Int) : Int := tsI row s 3
theorem set8c {s : Int} (h : 0 ≤ s ∧ s ≤ 7) : s = 0 ∨ s = 1 ∨ s = 2 ∨ s = 3 ∨ s = 4 ∨ s = 5 ∨ s = 6 ∨ s = 7 := by omega
theorem ts_or {row : List Int} {s : Int} {i : Nat} (hr : rowB row 3 = true) (hs : 0 ≤ s ∧ s ≤ 7) (hi : i < 3) :
    IntKind.i64.wrap ((BitVec.ofInt 64 (tsI row s i) ||| BitVec.ofInt 64 (2 ^ (row.getD i 0).toNat)).toNat : Nat) = tsI row s i + 2 ^ (row.getD i 0).toNat ∧ IntKind.i64.wrap (tsI row s i + 2 ^ (row.getD i 0).toNat) = tsI row s i + 2 ^ (row.getD i 0).toNat ∧ IntKind.i64.wrap (1 * 2 ^ (min (row.getD i 0).toNat 64)) = 2 ^ (row.getD i 0).toNat := by
  have qi : i = 0 ∨ i = 1 ∨ i = 2 := by omega
  rcases row3 hr with rfl | rfl | rfl | rfl | rfl | rfl <;> rcases qi with rfl | rfl | rfl <;> rcases set8c hs with rfl | rfl | rfl | rfl | rfl | rfl | rfl | rfl <;> decide +kernel
theorem binI_or (k : IntKind) (x y : Int) : binI .or k x y = some (.int k (k.wrap ((BitVec.ofInt k.bits x ||| BitVec.ofInt k.bits y).toNat : Nat))) := rfl
theorem binI_shl {k : IntKind} {x y : Int} (h : 0 ≤ y) : binI .shl k x y = some (.int k (k.wrap (x * 2 ^ (min y.toNat k.bits)))) := by
  show (if y < 0 then none else _) = _
  rw [if_neg (by omega)]
theorem getD_int {l : List Int} {i : Nat} (h : i < l.length) : l.getD i 0 = l[i] := by simp [List.getD, h]
theorem turned_ok {F : Nat → Option IFn} {f : Nat} (hf : F f = some c_turned) (gh : HasOk F 92) : ∀ (H : Heap) (s : Int) (v : Value) (row : List Int), 0 ≤ s ∧ s ≤ 7 → rowB row 3 = true → SlR Co.int (vw 0 H) v row → QC F f [.int .i64 s, v] H (.int .i64 (tset row s)) := by
  intro H s v row hs hr r
  obtain ⟨_, a, rfl, _⟩ := id r
  obtain ⟨hr1, hr2, hr3⟩ := rowB_iff.1 hr
  refine QC.mk hf rfl ?_
  refine seq_reg ?_
  simp only [go_sem, binC]
  refine seq_reg ?_
  simp only [go_sem, binC]
  refine seq_assoc (seq_reg ?_)
  simp only [go_sem, binC]
  refine seq_block (wpc_loop ?_)
  suffices h : ∀ (k i : Nat) (e : Env), i + k = 3 → e 0 = .int .i64 s → e 5 = .int .i64 (tsI row s i) → e 8 = .slice a row.length row.length → e 9 = .int .i64 row.length → e 10 = .int .i64 i → W F H.length _ e H _ from
    h 3 0 _ rfl (by simp only [go_sem, binC]) (by (simp only [go_sem, binC]) <;> rfl) (by simp only [go_sem, binC]) (by simp only [go_sem, binC]) (by (simp only [go_sem, binC]) <;> rfl)
  intro k
  induction k with
  | zero =>
    intro i e hi e0 e5 e8 e9 e10
    obtain rfl : i = 3 := hi
    refine lp_step ?_
    refine seq_reg ?_
    simp only [go_sem, binC, e9, e10]
    refine seq_cond (t := false) (by simp only [go_sem, binC]; rw [decide_eq_false (by omega)]) ?_
    simp only [go_sem, binC]
    refine seq_exit ?_
    simp only [go_sem, binC, thenX_e, out_e, thenX_n]
    refine seq_reg ?_
    simp only [go_sem, binC, e5]
    exact wpc_ret ⟨Or.inr rfl, _, (by (simp only [go_sem, binC]) <;> rfl), rfl, rfl⟩
  | succ k ih =>
    intro i e hi e0 e5 e8 e9 e10
    have hil : i < row.length := by omega
    have hw1 : IntKind.i64.wrap ((i : Int) + 1) = ((i + 1 : Nat) : Int) := by rw [wrap_id (by omega) (by omega)]; omega
    obtain ⟨b, o, hv1, hg⟩ := gcI r hil
    simp only [Value.slice.injEq, and_true] at hv1
    subst hv1
    obtain ⟨t1, t2, t3⟩ := ts_or hr hs (i := i) (by omega)
    have hgd := getD_int hil
    have h0 := (hr2 _ (List.getElem_mem hil)).1
    refine lp_step ?_
    refine seq_reg ?_
    simp only [go_sem, binC, e9, e10]
    refine seq_cond (t := true) (by simp only [go_sem, binC]; rw [decide_eq_true (by omega)]) ?_
    simp only [go_sem, binC]
    refine seq_skip (seq_block (seq_reg ?_))
    simp only [go_sem, binC, e8, e10]
    refine ⟨⟨by omega, by omega⟩, ?_⟩
    simp only [go_sem, binC, Int.toNat_natCast, Nat.mul_one, hg]
    refine seq_reg ?_
    simp only [go_sem, binC, e0]
    refine op_callB (by simp only [go_sem, binC, e0]; exact gh H s i hs.1 hs.2) (fun hh => ?_) (fun hh => ?_)
    · simp only [go_sem, binC]
      refine wpc_cond (t := true) rfl ?_
      simp only [go_sem, binC]
      refine wpc_reg ?_
      rw [hgd] at t1 t2 t3
      have hsh : binI .shl .i64 1 row[i] = some (.int .i64 (2 ^ row[i].toNat)) := by rw [binI_shl h0]; exact congrArg _ (congrArg _ t3)
      have hor : binI .or .i64 (tsI row s i) (2 ^ row[i].toNat) = some (.int .i64 (tsI row s (i + 1))) := by
        rw [binI_or]
        refine congrArg _ (congrArg _ (t1.trans ?_))
        show _ = tsI row s i + (if hasB s i = true then 2 ^ (row.getD i 0).toNat else 0)
        rw [if_pos hh, hgd]
      simp only [go_sem, binC, e5, hsh, hor]
      simp only [go_sem, binC, out_n, thenX_n]
      refine wpc_reg ?_
      simp only [go_sem, binC, e10, hw1]
      simp only [go_sem, binC, thenX_n]
      exact ih (i + 1) _ (by omega) (by simp only [go_sem, binC, e0]) (by simp only [go_sem, binC]) (by simp only [go_sem, binC, e8]) (by simp only [go_sem, binC, e9]) (by simp only [go_sem, binC])
    · simp only [go_sem, binC]
      refine wpc_cond (t := false) rfl ?_
      simp only [go_sem, binC]
      refine wpc_skip ?_
      simp only [go_sem, binC, out_n, thenX_n]
      refine wpc_reg ?_
      simp only [go_sem, binC, e10, hw1]
      simp only [go_sem, binC, thenX_n]
      have hsm : tsI row s (i + 1) = tsI row s i := by
        show tsI row s i + (if hasB s i = true then 2 ^ (row.getD i 0).toNat else 0) = _
        rw [if_neg (by rw [hh]; simp), Int.add_zero]
      exact ih (i + 1) _ (by omega) (by simp only [go_sem, binC, e0]) (by simp only [go_sem, binC, e5, hsm]) (by simp only [go_sem, binC, e8]) (by simp only [go_sem, binC, e9]) (by simp only [go_sem, binC])
/-- The set of new names; none, of what is no set, or by what is no row. -/
def tsetO (row : List Int) (s : Int) : Int := if (inB s 0 7 && rowB row 3) = true then tset row s else 0
def TSetOk (F : Nat → Option IFn) (f : Nat) : Prop := ∀ (H : Heap) (s : Int) (v : Value) (row : List Int), SlR Co.int (vw 0 H) v row → QC F f [.int .i64 s, v] H (.int .i64 (tsetO row s))
theorem sTSet_ok {F : Nat → Option IFn} {f : Nat} (hf : F f = some c_sTSet) (gh : HasOk F 91) (gs : ∀ (H : Heap) (a : Int), QC F 90 [.int .i64 a] H (.bool (inB a 0 7))) (gr : RowOk F 38) : TSetOk F f := by
  intro H s v row r
  obtain ⟨_, a, rfl, _⟩ := id r
  refine QC.mk hf rfl ?_
  refine seq_reg ?_
  simp only [go_sem, binC]
  refine seq_reg ?_
  simp only [go_sem, binC]
  refine seq_assoc (seq_reg ?_)
  simp only [go_sem, binC]
  refine seq_block (wpc_loop ?_)
  cases hS : inB s 0 7 with
  | false =>
    refine lp_step ?_
    refine seq_assoc (seq_reg ?_)
    have hd : decide ((0 : Int) < 3) = true := rfl
    simp only [go_sem, binC, hd]
    refine op_callQ (by simp only [go_sem, binC]; exact gs H s) ?_
    simp only [go_sem, binC, hS]
    refine seq_cond (t := false) rfl ?_
    simp only [go_sem, binC]
    refine seq_exit ?_
    simp only [go_sem, binC, thenX_e, out_e, thenX_n]
    refine seq_reg ?_
    simp only [go_sem, binC]
    refine wpc_ret ⟨Or.inr rfl, .int .i64 0, (by (simp only [go_sem, binC]) <;> rfl), ?_, rfl⟩
    unfold tsetO
    rw [hS]
    rfl
  | true =>
  cases hR : rowB row 3 with
  | false =>
    refine lp_step ?_
    refine seq_assoc (seq_reg ?_)
    have hd : decide ((0 : Int) < 3) = true := rfl
    simp only [go_sem, binC, hd]
    refine op_callQ (by simp only [go_sem, binC]; exact gs H s) ?_
    simp only [go_sem, binC, hS]
    refine op_callQ (by simp only [go_sem, binC]; exact gr H _ row 3 (by omega) r) ?_
    simp only [go_sem, binC, hR]
    refine seq_cond (t := false) rfl ?_
    simp only [go_sem, binC]
    refine seq_exit ?_
    simp only [go_sem, binC, thenX_e, out_e, thenX_n]
    refine seq_reg ?_
    simp only [go_sem, binC]
    refine wpc_ret ⟨Or.inr rfl, .int .i64 0, (by (simp only [go_sem, binC]) <;> rfl), ?_, rfl⟩
    unfold tsetO
    rw [hS, hR]
    rfl
  | true =>
  have hs := inB_iff.1 hS
  obtain ⟨hr1, hr2, hr3⟩ := rowB_iff.1 hR
  suffices h : ∀ (k i : Nat) (e : Env), i + k = 3 → e 0 = .int .i64 s → e 1 = .slice a row.length row.length → e 5 = .int .i64 (tsI row s i) → e 6 = .int .i64 i → W F H.length _ e H _ from
    h 3 0 _ rfl (by simp only [go_sem, binC]) (by simp only [go_sem, binC]) (by (simp only [go_sem, binC]) <;> rfl) (by (simp only [go_sem, binC]) <;> rfl)
  intro k
  induction k with
  | zero =>
    intro i e hi e0 e1 e5 e6
    obtain rfl : i = 3 := hi
    refine lp_step ?_
    refine seq_assoc (seq_reg ?_)
    have hd : decide (((3 : Nat) : Int) < 3) = false := rfl
    simp only [go_sem, binC, e6, hd]
    refine seq_cond (t := false) (by simp only [go_sem, binC]) ?_
    simp only [go_sem, binC]
    refine seq_exit ?_
    simp only [go_sem, binC, thenX_e, out_e, thenX_n]
    refine seq_reg ?_
    simp only [go_sem, binC, e5]
    refine wpc_ret ⟨Or.inr rfl, _, (by (simp only [go_sem, binC]) <;> rfl), ?_, rfl⟩
    unfold tsetO
    rw [hS, hR]
    rfl
  | succ k ih =>
    intro i e hi e0 e1 e5 e6
    have hil : i < row.length := by omega
    have hw1 : IntKind.i64.wrap ((i : Int) + 1) = ((i + 1 : Nat) : Int) := by rw [wrap_id (by omega) (by omega)]; omega
    obtain ⟨b, o, hv1, hg⟩ := gcI r hil
    simp only [Value.slice.injEq, and_true] at hv1
    subst hv1
    obtain ⟨t1, t2, t3⟩ := ts_or hR hs (i := i) (by omega)
    have hgd := getD_int hil
    have h0 := (hr2 _ (List.getElem_mem hil)).1
    have hd : decide ((i : Int) < 3) = true := decide_eq_true (by omega)
    refine lp_step ?_
    refine seq_assoc (seq_reg ?_)
    simp only [go_sem, binC, e0, e6, hd]
    refine op_callQ (by simp only [go_sem, binC, e0]; exact gs H s) ?_
    simp only [go_sem, binC, e1, hS]
    refine op_callQ (by simp only [go_sem, binC, e1]; exact gr H _ row 3 (by omega) r) ?_
    simp only [go_sem, binC, hR]
    refine seq_cond (t := true) (by simp only [go_sem, binC]) ?_
    simp only [go_sem, binC]
    refine seq_skip (seq_block (seq_reg ?_))
    simp only [go_sem, binC, e0, e6]
    refine op_callB (by simp only [go_sem, binC, e0, e6]; exact gh H s i hs.1 hs.2) (fun hh => ?_) (fun hh => ?_)
    · simp only [go_sem, binC]
      refine wpc_cond (t := true) rfl ?_
      simp only [go_sem, binC]
      refine wpc_reg ?_
      rw [hgd] at t1 t2 t3
      have hsh : binI .shl .i64 1 row[i] = some (.int .i64 (2 ^ row[i].toNat)) := by rw [binI_shl h0]; exact congrArg _ (congrArg _ t3)
      have hor : IntKind.i64.wrap (tsI row s i + 2 ^ row[i].toNat) = tsI row s (i + 1) := by
        refine t2.trans ?_
        show _ = tsI row s i + (if hasB s i = true then 2 ^ (row.getD i 0).toNat else 0)
        rw [if_pos hh, hgd]
      simp only [go_sem, binC, e1, e5, e6]
      refine ⟨⟨by omega, by omega⟩, ?_⟩
      simp only [go_sem, binC, Int.toNat_natCast, Nat.mul_one, hg, e5, hsh, hor]
      simp only [go_sem, binC, out_n, thenX_n]
      refine wpc_reg ?_
      simp only [go_sem, binC, e6, hw1]
      simp only [go_sem, binC, thenX_n]
      exact ih (i + 1) _ (by omega) (by simp only [go_sem, binC, e0]) (by simp only [go_sem, binC, e1]) (by simp only [go_sem, binC]) (by simp only [go_sem, binC])
    · simp only [go_sem, binC]
      refine wpc_cond (t := false) rfl ?_
      simp only [go_sem, binC]
      refine wpc_skip ?_
      simp only [go_sem, binC, out_n, thenX_n]
      refine wpc_reg ?_
      simp only [go_sem, binC, e6, hw1]
      simp only [go_sem, binC, thenX_n]
      have hsm : tsI row s (i + 1) = tsI row s i := by
        show tsI row s i + (if hasB s i = true then 2 ^ (row.getD i 0).toNat else 0) = _
        rw [if_neg (by rw [hh]; simp), Int.add_zero]
      exact ih (i + 1) _ (by omega) (by simp only [go_sem, binC, e0]) (by simp only [go_sem, binC, e1]) (by simp only [go_sem, binC, e5, hsm]) (by simp only [go_sem, binC])
/-! ### Facts of sets -/
theorem tset_bd {row : List Int} {s : Int} (hr : rowB row 3 = true) (hs : 0 ≤ s ∧ s ≤ 7) : 0 ≤ tset row s ∧ tset row s ≤ 7 := by
  rcases row3 hr with rfl | rfl | rfl | rfl | rfl | rfl <;> rcases set8c hs with rfl | rfl | rfl | rfl | rfl | rfl | rfl | rfl <;> decide +kernel
theorem tset_has {row : List Int} {s h : Int} (hr : rowB row 3 = true) (hs : 0 ≤ s ∧ s ≤ 7) (hh : 0 ≤ h ∧ h ≤ 2) : hasB (tset row s) (nameO row h) = hasB s h := by
  have q : h = 0 ∨ h = 1 ∨ h = 2 := by omega
  rcases row3 hr with rfl | rfl | rfl | rfl | rfl | rfl <;> rcases q with rfl | rfl | rfl <;> rcases set8c hs with rfl | rfl | rfl | rfl | rfl | rfl | rfl | rfl <;> decide +kernel
def turnLH (row : List Int) (ls : List (Int × Int)) : List (Int × Int) := ls.map fun a => (tset row a.1, tset row a.2)
theorem turnLH_len (row : List Int) (ls : List (Int × Int)) : (turnLH row ls).length = ls.length := by simp [turnLH]
theorem labB_iff {a : Int × Int} : labB a = true ↔ (0 ≤ a.1 ∧ a.1 ≤ 7) ∧ 0 ≤ a.2 ∧ a.2 ≤ 7 := by
  simp only [labB, Bool.and_eq_true, inB_iff]
theorem turnLH_lab {row : List Int} {ls : List (Int × Int)} (hr : rowB row 3 = true) (h : ls.all labB = true) : (turnLH row ls).all labB = true := by
  rw [List.all_eq_true] at h ⊢
  intro p hp
  obtain ⟨a, ha, rfl⟩ := List.mem_map.1 hp
  have := labB_iff.1 (h a ha)
  exact labB_iff.2 ⟨tset_bd hr this.1, tset_bd hr this.2⟩
theorem nameO_bd {row : List Int} (hr : rowB row 3 = true) {x : Int} (hx : 0 ≤ x ∧ x ≤ 2) : 0 ≤ nameO row x ∧ nameO row x ≤ 2 := by
  have := (nameO_get hr (x := x) (by omega)).2.2
  omega
theorem turnH_good {row : List Int} {k : Nat} (hr : rowB row 3 = true) : GoodT k (turnH row) := by
  refine ⟨fun s => rfl, fun s h => h, fun s h => h, fun s h => h, fun s h => if_neg h, fun s h3 h => ?_⟩
  show inB (if s.1 = 3 then nameO row s.2.2.2 else s.2.2.2) 0 2 = true
  rw [if_pos h3]
  exact inB_iff.2 (nameO_bd hr (inB_iff.1 h))
theorem progB_labs {n : Nat} {ls : List (Int × Int)} {l : List (TStep n)} (h : progB n (ls, l) = true) : ls.all labB = true := by
  simp only [progB, Bool.and_eq_true] at h
  exact h.1.1.2
theorem turnP_ok {n : Nat} {ls : List (Int × Int)} {l : List (TStep n)} {row : List Int} (h : progB n (ls, l) = true) (hr : rowB row 3 = true) : progB n (turnLH row ls, l.map (mapT (turnH row) n)) = true :=
  progB_map (turnH_good hr) h (turnLH_len _ _) (turnLH_lab hr (progB_labs h))
end Go.Proofs.YtemnemmnfnpnoaaI
end
section
/- Programs whose hosts are named otherwise. -/
set_option linter.unusedVariables false
set_option linter.unusedSimpArgs false
namespace Go.Proofs.YtemnemmnfnpnoaaI
open Go Go.RowKit
def c_tp1 : IFn := ⟨2, 18, [],
 .seq (.reg none [
    ⟨(some 3), none, .mov (.t 0)⟩,
    ⟨(some 4), none, .nilck (.t 3)⟩,
    ⟨(some 5), none, .fad 0 (.t 4)⟩,
    ⟨(some 6), none, .load false 1 (.t 5)⟩,
    ⟨(some 7), none, .bin .eql (.t 6) (.c (.int .i64 3))⟩])
 (.cond (.t 7) (.reg (some 8) [
    ⟨(some 8), none, .mov (.t 0)⟩,
    ⟨(some 9), none, .load false 1 (.t 1)⟩,
    ⟨(some 10), none, .mov (.t 0)⟩,
    ⟨(some 11), none, .nilck (.t 10)⟩,
    ⟨(some 12), none, .fad 5 (.t 11)⟩,
    ⟨(some 13), none, .load false 1 (.t 12)⟩,
    ⟨(some 14), none, .iad 1 (.t 9) (.t 13)⟩,
    ⟨(some 15), none, .load false 1 (.t 14)⟩,
    ⟨(some 16), none, .nilck (.t 8)⟩,
    ⟨(some 17), none, .fad 5 (.t 16)⟩,
    ⟨none, none, .store 1 (.t 17) (.t 15)⟩]) (.skip))⟩
def c_iTurnProg : IFn := ⟨2, 47, [.cell true 2 4, .t 5],
 .seq (.reg none [
    ⟨(some 2), none, .box (.t 0)⟩,
    ⟨(some 3), none, .box (.t 1)⟩,
    ⟨(some 4), none, .new [(.slice none 0 0), (.slice none 0 0)]⟩,
    ⟨(some 5), none, .mov (.c (.bool false))⟩])
 (.seq (.seq (.reg none [
     ⟨(some 9), none, .load true 2 (.t 2)⟩,
     ⟨(some 10), none, .call .q (.f 24) [(.t 9)]⟩,
     ⟨(some 11), none, .un .not (.t 10)⟩,
     ⟨(some 12), none, .mov (.t 11)⟩,
     ⟨(some 13), (some (12, false)), .load false 1 (.t 3)⟩,
     ⟨(some 14), (some (12, false)), .call .q (.f 42) [(.t 13), (.c (.int .i64 3))]⟩,
     ⟨(some 15), (some (12, false)), .un .not (.t 14)⟩,
     ⟨(some 16), none, .pick (.t 12) (.c (.bool true)) (.t 15)⟩])
  (.cond (.t 16) (.seq (.reg none [
      ⟨(some 17), none, .build [(.slice none 0 0), (.slice none 0 0)] []⟩,
      ⟨none, none, .store 2 (.t 4) (.t 17)⟩,
      ⟨(some 5), none, .mov (.c (.bool false))⟩])
   (.ret)) (.skip)))
 (.seq (.reg none [
    ⟨(some 18), none, .load true 2 (.t 2)⟩,
    ⟨(some 19), none, .call .k (.f 43) [(.t 18)]⟩,
    ⟨(some 6), none, .new [(.slice none 0 0), (.slice none 0 0)]⟩,
    ⟨none, none, .store 2 (.t 6) (.t 19)⟩])
 (.seq (.seq (.reg none [
     ⟨(some 20), none, .fad 0 (.t 6)⟩,
     ⟨(some 21), none, .load false 1 (.t 20)⟩,
     ⟨(some 22), none, .len (.t 21)⟩,
     ⟨(some 23), none, .mov (.c (.int .i64 0))⟩])
  (.block 0 (.loop (.seq (.reg none [
       ⟨(some 24), none, .bin .lss (.t 23) (.t 22)⟩])
    (.seq (.cond (.t 24) (.skip) (.exit 0))
    (.seq (.block 1 (.seq (.reg none [
         ⟨(some 25), none, .mov (.t 23)⟩,
         ⟨(some 26), none, .iad 2 (.t 21) (.t 23)⟩,
         ⟨(some 27), none, .load true 2 (.t 26)⟩,
         ⟨(some 8), none, .new [(.int .i64 0), (.int .i64 0)]⟩,
         ⟨(some 7), none, .mov (.t 25)⟩,
         ⟨none, none, .store 2 (.t 8) (.t 27)⟩])
      (.reg (some 12) [
        ⟨(some 28), none, .fad 0 (.t 6)⟩,
        ⟨(some 29), none, .load false 1 (.t 28)⟩,
        ⟨(some 30), none, .mov (.t 7)⟩,
        ⟨(some 31), none, .fad 0 (.t 8)⟩,
        ⟨(some 32), none, .load false 1 (.t 31)⟩,
        ⟨(some 33), none, .load false 1 (.t 3)⟩,
        ⟨(some 34), none, .call .q (.f 63) [(.t 32), (.t 33)]⟩,
        ⟨(some 35), none, .fad 1 (.t 8)⟩,
        ⟨(some 36), none, .load false 1 (.t 35)⟩,
        ⟨(some 37), none, .load false 1 (.t 3)⟩,
        ⟨(some 38), none, .call .q (.f 63) [(.t 36), (.t 37)]⟩,
        ⟨(some 39), none, .build [(.int .i64 0), (.int .i64 0)] [(0, 1, (.t 34)), (1, 1, (.t 38))]⟩,
        ⟨(some 40), none, .iad 2 (.t 29) (.t 30)⟩,
        ⟨none, none, .store 2 (.t 40) (.t 39)⟩])))
    (.reg none [
      ⟨(some 41), none, .bin .add (.t 23) (.c (.int .i64 1))⟩,
      ⟨(some 23), none, .mov (.t 41)⟩])))))))
 (.seq (.reg none [
    ⟨(some 42), none, .fad 1 (.t 6)⟩,
    ⟨(some 43), none, .load false 1 (.t 42)⟩,
    ⟨(some 44), none, .mkf 64 [] [(.t 3)]⟩,
    ⟨(some 45), none, .call .n (.f 44) [(.t 43), (.t 44)]⟩])
 (.seq (.reg none [
    ⟨(some 46), none, .load true 2 (.t 6)⟩,
    ⟨none, none, .store 2 (.t 4) (.t 46)⟩,
    ⟨(some 5), none, .mov (.c (.bool true))⟩])
 (.ret))))))⟩
def c_sTurnProg : IFn := ⟨2, 53, [.cell true 2 4, .t 5],
 .seq (.reg none [
    ⟨(some 2), none, .box (.t 0)⟩,
    ⟨(some 4), none, .new [(.slice none 0 0), (.slice none 0 0)]⟩,
    ⟨(some 5), none, .mov (.c (.bool false))⟩])
 (.seq (.seq (.reg none [
     ⟨(some 8), none, .load true 2 (.t 2)⟩,
     ⟨(some 9), none, .call .q (.f 29) [(.t 8)]⟩,
     ⟨(some 10), none, .un .not (.t 9)⟩,
     ⟨(some 11), none, .mov (.t 10)⟩,
     ⟨(some 12), (some (11, false)), .mov (.t 1)⟩,
     ⟨(some 13), (some (11, false)), .call .q (.f 38) [(.t 12), (.c (.int .i64 3))]⟩,
     ⟨(some 14), (some (11, false)), .un .not (.t 13)⟩,
     ⟨(some 15), none, .pick (.t 11) (.c (.bool true)) (.t 14)⟩])
  (.cond (.t 15) (.seq (.reg none [
      ⟨(some 16), none, .build [(.slice none 0 0), (.slice none 0 0)] []⟩,
      ⟨none, none, .store 2 (.t 4) (.t 16)⟩,
      ⟨(some 5), none, .mov (.c (.bool false))⟩])
   (.ret)) (.skip)))
 (.seq (.reg none [
    ⟨(some 17), none, .lit 2 63 0 [] []⟩,
    ⟨(some 18), none, .fad 1 (.t 2)⟩,
    ⟨(some 19), none, .load false 1 (.t 18)⟩,
    ⟨(some 20), none, .mov (.t 1)⟩,
    ⟨(some 21), none, .call .k (.f 61) [(.t 19), (.t 20)]⟩,
    ⟨(some 22), none, .build [(.slice none 0 0), (.slice none 0 0)] [(0, 1, (.t 17)), (1, 1, (.t 21))]⟩,
    ⟨(some 6), none, .new [(.slice none 0 0), (.slice none 0 0)]⟩,
    ⟨none, none, .store 2 (.t 6) (.t 22)⟩])
 (.seq (.seq (.reg none [
     ⟨(some 7), none, .mov (.c (.int .i64 0))⟩])
  (.block 0 (.loop (.seq (.seq (.reg none [
        ⟨(some 23), none, .mov (.t 7)⟩,
        ⟨(some 24), none, .fad 0 (.t 2)⟩,
        ⟨(some 25), none, .load false 1 (.t 24)⟩,
        ⟨(some 26), none, .len (.t 25)⟩,
        ⟨(some 27), none, .bin .lss (.t 23) (.t 26)⟩])
     (.cond (.t 27) (.skip) (.exit 0)))
    (.seq (.block 1 (.reg (some 20) [
        ⟨(some 30), none, .fad 0 (.t 6)⟩,
        ⟨(some 31), none, .load false 1 (.t 30)⟩,
        ⟨(some 32), none, .fad 0 (.t 2)⟩,
        ⟨(some 33), none, .load false 1 (.t 32)⟩,
        ⟨(some 34), none, .mov (.t 7)⟩,
        ⟨(some 35), none, .iad 2 (.t 33) (.t 34)⟩,
        ⟨(some 36), none, .fad 0 (.t 35)⟩,
        ⟨(some 37), none, .load false 1 (.t 36)⟩,
        ⟨(some 38), none, .mov (.t 1)⟩,
        ⟨(some 39), none, .call .q (.f 62) [(.t 37), (.t 38)]⟩,
        ⟨(some 40), none, .fad 0 (.t 2)⟩,
        ⟨(some 41), none, .load false 1 (.t 40)⟩,
        ⟨(some 42), none, .mov (.t 7)⟩,
        ⟨(some 43), none, .iad 2 (.t 41) (.t 42)⟩,
        ⟨(some 44), none, .fad 1 (.t 43)⟩,
        ⟨(some 45), none, .load false 1 (.t 44)⟩,
        ⟨(some 46), none, .mov (.t 1)⟩,
        ⟨(some 47), none, .call .q (.f 62) [(.t 45), (.t 46)]⟩,
        ⟨(some 48), none, .build [(.int .i64 0), (.int .i64 0)] [(0, 1, (.t 39)), (1, 1, (.t 47))]⟩,
        ⟨(some 49), none, .lit 2 63 1 [(.int .i64 0), (.int .i64 0)] [(0, 2, (.t 48))]⟩,
        ⟨(some 50), none, .app 2 63 16 false (.t 31) (.t 49)⟩,
        ⟨(some 51), none, .fad 0 (.t 6)⟩,
        ⟨none, none, .store 1 (.t 51) (.t 50)⟩]))
    (.reg none [
      ⟨(some 28), none, .mov (.t 7)⟩,
      ⟨(some 29), none, .bin .add (.t 28) (.c (.int .i64 1))⟩,
      ⟨(some 7), none, .mov (.t 29)⟩]))))))
 (.seq (.reg none [
    ⟨(some 52), none, .load true 2 (.t 6)⟩,
    ⟨none, none, .store 2 (.t 4) (.t 52)⟩,
    ⟨(some 5), none, .mov (.c (.bool true))⟩])
 (.ret)))))⟩
theorem setL_same8 {cs a : List Value} {o : Nat} (ha : a.length = 8) (h : (cs.drop o).take 8 = a) (ho : o + 8 ≤ cs.length) : setL cs o a = cs := by
  have h0 : 0 < a.length := by omega
  have e := set8 (v := a[0]) ha h ho (j := 0) (by omega)
  rw [List.set_getElem_self] at e
  rw [← e]
  have h1 : o + 0 < cs.length := by omega
  have h2 : a[0] = cs[o + 0] := by
    have : a[0]? = cs[o + 0]? := by rw [← h, List.getElem?_take_of_lt (by omega), List.getElem?_drop]
    rw [List.getElem?_eq_getElem h0, List.getElem?_eq_getElem h1, Option.some.injEq] at this
    exact this
  rw [h2, List.set_getElem_self]
theorem tp1_ok {F : Nat → Option IFn} {H0 : Heap} {rb k : Nat} {w : Value} {row : List Int} (hf : F 64 = some c_tp1) (hw : SlR Co.int (vw 0 H0) w row) (hrb : H0[rb]? = some ⟨[w], 0, 0, false, true⟩) (hrow : rowB row 3 = true) : CloOk F 64 #[] #[ptr rb 0] H0 (okS k) (turnH row) := by
  intro H b cs i s tv ev lo hx0 hb0 hlo hb hl8 h8 hrg hP otv oev
  obtain ⟨sk, sx, ⟨sa, sb, sc⟩, sg⟩ := s
  obtain ⟨p1, p2, p3, p4, p5⟩ := hP
  simp only at p5
  have hrgT : shRg (turnH row (sk, sx, (sa, sb, sc), sg)) := by
    obtain ⟨r1, r2, r3, r4, r5, r6⟩ := hrg
    refine ⟨r1, r2, r3, r4, r5, ?_⟩
    show RgI (if sk = 3 then nameO row sg else sg)
    split
    · rename_i h
      have := nameO_bd hrow (p5 h)
      unfold RgI; omega
    · exact r6
  refine ⟨hrgT, ?_⟩
  simp only [List.nil_append, List.singleton_append]
  refine NC.mkE hf rfl ?_
  obtain ⟨hrl, ra, rfl, _⟩ := id hw
  have hbl := (List.getElem?_eq_some_iff.1 hb).1
  have g0 := gc_k (j := 0) hb hl8 h8 (v := .int .i64 sk) rfl (by omega)
  have g5 := gc_k (j := 5) hb hl8 h8 (v := .int .i64 sg) rfl (by omega)
  rw [Nat.add_zero] at g0
  refine seq_reg ?_
  simp only [go_sem, binC, g0]
  by_cases h3 : sk = 3
  · simp only [go_sem, binC, beq_t h3]
    refine wpc_cond (t := true) rfl ?_
    simp only [go_sem, binC]
    obtain ⟨hgl, hge, hgr⟩ := nameO_get hrow (x := sg) (by have := p5 h3; omega)
    obtain ⟨rblk, ro, hrv, _⟩ := gcI0 hw hgl
    simp only [Value.slice.injEq, and_true] at hrv
    subst hrv
    have hro : getCells H rblk (ro + sg.toNat) 1 = some [.int .i64 row[sg.toNat]] := gcI2 (hw.mono (agx_sub hx0)) hgl
    have hrbx : H[rb]? = some ⟨[.slice (some ⟨rblk, ro, none⟩) row.length row.length], 0, 0, false, true⟩ := hx0.get hrb (by simp)
    refine wpc_regD ?_
    simp only [go_sem, binC, gc_of hrbx, inBlk_some, g5]
    refine ⟨⟨by have := p5 h3; omega, by omega⟩, ?_⟩
    simp only [go_sem, binC, Nat.mul_one, hro, hb]
    refine ⟨⟨by omega, by omega⟩, ?_⟩
    rw [set8 (shV_len _ _ _) h8 hl8 (by omega), ← hge]
    refine ⟨Or.inl rfl, _, rfl, rfl, ?_⟩
    show H.set b ⟨setL cs (i * 8) (shV (sk, sx, (sa, sb, sc), nameO row sg) tv ev), 8, 72, true, true⟩ = _
    rw [show turnH row (sk, sx, (sa, sb, sc), sg) = (sk, sx, (sa, sb, sc), nameO row sg) by simp [turnH, h3]]
  · simp only [go_sem, binC, beq_f h3]
    refine wpc_cond (t := false) rfl ?_
    simp only [go_sem, binC]
    refine wpc_skip ⟨Or.inl rfl, _, rfl, rfl, ?_⟩
    rw [show turnH row (sk, sx, (sa, sb, sc), sg) = (sk, sx, (sa, sb, sc), sg) by simp [turnH, h3], setL_same8 (shV_len _ _ _) h8 hl8]
    rw [List.getElem?_eq_getElem hbl, Option.some.injEq] at hb
    rw [← hb, List.set_getElem_self]
theorem iTurnProg_ok {F : Nat → Option IFn} {f : Nat} (hf : F f = some c_iTurnProg) (gp : ProgOk F 24) (gr : RowOk F 42) (gpc : PCloneOk F 43) (hch : F 44 = some c_change) (hc1 : F 64 = some c_tp1) (gt : ∀ (H : Heap) (s : Int) (v : Value) (row : List Int), 0 ≤ s ∧ s ≤ 7 → rowB row 3 = true → SlR Co.int (vw 0 H) v row → QC F 63 [.int .i64 s, v] H (.int .i64 (tset row s))) : TurnPOk F f (fun _ => 3) turnLH turnH := by
  intro H n lv sv w ls l row r1 r2 hsm r3
  suffices h : ∃ v H', KC F f [.agg #[lv, sv], w] H v H' ∧ (∃ lv' sv', v = .tuple #[.agg #[lv', sv'], .bool (turnB n (fun _ => 3) ls l row)] ∧ AgX [] H H' ∧ SlR Co.p2 (vw 0 H') lv' (turnO n (fun _ => 3) turnLH turnH ls l row).1 ∧ SlR (Co.step n) (vw 0 H') sv' (turnO n (fun _ => 3) turnLH turnH ls l row).2) by
    obtain ⟨_, H', h1, lv', sv', rfl, h2⟩ := h
    exact ⟨lv', sv', H', h1, h2⟩
  have osv : one sv = true := by obtain ⟨_, a, rfl, _⟩ := r2; rfl
  obtain ⟨_, wa, rfl, _⟩ := id r3
  obtain ⟨_, la, rfl, _⟩ := id r1
  have hls0 : ls.length ≤ 1048576 := hsm.1.1
  refine KC.mk hf rfl ?_
  refine seq_reg ?_
  simp only [go_sem, binC, osv]
  refine wpc_gen fun H1 hH1 => ?_
  have hx1 : AgX [] H H1 := hH1 ▸ AgX.app [] _ _
  have hb2 : H1[H.length]? = some ⟨[.slice la ls.length ls.length, sv], 0, 0, false, true⟩ := hH1 ▸ get_new0 _ _
  have hb3 : H1[H.length + 1]? = some ⟨[.slice wa row.length row.length], 0, 0, false, true⟩ := hH1 ▸ get_new _ _ 1
  have hb4 : H1[H.length + 2]? = some ⟨[nilS, nilS], 0, 0, false, true⟩ := hH1 ▸ get_new _ _ 2
  have hln1 : H1.length = H.length + 3 := by rw [hH1]; simp
  clear hH1
  have r1' := r1.mono (agx_sub hx1)
  have r2' := r2.mono (agx_sub hx1)
  have r3' := r3.mono (agx_sub hx1)
  have hb4l := (List.getElem?_eq_some_iff.1 hb4).1
  refine seq_assoc (seq_reg ?_)
  simp only [go_sem, binC, gc_of hb2, inBlk_some, osv]
  refine op_callB (by simp only [go_sem, binC]; exact gp H1 n _ (ls, l) (prog_rd r1' r2') hsm) (fun hP => ?_) (fun hP => ?_)
  rotate_left
  · simp only [go_sem, binC]
    refine seq_cond (t := true) rfl ?_
    simp only [go_sem, binC]
    refine seq_assoc (seq_reg ?_)
    simp only [go_sem, binC, hb4]
    have hB : turnB n (fun _ => 3) ls l row = false := by simp [turnB, hP]
    have hr : turnO n (fun _ => 3) turnLH turnH ls l row = ([], []) := if_neg (by rw [hB]; simp)
    refine seq_ret ⟨Or.inr rfl, .tuple #[.agg #[nilS, nilS], .bool false], ?_, nilS, nilS, by rw [hB], hx1.setN (by omega) _, ?_, ?_⟩
    · simp [resV, resL, res1, putE_get, notT, ptr, gc_set hb4l, inBlk_some, valOf]
    all_goals (rw [hr]; exact ⟨by simp, none, rfl, .inl rfl⟩)
  have hls : ls.length ≤ 4 := by
    have := hP
    simp only [progB, Bool.and_eq_true, decide_eq_true_eq] at this; have := this.1.1.1; omega
  simp only [go_sem, binC, gc_of hb3, inBlk_some]
  refine op_callB (by simp only [go_sem, binC]; exact gr H1 _ row 3 (by omega) r3') (fun hR => ?_) (fun hR => ?_)
  rotate_left
  · simp only [go_sem, binC]
    refine seq_cond (t := true) rfl ?_
    simp only [go_sem, binC]
    refine seq_assoc (seq_reg ?_)
    simp only [go_sem, binC, hb4]
    have hB : turnB n (fun _ => 3) ls l row = false := by simp [turnB, hR]
    have hr : turnO n (fun _ => 3) turnLH turnH ls l row = ([], []) := if_neg (by rw [hB]; simp)
    refine seq_ret ⟨Or.inr rfl, .tuple #[.agg #[nilS, nilS], .bool false], ?_, nilS, nilS, by rw [hB], hx1.setN (by omega) _, ?_, ?_⟩
    · simp [resV, resL, res1, putE_get, notT, ptr, gc_set hb4l, inBlk_some, valOf]
    all_goals (rw [hr]; exact ⟨by simp, none, rfl, .inl rfl⟩)
  have hB : turnB n (fun _ => 3) ls l row = true := by simp [turnB, hP, hR]
  have hO : turnO n (fun _ => 3) turnLH turnH ls l row = (turnLH row ls, l.map (mapT (turnH row) n)) := if_pos hB
  obtain ⟨hr1, hr2, hr3⟩ := rowB_iff.1 hR
  simp only [go_sem, binC]
  refine seq_cond (t := false) rfl ?_
  simp only [go_sem, binC]
  refine seq_skip (seq_reg ?_)
  simp only [go_sem, binC, gc_of hb2, inBlk_some, osv]
  obtain ⟨lv2, sv2, B, H2, k2, hx2, hL2, o2⟩ := gpc H1 n _ sv ls l r1' r2' hsm
  obtain ⟨la2, hlv2⟩ := hL2.shape
  obtain ⟨_, sa2, hsv2⟩ := id o2.len
  refine op_callK (by simp only [go_sem, binC]; exact k2) ?_
  simp only [go_sem, binC]
  rw [hlv2, hsv2]
  simp only [go_sem, binC, get_new0]
  refine ⟨by have := hx1.1; have := hx2.1; omega, ?_⟩
  rw [← hlv2, ← hsv2]
  refine wpc_genH fun H3 hH3 => ?_
  have hx3 : AgX [] H2 H3 := hH3 ▸ AgX.app [] _ _
  have hb6 : H3[H2.length]? = some ⟨[lv2, sv2], 0, 0, false, true⟩ := hH3 ▸ get_new0 _ _
  clear hH3
  have hx23 := hx2.tr hx3
  have hL3 := hL2.keep (Nat.le_refl _) hx3 (fun b _ _ => by simp)
  have o3 : OwnT H1.length H3 n sv2 l B := o2.keep (Nat.le_refl _) fun b hb => hx3.2 b (o2.ge b hb).2.1 (by simp)
  have hl2 := hx2.1
  have hl3 := hx3.1
  have hb6l := (List.getElem?_eq_some_iff.1 hb6).1
  have hb23 := hx23.get hb2 (by simp)
  have hb33 := hx23.get hb3 (by simp)
  have hb43 := hx23.get hb4 (by simp)
  have hbB : ∀ b ∈ blkOf lv2, b ∉ B := fun b h1 h2 => by
    obtain ⟨_, _, q⟩ := hL3.blk h1
    obtain ⟨_, _, cs, q2⟩ := o3.ge b h2
    rw [q] at q2
    simp at q2
  clear k2
  have hlab := List.all_eq_true.1 (progB_labs hP)
  refine seq_assoc (seq_reg ?_)
  simp only [go_sem, binC, gc_of hb6, inBlk_some]
  rw [hlv2]
  simp only [go_sem, binC]
  refine seq_block (wpc_loop ?_)
  suffices h : ∀ (k i : Nat) (e : Env) (Hc : Heap) (cur : List (Int × Int)), i + k = ls.length → AgX (blkOf lv2) H3 Hc → cur.length = ls.length → LabV H1.length Hc lv2 cur → (∀ p ∈ cur, RgI p.1 ∧ RgI p.2) → (∀ j (h' : j < ls.length), cur[j]? = some (if j < i then (tset row ls[j].1, tset row ls[j].2) else ls[j])) → e 2 = ptr H.length 0 → e 3 = ptr (H.length + 1) 0 → e 4 = ptr (H.length + 2) 0 → e 6 = ptr H2.length 0 → e 21 = .slice la2 ls.length ls.length → e 22 = .int .i64 ls.length → e 23 = .int .i64 i → W F H.length _ e Hc _ from
    h ls.length 0 _ H3 ls (by omega) (AgX.refl _ _) rfl hL3 (p2_rg r1) (fun j h' => by rw [if_neg (by omega), List.getElem?_eq_getElem h']) (by simp only [go_sem, binC]) (by simp only [go_sem, binC]) (by simp only [go_sem, binC]) (by simp only [go_sem, binC]) (by (simp only [go_sem, binC]) <;> rfl) (by (simp only [go_sem, binC]) <;> rfl) (by (simp only [go_sem, binC]) <;> rfl)
  intro k
  induction k with
  | zero =>
    intro i e Hc cur hi hxc hcl hLc hrg hcur e2 e3 e4 e6 e21 e22 e23
    refine lp_step ?_
    refine seq_reg ?_
    simp only [go_sem, binC, e22, e23]
    refine seq_cond (t := false) (by simp only [go_sem, binC]; rw [decide_eq_false (by omega)]) ?_
    simp only [go_sem, binC]
    refine seq_exit ?_
    simp only [go_sem, binC, thenX_e, out_e, thenX_n]
    have hb6c := hxc.get hb6 (fun h => by have := (hL3.blk h).2.2; rw [hb6] at this; simp at this)
    have hb3c := hxc.get hb33 (fun h => by have := (hL3.blk h).1; omega)
    have hb4c := hxc.get hb43 (fun h => by have := (hL3.blk h).1; omega)
    have hx1c : AgX [] H1 Hc := hx23.trans hxc (fun _ h _ => h) (fun b h1 h2 => by have := (hL3.blk h1).1; omega)
    have hcT : cur = turnLH row ls := List.ext_getElem (by rw [turnLH_len, hcl]) fun j h1 h2 => by
      have hj : j < ls.length := by omega
      have := hcur j hj
      rw [List.getElem?_eq_getElem h1, Option.some.injEq, if_pos (by omega)] at this
      rw [this]
      simp [turnLH]
    have oc : OwnT H1.length Hc n sv2 l B := o3.keep (Nat.le_refl _) fun b hb => hxc.2 b (o3.ge b hb).2.1 (fun h => hbB b h hb)
    have hclo : CloOk F 64 #[] #[ptr (H.length + 1) 0] H1 (okS ls.length) (turnH row) := tp1_ok hc1 r3' hb3 hR
    obtain ⟨H5, k5, o5, hx5⟩ := change_all hch hclo n Hc sv2 l B H.length oc hx1c (by omega) (progB_okS hP)
    have osv2 := o2.one
    refine seq_reg ?_
    simp only [go_sem, binC, e6, e3, gc_of hb6c, inBlk_some, osv2]
    refine ⟨rfl, ?_⟩
    refine op_callN (by simp only [go_sem, binC]; exact k5) ?_
    have hBb : ∀ b, (∃ cs, Hc[b]? = some ⟨cs, 0, 0, false, true⟩) → b ∉ B := fun b h1 h2 => by
      obtain ⟨cs, h1⟩ := h1
      obtain ⟨_, _, cs2, q2⟩ := oc.ge b h2
      rw [h1] at q2
      simp at q2
    have hb65 := hx5.get hb6c (hBb _ ⟨_, hb6c⟩)
    have hb45 := hx5.get hb4c (hBb _ ⟨_, hb4c⟩)
    have hb45l := (List.getElem?_eq_some_iff.1 hb45).1
    simp only [go_sem, binC]
    refine seq_reg ?_
    rw [hlv2, hsv2] at hb65
    simp only [go_sem, binC, e6, e4, gc_of hb65, inBlk_some, hb45]
    have hx15 : AgX [] H1 H5 := hx1c.trans hx5 (fun _ h _ => h) (fun b h1 h2 => by have := (oc.ge b h1).1; omega)
    have hxf : AgX [H.length + 2] H5 (H5.set (H.length + 2) ⟨[.slice la2 ls.length ls.length, .slice sa2 l.length l.length], 0, 0, false, true⟩) := AgX.set _ _ _
    have hL5 := (hLc.keep (Nat.le_refl _) hx5 (fun b h1 h2 h3 => by
      obtain ⟨_, _, cs2, q2⟩ := oc.ge b h3
      rw [h2] at q2
      simp at q2)).keep (Nat.le_refl _) hxf (fun b h1 _ h2 => by simp only [List.mem_singleton] at h2; omega)
    have o6 := o5.keep (lo' := H1.length) (H' := H5.set (H.length + 2) ⟨[.slice la2 ls.length ls.length, .slice sa2 l.length l.length], 0, 0, false, true⟩) (Nat.le_refl _) fun b hb => hxf.2 b (o5.ge b hb).2.1 (fun h => by simp only [List.mem_singleton] at h; have := (o5.ge b hb).1; omega)
    refine wpc_ret ⟨Or.inr rfl, .tuple #[.agg #[lv2, sv2], .bool true], ?_, lv2, sv2, by rw [hB], (hx1.tr hx15).setN (by omega) _, ?_, ?_⟩
    · rw [hlv2, hsv2]
      simp [resV, resL, res1, putE_get, notT, ptr, gc_set hb45l, inBlk_some, valOf, e4]
    · rw [hO]
      show SlR Co.p2 _ _ (turnLH row ls)
      rw [← hcT]
      exact hL5.sl hrg (by omega)
    · rw [hO]
      exact (o6.sl.mono (vws_vw _ _)).mono (vw_grow (Nat.zero_le _) fun _ _ _ => rfl)
  | succ k ih =>
    intro i e Hc cur hi hxc hcl hLc hrg hcur e2 e3 e4 e6 e21 e22 e23
    have hil : i < ls.length := by omega
    have hw1 : IntKind.i64.wrap ((i : Int) + 1) = ((i + 1 : Nat) : Int) := by rw [wrap_id (by omega) (by omega)]; omega
    have hx1c : AgX [] H1 Hc := hx23.trans hxc (fun _ h _ => h) (fun b h1 h2 => by have := (hL3.blk h1).1; omega)
    have hb6c := hxc.get hb6 (fun h => by have := (hL3.blk h).2.2; rw [hb6] at this; simp at this)
    have hb3c := hxc.get hb33 (fun h => by have := (hL3.blk h).1; omega)
    have hne : cur ≠ [] := fun h => by rw [h] at hcl; simp at hcl; omega
    obtain ⟨bl, hbl0, hlv, _, hbl⟩ := hLc.resolve_left (fun h => hne h.2)
    have hbll := (List.getElem?_eq_some_iff.1 hbl).1
    have hci := hcur i hil
    rw [if_neg (by omega)] at hci
    have hcil : i < cur.length := by omega
    obtain ⟨pb, po, hpv, hpg⟩ := gcP (blk_slP hbl hrg (by omega)) hcil
    rw [← hlv, hlv2, hcl] at hpv
    simp only [Value.slice.injEq, and_true] at hpv
    obtain rfl := hpv
    rw [List.getElem?_eq_getElem hcil, Option.some.injEq] at hci
    rw [hci] at hpg
    have hlb := labB_iff.1 (hlab ls[i] (List.getElem_mem hil))
    have hlv' : lv2 = sli bl 0 ls.length := by rw [← hcl]; exact hlv
    rw [hlv2] at hlv'
    simp only [sli, Value.slice.injEq, Option.some.injEq, Addr.mk.injEq, and_true] at hlv'
    obtain ⟨rfl, rfl⟩ := hlv'
    simp only [Nat.zero_add] at hpg
    refine lp_step ?_
    refine seq_reg ?_
    simp only [go_sem, binC, e22, e23]
    refine seq_cond (t := true) (by simp only [go_sem, binC]; rw [decide_eq_true (by omega)]) ?_
    simp only [go_sem, binC]
    refine seq_skip (seq_block (seq_reg ?_))
    simp only [go_sem, binC, e21, e23]
    refine ⟨⟨by omega, by omega⟩, ?_⟩
    simp only [go_sem, binC, hpg, Int.toNat_natCast]
    refine ⟨by have := hx1.1; have := hx1c.1; omega, ?_⟩
    refine wpc_genH fun H5 hH5 => ?_
    have hx5 : AgX [] Hc H5 := hH5 ▸ AgX.app [] _ _
    have hb8 : H5[Hc.length]? = some ⟨[.int .i64 ls[i].1, .int .i64 ls[i].2], 0, 0, false, true⟩ := hH5 ▸ get_new0 _ _
    clear hH5
    have hb65 := hx5.get hb6c (by simp)
    have hb35 := hx5.get hb3c (by simp)
    have hbl5 := hx5.get hbl (by simp)
    have hfl := flat_len (fl := fp) (w := 2) (fun _ => rfl) cur
    rw [hlv2] at hb65
    have r35 := r3'.mono (agx_sub (hx1c.tr hx5))
    refine wpc_regD ?_
    simp only [go_sem, binC, e6, e3, gc_of hb65, gc_of hb35, gc_of hb8, inBlk_some]
    refine op_callQ (by simp only [go_sem, binC]; exact gt H5 _ _ row hlb.1 hR r35) ?_
    simp only [go_sem, binC, e3, gc_of hb35, gc_of hb8, inBlk_some]
    refine op_callQ (by simp only [go_sem, binC]; exact gt H5 _ _ row hlb.2 hR r35) ?_
    simp only [go_sem, binC, e23]
    refine ⟨⟨by omega, by omega⟩, ?_⟩
    simp only [go_sem, binC, Int.toNat_natCast, hbl5]
    refine ⟨⟨by omega, by omega⟩, ?_⟩
    simp only [go_sem, binC, out_n, thenX_n, Nat.zero_add]
    rw [show ((cur.flatMap fp).set (i * 2) (.int .i64 (tset row ls[i].1))).set (i * 2 + 1) (.int .i64 (tset row ls[i].2)) = (cur.set i (tset row ls[i].1, tset row ls[i].2)).flatMap fp from flat_set _ _ (tset row ls[i].1, tset row ls[i].2) hcil]
    have hbl5l := (List.getElem?_eq_some_iff.1 hbl5).1
    generalize hT : ((tset row ls[i].1, tset row ls[i].2) : Int × Int) = tv
    have hxs : AgX [pb] H5 (H5.set pb ⟨(cur.set i tv).flatMap fp, 2, 63, true, true⟩) := AgX.set _ _ _
    have hgs : (H5.set pb ⟨(cur.set i tv).flatMap fp, 2, 63, true, true⟩)[pb]? = some ⟨(cur.set i tv).flatMap fp, 2, 63, true, true⟩ := List.getElem?_set_self hbl5l
    refine wpc_reg ?_
    simp only [go_sem, binC, e23, hw1]
    simp only [go_sem, binC, thenX_n]
    refine ih (i + 1) _ _ (cur.set i tv) (by omega) ((hxc.trans hx5 (fun _ h _ => h) (fun _ h _ => by simp at h)).trans hxs (fun _ h _ => h) (fun b' h1 _ => by simp only [List.mem_singleton] at h1; subst h1; rw [hlv2]; simp [blkOf])) (by rw [List.length_set]; exact hcl) (.inr ⟨pb, hbl0, by rw [List.length_set]; exact hlv, fun h => hne (List.eq_nil_of_length_eq_zero (by simpa using congrArg List.length h)), hgs⟩) (fun p hp => ?_) (fun j hj => ?_) (by simp only [go_sem, binC, e2]) (by simp only [go_sem, binC, e3]) (by simp only [go_sem, binC, e4]) (by simp only [go_sem, binC, e6]) (by simp only [go_sem, binC, e21]) (by simp only [go_sem, binC, e22]) (by simp only [go_sem, binC])
    · rcases List.mem_or_eq_of_mem_set hp with h | h
      · exact hrg p h
      · have a1 := tset_bd hR hlb.1
        have a2 := tset_bd hR hlb.2
        rw [h, ← hT]
        exact ⟨by show RgI (tset row ls[i].1); unfold RgI; omega, by show RgI (tset row ls[i].2); unfold RgI; omega⟩
    · rw [List.getElem?_set]
      by_cases hji : i = j
      · subst hji
        rw [if_pos rfl, if_pos hcil, if_pos (by omega), ← hT]
      · rw [if_neg hji, hcur j hj]
        by_cases hlt : j < i
        · rw [if_pos hlt, if_pos (by omega)]
        · rw [if_neg hlt, if_neg (by omega)]
end Go.Proofs.YtemnemmnfnpnoaaI
end
section
/- Programs whose hosts are named otherwise (the reference's). -/
set_option linter.unusedVariables false
set_option linter.unusedSimpArgs false
namespace Go.Proofs.YtemnemmnfnpnoaaI
open Go Go.RowKit
theorem sTurnProg_ok {F : Nat → Option IFn} {f : Nat} (hf : F f = some c_sTurnProg) (gp : ProgOk F 29) (gr : RowOk F 38) (gv : F 61 = some c_sHosts) (gt : TSetOk F 62) : TurnPOk F f (fun _ => 3) turnLH turnH := by
  intro H n lv sv w ls l row r1 r2 hsm r3
  suffices h : ∃ v H', KC F f [.agg #[lv, sv], w] H v H' ∧ (∃ lv' sv', v = .tuple #[.agg #[lv', sv'], .bool (turnB n (fun _ => 3) ls l row)] ∧ AgX [] H H' ∧ SlR Co.p2 (vw 0 H') lv' (turnO n (fun _ => 3) turnLH turnH ls l row).1 ∧ SlR (Co.step n) (vw 0 H') sv' (turnO n (fun _ => 3) turnLH turnH ls l row).2) by
    obtain ⟨_, H', h1, lv', sv', rfl, h2⟩ := h
    exact ⟨lv', sv', H', h1, h2⟩
  have osv : one sv = true := by obtain ⟨_, a, rfl, _⟩ := r2; rfl
  obtain ⟨_, la, rfl, _⟩ := id r1
  obtain ⟨_, wa, rfl, _⟩ := id r3
  have hls0 : ls.length ≤ 1048576 := hsm.1.1
  refine KC.mk hf rfl ?_
  refine seq_reg ?_
  simp only [go_sem, binC, osv]
  refine wpc_gen fun H1 hH1 => ?_
  have hx1 : AgX [] H H1 := hH1 ▸ AgX.app [] _ _
  have hb2 : H1[H.length]? = some ⟨[.slice la ls.length ls.length, sv], 0, 0, false, true⟩ := hH1 ▸ get_new0 _ _
  have hb4 : H1[H.length + 1]? = some ⟨[nilS, nilS], 0, 0, false, true⟩ := hH1 ▸ get_new _ _ 1
  have hln1 : H1.length = H.length + 2 := by rw [hH1]; simp
  clear hH1
  have r1' := r1.mono (agx_sub hx1)
  have r2' := r2.mono (agx_sub hx1)
  have r3' := r3.mono (agx_sub hx1)
  have hb4l := (List.getElem?_eq_some_iff.1 hb4).1
  refine seq_assoc (seq_reg ?_)
  simp only [go_sem, binC, gc_of hb2, inBlk_some, osv]
  refine op_callB (by simp only [go_sem, binC]; exact gp H1 n _ (ls, l) (prog_rd r1' r2') hsm) (fun hP => ?_) (fun hP => ?_)
  rotate_left
  · simp only [go_sem, binC]
    refine seq_cond (t := true) rfl ?_
    simp only [go_sem, binC]
    refine seq_assoc (seq_reg ?_)
    simp only [go_sem, binC, hb4]
    have hB : turnB n (fun _ => 3) ls l row = false := by simp [turnB, hP]
    have hr : turnO n (fun _ => 3) turnLH turnH ls l row = ([], []) := if_neg (by rw [hB]; simp)
    refine seq_ret ⟨Or.inr rfl, .tuple #[.agg #[nilS, nilS], .bool false], ?_, nilS, nilS, by rw [hB], hx1.setN (by omega) _, ?_, ?_⟩
    · simp [resV, resL, res1, putE_get, notT, ptr, gc_set hb4l, inBlk_some, valOf]
    all_goals (rw [hr]; exact ⟨by simp, none, rfl, .inl rfl⟩)
  have hls : ls.length ≤ 4 := by
    have := hP
    simp only [progB, Bool.and_eq_true, decide_eq_true_eq] at this; have := this.1.1.1; omega
  simp only [go_sem, binC, gc_of hb2, inBlk_some]
  refine op_callB (by simp only [go_sem, binC]; exact gr H1 _ row 3 (by omega) r3') (fun hR => ?_) (fun hR => ?_)
  rotate_left
  · simp only [go_sem, binC]
    refine seq_cond (t := true) rfl ?_
    simp only [go_sem, binC]
    refine seq_assoc (seq_reg ?_)
    simp only [go_sem, binC, hb4]
    have hB : turnB n (fun _ => 3) ls l row = false := by simp [turnB, hR]
    have hr : turnO n (fun _ => 3) turnLH turnH ls l row = ([], []) := if_neg (by rw [hB]; simp)
    refine seq_ret ⟨Or.inr rfl, .tuple #[.agg #[nilS, nilS], .bool false], ?_, nilS, nilS, by rw [hB], hx1.setN (by omega) _, ?_, ?_⟩
    · simp [resV, resL, res1, putE_get, notT, ptr, gc_set hb4l, inBlk_some, valOf]
    all_goals (rw [hr]; exact ⟨by simp, none, rfl, .inl rfl⟩)
  have hB : turnB n (fun _ => 3) ls l row = true := by simp [turnB, hP, hR]
  have hO : turnO n (fun _ => 3) turnLH turnH ls l row = (turnLH row ls, l.map (mapT (turnH row) n)) := if_pos hB
  obtain ⟨hr1, hr2, hr3⟩ := rowB_iff.1 hR
  simp only [go_sem, binC]
  refine seq_cond (t := false) rfl ?_
  simp only [go_sem, binC]
  refine seq_skip (seq_reg ?_)
  simp only [go_sem, binC]
  generalize hHa : H1 ++ [(⟨[], 2, 63, true, true⟩ : Blk)] = Ha
  have hxa : AgX [] H1 Ha := hHa ▸ AgX.app [] _ _
  have hOa : OwnL Co.p2 2 63 H1.length [] Ha H1.length true [] := hHa ▸ OwnG.nil (Nat.le_refl _)
  clear hHa
  have hb2a := hxa.get hb2 (by simp)
  simp only [go_sem, binC, gc_of hb2a, inBlk_some, osv]
  obtain ⟨bv, sov, H2, k2, hx2, o2⟩ := sHosts_all gv hR (by omega) n Ha sv _ l (r2'.mono (agx_sub hxa)) hsm.2 (r3'.mono (agx_sub hxa)) (progB_okS hP)
  refine op_callK (by simp only [go_sem, binC]; exact k2) ?_
  simp only [go_sem, binC, get_new0]
  refine ⟨by have := hx1.1; have := hxa.1; have := hx2.1; omega, ?_⟩
  refine wpc_genH fun H3 hH3 => ?_
  have hx3 : AgX [] H2 H3 := hH3 ▸ AgX.app [] _ _
  have hb6 : H3[H2.length]? = some ⟨[sli H1.length 0 0, sli bv 0 l.length], 0, 0, false, true⟩ := hH3 ▸ get_new0 _ _
  have hl23 : H3.length = H2.length + 1 := by rw [hH3, List.length_append]; rfl
  clear hH3 k2
  have hxa3 := hx2.tr hx3
  have hx13 := hxa.tr hxa3
  have hl2 := hx2.1
  have hl3 := hx3.1
  have hla := hxa.1
  have hal := (List.getElem?_eq_some_iff.1 hOa.2.2.choose_spec.1).1
  have hO3 : OwnL Co.p2 2 63 H1.length [H2.length] H3 H1.length true [] := hOa.sub hxa3 (by simp) fun b' h1 h2 h3 _ => ⟨by simp, by simp; omega⟩
  have s2 : SlR (Co.step n) (vwl Ha.length [] H2) (sli bv 0 l.length) (l.map (mapT (turnH row) n)) := by
    have := o2.slR (step_w n) (by simp)
    rwa [List.length_map] at this
  have hb43 := hx13.get hb4 (by simp)
  have hb23 := hx13.get hb2 (by simp)
  have hlab := List.all_eq_true.1 (progB_labs hP)
  have hlb0 : ∀ p ∈ ls, labB p = true := hlab
  refine seq_assoc (seq_reg ?_)
  simp only [go_sem, binC]
  refine seq_block (wpc_loop ?_)
  suffices h : ∀ (k i : Nat) (e : Env) (Hc : Heap) (b : Nat) (so : Bool), i + k = ls.length → (H2.length ≠ b ∧ (b = H1.length ∨ H2.length < b)) → AgX [b, H1.length, H2.length] H3 Hc → (b = H1.length ∨ H3.length ≤ b) → Hc[H2.length]? = some ⟨[sli b 0 i, sli bv 0 l.length], 0, 0, false, true⟩ → OwnL Co.p2 2 63 H1.length [H2.length] Hc b so (turnLH row (ls.take i)) → e 1 = .slice wa row.length row.length → e 2 = ptr H.length 0 → e 4 = ptr (H.length + 1) 0 → e 6 = ptr H2.length 0 → e 7 = .int .i64 i → W F H.length _ e Hc _ from
    h ls.length 0 _ H3 H1.length true (by omega) ⟨by omega, .inl rfl⟩ (AgX.refl _ _) (.inl rfl) hb6 hO3 (by simp only [go_sem, binC]) (by simp only [go_sem, binC]) (by simp only [go_sem, binC]) (by simp only [go_sem, binC]) (by (simp only [go_sem, binC]) <;> rfl)
  intro k
  induction k with
  | zero =>
    intro i e Hc b so hi hbb hxc hb0 hb6c hOc e1 e2 e4 e6 e7
    have hb4c := hxc.get hb43 (by simp; omega)
    have hb4cl := (List.getElem?_eq_some_iff.1 hb4c).1
    refine lp_step ?_
    refine seq_assoc (seq_reg ?_)
    have hb2c := hxc.get hb23 (by simp; omega)
    simp only [go_sem, binC, e2, e7, gc_of hb2c, inBlk_some]
    refine seq_cond (t := false) (by simp only [go_sem, binC]; rw [decide_eq_false (by omega)]) ?_
    simp only [go_sem, binC]
    refine seq_exit ?_
    simp only [go_sem, binC, thenX_e, out_e, thenX_n]
    obtain rfl : i = ls.length := by omega
    rw [List.take_of_length_le (Nat.le_refl _)] at hOc
    refine seq_reg ?_
    simp only [go_sem, binC, e6, e4, gc_of hb6c, inBlk_some, hb4c]
    have hxf : AgX [H.length + 1] Hc (Hc.set (H.length + 1) ⟨[sli b 0 ls.length, sli bv 0 l.length], 0, 0, false, true⟩) := AgX.set _ _ _
    have hxH : AgX [H1.length, H2.length] H2 Hc := hx3.trans hxc (fun _ h _ => by cases h) (fun b' h1 h2 => by
      simp only [List.mem_cons, List.not_mem_nil, or_false] at h1 ⊢
      rcases h1 with rfl | h | h
      · rcases hb0 with h | h
        · exact .inl h
        · omega
      · exact .inl h
      · exact .inr h)
    have hx1c : AgX [] H1 Hc := (hxa.tr hx2).trans hxH (fun _ h _ => h) (fun b' h1 h2 => by simp only [List.mem_cons, List.not_mem_nil, or_false] at h1; omega)
    refine wpc_ret ⟨Or.inr rfl, .tuple #[.agg #[sli b 0 ls.length, sli bv 0 l.length], .bool true], ?_, _, _, by rw [hB], (hx1.tr hx1c).setN (by omega) _, ?_, ?_⟩
    · simp [resV, resL, res1, putE_get, notT, ptr, gc_set hb4cl, inBlk_some, valOf, e4, sli]
    · rw [hO]
      show SlR Co.p2 _ _ (turnLH row ls)
      have hq := hOc.sub (xs' := [H2.length]) hxf (by simp; rcases hb0 with h | h <;> omega) fun b' h1 h2 h3 h4 => ⟨by simp; omega, h4⟩
      have := hq.slR rfl (by simpa using fun h => hbb.1 h.symm)
      rw [turnLH_len] at this
      exact this.mono (vwl0 _ _ _)
    · rw [hO]
      refine s2.mono ?_
      exact ((vwl_sub (hxH.trans hxf (fun b' h _ => List.mem_cons_of_mem _ h) (fun b' h _ => by simp only [List.mem_singleton] at h; rw [h]; exact List.mem_cons_self) : AgX [H.length + 1, H1.length, H2.length] H2 _) (Nat.le_refl _) (xs' := []) (fun b' h0 h1 h2 => ⟨by simp; omega, by simp⟩))).trans (vwl0 _ _ _)
  | succ k ih =>
    intro i e Hc b so hi hbb hxc hb0 hb6c hOc e1 e2 e4 e6 e7
    have hil : i < ls.length := by omega
    have hw1 : IntKind.i64.wrap ((i : Int) + 1) = ((i + 1 : Nat) : Int) := by rw [wrap_id (by omega) (by omega)]; omega
    have hb2c := hxc.get hb23 (by simp; omega)
    have hxH : AgX [H1.length, H2.length] H2 Hc := hx3.trans hxc (fun _ h _ => by cases h) (fun b' h1 h2 => by
      simp only [List.mem_cons, List.not_mem_nil, or_false] at h1 ⊢
      rcases h1 with rfl | h | h
      · rcases hb0 with h | h
        · exact .inl h
        · omega
      · exact .inl h
      · exact .inr h)
    have hx1c : AgX [] H1 Hc := (hxa.tr hx2).trans hxH (fun _ h _ => h) (fun b' h1 h2 => by simp only [List.mem_cons, List.not_mem_nil, or_false] at h1; omega)
    obtain ⟨pb, po, hpv, hpg⟩ := gcP (r1'.mono (agx_sub hx1c)) hil
    simp only [Value.slice.injEq, and_true] at hpv
    subst hpv
    have hlb := labB_iff.1 (hlab ls[i] (List.getElem_mem hil))
    have r3c := r3'.mono (agx_sub hx1c)
    have gp0 : getCells Hc pb (po + i * 2) 1 = some [.int .i64 ls[i].1] := gc_part (off := 0) (k := 1) hpg (by omega)
    have gp1 : getCells Hc pb (po + i * 2 + 1) 1 = some [.int .i64 ls[i].2] := gc_part (off := 1) (k := 1) hpg (by omega)
    have htO : ∀ s : Int, 0 ≤ s ∧ s ≤ 7 → tsetO row s = tset row s := fun s hs => by
      unfold tsetO
      rw [inB_iff.2 hs, hR]
      rfl
    have hlc := hxc.1
    have hbcl := (List.getElem?_eq_some_iff.1 hb6c).1
    have hx1cl := hx1c.1
    refine lp_step ?_
    refine seq_assoc (seq_reg ?_)
    simp only [go_sem, binC, e2, e7, gc_of hb2c, inBlk_some]
    refine seq_cond (t := true) (by simp only [go_sem, binC]; rw [decide_eq_true (by omega)]) ?_
    simp only [go_sem, binC]
    refine seq_skip (seq_block (wpc_regD ?_))
    simp only [go_sem, binC, e1, e2, e6, e7, gc_of hb6c, gc_of hb2c, inBlk_some]
    refine ⟨⟨by omega, by omega⟩, ?_⟩
    simp only [go_sem, binC, Int.toNat_natCast, gp0, e1]
    refine op_callQ (by simp only [go_sem, binC, e1]; exact gt Hc _ _ row r3c) ?_
    simp only [go_sem, binC, e1, e2, e7, gc_of hb2c, inBlk_some]
    refine ⟨⟨by omega, by omega⟩, ?_⟩
    simp only [go_sem, binC, Int.toNat_natCast, gp1, e1]
    refine op_callQ (by simp only [go_sem, binC, e1]; exact gt Hc _ _ row r3c) ?_
    rw [htO _ hlb.1, htO _ hlb.2]
    have a1 := tset_bd hR hlb.1
    have a2 := tset_bd hR hlb.2
    simp only [go_sem, binC, e6]
    have hlt : (turnLH row (ls.take i)).length = i := by rw [turnLH_len, List.length_take]; omega
    refine op_app_own (A := Co.p2) (lo := H1.length) (a := (tset row ls[i].1, tset row ls[i].2)) hOc (by simp only [go_sem, binC, hlt]) (by (simp only [go_sem, binC]) <;> rfl) (by omega) rfl ⟨[.int .i64 (tset row ls[i].1)], [.int .i64 (tset row ls[i].2)], rfl, ⟨rfl, by omega, by omega⟩, ⟨rfl, by omega, by omega⟩⟩ (by omega) (by omega) (by simp; omega) fun H4 hx4 hO4 => ?_
    have hb64 := hx4.get hb6c (by simpa using hbb.1)
    have hx4l := hx4.1
    simp only [go_sem, binC, e6, hb64]
    refine ⟨by omega, ?_⟩
    simp only [go_sem, binC, out_n, thenX_n]
    have hb64l := (List.getElem?_eq_some_iff.1 hb64).1
    have htk : turnLH row (ls.take i) ++ [(tset row ls[i].1, tset row ls[i].2)] = turnLH row (ls.take (i + 1)) := by
      unfold turnLH
      rw [List.take_add_one, List.getElem?_eq_getElem hil, List.map_append]
      rfl
    rw [htk] at hO4
    rw [hlt]
    have hxs : AgX [H2.length] H4 (H4.set H2.length ⟨[sli (Hc.length + 1) 0 (i + 1), sli bv 0 l.length], 0, 0, false, true⟩) := AgX.set _ _ _
    have hO5 := hO4.sub (xs' := [H2.length]) hxs (by simp; omega) fun b' h1 h2 h3 h4 => ⟨by simpa using h4, h4⟩
    refine wpc_reg ?_
    simp only [go_sem, binC, e7, hw1]
    simp only [go_sem, binC, thenX_n]
    refine ih (i + 1) _ _ (Hc.length + 1) _ (by omega) ⟨by omega, .inr (by omega)⟩ ?_ (.inr (by omega)) (List.getElem?_set_self hb64l) hO5 (by simp only [go_sem, binC, e1]) (by simp only [go_sem, binC, e2]) (by simp only [go_sem, binC, e4]) (by simp only [go_sem, binC, e6]) (by simp only [go_sem, binC])
    refine (hxc.trans hx4 (zs := [Hc.length + 1, H1.length, H2.length]) (fun b' h1 h2 => ?_) (fun b' h1 h2 => ?_)).trans hxs (fun _ h _ => h) (fun b' h _ => by simp only [List.mem_singleton] at h; rw [h]; simp)
    · simp only [List.mem_cons, List.not_mem_nil, or_false] at h1 ⊢
      rcases h1 with rfl | h | h
      · rcases hb0 with h | h
        · exact .inr (.inl h)
        · omega
      · exact .inr (.inl h)
      · exact .inr (.inr h)
    · simp only [List.mem_cons, List.not_mem_nil, or_false] at h1 ⊢
      subst h1
      rcases hb0 with h | h
      · exact .inr (.inl h)
      · omega
end Go.Proofs.YtemnemmnfnpnoaaI
end
section
/- The laws FnTurnProg and FnTurnSame on the ideal machine. -/
set_option linter.unusedVariables false
set_option linter.unusedSimpArgs false
namespace Go.Proofs.YtemnemmnfnpnoaaI
open Go Go.RowKit
theorem allT_map (T : Shal → Shal) : ∀ (n : Nat) (s : TStep n), allT n (mapT T n s) = (allT n s).map T
  | 0, s => s.elim
  | n + 1, (k, x, v, g, th, el) => by
    have go : ∀ l : List (TStep n), allL n (l.map (mapT T n)) = (allL n l).map T := fun l => by
      unfold allL
      rw [List.map_map, List.map_flatten, List.map_map]
      congr 1
      exact List.map_congr_left fun a _ => allT_map T n a
    rw [mapT_succ, allT_succ, allT_succ, go, go, List.map_cons, List.map_append]
theorem allL_map (T : Shal → Shal) {n : Nat} (l : List (TStep n)) : allL n (l.map (mapT T n)) = (allL n l).map T := by
  unfold allL
  rw [List.map_map, List.map_flatten, List.map_map]
  congr 1
  exact List.map_congr_left fun a _ => allT_map T n a
end Go.Proofs.YtemnemmnfnpnoaaI
end
