/- Texts of this proof, merged: H6, H7, H8, H9, H13, H15, H16, V1, V2, V3, J0, V4, V6. -/
import Derived.Test.YtmakdcbpohlacaaXb7
section
/- A program copied; variables named otherwise. -/
set_option linter.unusedVariables false
set_option linter.unusedSimpArgs false
namespace Go.Proofs.YtmakdcbpohlacaaI
open Go Go.RowKit
/-- Labels in a block of one's own. -/
def LabV (lo : Nat) (H : Heap) (v : Value) (ls : List (Int × Int)) : Prop := (v = nilS ∧ ls = []) ∨ ∃ b, lo ≤ b ∧ v = sli b 0 ls.length ∧ ls ≠ [] ∧ H[b]? = some ⟨ls.flatMap fp, 2, 59, true, true⟩
theorem LabV.shape {lo : Nat} {H : Heap} {v : Value} {ls : List (Int × Int)} (h : LabV lo H v ls) : ∃ a, v = .slice a ls.length ls.length := by
  rcases h with ⟨rfl, rfl⟩ | ⟨b, _, rfl, _⟩
  · exact ⟨none, rfl⟩
  · exact ⟨_, rfl⟩
theorem LabV.keep {lo lo' : Nat} {H H' : Heap} {v : Value} {ls : List (Int × Int)} {xs : List Nat} (h : LabV lo H v ls) (hl : lo' ≤ lo) (hx : AgX xs H H') (hn : ∀ b, lo ≤ b → H[b]? = some ⟨ls.flatMap fp, 2, 59, true, true⟩ → b ∉ xs) : LabV lo' H' v ls := by
  rcases h with h | ⟨b, h1, h2, h3, h4⟩
  · exact .inl h
  · exact .inr ⟨b, by omega, h2, h3, hx.get h4 (hn b h1 h4)⟩
theorem LabV.sl {lo : Nat} {H : Heap} {v : Value} {ls : List (Int × Int)} (h : LabV lo H v ls) (hr : ∀ p ∈ ls, RgI p.1 ∧ RgI p.2) (hl : ls.length ≤ 1000) : SlR Co.p2 (vw 0 H) v ls := by
  rcases h with h | ⟨b, h1, h2, h3, h4⟩
  · exact GLi.slP (es := 2) (lo := lo) (et := 59) (.inl h) hr hl
  · exact GLi.slP (es := 2) (.inr ⟨b, true, h1, h2, h3, h4⟩) hr hl
theorem p2_rg {V : Vw} {v : Value} {l : List (Int × Int)} (h : SlR Co.p2 V v l) : ∀ w ∈ l, RgI w.1 ∧ RgI w.2 := by
  intro w hw
  obtain ⟨i, hi, rfl⟩ := List.getElem_of_mem hw
  obtain ⟨_, a, rfl, h2⟩ := h
  rcases h2 with h2 | ⟨b, o, _, h2⟩
  · rw [h2] at hi; simp at hi
  · obtain ⟨cs, _, _, _, _, ⟨_, r1⟩, ⟨_, r2⟩⟩ := h2 i hi
    exact ⟨r1, r2⟩
theorem sl_p2s {H : Heap} {v : Value} {l : List (Int × Int)} (h : SlR Co.p2 (vw 0 H) v l) (hl : l ≠ []) : ∃ b o, v = .slice (some ⟨b, o, none⟩) l.length l.length ∧ getCells H b o (l.length * 2) = some (l.flatMap fp) := by
  obtain ⟨b, o, ys, h1, h3, h2, h4⟩ := sl_cells (w := 2) rfl h hl
  refine ⟨b, o, h1, ?_⟩
  have hfl := flat_len (fl := fp) (w := 2) (fun _ => rfl) l
  have : ys = l.flatMap fp := by
    refine List.ext_getElem? fun m => ?_
    by_cases hm : m < l.length * 2
    · have hi : m / 2 < l.length := by omega
      obtain ⟨_, _, e1, ⟨rfl, _⟩, ⟨rfl, _⟩⟩ := h4 (m / 2) hi
      have q1 : ((ys.drop (m / 2 * 2)).take 2)[m % 2]? = ys[m]? := by
        rw [List.getElem?_take, if_pos (by omega), List.getElem?_drop]
        congr 1; omega
      have q2 : (l.flatMap fp)[m]? = (fp l[m / 2])[m % 2]? := by
        have e : l.flatMap fp = (l.take (m / 2)).flatMap fp ++ (fp l[m / 2] ++ (l.drop (m / 2 + 1)).flatMap fp) := by
          conv => lhs; rw [← List.take_append_drop (m / 2) l, List.drop_eq_getElem_cons hi]
          rw [List.flatMap_append, List.flatMap_cons]
        have hlt : ((l.take (m / 2)).flatMap fp).length = m / 2 * 2 := by rw [flat_len (fl := fp) (w := 2) (fun _ => rfl), List.length_take]; omega
        rw [e, List.getElem?_append_right (by omega), hlt, List.getElem?_append_left (by show m - m / 2 * 2 < 2; omega)]
        congr 1; omega
      rw [← q1, e1, q2]
      rfl
    · rw [List.getElem?_eq_none (by omega), List.getElem?_eq_none (by omega)]
  rw [← this]
  exact h3
def PCloneOk (F : Nat → Option IFn) (f : Nat) : Prop := ∀ (H : Heap) (n : Nat) (lv sv : Value) (ls : List (Int × Int)) (l : List (TStep n)), SlR Co.p2 (vw 0 H) lv ls → SlR (Co.step n) (vw 0 H) sv l → (Co.prog n).sm (ls, l) → ∃ lv' sv' B H', KC F f [.agg #[lv, sv]] H (.agg #[lv', sv']) H' ∧ AgX [] H H' ∧ LabV H.length H' lv' ls ∧ OwnT H.length H' n sv' l B
theorem pclone_ok {F : Nat → Option IFn} {f : Nat} (hf : F f = some c_pclone) (gc : ∀ n, CloneOk F 77 n) : PCloneOk F f := by
  intro H n lv sv ls l r1 r2 hsm
  suffices h : ∃ w H', KC F f [.agg #[lv, sv]] H w H' ∧ (∃ lv' sv' B, w = .agg #[lv', sv'] ∧ AgX [] H H' ∧ LabV H.length H' lv' ls ∧ OwnT H.length H' n sv' l B) by
    obtain ⟨w, H', h1, lv', sv', B, rfl, h2⟩ := h
    exact ⟨lv', sv', B, H', h1, h2⟩
  have osv : one sv = true := by obtain ⟨_, a, rfl, _⟩ := r2; rfl
  have olv : one lv = true := by obtain ⟨_, a, rfl, _⟩ := r1; rfl
  have hls : ls.length ≤ 1048576 := hsm.1.1
  refine KC.mk hf rfl ?_
  refine seq_reg ?_
  simp only [go_sem, binC, osv, olv]
  refine wpc_gen fun H1 hH1 => ?_
  have hx1 : AgX [] H H1 := hH1 ▸ AgX.app [] _ _
  have hb1 : H1[H.length]? = some ⟨[lv, sv], 0, 0, false, true⟩ := hH1 ▸ get_new0 _ _
  have hb2 : H1[H.length + 1]? = some ⟨[nilS, nilS], 0, 0, false, true⟩ := hH1 ▸ get_new _ _ 1
  have hln : H1.length = H.length + 2 := by rw [hH1]; simp
  clear hH1
  have hl1 := hx1.1
  have happ : ∀ (e : Env) (K : Value → Heap → Prop), e 4 = lv → (∀ lv' L, LabV H.length (H1 ++ L) lv' ls → K lv' (H1 ++ L)) → wpOp F H1.length (.app 2 59 16 false (.c (.slice none 0 0)) (.t 4)) e H1 K := by
    intro e K e4 k
    by_cases hl0 : ls = []
    · obtain ⟨_, a, rfl, _⟩ := r1
      subst hl0
      refine op_app_zero _ _ _ _ _ rfl (by (simp only [go_sem, binC, e4]) <;> rfl) ?_
      have := k nilS []
      rw [List.append_nil] at this
      exact this (.inl ⟨rfl, rfl⟩)
    · obtain ⟨b, o, rfl, hg⟩ := sl_p2s (r1.mono (agx_sub hx1)) hl0
      have hne : ls.length ≠ 0 := fun h => hl0 (List.eq_nil_of_length_eq_zero h)
      refine op_app_nil _ _ _ _ _ rfl (by (simp only [go_sem, binC, e4]) <;> rfl) hne hg (by omega) (by omega) ?_
      exact k _ _ (.inr ⟨H1.length, hl1, rfl, hl0, get_new0 _ _⟩)
  refine seq_regD ?_
  simp only [go_sem, binC, gc_of hb1, inBlk_some]
  refine happ _ _ (by simp only [go_sem, binC]) fun lv' L hL => ?_
  have hx2 : AgX [] H1 (H1 ++ L) := AgX.app [] _ _
  have hb12 := hx2.get hb1 (by simp)
  simp only [go_sem, binC, gc_of hb12, inBlk_some]
  obtain ⟨sv', B, H3, k3, hx3, o3⟩ := gc n (H1 ++ L) sv l (r2.mono (agx_sub (hx1.tr hx2))) hsm.2
  obtain ⟨la', rfl⟩ := hL.shape
  obtain ⟨_, sa', rfl⟩ := id o3.len
  refine op_callK (by simp only [go_sem, binC]; exact k3) ?_
  have hb23 := (hx2.tr hx3).get hb2 (by simp)
  have hb23l := (List.getElem?_eq_some_iff.1 hb23).1
  simp only [go_sem, binC, hb23]
  have hl3 := hx3.1
  have hl2 := hx2.1
  have hxs : AgX [H.length + 1] H3 (H3.set (H.length + 1) ⟨[.slice la' ls.length ls.length, .slice sa' l.length l.length], 0, 0, false, true⟩) := AgX.set _ _ _
  refine wpc_ret ⟨Or.inr rfl, .agg #[.slice la' ls.length ls.length, .slice sa' l.length l.length], ?_, _, _, B, rfl, ((hx1.tr hx2).tr hx3).setN (by omega) _, ?_, ?_⟩
  · simp [resV, resL, res1, putE_get, ptr, gc_set hb23l, inBlk_some, valOf]
  · exact (hL.keep (Nat.le_refl _) hx3 (fun b _ _ => by simp)).keep (Nat.le_refl _) hxs (fun b _ h1 h2 => by simp only [List.mem_singleton] at h2; subst h2; rw [hb23] at h1; simp at h1)
  · refine o3.keep (by omega) fun b hb => hxs.2 b (o3.ge b hb).2.1 (fun h => ?_)
    have := (o3.ge b hb).1
    simp only [List.mem_singleton] at h
    have hq : (H1 ++ L).length = H1.length + L.length := List.length_append
    omega
end Go.Proofs.YtmakdcbpohlacaaI
end
section
/- Variables named otherwise (the program's). -/
set_option linter.unusedVariables false
set_option linter.unusedSimpArgs false
namespace Go.Proofs.YtmakdcbpohlacaaI
open Go Go.RowKit
def turnB (n : Nat) (m : Nat → Nat) (ls : List (Int × Int)) (l : List (TStep n)) (row : List Int) : Bool := progB n (ls, l) && rowB row (m ls.length)
def turnO (n : Nat) (m : Nat → Nat) (lab : List Int → List (Int × Int) → List (Int × Int)) (T : List Int → Shal → Shal) (ls : List (Int × Int)) (l : List (TStep n)) (row : List Int) : List (Int × Int) × List (TStep n) := if turnB n m ls l row = true then (lab row ls, l.map (mapT (T row) n)) else ([], [])
def TurnPOk (F : Nat → Option IFn) (f : Nat) (m : Nat → Nat) (lab : List Int → List (Int × Int) → List (Int × Int)) (T : List Int → Shal → Shal) : Prop := ∀ (H : Heap) (n : Nat) (lv sv w : Value) (ls : List (Int × Int)) (l : List (TStep n)) (row : List Int), SlR Co.p2 (vw 0 H) lv ls → SlR (Co.step n) (vw 0 H) sv l → (Co.prog n).sm (ls, l) → SlR Co.int (vw 0 H) w row →
  ∃ lv' sv' H', KC F f [.agg #[lv, sv], w] H (.tuple #[.agg #[lv', sv'], .bool (turnB n m ls l row)]) H' ∧ AgX [] H H' ∧ SlR Co.p2 (vw 0 H') lv' (turnO n m lab T ls l row).1 ∧ SlR (Co.step n) (vw 0 H') sv' (turnO n m lab T ls l row).2
theorem flat_set : ∀ (l : List (Int × Int)) (i : Nat) (x : Int × Int), i < l.length → setL (l.flatMap fp) (i * 2) (fp x) = (l.set i x).flatMap fp := by
  intro l i x hi
  have hfl := flat_len (fl := fp) (w := 2) (fun _ => rfl) l
  rw [setL_eq _ _ _ (by show i * 2 + 2 ≤ _; omega)]
  have e : l.flatMap fp = (l.take i).flatMap fp ++ (fp l[i] ++ (l.drop (i + 1)).flatMap fp) := by
    conv => lhs; rw [← List.take_append_drop i l, List.drop_eq_getElem_cons hi]
    rw [List.flatMap_append, List.flatMap_cons]
  have hlt : ((l.take i).flatMap fp).length = i * 2 := by rw [flat_len (fl := fp) (w := 2) (fun _ => rfl), List.length_take]; omega
  rw [List.set_eq_take_append_cons_drop, if_pos hi, List.flatMap_append, List.flatMap_cons, e]
  rw [List.take_append_of_le_length (by omega), List.take_of_length_le (by omega), List.drop_append, List.drop_of_length_le (by rw [hlt]; show _ ≤ i * 2 + 2; omega), hlt]
  rw [show i * 2 + (fp x).length - i * 2 = 2 from by show i * 2 + 2 - i * 2 = 2; omega]
  rw [List.nil_append, List.append_assoc]
  rfl
theorem LabV.blk {lo : Nat} {H : Heap} {v : Value} {ls : List (Int × Int)} (h : LabV lo H v ls) {b : Nat} (hb : b ∈ blkOf v) : lo ≤ b ∧ v = sli b 0 ls.length ∧ H[b]? = some ⟨ls.flatMap fp, 2, 59, true, true⟩ := by
  rcases h with ⟨rfl, _⟩ | ⟨b', q1, rfl, q3, q4⟩
  · cases hb
  · simp only [blkOf, sli, List.mem_singleton] at hb
    subst hb
    exact ⟨q1, rfl, q4⟩
end Go.Proofs.YtmakdcbpohlacaaI
end
section
/- Steps turned (the reference's). -/
set_option linter.unusedVariables false
set_option linter.unusedSimpArgs false
namespace Go.Proofs.YtmakdcbpohlacaaI
open Go Go.RowKit
def STurnOk (F : Nat → Option IFn) (f n : Nat) (row : List Int) (P : Shal → Prop) (T : Shal → Shal) : Prop := ∀ (H : Heap) (v w : Value) (l : List (TStep n)), SlR (Co.step n) (vw 0 H) v l → (Co.sl (Co.step n)).sm l → SlR Co.int (vw 0 H) w row → (∀ s ∈ allL n l, P s) →
  ∃ b so H', KC F f [v, w] H (sli b 0 l.length) H' ∧ (AgX [] H H' ∧ OwnL (Co.step n) 8 68 H.length [] H' b so (l.map (mapT T n)))
/-- A step with its hosts named otherwise. -/
def turnH (row : List Int) (s : Shal) : Shal := (s.1, s.2.1, s.2.2.1, if s.1 = 3 then nameO row s.2.2.2 else s.2.2.2)
def sHostsTail : ICode := (.seq (.reg none [
         ⟨(some 28), none, .fad 6 (.t 7)⟩,
         ⟨(some 29), none, .load false 1 (.t 28)⟩,
         ⟨(some 30), none, .mov (.t 1)⟩,
         ⟨(some 31), none, .call .k (.f 44) [(.t 29), (.t 30)]⟩,
         ⟨(some 32), none, .fad 6 (.t 7)⟩,
         ⟨none, none, .store 1 (.t 32) (.t 31)⟩])
      (.seq (.reg none [
         ⟨(some 33), none, .fad 7 (.t 7)⟩,
         ⟨(some 34), none, .load false 1 (.t 33)⟩,
         ⟨(some 35), none, .mov (.t 1)⟩,
         ⟨(some 36), none, .call .k (.f 44) [(.t 34), (.t 35)]⟩,
         ⟨(some 37), none, .fad 7 (.t 7)⟩,
         ⟨none, none, .store 1 (.t 37) (.t 36)⟩])
      (.reg none [
        ⟨(some 38), none, .mov (.t 5)⟩,
        ⟨(some 39), none, .load true 8 (.t 7)⟩,
        ⟨(some 40), none, .lit 8 68 1 [(.int .i64 0), (.int .i64 0), (.int .i64 0), (.int .i64 0), (.int .i64 0), (.int .i64 0), (.slice none 0 0), (.slice none 0 0)] [(0, 8, (.t 39))]⟩,
        ⟨(some 41), none, .app 8 68 96 false (.t 38) (.t 40)⟩,
        ⟨(some 5), none, .mov (.t 41)⟩])))
def sHostsBody : ICode := (.seq (.seq (.reg none [
          ⟨(some 19), none, .fad 0 (.t 7)⟩,
          ⟨(some 20), none, .load false 1 (.t 19)⟩,
          ⟨(some 21), none, .bin .eql (.t 20) (.c (.int .i64 3))⟩])
       (.cond (.t 21) (.reg none [
          ⟨(some 22), none, .mov (.t 1)⟩,
          ⟨(some 23), none, .fad 5 (.t 7)⟩,
          ⟨(some 24), none, .load false 1 (.t 23)⟩,
          ⟨(some 25), none, .iad 1 (.t 22) (.t 24)⟩,
          ⟨(some 26), none, .load false 1 (.t 25)⟩,
          ⟨(some 27), none, .fad 5 (.t 7)⟩,
          ⟨none, none, .store 1 (.t 27) (.t 26)⟩]) (.skip)))
      sHostsTail)
def c_sHosts : IFn := ⟨2, 43, [.t 4],
 .seq (.reg none [
    ⟨(some 4), none, .mov (.c (.slice none 0 0))⟩])
 (.seq (.reg none [
    ⟨(some 8), none, .lit 8 68 0 [] []⟩,
    ⟨(some 5), none, .mov (.t 8)⟩])
 (.seq (.seq (.reg none [
     ⟨(some 6), none, .mov (.c (.int .i64 0))⟩])
  (.block 0 (.loop (.seq (.seq (.reg none [
        ⟨(some 9), none, .mov (.t 6)⟩,
        ⟨(some 10), none, .mov (.t 0)⟩,
        ⟨(some 11), none, .len (.t 10)⟩,
        ⟨(some 12), none, .bin .lss (.t 9) (.t 11)⟩])
     (.cond (.t 12) (.skip) (.exit 0)))
    (.seq (.block 1 (.seq (.reg none [
         ⟨(some 15), none, .mov (.t 0)⟩,
         ⟨(some 16), none, .mov (.t 6)⟩,
         ⟨(some 17), none, .iad 8 (.t 15) (.t 16)⟩,
         ⟨(some 18), none, .load true 8 (.t 17)⟩,
         ⟨(some 7), none, .new [(.int .i64 0), (.int .i64 0), (.int .i64 0), (.int .i64 0), (.int .i64 0), (.int .i64 0), (.slice none 0 0), (.slice none 0 0)]⟩,
         ⟨none, none, .store 8 (.t 7) (.t 18)⟩])
      sHostsBody))
    (.reg none [
      ⟨(some 13), none, .mov (.t 6)⟩,
      ⟨(some 14), none, .bin .add (.t 13) (.c (.int .i64 1))⟩,
      ⟨(some 6), none, .mov (.t 14)⟩]))))))
 (.seq (.reg none [
    ⟨(some 42), none, .mov (.t 5)⟩,
    ⟨(some 4), none, .mov (.t 42)⟩])
 (.ret))))⟩
theorem sHostsTail_ok {F : Nat → Option IFn} {H Hc : Heap} {n b : Nat} {so : Bool} {acc : List (TStep (n + 1))} {bs : Nat} {sk sx sa sbb sc sg : Int} {tv ev w : Value} {tl el : List (TStep n)} {row : List Int} {P : Shal → Prop} {T : Shal → Shal} {e : Env} {K : X → Env → Heap → Prop} (hA : STurnOk F 44 n row P T)
    (hB : Cd H H.length [] n b so acc bs [.int .i64 sk, .int .i64 sx, .int .i64 sa, .int .i64 sbb, .int .i64 sc, .int .i64 sg, tv, ev] Hc) (htl : SlR (Co.step n) (vw 0 H) tv tl) (hel : SlR (Co.step n) (vw 0 H) ev el) (mtl : (Co.sl (Co.step n)).sm tl) (mel : (Co.sl (Co.step n)).sm el) (hw : SlR Co.int (vw 0 H) w row)
    (hpt : ∀ s ∈ allL n tl, P s) (hpe : ∀ s ∈ allL n el, P s) (rg : Rg sk ∧ Rg sx ∧ Rg sa ∧ Rg sbb ∧ Rg sc ∧ Rg sg) (hl : acc.length < 1048576) (e1 : e 1 = w) (e5 : e 5 = sli b 0 acc.length) (e7 : e 7 = ptr bs 0)
    (hK : ∀ e' Hc' b' so', (e' 0 = e 0 ∧ e' 1 = e 1 ∧ e' 6 = e 6 ∧ e' 5 = sli b' 0 (acc.length + 1)) → AgX [] H Hc' → OwnG (Co.step (n + 1)) 8 68 H.length H.length [] Hc' b' so' (acc ++ ([(sk, sx, (sa, sbb, sc), sg, tl.map (mapT T n), el.map (mapT T n))] : List (TStep (n + 1)))) → K .n e' Hc') : wpc F H.length sHostsTail e Hc K := by
  obtain ⟨_, wa, rfl, _⟩ := id hw
  have otv : one tv = true := by obtain ⟨_, a, rfl, _⟩ := htl; rfl
  have oev : one ev = true := by obtain ⟨_, a, rfl, _⟩ := hel; rfl
  have hbl : bs < Hc.length := (List.getElem?_eq_some_iff.1 hB.box).1
  unfold sHostsTail
  refine seq_reg ?_
  simp only [go_sem, binC, e1, e7, gc_of hB.box, inBlk_some]
  obtain ⟨b3, so3, H3, k3, x3, o3⟩ := hA Hc tv _ tl (htl.mono (agx_sub hB.ag)) mtl (hw.mono (agx_sub hB.ag)) hpt
  refine op_callK (by simp only [go_sem, binC]; exact k3) ?_
  have hB3 := hB.grow x3
  simp only [go_sem, binC, e7, hB3.box]
  refine ⟨by have := hB.lo; omega, ?_⟩
  have hB4 := hB3.store (cells' := [.int .i64 sk, .int .i64 sx, .int .i64 sa, .int .i64 sbb, .int .i64 sc, .int .i64 sg, sli b3 0 tl.length, ev])
  have r3 := (o3.slR (step_w n) (by simp)).mono (hB.new x3 ⟨[.int .i64 sk, .int .i64 sx, .int .i64 sa, .int .i64 sbb, .int .i64 sc, .int .i64 sg, sli b3 0 tl.length, ev], 0, 0, false, true⟩)
  rw [List.length_map] at r3
  refine seq_reg ?_
  simp only [go_sem, binC, e1, e7, gc_of hB4.box, inBlk_some]
  obtain ⟨b5, so5, H5, k5, x5, o5⟩ := hA _ ev _ el (hel.mono (agx_sub hB4.ag)) mel (hw.mono (agx_sub hB4.ag)) hpe
  refine op_callK (by simp only [go_sem, binC]; exact k5) ?_
  have hB5 := hB4.grow x5
  simp only [go_sem, binC, e7, hB5.box]
  refine ⟨by have := hB.lo; omega, ?_⟩
  have hB6 := hB5.store (cells' := [.int .i64 sk, .int .i64 sx, .int .i64 sa, .int .i64 sbb, .int .i64 sc, .int .i64 sg, sli b3 0 tl.length, sli b5 0 el.length])
  have r5 := (o5.slR (step_w n) (by simp)).mono (hB4.new x5 ⟨[.int .i64 sk, .int .i64 sx, .int .i64 sa, .int .i64 sbb, .int .i64 sc, .int .i64 sg, sli b3 0 tl.length, sli b5 0 el.length], 0, 0, false, true⟩)
  rw [List.length_map] at r5
  have r6 := r3.mono ((vwl_sub x5 (Nat.le_refl _) (fun b' _ _ h => ⟨by simp, h⟩)).trans (vwl_sub (AgX.set H5 bs ⟨[.int .i64 sk, .int .i64 sx, .int .i64 sa, .int .i64 sbb, .int .i64 sc, .int .i64 sg, sli b3 0 tl.length, sli b5 0 el.length], 0, 0, false, true⟩) (Nat.le_refl _) (fun b' _ _ h => ⟨by simp at h ⊢; exact h.2, h⟩)) : Sub (vwl H.length [b, bs] _) (vwl H.length [b, bs] _))
  obtain ⟨g1, g2, g3, g4, g5, g6⟩ := rg
  have hrd := step_rd g1 g2 g3 g4 g5 g6 r6 r5
  have hbl6 := (List.getElem?_eq_some_iff.1 hB6.box).1
  have h1 := hB6.lo
  have hob := hB6.own.1
  refine wpc_reg ?_
  simp only [go_sem, binC, e5, e7, gc_of hB6.box, inBlk_some]
  refine op_app_own (xs := [bs]) hB6.own (by simp only [go_sem, binC, e5]) (by simp only [go_sem, binC]) (Nat.le_refl _) (step_w _) hrd hl (by omega) (fun b' hm => by
    simp only [List.mem_singleton] at hm; subst hm; exact hbl6) fun H' hx hown => ?_
  simp only [go_sem, binC]
  exact hK _ H' _ _ ⟨by simp only [go_sem, binC], by simp only [go_sem, binC], by simp only [go_sem, binC], by simp only [go_sem, binC]⟩ (agx_nil hB6.ag hx hob) (hown.sub (AgX.refl [] H') (by simp) fun b' _ _ _ h => ⟨by simp, by simp⟩)
theorem sHostsBody_ok {F : Nat → Option IFn} {H Hc : Heap} {n b k : Nat} {so : Bool} {acc : List (TStep (n + 1))} {bs : Nat} {sk sx sa sbb sc sg : Int} {tv ev w : Value} {tl el : List (TStep n)} {row : List Int} {e : Env} {K : X → Env → Heap → Prop} (hrow : rowB row 3 = true) (hk : 3 ≤ 1000) (hA : STurnOk F 44 n row (okS k) (turnH row))
    (hB : Cd H H.length [] n b so acc bs [.int .i64 sk, .int .i64 sx, .int .i64 sa, .int .i64 sbb, .int .i64 sc, .int .i64 sg, tv, ev] Hc) (htl : SlR (Co.step n) (vw 0 H) tv tl) (hel : SlR (Co.step n) (vw 0 H) ev el) (mtl : (Co.sl (Co.step n)).sm tl) (mel : (Co.sl (Co.step n)).sm el) (hw : SlR Co.int (vw 0 H) w row)
    (hPs : okS k (sk, sx, (sa, sbb, sc), sg)) (hpt : ∀ s ∈ allL n tl, okS k s) (hpe : ∀ s ∈ allL n el, okS k s) (rg : Rg sk ∧ Rg sx ∧ Rg sa ∧ Rg sbb ∧ Rg sc ∧ Rg sg) (hl : acc.length < 1048576) (e1 : e 1 = w) (e5 : e 5 = sli b 0 acc.length) (e7 : e 7 = ptr bs 0)
    (hK : ∀ e' Hc' b' so', (e' 0 = e 0 ∧ e' 1 = e 1 ∧ e' 6 = e 6 ∧ e' 5 = sli b' 0 (acc.length + 1)) → AgX [] H Hc' → OwnG (Co.step (n + 1)) 8 68 H.length H.length [] Hc' b' so' (acc ++ [mapT (turnH row) (n + 1) (sk, sx, (sa, sbb, sc), sg, tl, el)]) → K .n e' Hc') : wpc F H.length sHostsBody e Hc K := by
  obtain ⟨hr1, hr2, hr3⟩ := rowB_iff.1 hrow
  have hnm : ∀ x : Int, 0 ≤ x → x ≤ (3 : Int) - 1 → ∃ (h : x.toNat < row.length), nameO row x = row[x.toNat] ∧ 0 ≤ nameO row x ∧ nameO row x < 3 := fun x h1 h2 => by
    have h : x.toNat < row.length := by omega
    have h3 : nameO row x = row[x.toNat] := by simp [nameO, List.getD, h]
    exact ⟨h, h3, by rw [h3]; exact hr2 _ (List.getElem_mem h)⟩
  have fin : ∀ (x2 a2 b2 c2 h2 : Int) (e2 : Env) (H2 : Heap), Cd H H.length [] n b so acc bs [.int .i64 sk, .int .i64 x2, .int .i64 a2, .int .i64 b2, .int .i64 c2, .int .i64 h2, tv, ev] H2 → (Rg x2 ∧ Rg a2 ∧ Rg b2 ∧ Rg c2 ∧ Rg h2) → turnH row (sk, sx, (sa, sbb, sc), sg) = (sk, x2, (a2, b2, c2), h2) → e2 0 = e 0 → e2 1 = e 1 → e2 5 = e 5 → e2 6 = e 6 → e2 7 = ptr bs 0 → wpc F H.length sHostsTail e2 H2 K := fun x2 a2 b2 c2 h2 e2 H2 hB2 hrg2 hT f0 f1 f5 f6 f7 =>
    sHostsTail_ok hA hB2 htl hel mtl mel hw hpt hpe ⟨rg.1, hrg2⟩ hl (by rw [f1, e1]) (by rw [f5, e5]) f7 fun e7 H7 b7 so7 ⟨q0, q1, q6, q5⟩ x7 o7 => by
      refine hK e7 H7 b7 so7 ⟨by rw [q0, f0], by rw [q1, f1], by rw [q6, f6], q5⟩ x7 ?_
      have hm : mapT (turnH row) (n + 1) (sk, sx, (sa, sbb, sc), sg, tl, el) = (((turnH row (sk, sx, (sa, sbb, sc), sg)).1, (turnH row (sk, sx, (sa, sbb, sc), sg)).2.1, (turnH row (sk, sx, (sa, sbb, sc), sg)).2.2.1, (turnH row (sk, sx, (sa, sbb, sc), sg)).2.2.2, tl.map (mapT (turnH row) n), el.map (mapT (turnH row) n)) : TStep (n + 1)) := rfl
      rw [hm, hT]
      exact o7
  have hlo := hB.lo
  have hrow1 := hw.mono (agx_sub hB.ag)
  obtain ⟨g1, g2, g3, g4, g5, g6⟩ := rg
  obtain ⟨_, wa, rfl, _⟩ := id hw
  unfold sHostsBody
  obtain ⟨p1, p2, p3, p4, p5⟩ := hPs
  simp only at p5
  by_cases k3 : sk = 3
  · obtain ⟨q1, q2⟩ := p5 k3
    obtain ⟨hxl, hxe, hxr⟩ := hnm sg q1 (by omega)
    obtain ⟨rblk, ro, hrv, hg⟩ := gcI0 hrow1 hxl
    simp only [Value.slice.injEq, and_true] at hrv
    subst hrv
    refine seq_assoc (seq_reg ?_)
    simp only [go_sem, binC, e7, gc_of hB.box, inBlk_some, beq_t k3]
    refine seq_cond (t := true) rfl ?_
    simp only [go_sem, binC]
    refine seq_reg ?_
    simp only [go_sem, binC, e1, e7, gc_of hB.box, inBlk_some]
    refine ⟨⟨by omega, by omega⟩, ?_⟩
    simp only [go_sem, binC, Nat.mul_one, hg, hB.box]
    refine ⟨by omega, ?_⟩
    rw [← hxe]
    refine fin sx sa sbb sc (nameO row sg) _ _ hB.store ⟨g2, g3, g4, g5, by unfold Rg; omega⟩ ?_ (by simp only [go_sem, binC]) (by simp only [go_sem, binC]) (by simp only [go_sem, binC]) (by simp only [go_sem, binC]) (by simp only [go_sem, binC, e7])
    simp only [turnH, if_pos k3]
  · refine seq_assoc (seq_reg ?_)
    simp only [go_sem, binC, e7, gc_of hB.box, inBlk_some, beq_f k3]
    refine seq_cond (t := false) rfl ?_
    simp only [go_sem, binC]
    refine seq_skip ?_
    refine fin sx sa sbb sc sg _ _ hB ⟨g2, g3, g4, g5, g6⟩ ?_ (by simp only [go_sem, binC]) (by simp only [go_sem, binC]) (by simp only [go_sem, binC]) (by simp only [go_sem, binC]) (by simp only [go_sem, binC, e7])
    simp only [turnH, if_neg k3]
theorem sHosts_ok {F : Nat → Option IFn} {f n k : Nat} {row : List Int} (hf : F f = some c_sHosts) (hrow : rowB row 3 = true) (hk : 3 ≤ 1000) (ih : ∀ m, n = m + 1 → STurnOk F 44 m row (okS k) (turnH row)) : STurnOk F f n row (okS k) (turnH row) := by
  intro H v w l hv hsm hw hP
  have hv0 := hv
  obtain ⟨h0, av, rfl, hv1⟩ := hv
  obtain ⟨_, wa, rfl, _⟩ := id hw
  have hsm1 := hsm.1
  obtain ⟨hr1, hr2, hr3⟩ := rowB_iff.1 hrow
  suffices h : ∃ v' H', KC F f [.slice av l.length l.length, .slice wa row.length row.length] H v' H' ∧ (∃ b so, v' = sli b 0 l.length ∧ (AgX [] H H' ∧ OwnL (Co.step n) 8 68 H.length [] H' b so (l.map (mapT (turnH row) n)))) by
    obtain ⟨v', H', h1, b, so, rfl, h2⟩ := h
    exact ⟨b, so, H', h1, h2⟩
  refine KC.mk hf rfl ?_
  refine seq_reg ?_
  simp only [go_sem, binC]
  refine seq_reg ?_
  simp only [go_sem, binC]
  refine seq_assoc (seq_reg ?_)
  simp only [go_sem, binC]
  refine wpc_gen fun Hb hHb => ?_
  have ht0 : AgX [] H Hb := hHb ▸ AgX.app [] _ _
  have ho0 : OwnL (Co.step n) 8 68 H.length [] Hb H.length true [] := hHb ▸ OwnG.nil (Nat.le_refl _)
  clear hHb
  refine seq_block (wpc_loop ?_)
  suffices h : ∀ (k i : Nat) (e : Env) (Hc : Heap) (b : Nat) (so : Bool) (acc : List (TStep n)), i + k = l.length → acc = (l.take i).map (mapT (turnH row) n) → AgX [] H Hc → OwnL (Co.step n) 8 68 H.length [] Hc b so acc → e 0 = .slice av l.length l.length → e 1 = .slice wa row.length row.length → e 5 = sli b 0 acc.length → e 6 = .int .i64 i → W F H.length _ e Hc _ from
    h l.length 0 _ Hb H.length true [] (by omega) rfl ht0 ho0 (by simp only [go_sem, binC]) (by simp only [go_sem, binC]) (by (simp only [go_sem, binC]) <;> rfl) (by (simp only [go_sem, binC]) <;> rfl)
  intro k
  induction k with
  | zero =>
    intro i e Hc b so acc hi hacc ht ho e0 e1 e5 e6
    obtain rfl : i = l.length := by omega
    rw [List.take_length] at hacc
    refine lp_step ?_
    refine seq_assoc (seq_reg ?_)
    simp only [go_sem, binC, e0, e6]
    refine seq_cond (t := false) (by simp only [go_sem, binC]; rw [decide_eq_false (by omega)]) ?_
    simp only [go_sem, binC]
    refine seq_exit ?_
    simp only [go_sem, binC, thenX_e, out_e, thenX_n]
    refine seq_reg ?_
    simp only [go_sem, binC, e5]
    refine wpc_ret ⟨Or.inr rfl, _, (by (simp only [go_sem, binC]) <;> rfl), b, so, by rw [hacc, List.length_map], ht, hacc ▸ ho⟩
  | succ k ihk =>
    intro i e Hc b so acc hi hacc ht ho e0 e1 e5 e6
    have hil : i < l.length := by omega
    have hal : acc.length = i := by rw [hacc, List.length_map, List.length_take]; omega
    cases n with
    | zero => exact (l[i]).elim
    | succ n =>
    obtain ⟨vb, vo, sk, sx, sa, sbb, sc, sg, tv, ev, tl, el, hav, hs, rg, otv, oev, hgc, htl, hel⟩ := step_atV hv0 hil
    simp only [Value.slice.injEq, and_true] at hav
    subst hav
    have hA := ih n rfl
    have hsmi := hsm.2 _ (List.getElem_mem hil)
    have hPs := hP _ (mem_allL hil (by rw [allT_sh]; exact List.mem_cons_self))
    have hPt : ∀ s ∈ allL n (thOf l[i]), _ := fun s hs => hP s (mem_allL hil (by rw [allT_sh]; exact List.mem_cons_of_mem _ (List.mem_append_left _ hs)))
    have hPe : ∀ s ∈ allL n (elOf l[i]), _ := fun s hs => hP s (mem_allL hil (by rw [allT_sh]; exact List.mem_cons_of_mem _ (List.mem_append_right _ hs)))
    have hnext : acc ++ [mapT (turnH row) (n + 1) l[i]] = (l.take (i + 1)).map (mapT (turnH row) (n + 1)) := by rw [hacc, List.take_add_one, List.map_append, List.getElem?_eq_getElem hil]; rfl
    rw [hs] at hsmi hPs hPt hPe hnext
    obtain ⟨_, _, _, _, mtl, mel⟩ := hsmi
    have hbl : b < Hc.length := by obtain ⟨_, _, cs, h, _⟩ := ho; exact (List.getElem?_eq_some_iff.1 h).1
    have hw1 : IntKind.i64.wrap ((i : Int) + 1) = ((i + 1 : Nat) : Int) := by rw [wrap_id (by omega) (by omega)]; omega
    refine lp_step ?_
    refine seq_assoc (seq_reg ?_)
    simp only [go_sem, binC, e0, e6]
    refine seq_cond (t := true) (by simp only [go_sem, binC]; rw [decide_eq_true (by omega)]) ?_
    simp only [go_sem, binC]
    refine seq_skip (seq_block ?_)
    refine seq_reg ?_
    simp only [go_sem, binC, e0, e6, hgc _ (agx_sub ht), otv, oev]
    refine ⟨⟨by omega, by omega⟩, by have := ht.1; omega, ?_⟩
    refine wpc_gen fun H1 hH1 => ?_
    have hB : Cd H H.length [] n b so acc Hc.length [.int .i64 sk, .int .i64 sx, .int .i64 sa, .int .i64 sbb, .int .i64 sc, .int .i64 sg, tv, ev] H1 := by
      subst hH1
      exact ⟨ht.appN _, ho.sub (AgX.app [] _ _) (by simp) (fun b' h4 h5 h6 h7 => ⟨by simp, by simp; omega⟩), get_new0 _ _, ht.1, hbl, by simp, Nat.le_refl _⟩
    clear hH1
    have hlo := hB.lo
    have hrow1 := hw.mono (agx_sub hB.ag)
    obtain ⟨g1, g2, g3, g4, g5, g6⟩ := rg
    refine sHostsBody_ok hrow hk hA hB htl hel mtl mel hw hPs hPt hPe ⟨g1, g2, g3, g4, g5, g6⟩ (by omega) (by simp only [go_sem, binC, e1]) (by simp only [go_sem, binC, e5]) (by simp only [go_sem, binC]) fun e7 H7 b7 so7 ⟨q0, q1, q6, q5⟩ x7 o7 => ?_
    simp only [go_sem, binC, out_n, thenX_n]
    refine wpc_reg ?_
    simp only [go_sem, binC, q6, e6, hw1]
    simp only [go_sem, binC, thenX_n]
    refine ihk (i + 1) _ H7 b7 so7 _ (by omega) hnext x7 o7 (by simp only [go_sem, binC, q0, e0]) (by simp only [go_sem, binC, q1, e1]) (by (simp only [go_sem, binC, q5]) <;> (rw [List.length_append]; rfl)) (by simp only [go_sem, binC])
theorem sHosts_all {F : Nat → Option IFn} {k : Nat} {row : List Int} (hf : F 44 = some c_sHosts) (hrow : rowB row 3 = true) (hk : 3 ≤ 1000) : ∀ n, STurnOk F 44 n row (okS k) (turnH row)
  | 0 => sHosts_ok hf hrow hk fun m h => by omega
  | n + 1 => sHosts_ok hf hrow hk fun m h => by cases h; exact sHosts_all hf hrow hk n
end Go.Proofs.YtmakdcbpohlacaaI
end
section
/- Variables named otherwise (the reference's). -/
set_option linter.unusedVariables false
set_option linter.unusedSimpArgs false
namespace Go.Proofs.YtmakdcbpohlacaaI
open Go Go.RowKit
theorem blk_slP {es et b : Nat} {ap so : Bool} {H : Heap} {l : List (Int × Int)} (h : H[b]? = some ⟨l.flatMap fp, es, et, ap, so⟩) (hr : ∀ p ∈ l, RgI p.1 ∧ RgI p.2) (hl : l.length ≤ 1000) : SlR Co.p2 (vw 0 H) (sli b 0 l.length) l := by
  by_cases h0 : l = []
  · subst h0; exact ⟨by simp, _, rfl, .inl rfl⟩
  · have hfl := flat_len (fl := fp) (w := 2) (fun _ => rfl) l
    refine ⟨by omega, _, rfl, .inr ⟨b, 0, rfl, fun i hi => ⟨fp l[i], ?_, ⟨[.int .i64 l[i].1], [.int .i64 l[i].2], rfl, ⟨rfl, (hr _ (List.getElem_mem hi)).1⟩, ⟨rfl, (hr _ (List.getElem_mem hi)).2⟩⟩⟩⟩⟩
    unfold rng vw
    rw [if_pos (Nat.zero_le _), h]
    simp only [Option.map_some, Nat.zero_add, show Co.p2.w = 2 from rfl]
    rw [if_pos (by omega)]
    congr 1
    have : l.flatMap fp = (l.take i).flatMap fp ++ (fp l[i] ++ (l.drop (i + 1)).flatMap fp) := by
      conv => lhs; rw [← List.take_append_drop i l, List.drop_eq_getElem_cons hi]
      rw [List.flatMap_append, List.flatMap_cons]
    rw [this]
    have hlt : ((l.take i).flatMap fp).length = i * 2 := by rw [flat_len (fl := fp) (w := 2) (fun _ => rfl), List.length_take]; omega
    rw [List.drop_append, List.drop_of_length_le (by omega), hlt, Nat.sub_self, List.nil_append, List.drop_zero]
    rfl
end Go.Proofs.YtmakdcbpohlacaaI
end
section
/- Programs whose variables are named otherwise, and named back: plain facts. -/
set_option linter.unusedVariables false
set_option linter.unusedSimpArgs false
namespace Go.Proofs.YtmakdcbpohlacaaI
open Go Go.RowKit
/-! ### Names -/
theorem nameO_get {row : List Int} {k : Nat} (hr : rowB row k = true) {x : Int} (hx : 0 ≤ x ∧ x < k) : ∃ h : x.toNat < row.length, nameO row x = row[x.toNat] ∧ 0 ≤ nameO row x ∧ nameO row x < k := by
  obtain ⟨h1, h2, h3⟩ := rowB_iff.1 hr
  have h : x.toNat < row.length := by omega
  have e : nameO row x = row[x.toNat] := by
    unfold nameO
    rw [List.getD_eq_getElem?_getD, List.getElem?_eq_getElem h]
    rfl
  have := h2 _ (List.getElem_mem h)
  exact ⟨h, e, by omega, by omega⟩
end Go.Proofs.YtmakdcbpohlacaaI
end
section
/- Sets of hosts that are named otherwise. -/
set_option linter.unusedVariables false
set_option linter.unusedSimpArgs false
namespace Go.Proofs.YtmakdcbpohlacaaI
open Go Go.RowKit
def c_turned : IFn := ⟨2, 24, [.t 4],
 .seq (.reg none [
    ⟨(some 4), none, .mov (.c (.int .i64 0))⟩])
 (.seq (.reg none [
    ⟨(some 5), none, .mov (.c (.int .i64 0))⟩])
 (.seq (.seq (.reg none [
     ⟨(some 8), none, .mov (.t 1)⟩,
     ⟨(some 9), none, .len (.t 8)⟩,
     ⟨(some 10), none, .mov (.c (.int .i64 0))⟩])
  (.block 0 (.loop (.seq (.reg none [
       ⟨(some 11), none, .bin .lss (.t 10) (.t 9)⟩])
    (.seq (.cond (.t 11) (.skip) (.exit 0))
    (.seq (.block 1 (.seq (.reg none [
         ⟨(some 12), none, .mov (.t 10)⟩,
         ⟨(some 13), none, .iad 1 (.t 8) (.t 10)⟩,
         ⟨(some 14), none, .load false 1 (.t 13)⟩,
         ⟨(some 6), none, .mov (.t 12)⟩,
         ⟨(some 7), none, .mov (.t 14)⟩])
      (.seq (.reg none [
         ⟨(some 15), none, .mov (.t 0)⟩,
         ⟨(some 16), none, .mov (.t 6)⟩,
         ⟨(some 17), none, .call .q (.f 82) [(.t 15), (.t 16)]⟩])
      (.cond (.t 17) (.reg none [
         ⟨(some 18), none, .mov (.t 5)⟩,
         ⟨(some 19), none, .mov (.t 7)⟩,
         ⟨(some 20), none, .bin .shl (.c (.int .i64 1)) (.t 19)⟩,
         ⟨(some 21), none, .bin .or (.t 18) (.t 20)⟩,
         ⟨(some 5), none, .mov (.t 21)⟩]) (.skip)))))
    (.reg none [
      ⟨(some 22), none, .bin .add (.t 10) (.c (.int .i64 1))⟩,
      ⟨(some 10), none, .mov (.t 22)⟩])))))))
 (.seq (.reg none [
    ⟨(some 23), none, .mov (.t 5)⟩,
    ⟨(some 4), none, .mov (.t 23)⟩])
 (.ret))))⟩
def c_sTSet : IFn := ⟨2, 30, [.t 4],
 .seq (.reg none [
    ⟨(some 4), none, .mov (.c (.int .i64 0))⟩])
 (.seq (.reg none [
    ⟨(some 5), none, .mov (.c (.int .i64 0))⟩])
 (.seq (.seq (.reg none [
     ⟨(some 6), none, .mov (.c (.int .i64 0))⟩])
  (.block 0 (.loop (.seq (.seq (.reg none [
        ⟨(some 7), none, .mov (.t 6)⟩,
        ⟨(some 8), none, .bin .lss (.t 7) (.c (.int .i64 3))⟩,
        ⟨(some 9), none, .mov (.t 8)⟩,
        ⟨(some 10), (some (9, true)), .mov (.t 0)⟩,
        ⟨(some 11), (some (9, true)), .call .q (.f 80) [(.t 10)]⟩,
        ⟨(some 12), none, .pick (.t 9) (.t 11) (.c (.bool false))⟩,
        ⟨(some 13), none, .mov (.t 12)⟩,
        ⟨(some 14), (some (13, true)), .mov (.t 1)⟩,
        ⟨(some 15), (some (13, true)), .call .q (.f 29) [(.t 14), (.c (.int .i64 3))]⟩,
        ⟨(some 16), none, .pick (.t 13) (.t 15) (.c (.bool false))⟩])
     (.cond (.t 16) (.skip) (.exit 0)))
    (.seq (.block 1 (.seq (.reg none [
         ⟨(some 19), none, .mov (.t 0)⟩,
         ⟨(some 20), none, .mov (.t 6)⟩,
         ⟨(some 21), none, .call .q (.f 81) [(.t 19), (.t 20)]⟩])
      (.cond (.t 21) (.reg none [
         ⟨(some 22), none, .mov (.t 5)⟩,
         ⟨(some 23), none, .mov (.t 1)⟩,
         ⟨(some 24), none, .mov (.t 6)⟩,
         ⟨(some 25), none, .iad 1 (.t 23) (.t 24)⟩,
         ⟨(some 26), none, .load false 1 (.t 25)⟩,
         ⟨(some 27), none, .bin .shl (.c (.int .i64 1)) (.t 26)⟩,
         ⟨(some 28), none, .bin .add (.t 22) (.t 27)⟩,
         ⟨(some 5), none, .mov (.t 28)⟩]) (.skip))))
    (.reg none [
      ⟨(some 17), none, .mov (.t 6)⟩,
      ⟨(some 18), none, .bin .add (.t 17) (.c (.int .i64 1))⟩,
      ⟨(some 6), none, .mov (.t 18)⟩]))))))
 (.seq (.reg none [
    ⟨(some 29), none, .mov (.t 5)⟩,
    ⟨(some 4), none, .mov (.t 29)⟩])
 (.ret))))⟩
theorem row3 {row : List Int} (h : rowB row 3 = true) : row = [0, 1, 2] ∨ row = [0, 2, 1] ∨ row = [1, 0, 2] ∨ row = [1, 2, 0] ∨ row = [2, 0, 1] ∨ row = [2, 1, 0] := by
  obtain ⟨h1, h2, h3⟩ := rowB_iff.1 h
  match row, h1 with
  | [a, b, c], _ =>
    have ha := h2 a (by simp)
    have hb := h2 b (by simp)
    have hc := h2 c (by simp)
    simp only [List.nodup_cons, List.mem_cons, List.not_mem_nil, or_false, not_or, not_false_eq_true, and_true] at h3
    obtain ⟨⟨d1, d2⟩, d3, -⟩ := h3
    have qa : a = 0 ∨ a = 1 ∨ a = 2 := by omega
    have qb : b = 0 ∨ b = 1 ∨ b = 2 := by omega
    have qc : c = 0 ∨ c = 1 ∨ c = 2 := by omega
    rcases qa with rfl | rfl | rfl <;> rcases qb with rfl | rfl | rfl <;> rcases qc with rfl | rfl | rfl <;> first | (exfalso; omega) | simp
/-- The set of new names, host by host. -/
def tsI (row : List Int) (s : Int) : Nat → Int
  | 0 => 0
  | i + 1 => tsI row s i + (if hasB s i = true then 2 ^ (row.getD i 0).toNat else 0)
def tset (row : List Int) (s : Int) : Int := tsI row s 3
theorem set8c {s : Int} (h : 0 ≤ s ∧ s ≤ 7) : s = 0 ∨ s = 1 ∨ s = 2 ∨ s = 3 ∨ s = 4 ∨ s = 5 ∨ s = 6 ∨ s = 7 := by omega
theorem ts_or {row : List Int} {s : Int} {i : Nat} (hr : rowB row 3 = true) (hs : 0 ≤ s ∧ s ≤ 7) (hi : i < 3) :
    IntKind.i64.wrap ((BitVec.ofInt 64 (tsI row s i) ||| BitVec.ofInt 64 (2 ^ (row.getD i 0).toNat)).toNat : Nat) = tsI row s i + 2 ^ (row.getD i 0).toNat ∧ IntKind.i64.wrap (tsI row s i + 2 ^ (row.getD i 0).toNat) = tsI row s i + 2 ^ (row.getD i 0).toNat ∧ IntKind.i64.wrap (1 * 2 ^ (min (row.getD i 0).toNat 64)) = 2 ^ (row.getD i 0).toNat := by
  have qi : i = 0 ∨ i = 1 ∨ i = 2 := by omega
  rcases row3 hr with rfl | rfl | rfl | rfl | rfl | rfl <;> rcases qi with rfl | rfl | rfl <;> rcases set8c hs with rfl | rfl | rfl | rfl | rfl | rfl | rfl | rfl <;> decide +kernel
theorem binI_or (k : IntKind) (x y : Int) : binI .or k x y = some (.int k (k.wrap ((BitVec.ofInt k.bits x ||| BitVec.ofInt k.bits y).toNat : Nat))) := rfl
theorem binI_shl {k : IntKind} {x y : Int} (h : 0 ≤ y) : binI .shl k x y = some (.int k (k.wrap (x * 2 ^ (min y.toNat k.bits)))) := by
  show (if y < 0 then none else _) = _
  rw [if_neg (by omega)]
theorem getD_int {l : List Int} {i : Nat} (h : i < l.length) : l.getD i 0 = l[i] := by simp [List.getD, h]
theorem turned_ok {F : Nat → Option IFn} {f : Nat} (hf : F f = some c_turned) (gh : HasOk F 82) : ∀ (H : Heap) (s : Int) (v : Value) (row : List Int), 0 ≤ s ∧ s ≤ 7 → rowB row 3 = true → SlR Co.int (vw 0 H) v row → QC F f [.int .i64 s, v] H (.int .i64 (tset row s)) := by
  intro H s v row hs hr r
  obtain ⟨_, a, rfl, _⟩ := id r
  obtain ⟨hr1, hr2, hr3⟩ := rowB_iff.1 hr
  refine QC.mk hf rfl ?_
  refine seq_reg ?_
  simp only [go_sem, binC]
  refine seq_reg ?_
  simp only [go_sem, binC]
  refine seq_assoc (seq_reg ?_)
  simp only [go_sem, binC]
  refine seq_block (wpc_loop ?_)
  suffices h : ∀ (k i : Nat) (e : Env), i + k = 3 → e 0 = .int .i64 s → e 5 = .int .i64 (tsI row s i) → e 8 = .slice a row.length row.length → e 9 = .int .i64 row.length → e 10 = .int .i64 i → W F H.length _ e H _ from
    h 3 0 _ rfl (by simp only [go_sem, binC]) (by (simp only [go_sem, binC]) <;> rfl) (by simp only [go_sem, binC]) (by simp only [go_sem, binC]) (by (simp only [go_sem, binC]) <;> rfl)
  intro k
  induction k with
  | zero =>
    intro i e hi e0 e5 e8 e9 e10
    obtain rfl : i = 3 := hi
    refine lp_step ?_
    refine seq_reg ?_
    simp only [go_sem, binC, e9, e10]
    refine seq_cond (t := false) (by simp only [go_sem, binC]; rw [decide_eq_false (by omega)]) ?_
    simp only [go_sem, binC]
    refine seq_exit ?_
    simp only [go_sem, binC, thenX_e, out_e, thenX_n]
    refine seq_reg ?_
    simp only [go_sem, binC, e5]
    exact wpc_ret ⟨Or.inr rfl, _, (by (simp only [go_sem, binC]) <;> rfl), rfl, rfl⟩
  | succ k ih =>
    intro i e hi e0 e5 e8 e9 e10
    have hil : i < row.length := by omega
    have hw1 : IntKind.i64.wrap ((i : Int) + 1) = ((i + 1 : Nat) : Int) := by rw [wrap_id (by omega) (by omega)]; omega
    obtain ⟨b, o, hv1, hg⟩ := gcI r hil
    simp only [Value.slice.injEq, and_true] at hv1
    subst hv1
    obtain ⟨t1, t2, t3⟩ := ts_or hr hs (i := i) (by omega)
    have hgd := getD_int hil
    have h0 := (hr2 _ (List.getElem_mem hil)).1
    refine lp_step ?_
    refine seq_reg ?_
    simp only [go_sem, binC, e9, e10]
    refine seq_cond (t := true) (by simp only [go_sem, binC]; rw [decide_eq_true (by omega)]) ?_
    simp only [go_sem, binC]
    refine seq_skip (seq_block (seq_reg ?_))
    simp only [go_sem, binC, e8, e10]
    refine ⟨⟨by omega, by omega⟩, ?_⟩
    simp only [go_sem, binC, Int.toNat_natCast, Nat.mul_one, hg]
    refine seq_reg ?_
    simp only [go_sem, binC, e0]
    refine op_callB (by simp only [go_sem, binC, e0]; exact gh H s i hs.1 hs.2) (fun hh => ?_) (fun hh => ?_)
    · simp only [go_sem, binC]
      refine wpc_cond (t := true) rfl ?_
      simp only [go_sem, binC]
      refine wpc_reg ?_
      rw [hgd] at t1 t2 t3
      have hsh : binI .shl .i64 1 row[i] = some (.int .i64 (2 ^ row[i].toNat)) := by rw [binI_shl h0]; exact congrArg _ (congrArg _ t3)
      have hor : binI .or .i64 (tsI row s i) (2 ^ row[i].toNat) = some (.int .i64 (tsI row s (i + 1))) := by
        rw [binI_or]
        refine congrArg _ (congrArg _ (t1.trans ?_))
        show _ = tsI row s i + (if hasB s i = true then 2 ^ (row.getD i 0).toNat else 0)
        rw [if_pos hh, hgd]
      simp only [go_sem, binC, e5, hsh, hor]
      simp only [go_sem, binC, out_n, thenX_n]
      refine wpc_reg ?_
      simp only [go_sem, binC, e10, hw1]
      simp only [go_sem, binC, thenX_n]
      exact ih (i + 1) _ (by omega) (by simp only [go_sem, binC, e0]) (by simp only [go_sem, binC]) (by simp only [go_sem, binC, e8]) (by simp only [go_sem, binC, e9]) (by simp only [go_sem, binC])
    · simp only [go_sem, binC]
      refine wpc_cond (t := false) rfl ?_
      simp only [go_sem, binC]
      refine wpc_skip ?_
      simp only [go_sem, binC, out_n, thenX_n]
      refine wpc_reg ?_
      simp only [go_sem, binC, e10, hw1]
      simp only [go_sem, binC, thenX_n]
      have hsm : tsI row s (i + 1) = tsI row s i := by
        show tsI row s i + (if hasB s i = true then 2 ^ (row.getD i 0).toNat else 0) = _
        rw [if_neg (by rw [hh]; simp), Int.add_zero]
      exact ih (i + 1) _ (by omega) (by simp only [go_sem, binC, e0]) (by simp only [go_sem, binC, e5, hsm]) (by simp only [go_sem, binC, e8]) (by simp only [go_sem, binC, e9]) (by simp only [go_sem, binC])
/-- The set of new names; none, of what is no set, or by what is no row. -/
def tsetO (row : List Int) (s : Int) : Int := if (inB s 0 7 && rowB row 3) = true then tset row s else 0
def TSetOk (F : Nat → Option IFn) (f : Nat) : Prop := ∀ (H : Heap) (s : Int) (v : Value) (row : List Int), SlR Co.int (vw 0 H) v row → QC F f [.int .i64 s, v] H (.int .i64 (tsetO row s))
theorem sTSet_ok {F : Nat → Option IFn} {f : Nat} (hf : F f = some c_sTSet) (gh : HasOk F 81) (gs : ∀ (H : Heap) (a : Int), QC F 80 [.int .i64 a] H (.bool (inB a 0 7))) (gr : RowOk F 29) : TSetOk F f := by
  intro H s v row r
  obtain ⟨_, a, rfl, _⟩ := id r
  refine QC.mk hf rfl ?_
  refine seq_reg ?_
  simp only [go_sem, binC]
  refine seq_reg ?_
  simp only [go_sem, binC]
  refine seq_assoc (seq_reg ?_)
  simp only [go_sem, binC]
  refine seq_block (wpc_loop ?_)
  cases hS : inB s 0 7 with
  | false =>
    refine lp_step ?_
    refine seq_assoc (seq_reg ?_)
    have hd : decide ((0 : Int) < 3) = true := rfl
    simp only [go_sem, binC, hd]
    refine op_callQ (by simp only [go_sem, binC]; exact gs H s) ?_
    simp only [go_sem, binC, hS]
    refine seq_cond (t := false) rfl ?_
    simp only [go_sem, binC]
    refine seq_exit ?_
    simp only [go_sem, binC, thenX_e, out_e, thenX_n]
    refine seq_reg ?_
    simp only [go_sem, binC]
    refine wpc_ret ⟨Or.inr rfl, .int .i64 0, (by (simp only [go_sem, binC]) <;> rfl), ?_, rfl⟩
    unfold tsetO
    rw [hS]
    rfl
  | true =>
  cases hR : rowB row 3 with
  | false =>
    refine lp_step ?_
    refine seq_assoc (seq_reg ?_)
    have hd : decide ((0 : Int) < 3) = true := rfl
    simp only [go_sem, binC, hd]
    refine op_callQ (by simp only [go_sem, binC]; exact gs H s) ?_
    simp only [go_sem, binC, hS]
    refine op_callQ (by simp only [go_sem, binC]; exact gr H _ row 3 (by omega) r) ?_
    simp only [go_sem, binC, hR]
    refine seq_cond (t := false) rfl ?_
    simp only [go_sem, binC]
    refine seq_exit ?_
    simp only [go_sem, binC, thenX_e, out_e, thenX_n]
    refine seq_reg ?_
    simp only [go_sem, binC]
    refine wpc_ret ⟨Or.inr rfl, .int .i64 0, (by (simp only [go_sem, binC]) <;> rfl), ?_, rfl⟩
    unfold tsetO
    rw [hS, hR]
    rfl
  | true =>
  have hs := inB_iff.1 hS
  obtain ⟨hr1, hr2, hr3⟩ := rowB_iff.1 hR
  suffices h : ∀ (k i : Nat) (e : Env), i + k = 3 → e 0 = .int .i64 s → e 1 = .slice a row.length row.length → e 5 = .int .i64 (tsI row s i) → e 6 = .int .i64 i → W F H.length _ e H _ from
    h 3 0 _ rfl (by simp only [go_sem, binC]) (by simp only [go_sem, binC]) (by (simp only [go_sem, binC]) <;> rfl) (by (simp only [go_sem, binC]) <;> rfl)
  intro k
  induction k with
  | zero =>
    intro i e hi e0 e1 e5 e6
    obtain rfl : i = 3 := hi
    refine lp_step ?_
    refine seq_assoc (seq_reg ?_)
    have hd : decide (((3 : Nat) : Int) < 3) = false := rfl
    simp only [go_sem, binC, e6, hd]
    refine seq_cond (t := false) (by simp only [go_sem, binC]) ?_
    simp only [go_sem, binC]
    refine seq_exit ?_
    simp only [go_sem, binC, thenX_e, out_e, thenX_n]
    refine seq_reg ?_
    simp only [go_sem, binC, e5]
    refine wpc_ret ⟨Or.inr rfl, _, (by (simp only [go_sem, binC]) <;> rfl), ?_, rfl⟩
    unfold tsetO
    rw [hS, hR]
    rfl
  | succ k ih =>
    intro i e hi e0 e1 e5 e6
    have hil : i < row.length := by omega
    have hw1 : IntKind.i64.wrap ((i : Int) + 1) = ((i + 1 : Nat) : Int) := by rw [wrap_id (by omega) (by omega)]; omega
    obtain ⟨b, o, hv1, hg⟩ := gcI r hil
    simp only [Value.slice.injEq, and_true] at hv1
    subst hv1
    obtain ⟨t1, t2, t3⟩ := ts_or hR hs (i := i) (by omega)
    have hgd := getD_int hil
    have h0 := (hr2 _ (List.getElem_mem hil)).1
    have hd : decide ((i : Int) < 3) = true := decide_eq_true (by omega)
    refine lp_step ?_
    refine seq_assoc (seq_reg ?_)
    simp only [go_sem, binC, e0, e6, hd]
    refine op_callQ (by simp only [go_sem, binC, e0]; exact gs H s) ?_
    simp only [go_sem, binC, e1, hS]
    refine op_callQ (by simp only [go_sem, binC, e1]; exact gr H _ row 3 (by omega) r) ?_
    simp only [go_sem, binC, hR]
    refine seq_cond (t := true) (by simp only [go_sem, binC]) ?_
    simp only [go_sem, binC]
    refine seq_skip (seq_block (seq_reg ?_))
    simp only [go_sem, binC, e0, e6]
    refine op_callB (by simp only [go_sem, binC, e0, e6]; exact gh H s i hs.1 hs.2) (fun hh => ?_) (fun hh => ?_)
    · simp only [go_sem, binC]
      refine wpc_cond (t := true) rfl ?_
      simp only [go_sem, binC]
      refine wpc_reg ?_
      rw [hgd] at t1 t2 t3
      have hsh : binI .shl .i64 1 row[i] = some (.int .i64 (2 ^ row[i].toNat)) := by rw [binI_shl h0]; exact congrArg _ (congrArg _ t3)
      have hor : IntKind.i64.wrap (tsI row s i + 2 ^ row[i].toNat) = tsI row s (i + 1) := by
        refine t2.trans ?_
        show _ = tsI row s i + (if hasB s i = true then 2 ^ (row.getD i 0).toNat else 0)
        rw [if_pos hh, hgd]
      simp only [go_sem, binC, e1, e5, e6]
      refine ⟨⟨by omega, by omega⟩, ?_⟩
      simp only [go_sem, binC, Int.toNat_natCast, Nat.mul_one, hg, e5, hsh, hor]
      simp only [go_sem, binC, out_n, thenX_n]
      refine wpc_reg ?_
      simp only [go_sem, binC, e6, hw1]
      simp only [go_sem, binC, thenX_n]
      exact ih (i + 1) _ (by omega) (by simp only [go_sem, binC, e0]) (by simp only [go_sem, binC, e1]) (by simp only [go_sem, binC]) (by simp only [go_sem, binC])
    · simp only [go_sem, binC]
      refine wpc_cond (t := false) rfl ?_
      simp only [go_sem, binC]
      refine wpc_skip ?_
      simp only [go_sem, binC, out_n, thenX_n]
      refine wpc_reg ?_
      simp only [go_sem, binC, e6, hw1]
      simp only [go_sem, binC, thenX_n]
      have hsm : tsI row s (i + 1) = tsI row s i := by
        show tsI row s i + (if hasB s i = true then 2 ^ (row.getD i 0).toNat else 0) = _
        rw [if_neg (by rw [hh]; simp), Int.add_zero]
      exact ih (i + 1) _ (by omega) (by simp only [go_sem, binC, e0]) (by simp only [go_sem, binC, e1]) (by simp only [go_sem, binC, e5, hsm]) (by simp only [go_sem, binC])
/-! ### Facts of sets -/
theorem tset_bd {row : List Int} {s : Int} (hr : rowB row 3 = true) (hs : 0 ≤ s ∧ s ≤ 7) : 0 ≤ tset row s ∧ tset row s ≤ 7 := by
  rcases row3 hr with rfl | rfl | rfl | rfl | rfl | rfl <;> rcases set8c hs with rfl | rfl | rfl | rfl | rfl | rfl | rfl | rfl <;> decide +kernel
def turnLH (row : List Int) (ls : List (Int × Int)) : List (Int × Int) := ls.map fun a => (tset row a.1, tset row a.2)
theorem turnLH_len (row : List Int) (ls : List (Int × Int)) : (turnLH row ls).length = ls.length := by simp [turnLH]
theorem labB_iff {a : Int × Int} : labB a = true ↔ (0 ≤ a.1 ∧ a.1 ≤ 7) ∧ 0 ≤ a.2 ∧ a.2 ≤ 7 := by
  simp only [labB, Bool.and_eq_true, inB_iff]
theorem nameO_bd {row : List Int} (hr : rowB row 3 = true) {x : Int} (hx : 0 ≤ x ∧ x ≤ 2) : 0 ≤ nameO row x ∧ nameO row x ≤ 2 := by
  have := (nameO_get hr (x := x) (by omega)).2.2
  omega
theorem progB_labs {n : Nat} {ls : List (Int × Int)} {l : List (TStep n)} (h : progB n (ls, l) = true) : ls.all labB = true := by
  simp only [progB, Bool.and_eq_true] at h
  exact h.1.1.2
end Go.Proofs.YtmakdcbpohlacaaI
end
section
/- Programs whose hosts are named otherwise. -/
set_option linter.unusedVariables false
set_option linter.unusedSimpArgs false
namespace Go.Proofs.YtmakdcbpohlacaaI
open Go Go.RowKit
def c_tp1 : IFn := ⟨2, 18, [],
 .seq (.reg none [
    ⟨(some 3), none, .mov (.t 0)⟩,
    ⟨(some 4), none, .nilck (.t 3)⟩,
    ⟨(some 5), none, .fad 0 (.t 4)⟩,
    ⟨(some 6), none, .load false 1 (.t 5)⟩,
    ⟨(some 7), none, .bin .eql (.t 6) (.c (.int .i64 3))⟩])
 (.cond (.t 7) (.reg (some 8) [
    ⟨(some 8), none, .mov (.t 0)⟩,
    ⟨(some 9), none, .load false 1 (.t 1)⟩,
    ⟨(some 10), none, .mov (.t 0)⟩,
    ⟨(some 11), none, .nilck (.t 10)⟩,
    ⟨(some 12), none, .fad 5 (.t 11)⟩,
    ⟨(some 13), none, .load false 1 (.t 12)⟩,
    ⟨(some 14), none, .iad 1 (.t 9) (.t 13)⟩,
    ⟨(some 15), none, .load false 1 (.t 14)⟩,
    ⟨(some 16), none, .nilck (.t 8)⟩,
    ⟨(some 17), none, .fad 5 (.t 16)⟩,
    ⟨none, none, .store 1 (.t 17) (.t 15)⟩]) (.skip))⟩
def c_iTurnProg : IFn := ⟨2, 47, [.cell true 2 4, .t 5],
 .seq (.reg none [
    ⟨(some 2), none, .box (.t 0)⟩,
    ⟨(some 3), none, .box (.t 1)⟩,
    ⟨(some 4), none, .new [(.slice none 0 0), (.slice none 0 0)]⟩,
    ⟨(some 5), none, .mov (.c (.bool false))⟩])
 (.seq (.seq (.reg none [
     ⟨(some 9), none, .load true 2 (.t 2)⟩,
     ⟨(some 10), none, .call .q (.f 33) [(.t 9)]⟩,
     ⟨(some 11), none, .un .not (.t 10)⟩,
     ⟨(some 12), none, .mov (.t 11)⟩,
     ⟨(some 13), (some (12, false)), .load false 1 (.t 3)⟩,
     ⟨(some 14), (some (12, false)), .call .q (.f 34) [(.t 13), (.c (.int .i64 3))]⟩,
     ⟨(some 15), (some (12, false)), .un .not (.t 14)⟩,
     ⟨(some 16), none, .pick (.t 12) (.c (.bool true)) (.t 15)⟩])
  (.cond (.t 16) (.seq (.reg none [
      ⟨(some 17), none, .build [(.slice none 0 0), (.slice none 0 0)] []⟩,
      ⟨none, none, .store 2 (.t 4) (.t 17)⟩,
      ⟨(some 5), none, .mov (.c (.bool false))⟩])
   (.ret)) (.skip)))
 (.seq (.reg none [
    ⟨(some 18), none, .load true 2 (.t 2)⟩,
    ⟨(some 19), none, .call .k (.f 35) [(.t 18)]⟩,
    ⟨(some 6), none, .new [(.slice none 0 0), (.slice none 0 0)]⟩,
    ⟨none, none, .store 2 (.t 6) (.t 19)⟩])
 (.seq (.seq (.reg none [
     ⟨(some 20), none, .fad 0 (.t 6)⟩,
     ⟨(some 21), none, .load false 1 (.t 20)⟩,
     ⟨(some 22), none, .len (.t 21)⟩,
     ⟨(some 23), none, .mov (.c (.int .i64 0))⟩])
  (.block 0 (.loop (.seq (.reg none [
       ⟨(some 24), none, .bin .lss (.t 23) (.t 22)⟩])
    (.seq (.cond (.t 24) (.skip) (.exit 0))
    (.seq (.block 1 (.seq (.reg none [
         ⟨(some 25), none, .mov (.t 23)⟩,
         ⟨(some 26), none, .iad 2 (.t 21) (.t 23)⟩,
         ⟨(some 27), none, .load true 2 (.t 26)⟩,
         ⟨(some 8), none, .new [(.int .i64 0), (.int .i64 0)]⟩,
         ⟨(some 7), none, .mov (.t 25)⟩,
         ⟨none, none, .store 2 (.t 8) (.t 27)⟩])
      (.reg (some 12) [
        ⟨(some 28), none, .fad 0 (.t 6)⟩,
        ⟨(some 29), none, .load false 1 (.t 28)⟩,
        ⟨(some 30), none, .mov (.t 7)⟩,
        ⟨(some 31), none, .fad 0 (.t 8)⟩,
        ⟨(some 32), none, .load false 1 (.t 31)⟩,
        ⟨(some 33), none, .load false 1 (.t 3)⟩,
        ⟨(some 34), none, .call .q (.f 46) [(.t 32), (.t 33)]⟩,
        ⟨(some 35), none, .fad 1 (.t 8)⟩,
        ⟨(some 36), none, .load false 1 (.t 35)⟩,
        ⟨(some 37), none, .load false 1 (.t 3)⟩,
        ⟨(some 38), none, .call .q (.f 46) [(.t 36), (.t 37)]⟩,
        ⟨(some 39), none, .build [(.int .i64 0), (.int .i64 0)] [(0, 1, (.t 34)), (1, 1, (.t 38))]⟩,
        ⟨(some 40), none, .iad 2 (.t 29) (.t 30)⟩,
        ⟨none, none, .store 2 (.t 40) (.t 39)⟩])))
    (.reg none [
      ⟨(some 41), none, .bin .add (.t 23) (.c (.int .i64 1))⟩,
      ⟨(some 23), none, .mov (.t 41)⟩])))))))
 (.seq (.reg none [
    ⟨(some 42), none, .fad 1 (.t 6)⟩,
    ⟨(some 43), none, .load false 1 (.t 42)⟩,
    ⟨(some 44), none, .mkf 47 [] [(.t 3)]⟩,
    ⟨(some 45), none, .call .n (.f 36) [(.t 43), (.t 44)]⟩])
 (.seq (.reg none [
    ⟨(some 46), none, .load true 2 (.t 6)⟩,
    ⟨none, none, .store 2 (.t 4) (.t 46)⟩,
    ⟨(some 5), none, .mov (.c (.bool true))⟩])
 (.ret))))))⟩
def c_sTurnProg : IFn := ⟨2, 53, [.cell true 2 4, .t 5],
 .seq (.reg none [
    ⟨(some 2), none, .box (.t 0)⟩,
    ⟨(some 4), none, .new [(.slice none 0 0), (.slice none 0 0)]⟩,
    ⟨(some 5), none, .mov (.c (.bool false))⟩])
 (.seq (.seq (.reg none [
     ⟨(some 8), none, .load true 2 (.t 2)⟩,
     ⟨(some 9), none, .call .q (.f 28) [(.t 8)]⟩,
     ⟨(some 10), none, .un .not (.t 9)⟩,
     ⟨(some 11), none, .mov (.t 10)⟩,
     ⟨(some 12), (some (11, false)), .mov (.t 1)⟩,
     ⟨(some 13), (some (11, false)), .call .q (.f 29) [(.t 12), (.c (.int .i64 3))]⟩,
     ⟨(some 14), (some (11, false)), .un .not (.t 13)⟩,
     ⟨(some 15), none, .pick (.t 11) (.c (.bool true)) (.t 14)⟩])
  (.cond (.t 15) (.seq (.reg none [
      ⟨(some 16), none, .build [(.slice none 0 0), (.slice none 0 0)] []⟩,
      ⟨none, none, .store 2 (.t 4) (.t 16)⟩,
      ⟨(some 5), none, .mov (.c (.bool false))⟩])
   (.ret)) (.skip)))
 (.seq (.reg none [
    ⟨(some 17), none, .lit 2 59 0 [] []⟩,
    ⟨(some 18), none, .fad 1 (.t 2)⟩,
    ⟨(some 19), none, .load false 1 (.t 18)⟩,
    ⟨(some 20), none, .mov (.t 1)⟩,
    ⟨(some 21), none, .call .k (.f 44) [(.t 19), (.t 20)]⟩,
    ⟨(some 22), none, .build [(.slice none 0 0), (.slice none 0 0)] [(0, 1, (.t 17)), (1, 1, (.t 21))]⟩,
    ⟨(some 6), none, .new [(.slice none 0 0), (.slice none 0 0)]⟩,
    ⟨none, none, .store 2 (.t 6) (.t 22)⟩])
 (.seq (.seq (.reg none [
     ⟨(some 7), none, .mov (.c (.int .i64 0))⟩])
  (.block 0 (.loop (.seq (.seq (.reg none [
        ⟨(some 23), none, .mov (.t 7)⟩,
        ⟨(some 24), none, .fad 0 (.t 2)⟩,
        ⟨(some 25), none, .load false 1 (.t 24)⟩,
        ⟨(some 26), none, .len (.t 25)⟩,
        ⟨(some 27), none, .bin .lss (.t 23) (.t 26)⟩])
     (.cond (.t 27) (.skip) (.exit 0)))
    (.seq (.block 1 (.reg (some 20) [
        ⟨(some 30), none, .fad 0 (.t 6)⟩,
        ⟨(some 31), none, .load false 1 (.t 30)⟩,
        ⟨(some 32), none, .fad 0 (.t 2)⟩,
        ⟨(some 33), none, .load false 1 (.t 32)⟩,
        ⟨(some 34), none, .mov (.t 7)⟩,
        ⟨(some 35), none, .iad 2 (.t 33) (.t 34)⟩,
        ⟨(some 36), none, .fad 0 (.t 35)⟩,
        ⟨(some 37), none, .load false 1 (.t 36)⟩,
        ⟨(some 38), none, .mov (.t 1)⟩,
        ⟨(some 39), none, .call .q (.f 45) [(.t 37), (.t 38)]⟩,
        ⟨(some 40), none, .fad 0 (.t 2)⟩,
        ⟨(some 41), none, .load false 1 (.t 40)⟩,
        ⟨(some 42), none, .mov (.t 7)⟩,
        ⟨(some 43), none, .iad 2 (.t 41) (.t 42)⟩,
        ⟨(some 44), none, .fad 1 (.t 43)⟩,
        ⟨(some 45), none, .load false 1 (.t 44)⟩,
        ⟨(some 46), none, .mov (.t 1)⟩,
        ⟨(some 47), none, .call .q (.f 45) [(.t 45), (.t 46)]⟩,
        ⟨(some 48), none, .build [(.int .i64 0), (.int .i64 0)] [(0, 1, (.t 39)), (1, 1, (.t 47))]⟩,
        ⟨(some 49), none, .lit 2 59 1 [(.int .i64 0), (.int .i64 0)] [(0, 2, (.t 48))]⟩,
        ⟨(some 50), none, .app 2 59 16 false (.t 31) (.t 49)⟩,
        ⟨(some 51), none, .fad 0 (.t 6)⟩,
        ⟨none, none, .store 1 (.t 51) (.t 50)⟩]))
    (.reg none [
      ⟨(some 28), none, .mov (.t 7)⟩,
      ⟨(some 29), none, .bin .add (.t 28) (.c (.int .i64 1))⟩,
      ⟨(some 7), none, .mov (.t 29)⟩]))))))
 (.seq (.reg none [
    ⟨(some 52), none, .load true 2 (.t 6)⟩,
    ⟨none, none, .store 2 (.t 4) (.t 52)⟩,
    ⟨(some 5), none, .mov (.c (.bool true))⟩])
 (.ret)))))⟩
theorem setL_same8 {cs a : List Value} {o : Nat} (ha : a.length = 8) (h : (cs.drop o).take 8 = a) (ho : o + 8 ≤ cs.length) : setL cs o a = cs := by
  have h0 : 0 < a.length := by omega
  have e := set8 (v := a[0]) ha h ho (j := 0) (by omega)
  rw [List.set_getElem_self] at e
  rw [← e]
  have h1 : o + 0 < cs.length := by omega
  have h2 : a[0] = cs[o + 0] := by
    have : a[0]? = cs[o + 0]? := by rw [← h, List.getElem?_take_of_lt (by omega), List.getElem?_drop]
    rw [List.getElem?_eq_getElem h0, List.getElem?_eq_getElem h1, Option.some.injEq] at this
    exact this
  rw [h2, List.set_getElem_self]
theorem tp1_ok {F : Nat → Option IFn} {H0 : Heap} {rb k : Nat} {w : Value} {row : List Int} (hf : F 47 = some c_tp1) (hw : SlR Co.int (vw 0 H0) w row) (hrb : H0[rb]? = some ⟨[w], 0, 0, false, true⟩) (hrow : rowB row 3 = true) : CloOk F 47 #[] #[ptr rb 0] H0 (okS k) (turnH row) := by
  intro H b cs i s tv ev lo hx0 hb0 hlo hb hl8 h8 hrg hP otv oev
  obtain ⟨sk, sx, ⟨sa, sb, sc⟩, sg⟩ := s
  obtain ⟨p1, p2, p3, p4, p5⟩ := hP
  simp only at p5
  have hrgT : shRg (turnH row (sk, sx, (sa, sb, sc), sg)) := by
    obtain ⟨r1, r2, r3, r4, r5, r6⟩ := hrg
    refine ⟨r1, r2, r3, r4, r5, ?_⟩
    show RgI (if sk = 3 then nameO row sg else sg)
    split
    · rename_i h
      have := nameO_bd hrow (p5 h)
      unfold RgI; omega
    · exact r6
  refine ⟨hrgT, ?_⟩
  simp only [List.nil_append, List.singleton_append]
  refine NC.mkE hf rfl ?_
  obtain ⟨hrl, ra, rfl, _⟩ := id hw
  have hbl := (List.getElem?_eq_some_iff.1 hb).1
  have g0 := gc_k (j := 0) hb hl8 h8 (v := .int .i64 sk) rfl (by omega)
  have g5 := gc_k (j := 5) hb hl8 h8 (v := .int .i64 sg) rfl (by omega)
  rw [Nat.add_zero] at g0
  refine seq_reg ?_
  simp only [go_sem, binC, g0]
  by_cases h3 : sk = 3
  · simp only [go_sem, binC, beq_t h3]
    refine wpc_cond (t := true) rfl ?_
    simp only [go_sem, binC]
    obtain ⟨hgl, hge, hgr⟩ := nameO_get hrow (x := sg) (by have := p5 h3; omega)
    obtain ⟨rblk, ro, hrv, _⟩ := gcI0 hw hgl
    simp only [Value.slice.injEq, and_true] at hrv
    subst hrv
    have hro : getCells H rblk (ro + sg.toNat) 1 = some [.int .i64 row[sg.toNat]] := gcI2 (hw.mono (agx_sub hx0)) hgl
    have hrbx : H[rb]? = some ⟨[.slice (some ⟨rblk, ro, none⟩) row.length row.length], 0, 0, false, true⟩ := hx0.get hrb (by simp)
    refine wpc_regD ?_
    simp only [go_sem, binC, gc_of hrbx, inBlk_some, g5]
    refine ⟨⟨by have := p5 h3; omega, by omega⟩, ?_⟩
    simp only [go_sem, binC, Nat.mul_one, hro, hb]
    refine ⟨⟨by omega, by omega⟩, ?_⟩
    rw [set8 (shV_len _ _ _) h8 hl8 (by omega), ← hge]
    refine ⟨Or.inl rfl, _, rfl, rfl, ?_⟩
    show H.set b ⟨setL cs (i * 8) (shV (sk, sx, (sa, sb, sc), nameO row sg) tv ev), 8, 68, true, true⟩ = _
    rw [show turnH row (sk, sx, (sa, sb, sc), sg) = (sk, sx, (sa, sb, sc), nameO row sg) by simp [turnH, h3]]
  · simp only [go_sem, binC, beq_f h3]
    refine wpc_cond (t := false) rfl ?_
    simp only [go_sem, binC]
    refine wpc_skip ⟨Or.inl rfl, _, rfl, rfl, ?_⟩
    rw [show turnH row (sk, sx, (sa, sb, sc), sg) = (sk, sx, (sa, sb, sc), sg) by simp [turnH, h3], setL_same8 (shV_len _ _ _) h8 hl8]
    rw [List.getElem?_eq_getElem hbl, Option.some.injEq] at hb
    rw [← hb, List.set_getElem_self]
end Go.Proofs.YtmakdcbpohlacaaI
end
section
/- Sizes of programs with totals, copies of programs in blocks of one's own, marks on programs. -/
set_option linter.unusedVariables false
set_option linter.unusedSimpArgs false
namespace Go.Proofs.YtmakdcbpohlacaaI
open Go Go.RowKit
/-- A size: what is left, and how much was told at most. -/
def SzT (F : Nat → Option IFn) {α : Type} (A : Co α) (agg : Bool) (f : Nat) (t : α → Nat) : Prop :=
  ∀ (H : Heap) (v : Value) (a : α) (left : Int), Rd A agg (vw 0 H) v a → 0 ≤ left → left ≤ 1048576 → ∃ r : Int, QC F f [v, .int .i64 left] H (.int .i64 r) ∧ r ≤ left ∧ (0 ≤ r → A.sm a ∧ ((t a : Nat) : Int) ≤ left - r)
def tT : (n : Nat) → TStep n → Nat
  | 0, s => s.elim
  | n + 1, (_, _, _, _, th, el) => (th.length + (th.map (tT n)).sum) + (el.length + (el.map (tT n)).sum)
def tS (n : Nat) (l : List (TStep n)) : Nat := l.length + (l.map (tT n)).sum
def tP (n : Nat) (p : TProg n) : Nat := p.1.length + tS n p.2
theorem szFlatT_ok {F : Nat → Option IFn} {α : Type} {A : Co α} {f : Nat} (hf : F f = some szFlat) (hs : ∀ a, A.sm a) : SzT F (Co.sl A) false f List.length := by
  rintro H v l left ⟨cs, hc, w, rfl, h0, a, rfl, h2⟩ hl0 hl1
  simp only [go_sem, binC, Option.some.injEq] at hc
  subst hc
  have hw : IntKind.i64.wrap (left - l.length) = left - l.length := wrap_id (by omega) (by omega)
  by_cases hn : left - l.length < 0
  · refine ⟨-1, QC.mk hf rfl ?_, by omega, by omega⟩
    refine seq_reg ?_
    simp only [go_sem, binC]
    refine seq_reg ?_
    simp only [go_sem, binC]
    rw [hw]
    refine seq_assoc (seq_reg ?_)
    simp only [go_sem, binC]
    refine seq_cond (t := true) (by simp only [go_sem, binC]; rw [decide_eq_true hn]) ?_
    simp only [go_sem, binC]
    refine seq_assoc (seq_reg ?_)
    simp only [go_sem, binC]
    refine seq_ret ⟨Or.inr rfl, _, ?_, rfl, rfl⟩
    simp only [go_sem, binC]
  · refine ⟨left - l.length, QC.mk hf rfl ?_, by omega, fun _ => ⟨⟨by omega, fun a _ => hs a⟩, by omega⟩⟩
    refine seq_reg ?_
    simp only [go_sem, binC]
    refine seq_reg ?_
    simp only [go_sem, binC]
    rw [hw]
    refine seq_assoc (seq_reg ?_)
    simp only [go_sem, binC]
    refine seq_cond (t := false) (by simp only [go_sem, binC]; rw [decide_eq_false hn]) ?_
    simp only [go_sem, binC]
    refine seq_skip (seq_reg ?_)
    simp only [go_sem, binC]
    refine wpc_ret ⟨Or.inr rfl, _, ?_, rfl, rfl⟩
    simp only [go_sem, binC]
theorem szNestT_lp {F : Nat → Option IFn} {α : Type} {A : Co α} {g w : Nat} {agg : Bool} {t : α → Nat} (hg : SzT F A agg g t) (hw : A.w = w) (hva : ∀ V cs a, A.rd V cs a → ∃ v, valOf agg cs = some v) {H : Heap} {v : Value} {l : List α} (hv : SlR A (vw 0 H) v l) (hL : l.length ≤ 1048576) :
    ∀ (k i : Nat) (e : Env) (left : Int), i + k = l.length → e 0 = v → e 1 = .int .i64 left → e 5 = .int .i64 i → 0 ≤ left → left ≤ 1048576 →
      W F H.length (.lp (szNestB g w agg)) e H fun x e1 H1 => H1 = H ∧ ((x = .e 0 ∧ ∃ r : Int, e1 1 = .int .i64 r ∧ 0 ≤ r ∧ r ≤ left ∧ (∀ j (h : j < l.length), i ≤ j → A.sm l[j]) ∧ ((((l.drop i).map t).sum : Nat) : Int) ≤ left - r) ∨ (x = .r ∧ e1 4 = .int .i64 (-1))) := by
  obtain ⟨h0, a, rfl, h2⟩ := hv
  intro k
  induction k with
  | zero =>
    intro i e left hi e0 e1 e5 hl0 hl1
    refine lp_step ?_
    refine seq_assoc (seq_reg ?_)
    simp only [go_sem, binC, e0, e1, e5]
    refine seq_cond (t := false) (by simp only [go_sem, binC]; rw [decide_eq_false (by omega)]) ?_
    simp only [go_sem, binC]
    refine seq_exit ⟨rfl, Or.inl ⟨rfl, left, ?_, hl0, by omega, fun j h hj => by omega, by rw [List.drop_of_length_le (by omega)]; simp⟩⟩
    simp only [go_sem, binC, e1]
  | succ k ih =>
    intro i e left hi e0 e1 e5 hl0 hl1
    have hil : i < l.length := by omega
    rcases h2 with h2 | ⟨b, o, rfl, h2⟩
    · rw [h2] at hil; simp at hil
    obtain ⟨cs, h3, h4⟩ := h2 i hil
    obtain ⟨u, hu⟩ := hva _ _ _ h4
    obtain ⟨r, hq, hr1, hr2⟩ := hg H u l[i] left ⟨cs, hu, h4⟩ hl0 hl1
    have h3' := rng_gc h3
    rw [hw] at h3'
    refine lp_step ?_
    refine seq_assoc (seq_reg ?_)
    simp only [go_sem, binC, e0, e1, e5]
    refine seq_cond (t := true) (by simp only [go_sem, binC]; rw [decide_eq_true (by omega)]) ?_
    simp only [go_sem, binC]
    refine seq_skip (seq_block (seq_reg ?_))
    simp only [go_sem, binC, e0, e1, e5, h3', hu]
    refine ⟨by omega, op_callQ (v := .int .i64 r) (by simp only [go_sem, binC, e1]; exact hq) ?_⟩
    simp only [go_sem, binC]
    refine seq_reg ?_
    simp only [go_sem, binC]
    by_cases hn : r < 0
    · refine wpc_cond (t := true) (by simp only [go_sem, binC]; rw [decide_eq_true hn]) ?_
      simp only [go_sem, binC]
      refine seq_reg ?_
      simp only [go_sem, binC]
      refine wpc_ret ⟨rfl, Or.inr ⟨rfl, ?_⟩⟩
      simp only [go_sem, binC]
    · refine wpc_cond (t := false) (by simp only [go_sem, binC]; rw [decide_eq_false hn]) ?_
      simp only [go_sem, binC]
      refine wpc_skip (wpc_reg ?_)
      simp only [go_sem, binC, e5]
      have hw1 : IntKind.i64.wrap ((i : Int) + 1) = ((i + 1 : Nat) : Int) := by rw [wrap_id (by omega) (by omega)]; omega
      rw [hw1]
      refine W_mono (ih (i + 1) _ r (by omega) (by simp only [go_sem, binC, e0]) (by simp only [go_sem, binC]) (by simp only [go_sem, binC]) (by omega) (by omega)) fun x e' H' h5 => ?_
      refine ⟨h5.1, h5.2.imp (fun ⟨hx, r', q1, q2, q3, q4, q5⟩ => ⟨hx, r', q1, q2, by omega, fun j h hj => ?_, ?_⟩) id⟩
      · by_cases hij : j = i
        · subst hij; exact (hr2 (by omega)).1
        · exact q4 j h (by omega)
      · rw [List.drop_eq_getElem_cons hil, List.map_cons, List.sum_cons]
        have := (hr2 (by omega)).2
        omega

theorem szNestT_ok {F : Nat → Option IFn} {α : Type} {A : Co α} {f g w : Nat} {agg : Bool} {t : α → Nat} (hf : F f = some (szNest g w agg)) (hg : SzT F A agg g t) (hw : A.w = w) (hva : ∀ V cs a, A.rd V cs a → ∃ v, valOf agg cs = some v) : SzT F (Co.sl A) false f (fun l => l.length + (l.map t).sum) := by
  rintro H v l left ⟨cs, hc, w', rfl, hv⟩ hl0 hl1
  simp only [go_sem, binC, Option.some.injEq] at hc
  subst hc
  have hv' := hv
  obtain ⟨h0, a, rfl, h2⟩ := hv
  have hwr : IntKind.i64.wrap (left - l.length) = left - l.length := wrap_id (by omega) (by omega)
  by_cases hn : left - l.length < 0
  · refine ⟨-1, QC.mk hf rfl ?_, by omega, by omega⟩
    refine seq_reg ?_
    simp only [go_sem, binC]
    refine seq_reg ?_
    simp only [go_sem, binC]
    rw [hwr]
    refine seq_assoc (seq_reg ?_)
    simp only [go_sem, binC]
    refine seq_cond (t := true) (by simp only [go_sem, binC]; rw [decide_eq_true hn]) ?_
    simp only [go_sem, binC]
    refine seq_assoc (seq_reg ?_)
    simp only [go_sem, binC]
    refine seq_ret ⟨Or.inr rfl, _, ?_, rfl, rfl⟩
    simp only [go_sem, binC]
  · suffices h : ∃ r : Int, wpc F H.length (szNest g w agg).body (ini [.slice a l.length l.length, .int .i64 left]) H (fin [.t 4] fun w' _ => w' = .int .i64 r ∧ scal w' = true) ∧ r ≤ left ∧ (0 ≤ r → (Co.sl A).sm l ∧ (((l.length + (l.map t).sum : Nat)) : Int) ≤ left - r) by
      obtain ⟨r, h, h'⟩ := h
      exact ⟨r, QC.mk hf rfl h, h'⟩
    have key := szNestT_lp hg hw hva hv' (by omega) l.length 0 (putE (putE (putE (putE (putE (putE (putE (putE (putE (ini [.slice a l.length l.length, .int .i64 left]) (some 4) (.int .i64 0)) (some 6) (.int .i64 left)) (some 7) (.slice a l.length l.length)) (some 8) (.int .i64 l.length)) (some 9) (.int .i64 (left - l.length))) (some 1) (.int .i64 (left - l.length))) (some 10) (.int .i64 (left - l.length))) (some 11) (.bool (decide (left - l.length < 0)))) (some 5) (.int .i64 0)) (left - l.length) (by omega) (by simp only [go_sem, binC]) (by simp only [go_sem, binC]) (by simp only [go_sem, binC]; rfl) (by omega) (by omega)
    obtain ⟨x, e1, H1, k1, rfl, k2⟩ := key
    rcases k2 with ⟨rfl, r, k3, k4, k5, k6, k7⟩ | ⟨rfl, k3⟩
    · rw [List.drop_zero] at k7
      refine ⟨r, ?_, by omega, fun _ => ⟨⟨by omega, fun a ha => ?_⟩, by omega⟩⟩
      · refine seq_reg ?_
        simp only [go_sem, binC]
        refine seq_reg ?_
        simp only [go_sem, binC]
        rw [hwr]
        refine seq_assoc (seq_reg ?_)
        simp only [go_sem, binC]
        refine seq_cond (t := false) (by simp only [go_sem, binC]; rw [decide_eq_false hn]) ?_
        simp only [go_sem, binC]
        refine seq_skip (seq_assoc (seq_reg ?_))
        simp only [go_sem, binC]
        refine seq_block (wpc_loop ⟨_, _, _, k1, ?_⟩)
        simp only [go_sem, binC, out_e, thenX_n]
        refine seq_reg ?_
        simp only [go_sem, binC, k3]
        refine wpc_ret ⟨Or.inr rfl, _, ?_, rfl, rfl⟩
        simp only [go_sem, binC]
      · obtain ⟨j, hj, rfl⟩ := List.getElem_of_mem ha
        exact k6 j hj (by omega)
    · refine ⟨-1, ?_, by omega, by omega⟩
      refine seq_reg ?_
      simp only [go_sem, binC]
      refine seq_reg ?_
      simp only [go_sem, binC]
      rw [hwr]
      refine seq_assoc (seq_reg ?_)
      simp only [go_sem, binC]
      refine seq_cond (t := false) (by simp only [go_sem, binC]; rw [decide_eq_false hn]) ?_
      simp only [go_sem, binC]
      refine seq_skip (seq_assoc (seq_reg ?_))
      simp only [go_sem, binC]
      refine seq_block (wpc_loop ⟨_, _, _, k1, ?_⟩)
      simp only [go_sem, binC, out_r, thenX_r]
      refine ⟨Or.inr rfl, _, ?_, rfl, rfl⟩
      simp only [go_sem, binC, k3]
theorem szStepT_ok {n : Nat} {F : Nat → Option IFn} {f : Nat} (hf : F f = some c_szStep) (g4 : SzT F (Co.sl (Co.step n)) false 27 (tS n)) (g5 : SzT F (Co.sl (Co.step n)) false 27 (tS n)) : SzT F (Co.step (n + 1)) true f (tT (n + 1)) := by
  rintro H v ⟨a0, a1, ⟨a2, a3, a4⟩, a5, a6, a7⟩ left ⟨cs, hc, _, _, rfl, ⟨rfl, b0⟩, _, _, rfl, ⟨rfl, b1⟩, _, _, rfl, ⟨_, _, rfl, ⟨rfl, b2⟩, _, _, rfl, ⟨rfl, b3⟩, ⟨rfl, b4⟩⟩, _, _, rfl, ⟨rfl, b5⟩, _, _, rfl, ⟨v6, rfl, r6⟩, ⟨v7, rfl, r7⟩⟩ hl0 hl1
  simp only [go_sem, binC, Option.some.injEq] at hc
  subst hc
  obtain ⟨_, x6⟩ := r6.shape
  subst x6
  obtain ⟨_, x7⟩ := r7.shape
  subst x7
  suffices h : ∃ w, QC F f _ H w ∧ ∃ r : Int, w = .int .i64 r ∧ r ≤ left ∧ (0 ≤ r → (Co.step (n + 1)).sm (a0, a1, (a2, a3, a4), a5, a6, a7) ∧ ((tT (n + 1) (a0, a1, (a2, a3, a4), a5, a6, a7) : Nat) : Int) ≤ left - r) from let ⟨w, h1, r, h2, h3⟩ := h; ⟨r, h2 ▸ h1, h3⟩
  refine QC.mkE hf rfl ?_
  refine seq_reg ?_
  simp only [go_sem, binC]
  refine seq_reg ?_
  simp only [go_sem, binC]
  obtain ⟨z4, k4, y4, m4⟩ := g4 (H ++ _) _ a6 left ⟨_, rfl, ⟨_, rfl, r6.mono (vw_app 0 H _)⟩⟩ (by omega) (by omega)
  refine op_callQ (by simp only [go_sem, binC]; exact k4) ?_
  simp only [go_sem, binC]
  refine seq_assoc (seq_reg ?_)
  simp only [go_sem, binC]
  by_cases n4 : z4 < 0
  · refine seq_cond (t := true) (by simp only [go_sem, binC]; rw [decide_eq_true n4]) ?_
    simp only [go_sem, binC]
    refine seq_assoc (seq_reg ?_)
    simp only [go_sem, binC]
    refine seq_ret ⟨Or.inr rfl, .int .i64 (-1), by simp only [go_sem, binC], ⟨-1, rfl, by omega, by omega⟩, rfl⟩
  refine seq_cond (t := false) (by simp only [go_sem, binC]; rw [decide_eq_false n4]) ?_
  simp only [go_sem, binC]
  refine seq_skip ?_
  refine seq_reg ?_
  simp only [go_sem, binC]
  obtain ⟨z5, k5, y5, m5⟩ := g5 (H ++ _) _ a7 z4 ⟨_, rfl, ⟨_, rfl, r7.mono (vw_app 0 H _)⟩⟩ (by omega) (by omega)
  refine op_callQ (by simp only [go_sem, binC]; exact k5) ?_
  simp only [go_sem, binC]
  refine seq_assoc (seq_reg ?_)
  simp only [go_sem, binC]
  by_cases n5 : z5 < 0
  · refine seq_cond (t := true) (by simp only [go_sem, binC]; rw [decide_eq_true n5]) ?_
    simp only [go_sem, binC]
    refine seq_assoc (seq_reg ?_)
    simp only [go_sem, binC]
    refine seq_ret ⟨Or.inr rfl, .int .i64 (-1), by simp only [go_sem, binC], ⟨-1, rfl, by omega, by omega⟩, rfl⟩
  refine seq_cond (t := false) (by simp only [go_sem, binC]; rw [decide_eq_false n5]) ?_
  simp only [go_sem, binC]
  refine seq_skip ?_
  refine seq_reg ?_
  simp only [go_sem, binC]
  refine wpc_ret ⟨Or.inr rfl, .int .i64 z5, by simp only [go_sem, binC], ⟨_, rfl, by omega, fun _ => ⟨⟨trivial, trivial, ⟨trivial, trivial, trivial⟩, trivial, (m4 (by omega)).1, (m5 (by omega)).1⟩, by have p := (m4 (by omega)).2; have q := (m5 (by omega)).2; simp only [tT, tP, tS] at p q ⊢; omega⟩⟩, rfl⟩
theorem szProgT_ok {n : Nat} {F : Nat → Option IFn} {f : Nat} (hf : F f = some c_szProg) (g0 : SzT F (Co.sl Co.p2) false 26 List.length) (g1 : SzT F (Co.sl (Co.step n)) false 27 (tS n)) : SzT F (Co.prog n) true f (tP n) := by
  rintro H v ⟨a0, a1⟩ left ⟨cs, hc, _, _, rfl, ⟨v0, rfl, r0⟩, ⟨v1, rfl, r1⟩⟩ hl0 hl1
  simp only [go_sem, binC, Option.some.injEq] at hc
  subst hc
  obtain ⟨_, x0⟩ := r0.shape
  subst x0
  obtain ⟨_, x1⟩ := r1.shape
  subst x1
  suffices h : ∃ w, QC F f _ H w ∧ ∃ r : Int, w = .int .i64 r ∧ r ≤ left ∧ (0 ≤ r → (Co.prog n).sm (a0, a1) ∧ ((tP n (a0, a1) : Nat) : Int) ≤ left - r) from let ⟨w, h1, r, h2, h3⟩ := h; ⟨r, h2 ▸ h1, h3⟩
  refine QC.mkE hf rfl ?_
  refine seq_reg ?_
  simp only [go_sem, binC]
  refine seq_reg ?_
  simp only [go_sem, binC]
  obtain ⟨z0, k0, y0, m0⟩ := g0 (H ++ _) _ a0 left ⟨_, rfl, ⟨_, rfl, r0.mono (vw_app 0 H _)⟩⟩ (by omega) (by omega)
  refine op_callQ (by simp only [go_sem, binC]; exact k0) ?_
  simp only [go_sem, binC]
  refine seq_assoc (seq_reg ?_)
  simp only [go_sem, binC]
  by_cases n0 : z0 < 0
  · refine seq_cond (t := true) (by simp only [go_sem, binC]; rw [decide_eq_true n0]) ?_
    simp only [go_sem, binC]
    refine seq_assoc (seq_reg ?_)
    simp only [go_sem, binC]
    refine seq_ret ⟨Or.inr rfl, .int .i64 (-1), by simp only [go_sem, binC], ⟨-1, rfl, by omega, by omega⟩, rfl⟩
  refine seq_cond (t := false) (by simp only [go_sem, binC]; rw [decide_eq_false n0]) ?_
  simp only [go_sem, binC]
  refine seq_skip ?_
  refine seq_reg ?_
  simp only [go_sem, binC]
  obtain ⟨z1, k1, y1, m1⟩ := g1 (H ++ _) _ a1 z0 ⟨_, rfl, ⟨_, rfl, r1.mono (vw_app 0 H _)⟩⟩ (by omega) (by omega)
  refine op_callQ (by simp only [go_sem, binC]; exact k1) ?_
  simp only [go_sem, binC]
  refine seq_assoc (seq_reg ?_)
  simp only [go_sem, binC]
  by_cases n1 : z1 < 0
  · refine seq_cond (t := true) (by simp only [go_sem, binC]; rw [decide_eq_true n1]) ?_
    simp only [go_sem, binC]
    refine seq_assoc (seq_reg ?_)
    simp only [go_sem, binC]
    refine seq_ret ⟨Or.inr rfl, .int .i64 (-1), by simp only [go_sem, binC], ⟨-1, rfl, by omega, by omega⟩, rfl⟩
  refine seq_cond (t := false) (by simp only [go_sem, binC]; rw [decide_eq_false n1]) ?_
  simp only [go_sem, binC]
  refine seq_skip ?_
  refine seq_reg ?_
  simp only [go_sem, binC]
  refine wpc_ret ⟨Or.inr rfl, .int .i64 z1, by simp only [go_sem, binC], ⟨_, rfl, by omega, fun _ => ⟨⟨(m0 (by omega)).1, (m1 (by omega)).1⟩, by have p := (m0 (by omega)).2; have q := (m1 (by omega)).2; simp only [tT, tP, tS] at p q ⊢; omega⟩⟩, rfl⟩
end Go.Proofs.YtmakdcbpohlacaaI
end
section
/- Marks on programs. -/
set_option linter.unusedVariables false
set_option linter.unusedSimpArgs false
namespace Go.Proofs.YtmakdcbpohlacaaI
open Go Go.RowKit
def c_markStepS : IFn := ⟨2, 72, [.t 4],
 .seq (.reg none [
    ⟨(some 4), none, .mov (.c (.int .i64 0))⟩])
 (.seq (.seq (.reg none [
     ⟨(some 5), none, .mov (.c (.int .i64 0))⟩])
  (.block 0 (.loop (.seq (.seq (.reg none [
        ⟨(some 6), none, .mov (.t 5)⟩,
        ⟨(some 7), none, .mov (.t 0)⟩,
        ⟨(some 8), none, .len (.t 7)⟩,
        ⟨(some 9), none, .bin .lss (.t 6) (.t 8)⟩])
     (.cond (.t 9) (.skip) (.exit 0)))
    (.seq (.block 1 (.seq (.reg none [
         ⟨(some 12), none, .mov (.t 0)⟩,
         ⟨(some 13), none, .mov (.t 5)⟩,
         ⟨(some 14), none, .mov (.t 1)⟩,
         ⟨(some 15), none, .iad 8 (.t 12) (.t 13)⟩,
         ⟨(some 16), none, .fad 0 (.t 15)⟩,
         ⟨none, none, .store 1 (.t 16) (.t 14)⟩])
      (.seq (.reg none [
         ⟨(some 17), none, .mov (.t 1)⟩,
         ⟨(some 18), none, .bin .add (.t 17) (.c (.int .i64 1))⟩,
         ⟨(some 1), none, .mov (.t 18)⟩])
      (.seq (.reg none [
         ⟨(some 19), none, .mov (.t 0)⟩,
         ⟨(some 20), none, .mov (.t 5)⟩,
         ⟨(some 21), none, .mov (.t 1)⟩,
         ⟨(some 22), none, .iad 8 (.t 19) (.t 20)⟩,
         ⟨(some 23), none, .fad 1 (.t 22)⟩,
         ⟨none, none, .store 1 (.t 23) (.t 21)⟩])
      (.seq (.reg none [
         ⟨(some 24), none, .mov (.t 1)⟩,
         ⟨(some 25), none, .bin .add (.t 24) (.c (.int .i64 1))⟩,
         ⟨(some 1), none, .mov (.t 25)⟩])
      (.seq (.reg none [
         ⟨(some 26), none, .mov (.t 0)⟩,
         ⟨(some 27), none, .mov (.t 5)⟩,
         ⟨(some 28), none, .mov (.t 1)⟩,
         ⟨(some 29), none, .iad 8 (.t 26) (.t 27)⟩,
         ⟨(some 30), none, .fad 2 (.t 29)⟩,
         ⟨(some 31), none, .fad 0 (.t 30)⟩,
         ⟨none, none, .store 1 (.t 31) (.t 28)⟩])
      (.seq (.reg none [
         ⟨(some 32), none, .mov (.t 1)⟩,
         ⟨(some 33), none, .bin .add (.t 32) (.c (.int .i64 1))⟩,
         ⟨(some 1), none, .mov (.t 33)⟩])
      (.seq (.reg none [
         ⟨(some 34), none, .mov (.t 0)⟩,
         ⟨(some 35), none, .mov (.t 5)⟩,
         ⟨(some 36), none, .mov (.t 1)⟩,
         ⟨(some 37), none, .iad 8 (.t 34) (.t 35)⟩,
         ⟨(some 38), none, .fad 2 (.t 37)⟩,
         ⟨(some 39), none, .fad 1 (.t 38)⟩,
         ⟨none, none, .store 1 (.t 39) (.t 36)⟩])
      (.seq (.reg none [
         ⟨(some 40), none, .mov (.t 1)⟩,
         ⟨(some 41), none, .bin .add (.t 40) (.c (.int .i64 1))⟩,
         ⟨(some 1), none, .mov (.t 41)⟩])
      (.seq (.reg none [
         ⟨(some 42), none, .mov (.t 0)⟩,
         ⟨(some 43), none, .mov (.t 5)⟩,
         ⟨(some 44), none, .mov (.t 1)⟩,
         ⟨(some 45), none, .iad 8 (.t 42) (.t 43)⟩,
         ⟨(some 46), none, .fad 2 (.t 45)⟩,
         ⟨(some 47), none, .fad 2 (.t 46)⟩,
         ⟨none, none, .store 1 (.t 47) (.t 44)⟩])
      (.seq (.reg none [
         ⟨(some 48), none, .mov (.t 1)⟩,
         ⟨(some 49), none, .bin .add (.t 48) (.c (.int .i64 1))⟩,
         ⟨(some 1), none, .mov (.t 49)⟩])
      (.seq (.reg none [
         ⟨(some 50), none, .mov (.t 0)⟩,
         ⟨(some 51), none, .mov (.t 5)⟩,
         ⟨(some 52), none, .mov (.t 1)⟩,
         ⟨(some 53), none, .iad 8 (.t 50) (.t 51)⟩,
         ⟨(some 54), none, .fad 5 (.t 53)⟩,
         ⟨none, none, .store 1 (.t 54) (.t 52)⟩])
      (.seq (.reg none [
         ⟨(some 55), none, .mov (.t 1)⟩,
         ⟨(some 56), none, .bin .add (.t 55) (.c (.int .i64 1))⟩,
         ⟨(some 1), none, .mov (.t 56)⟩])
      (.seq (.reg none [
         ⟨(some 57), none, .mov (.t 0)⟩,
         ⟨(some 58), none, .mov (.t 5)⟩,
         ⟨(some 59), none, .iad 8 (.t 57) (.t 58)⟩,
         ⟨(some 60), none, .fad 6 (.t 59)⟩,
         ⟨(some 61), none, .load false 1 (.t 60)⟩,
         ⟨(some 62), none, .mov (.t 1)⟩,
         ⟨(some 63), none, .call .n (.f 41) [(.t 61), (.t 62)]⟩,
         ⟨(some 1), none, .mov (.t 63)⟩])
      (.reg none [
        ⟨(some 64), none, .mov (.t 0)⟩,
        ⟨(some 65), none, .mov (.t 5)⟩,
        ⟨(some 66), none, .iad 8 (.t 64) (.t 65)⟩,
        ⟨(some 67), none, .fad 7 (.t 66)⟩,
        ⟨(some 68), none, .load false 1 (.t 67)⟩,
        ⟨(some 69), none, .mov (.t 1)⟩,
        ⟨(some 70), none, .call .n (.f 41) [(.t 68), (.t 69)]⟩,
        ⟨(some 1), none, .mov (.t 70)⟩])))))))))))))))
    (.reg none [
      ⟨(some 10), none, .mov (.t 5)⟩,
      ⟨(some 11), none, .bin .add (.t 10) (.c (.int .i64 1))⟩,
      ⟨(some 5), none, .mov (.t 11)⟩]))))))
 (.seq (.reg none [
    ⟨(some 71), none, .mov (.t 1)⟩,
    ⟨(some 4), none, .mov (.t 71)⟩])
 (.ret)))⟩
def c_markProg : IFn := ⟨2, 14, [.t 4],
 .seq (.reg none [
    ⟨(some 2), none, .box (.t 0)⟩,
    ⟨(some 4), none, .mov (.c (.int .i64 0))⟩])
 (.seq (.reg none [
    ⟨(some 5), none, .fad 0 (.t 2)⟩,
    ⟨(some 6), none, .load false 1 (.t 5)⟩,
    ⟨(some 7), none, .mov (.t 1)⟩,
    ⟨(some 8), none, .call .n (.f 40) [(.t 6), (.t 7)]⟩,
    ⟨(some 1), none, .mov (.t 8)⟩])
 (.seq (.reg none [
    ⟨(some 9), none, .fad 1 (.t 2)⟩,
    ⟨(some 10), none, .load false 1 (.t 9)⟩,
    ⟨(some 11), none, .mov (.t 1)⟩,
    ⟨(some 12), none, .call .n (.f 41) [(.t 10), (.t 11)]⟩,
    ⟨(some 1), none, .mov (.t 12)⟩])
 (.seq (.reg none [
    ⟨(some 13), none, .mov (.t 1)⟩,
    ⟨(some 4), none, .mov (.t 13)⟩])
 (.ret))))⟩
def cT : (n : Nat) → TStep n → Nat
  | 0, s => s.elim
  | n + 1, (_, _, _, _, th, el) => 6 + ((th.map (cT n)).sum + (el.map (cT n)).sum)
def cS (n : Nat) (l : List (TStep n)) : Nat := (l.map (cT n)).sum
def nLab (l : List (Int × Int)) : Nat := l.length * 2
def cP (n : Nat) (p : TProg n) : Nat := nLab p.1 + cS n p.2
theorem cS_le : ∀ (n : Nat), (∀ s : TStep n, cT n s ≤ 6 + 6 * tT n s)
  | 0 => fun s => s.elim
  | n + 1 => fun (k, x, v, h, th, el) => by
    have go : ∀ l : List (TStep n), (l.map (cT n)).sum ≤ 6 * (l.length + (l.map (tT n)).sum) := by
      intro l
      induction l with
      | nil => simp
      | cons a l ih =>
        have := cS_le n a
        simp only [List.map_cons, List.sum_cons, List.length_cons]
        omega
    have h1 := go th
    have h2 := go el
    simp only [cT, tT]
    omega
theorem cS_le' {n : Nat} (l : List (TStep n)) : cS n l ≤ 6 * tS n l := by
  unfold cS tS
  induction l with
  | nil => simp
  | cons a l ih =>
    have := cS_le n a
    simp only [List.map_cons, List.sum_cons, List.length_cons]
    omega
theorem cP_le {n : Nat} (p : TProg n) : cP n p ≤ 6 * tP n p := by
  have := cS_le' p.2
  unfold cP tP nLab
  omega
theorem sT : ∀ n, CoSim (Co.step n) (cT n)
  | 0 => fun V V' cs cs' a _ _ h => h.elim
  | n + 1 => by
    have h1 := (sT n).sum
    have hv : CoSim Co.val (fun p : Int × Int × Int => ((), (), ())) := CoSim.pair CoSim.int (CoSim.pair CoSim.int CoSim.int)
    have h2 := (CoSim.pair CoSim.int (CoSim.pair CoSim.int (CoSim.pair hv (CoSim.pair CoSim.int (CoSim.pair h1 h1))))).comp (fun p => 6 + (p.2.2.2.2.1 + p.2.2.2.2.2))
    intro V V' cs cs' a g1 g2 g3
    obtain ⟨a', g4, g5⟩ := h2 V V' cs cs' a g1 g2 g3
    exact ⟨a', g4, g5⟩
theorem sS (n : Nat) : CoSim (Co.sl (Co.step n)) (cS n) := (sT n).sum
theorem sLab : CoSim (Co.sl Co.p2) nLab := (CoSim.pair CoSim.int CoSim.int).len 2
theorem FrI.sl1 {lo hi : Nat} {H H' : Heap} (h : FrI lo hi H H') {b j : Nat} {a : Option Addr} {n c : Nat} (hg : getCells H b j 1 = some [.slice a n c]) : getCells H' b j 1 = some [.slice a n c] := by
  unfold getCells at hg ⊢
  cases hb : H[b]? with
  | none => rw [hb] at hg; cases hg
  | some k =>
    rw [hb] at hg
    simp only at hg
    split at hg
    case isFalse => cases hg
    case isTrue hl =>
    rcases h.2 b (List.getElem?_eq_some_iff.1 hb).1 with h1 | ⟨_, _, k1, k2, h1, h2, _, h3⟩
    · rw [h1, hb]
      simp only
      rw [if_pos hl]
      exact hg
    · rw [hb] at h1
      cases h1
      rw [h2]
      simp only
      rw [h3.1, if_pos hl]
      have e1 : k.cells[j]? = some (.slice a n c) := by
        have := congrArg (fun q => (q.getD []).head?) hg
        simp only [Option.getD_some, List.head?_cons, List.head?_take, List.head?_drop] at this
        simpa using this
      obtain ⟨c', q1, q2⟩ := h3.2 j _ e1
      have q3 : c' = .slice a n c := by
        rcases q2 with q2 | ⟨⟨m, q2⟩, _⟩
        · exact q2
        · cases q2
      subst q3
      obtain ⟨hj, hje⟩ := List.getElem?_eq_some_iff.1 q1
      rw [List.drop_eq_getElem_cons hj, hje]
      rfl
/-- Six numbers of a step written. -/
theorem frI_six {lo hi : Nat} {H : Heap} {b o : Nat} {cs : List Value} {es et : Nat} {ap : Bool} (hb : H[b]? = some ⟨cs, es, et, ap, true⟩) (h1 : lo ≤ b) (h2 : b < hi) (hl : o + 6 ≤ cs.length) (hc : ∀ j, j < 6 → ∃ m, cs[o + j]? = some (.int .i64 m)) {k : Int} (hk : 0 ≤ k) (hkn : k + 6 ≤ 9223372036854775807) : FrI lo hi H (markB H b o k 6) := by
  refine ⟨Nat.le_of_eq (markB_len _ _ _ _ _).symm, fun b' hb' => ?_⟩
  by_cases e : b' = b
  · subst e
    refine .inr ⟨h1, h2, _, _, hb, markB_get hb _ _ _, rfl, setL_length _ _ _, fun i c hi => ?_⟩
    simp only at hi ⊢
    rw [setL_get _ _ _ _ (by rw [seqI_length]; exact hl), seqI_length]
    by_cases hi2 : o ≤ i ∧ i < o + 6
    · rw [if_pos hi2, seqI_at _ _ _ (by omega)]
      obtain ⟨m, hm⟩ := hc (i - o) (by omega)
      rw [show o + (i - o) = i by omega, hi] at hm
      cases hm
      exact ⟨_, rfl, .inr ⟨⟨m, rfl⟩, _, rfl, by omega, by omega⟩⟩
    · rw [if_neg hi2]
      exact ⟨c, hi, .inl rfl⟩
  · exact .inl (markB_ne _ _ _ _ e)
set_option maxHeartbeats 4000000 in
theorem mkSteps_ok {F : Nat → Option IFn} {n : Nat} (hf : F 41 = some c_markStepS) (ihn : MkOk F (Co.sl (Co.step n)) false 41 (cS n)) : MkOk F (Co.sl (Co.step (n + 1))) false 41 (cS (n + 1)) := by
  rintro H v l lo hi lo0 k ⟨cs, hc, u, rfl, hr⟩ hhi hlo hk hkn
  simp only [valOf_one, Option.some.injEq] at hc
  subst hc
  have hr0 := hr
  obtain ⟨hn, a, rfl, ha⟩ := hr
  have hs := sT (n + 1)
  suffices h : ∃ v H', NC F lo0 41 [.slice a l.length l.length, .int .i64 k] H v H' ∧ v = .int .i64 (k + (cS (n + 1) l : Nat)) ∧ FrI lo hi H H' by
    obtain ⟨v, H', h1, rfl, h2⟩ := h
    exact ⟨H', h1, h2⟩
  unfold cS at hkn ⊢
  refine NC.mk hf rfl ?_
  refine seq_reg ?_
  simp only [go_sem, binC]
  refine seq_assoc (seq_reg ?_)
  simp only [go_sem, binC]
  refine seq_block (wpc_loop ?_)
  suffices h : ∀ (j i : Nat) (e : Env) (H' : Heap), i + j = l.length → FrI lo hi H H' → e 0 = .slice a l.length l.length → e 5 = .int .i64 i → e 1 = .int .i64 (k + (((l.map (cT (n + 1))).take i).sum : Nat)) → W F lo0 _ e H' _ from
    h l.length 0 _ _ (by omega) (FrI.refl _ _ _) (by simp only [go_sem, binC]) (by simp only [go_sem, binC]; rfl) (by simp only [go_sem, binC]; simp)
  intro j
  induction j with
  | zero =>
    intro i e H' hi2 hfr e0 e5 e1
    refine lp_step ?_
    refine seq_assoc (seq_reg ?_)
    simp only [go_sem, binC, e0, e5]
    refine seq_cond (t := false) (by simp only [go_sem, binC]; rw [decide_eq_false (by omega)]) ?_
    simp only [go_sem, binC]
    refine seq_exit ?_
    simp only [go_sem, binC, thenX_e, out_e, thenX_n]
    refine seq_reg ?_
    simp only [go_sem, binC, e1]
    obtain rfl : i = l.length := by omega
    refine wpc_ret ⟨Or.inr rfl, _, (by simp only [go_sem, binC]; rfl), ?_, hfr⟩
    rw [List.take_of_length_le (by rw [List.length_map]; omega)]
  | succ j ih =>
    intro i e H' hi2 hfr e0 e5 e1
    have hil : i < l.length := by omega
    have hsum := sum_take (fun x => x) (l.map (cT (n + 1))) i (by rw [List.length_map]; exact hil)
    rw [List.getElem_map] at hsum
    have hle := sum_take_le (l.map (cT (n + 1))) (i + 1)
    obtain ⟨l', hl', hm⟩ := hs.sl _ _ _ _ _ hfr.vsim (CsSim.refl _) (Co.rd_sl.2 hr0)
    obtain ⟨_, a', e6, h7⟩ := Co.rd_sl.1 hl'
    have hll : l'.length = l.length := by have := congrArg List.length hm; simpa using this
    rcases h7 with rfl | ⟨b, o, rfl, h7⟩
    · simp only [List.length_nil] at hll; omega
    obtain ⟨cs, h8, h9⟩ := h7 i (by omega)
    rw [hll] at e6
    simp only [Value.slice.injEq] at e6
    obtain ⟨rfl, _⟩ := e6
    have hci : cT (n + 1) l'[i] = cT (n + 1) l[i] := by
      have := congrArg (fun q => q[i]?) hm
      simp only [List.getElem?_map, List.getElem?_eq_getElem hil, List.getElem?_eq_getElem (show i < l'.length by omega), Option.map_some, Option.some.injEq] at this
      exact this
    rw [← hci] at hsum
    generalize l'[i] = s at h9 hsum
    obtain ⟨c0, c1, ⟨c2, c3, c4⟩, c5, th, el⟩ := s
    obtain ⟨_, _, rfl, ⟨rfl, b0⟩, _, _, rfl, ⟨rfl, b1⟩, _, _, rfl, ⟨_, _, rfl, ⟨rfl, b2⟩, _, _, rfl, ⟨rfl, b3⟩, ⟨rfl, b4⟩⟩, _, _, rfl, ⟨rfl, b5⟩, _, _, rfl, ⟨tv, rfl, r6⟩, ⟨ev, rfl, r7⟩⟩ := h9
    simp only [List.cons_append, List.nil_append] at h8
    obtain ⟨ccs, es, et, ap, hb, hlen, hcut, hlb, hbh⟩ : ∃ ccs es et ap, H'[b]? = some ⟨ccs, es, et, ap, true⟩ ∧ o + i * 8 + 8 ≤ ccs.length ∧ (ccs.drop (o + i * 8)).take 8 = [.int .i64 c0, .int .i64 c1, .int .i64 c2, .int .i64 c3, .int .i64 c4, .int .i64 c5, tv, ev] ∧ lo ≤ b ∧ b < hi := by
      rw [step_w] at h8
      unfold rng at h8
      split at h8
      · rename_i kk hk2
        obtain ⟨g1, g2, es, et, ap, g3⟩ := vwb_some hk2
        split at h8
        · rename_i hl2
          simp only [Option.some.injEq] at h8
          exact ⟨kk, es, et, ap, g3, hl2, h8, g1, g2⟩
        · cases h8
      · cases h8
    clear h8
    have hcj : ∀ j, ccs[o + i * 8 + j]? = if j < 8 then [.int .i64 c0, .int .i64 c1, .int .i64 c2, .int .i64 c3, .int .i64 c4, .int .i64 c5, tv, ev][j]? else ccs[o + i * 8 + j]? := fun j => by
      split
      · rename_i hj
        rw [← hcut, List.getElem?_take_of_lt hj, List.getElem?_drop]
      · rfl
    have hone : ∀ v' : Value, ∀ j, j < 8 → 6 ≤ j → ccs[o + i * 8 + j]? = some v' → ∀ q, getCells (markB H' b (o + i * 8) q 6) b (o + i * 8 + j) 1 = some [v'] := fun v' j h1 h2 h3 q => by
      unfold getCells
      rw [markB_get hb]
      simp only [setL_length]
      rw [if_pos (by omega)]
      have hg : (setL ccs (o + i * 8) (seqI q 6))[o + i * 8 + j]? = some v' := by
        rw [setL_get _ _ _ _ (by rw [seqI_length]; omega), seqI_length, if_neg (by omega)]
        exact h3
      obtain ⟨hj, hje⟩ := List.getElem?_eq_some_iff.1 hg
      rw [List.drop_eq_getElem_cons hj, hje]
      rfl
    obtain ⟨h60, a6, rfl, h62⟩ := r6
    obtain ⟨h70, a7, rfl, h72⟩ := r7
    have hq0 : 0 ≤ k + (((l.map (cT (n + 1))).take i).sum : Nat) := by omega
    have hct : cT (n + 1) (c0, c1, (c2, c3, c4), c5, th, el) = 6 + (cS n th + cS n el) := rfl
    rw [hct] at hsum
    have hqn : (k + (((l.map (cT (n + 1))).take i).sum : Nat)) + (6 + (cS n th + cS n el) : Nat) ≤ 9223372036854775807 := by omega
    have hq2 : k + (((l.map (cT (n + 1))).take (i + 1)).sum : Nat) = (k + (((l.map (cT (n + 1))).take i).sum : Nat)) + (6 + (cS n th + cS n el) : Nat) := by omega
    generalize k + (((l.map (cT (n + 1))).take i).sum : Nat) = q at e1 hq0 hqn hq2
    have hF6 := frI_six hb hlb hbh (o := o + i * 8) (k := q) (by omega) (fun j hj => by
      rw [hcj, if_pos (by omega)]
      have : j = 0 ∨ j = 1 ∨ j = 2 ∨ j = 3 ∨ j = 4 ∨ j = 5 := by omega
      rcases this with rfl | rfl | rfl | rfl | rfl | rfl <;> exact ⟨_, rfl⟩) hq0 (by omega)
    have g6 := hone _ 6 (by omega) (by omega) (by rw [hcj, if_pos (by omega)]; rfl) q
    have g7 := hone _ 7 (by omega) (by omega) (by rw [hcj, if_pos (by omega)]; rfl) q
    have hlen6 : ∀ m, (setL ccs (o + i * 8) (seqI q m)).length = ccs.length := fun m => setL_length _ _ _
    refine lp_step ?_
    refine seq_assoc (seq_reg ?_)
    simp only [go_sem, binC, e0, e5]
    refine seq_cond (t := true) (by simp only [go_sem, binC]; rw [decide_eq_true (by omega)]) ?_
    simp only [go_sem, binC]
    refine seq_skip (seq_block ?_)
    rw [← markB_zero H' b (o + i * 8) q]
    refine seq_reg ?_
    simp only [go_sem, binC, e0, e5, e1, markB_get hb, hlen6]
    refine ⟨⟨by omega, by omega⟩, ⟨by omega, by omega⟩, ?_⟩
    rw [markB_step hb (m := 0) (by omega) (by omega)]
    refine seq_reg ?_
    simp only [go_sem, binC, e1]
    rw [wrap_id (x := q + 1) (by omega) (by omega)]
    refine seq_reg ?_
    simp only [go_sem, binC, e0, e5, e1, markB_get hb, hlen6]
    refine ⟨⟨by omega, by omega⟩, ⟨by omega, by omega⟩, ?_⟩
    rw [markB_step hb (m := 1) (by omega) (by omega)]
    refine seq_reg ?_
    simp only [go_sem, binC, e1]
    rw [wrap_id (x := (q + 1) + 1) (by omega) (by omega)]
    refine seq_reg ?_
    simp only [go_sem, binC, e0, e5, e1, markB_get hb, hlen6]
    refine ⟨⟨by omega, by omega⟩, ⟨by omega, by omega⟩, ?_⟩
    rw [markB_step hb (m := 2) (by omega) (by omega)]
    refine seq_reg ?_
    simp only [go_sem, binC, e1]
    rw [wrap_id (x := ((q + 1) + 1) + 1) (by omega) (by omega)]
    refine seq_reg ?_
    simp only [go_sem, binC, e0, e5, e1, markB_get hb, hlen6]
    refine ⟨⟨by omega, by omega⟩, ⟨by omega, by omega⟩, ?_⟩
    rw [markB_step hb (m := 3) (by omega) (by omega)]
    refine seq_reg ?_
    simp only [go_sem, binC, e1]
    rw [wrap_id (x := (((q + 1) + 1) + 1) + 1) (by omega) (by omega)]
    refine seq_reg ?_
    simp only [go_sem, binC, e0, e5, e1, markB_get hb, hlen6]
    refine ⟨⟨by omega, by omega⟩, ⟨by omega, by omega⟩, ?_⟩
    rw [markB_step hb (m := 4) (by omega) (by omega)]
    refine seq_reg ?_
    simp only [go_sem, binC, e1]
    rw [wrap_id (x := ((((q + 1) + 1) + 1) + 1) + 1) (by omega) (by omega)]
    refine seq_reg ?_
    simp only [go_sem, binC, e0, e5, e1, markB_get hb, hlen6]
    refine ⟨⟨by omega, by omega⟩, ⟨by omega, by omega⟩, ?_⟩
    rw [markB_step hb (m := 5) (by omega) (by omega)]
    refine seq_reg ?_
    simp only [go_sem, binC, e1]
    rw [wrap_id (x := (((((q + 1) + 1) + 1) + 1) + 1) + 1) (by omega) (by omega)]
    obtain ⟨th', ht1, ht2⟩ := sS n _ _ _ _ th hF6.vsim (CsSim.refl [.slice a6 th.length th.length]) ⟨_, rfl, h60, a6, rfl, h62⟩
    obtain ⟨Ha, ka, fa⟩ := ihn _ (.slice a6 th.length th.length) th' lo hi lo0 (q + 6) ⟨_, rfl, ht1⟩ (by have := hfr.1; have := hF6.1; omega) hlo (by omega) (by omega)
    rw [ht2] at ka
    refine seq_reg ?_
    simp only [go_sem, binC, e0, e5, g6]
    refine ⟨⟨by omega, by omega⟩, ?_⟩
    refine op_callN (by simp only [go_sem, binC]; rw [show (((((q + 1) + 1) + 1) + 1) + 1) + 1 = q + 6 by omega]; exact ka) ?_
    simp only [go_sem, binC]
    have hFa := hF6.trans fa
    obtain ⟨el', he1, he2⟩ := sS n _ _ _ _ el hFa.vsim (CsSim.refl [.slice a7 el.length el.length]) ⟨_, rfl, h70, a7, rfl, h72⟩
    obtain ⟨Hb, kb, fb⟩ := ihn _ (.slice a7 el.length el.length) el' lo hi lo0 (q + 6 + (cS n th : Nat)) ⟨_, rfl, he1⟩ (by have := hfr.1; have := hFa.1; omega) hlo (by omega) (by omega)
    rw [he2] at kb
    have g7a := fa.sl1 g7
    refine wpc_reg ?_
    simp only [go_sem, binC, e0, e5, g7a]
    refine ⟨⟨by omega, by omega⟩, ?_⟩
    refine op_callN (by simp only [go_sem, binC]; exact kb) ?_
    simp only [go_sem, binC, out_n, thenX_n]
    have hw1 : IntKind.i64.wrap ((i : Int) + 1) = ((i + 1 : Nat) : Int) := by rw [wrap_id (by omega) (by omega)]; omega
    refine wpc_reg ?_
    simp only [go_sem, binC, e5, hw1]
    simp only [go_sem, binC, thenX_n]
    refine ih (i + 1) _ Hb (by omega) ((hfr.trans hFa).trans fb) (by simp only [go_sem, binC, e0]) (by simp only [go_sem, binC]) (by simp only [go_sem, binC]; rw [hq2]; congr 1; omega)
theorem mkSteps_all {F : Nat → Option IFn} (hf : F 41 = some c_markStepS) : ∀ n, MkOk F (Co.sl (Co.step n)) false 41 (cS n)
  | 0 => by
    rintro H v l lo hi lo0 k ⟨cs, hc, u, rfl, hr⟩ hhi hlo hk hkn
    simp only [valOf_one, Option.some.injEq] at hc
    subst hc
    obtain ⟨hn, a, rfl, ha⟩ := hr
    have h0 : l = [] := by
      cases l with
      | nil => rfl
      | cons s l => exact s.elim
    subst h0
    suffices h : ∃ v H', NC F lo0 41 [.slice a 0 0, .int .i64 k] H v H' ∧ v = .int .i64 k ∧ FrI lo hi H H' by
      obtain ⟨v, H', h1, rfl, h2⟩ := h
      refine ⟨H', ?_, h2⟩
      have e : k + ((cS 0 [] : Nat) : Int) = k := by simp [cS]
      rw [e]
      exact h1
    refine NC.mk hf rfl ?_
    refine seq_reg ?_
    simp only [go_sem, binC]
    refine seq_assoc (seq_reg ?_)
    simp only [go_sem, binC]
    refine seq_block (wpc_loop ?_)
    refine lp_step ?_
    refine seq_assoc (seq_reg ?_)
    simp only [go_sem, binC]
    refine seq_cond (t := false) (by simp only [go_sem, binC]; rfl) ?_
    simp only [go_sem, binC]
    refine seq_exit ?_
    simp only [go_sem, binC, thenX_e, out_e, thenX_n]
    refine seq_reg ?_
    simp only [go_sem, binC]
    exact wpc_ret ⟨Or.inr rfl, _, (by (simp only [go_sem, binC]) <;> rfl), rfl, FrI.refl _ _ _⟩
  | n + 1 => mkSteps_ok hf (mkSteps_all hf n)
end Go.Proofs.YtmakdcbpohlacaaI
end
section
/- Copies of programs in blocks of one's own, and marks on them. -/
set_option linter.unusedVariables false
set_option linter.unusedSimpArgs false
namespace Go.Proofs.YtmakdcbpohlacaaI
open Go Go.RowKit
theorem toLabel_okS {F : Nat → Option IFn} {f : Nat} (hf : F f = some c_toLabel) : ToOkS F Co.p2 true .q f := by
  refine ToOkS.ofQ ?_
  rintro H v ⟨a0, a1⟩ ⟨cs, hc, _, _, rfl, ⟨rfl, b0⟩, ⟨rfl, b1⟩⟩ hs
  simp only [go_sem, binC, Option.some.injEq] at hc
  subst hc
  refine ⟨_, QC.mk hf rfl ?_, ⟨_, rfl, _, _, rfl, ⟨rfl, b0⟩, ⟨rfl, b1⟩⟩⟩
  repeat (refine seq_reg ?_; simp only [go_sem, binC])
  refine wpc_ret ⟨Or.inr rfl, _, ?_, rfl, rfl⟩
  simp only [go_sem, binC]
theorem toVal_okS {F : Nat → Option IFn} {f : Nat} (hf : F f = some c_toVal) : ToOkS F Co.val true .q f := by
  refine ToOkS.ofQ ?_
  rintro H v ⟨a0, a1, a2⟩ ⟨cs, hc, _, _, rfl, ⟨rfl, b0⟩, _, _, rfl, ⟨rfl, b1⟩, ⟨rfl, b2⟩⟩ hs
  simp only [go_sem, binC, Option.some.injEq] at hc
  subst hc
  refine ⟨_, QC.mk hf rfl ?_, ⟨_, rfl, _, _, rfl, ⟨rfl, b0⟩, _, _, rfl, ⟨rfl, b1⟩, ⟨rfl, b2⟩⟩⟩
  repeat (refine seq_reg ?_; simp only [go_sem, binC])
  refine wpc_ret ⟨Or.inr rfl, _, ?_, rfl, rfl⟩
  simp only [go_sem, binC]
theorem toStep_okS {n : Nat} {F : Nat → Option IFn} {f : Nat} (hf : F f = some c_toStep) (g2 : ToOkS F Co.val true .q 95) (g4 : ToOkS F (Co.sl (Co.step n)) false .k 32) (g5 : ToOkS F (Co.sl (Co.step n)) false .k 32) : ToOkS F (Co.step (n + 1)) true .k f := by
  refine ToOkS.ofK ?_
  rintro H v ⟨a0, a1, ⟨a2, a3, a4⟩, a5, a6, a7⟩ ⟨cs, hc, _, _, rfl, ⟨rfl, b0⟩, _, _, rfl, ⟨rfl, b1⟩, _, _, rfl, ⟨_, _, rfl, ⟨rfl, b2⟩, _, _, rfl, ⟨rfl, b3⟩, ⟨rfl, b4⟩⟩, _, _, rfl, ⟨rfl, b5⟩, _, _, rfl, ⟨v6, rfl, r6⟩, ⟨v7, rfl, r7⟩⟩ ⟨s0, s1, ⟨s2, s3, s4⟩, s5, s6, s7⟩
  simp only [go_sem, binC, Option.some.injEq] at hc
  subst hc
  obtain ⟨_, x6⟩ := r6.shape
  subst x6
  obtain ⟨_, x7⟩ := r7.shape
  subst x7
  refine KC.mk hf rfl ?_
  refine seq_reg ?_
  simp only [go_sem, binC]
  refine seq_reg ?_
  simp only [go_sem, binC]
  refine seq_reg ?_
  simp only [go_sem, binC]
  refine seq_reg ?_
  simp only [go_sem, binC]
  refine seq_reg ?_
  simp only [go_sem, binC]
  refine g2 _ _ ⟨a2, a3, a4⟩ ⟨_, rfl, ⟨_, _, rfl, ⟨rfl, b2⟩, _, _, rfl, ⟨rfl, b3⟩, ⟨rfl, b4⟩⟩⟩ ⟨s2, s3, s4⟩ _ _ _ _ (by simp only [go_sem, binC]) ?_
  rintro w2 L2 ⟨_, hc, _, _, rfl, ⟨rfl, bq2⟩, _, _, rfl, ⟨rfl, bq3⟩, ⟨rfl, bq4⟩⟩
  simp only [go_sem, binC, Option.some.injEq] at hc
  subst hc
  simp only [go_sem, binC]
  refine seq_reg ?_
  simp only [go_sem, binC]
  refine seq_reg ?_
  simp only [go_sem, binC]
  refine g4 _ _ a6 ⟨_, rfl, ⟨_, rfl, r6.mono (vw_app 0 H _)⟩⟩ s6 _ _ _ _ (by simp only [go_sem, binC]) ?_
  rintro w4 L4 ⟨_, hc, vq6, rfl, rq6⟩
  simp only [go_sem, binC, Option.some.injEq] at hc
  subst hc
  obtain ⟨_, xq6⟩ := rq6.shape
  subst xq6
  simp only [go_sem, binC]
  refine seq_reg ?_
  simp only [go_sem, binC]
  refine g5 _ _ a7 ⟨_, rfl, ⟨_, rfl, r7.mono (vw_app 0 H _)⟩⟩ s7 _ _ _ _ (by simp only [go_sem, binC]) ?_
  rintro w5 L5 ⟨_, hc, vq7, rfl, rq7⟩
  simp only [go_sem, binC, Option.some.injEq] at hc
  subst hc
  obtain ⟨_, xq7⟩ := rq7.shape
  subst xq7
  simp only [go_sem, binC]
  refine seq_reg ?_
  simp only [go_sem, binC]
  refine wpc_ret ⟨Or.inr rfl, _, by simp only [go_sem, binC], _, rfl, _, rfl, _, _, rfl, ⟨rfl, b0⟩, _, _, rfl, ⟨rfl, b1⟩, _, _, rfl, ⟨_, _, rfl, ⟨rfl, b2⟩, _, _, rfl, ⟨rfl, b3⟩, ⟨rfl, b4⟩⟩, _, _, rfl, ⟨rfl, b5⟩, _, _, rfl, ⟨_, rfl, rq6.mono (vws_in (H.length + 3) (L2 ++ L4) L5 (by simp only [go_sem, binC]; try omega) (by omega) (by simp only [go_sem, binC]) (by simp only [go_sem, binC]))⟩, ⟨_, rfl, rq7.mono (vws_in (H.length + 3) (L2 ++ (L4 ++ L5)) [] (by simp only [go_sem, binC]; try omega) (by omega) (by simp only [go_sem, binC]) (by simp only [go_sem, binC]))⟩⟩
theorem toProg_okS {n : Nat} {F : Nat → Option IFn} {f : Nat} (hf : F f = some c_toProg) (g0 : ToOkS F (Co.sl Co.p2) false .k 31) (g1 : ToOkS F (Co.sl (Co.step n)) false .k 32) : ToOkS F (Co.prog n) true .k f := by
  refine ToOkS.ofK ?_
  rintro H v ⟨a0, a1⟩ ⟨cs, hc, _, _, rfl, ⟨v0, rfl, r0⟩, ⟨v1, rfl, r1⟩⟩ ⟨s0, s1⟩
  simp only [go_sem, binC, Option.some.injEq] at hc
  subst hc
  obtain ⟨_, x0⟩ := r0.shape
  subst x0
  obtain ⟨_, x1⟩ := r1.shape
  subst x1
  refine KC.mk hf rfl ?_
  refine seq_reg ?_
  simp only [go_sem, binC]
  refine seq_reg ?_
  simp only [go_sem, binC]
  refine seq_reg ?_
  simp only [go_sem, binC]
  refine g0 _ _ a0 ⟨_, rfl, ⟨_, rfl, r0.mono (vw_app 0 H _)⟩⟩ s0 _ _ _ _ (by simp only [go_sem, binC]) ?_
  rintro w0 L0 ⟨_, hc, vq0, rfl, rq0⟩
  simp only [go_sem, binC, Option.some.injEq] at hc
  subst hc
  obtain ⟨_, xq0⟩ := rq0.shape
  subst xq0
  simp only [go_sem, binC]
  refine seq_reg ?_
  simp only [go_sem, binC]
  refine g1 _ _ a1 ⟨_, rfl, ⟨_, rfl, r1.mono (vw_app 0 H _)⟩⟩ s1 _ _ _ _ (by simp only [go_sem, binC]) ?_
  rintro w1 L1 ⟨_, hc, vq1, rfl, rq1⟩
  simp only [go_sem, binC, Option.some.injEq] at hc
  subst hc
  obtain ⟨_, xq1⟩ := rq1.shape
  subst xq1
  simp only [go_sem, binC]
  refine seq_reg ?_
  simp only [go_sem, binC]
  refine wpc_ret ⟨Or.inr rfl, _, by simp only [go_sem, binC], _, rfl, _, rfl, _, _, rfl, ⟨_, rfl, rq0.mono (vws_in (H.length + 3) L0 L1 (by simp only [go_sem, binC]; try omega) (by omega) (by simp only [go_sem, binC]) (by simp only [go_sem, binC]))⟩, ⟨_, rfl, rq1.mono (vws_in (H.length + 3) (L0 ++ L1) [] (by simp only [go_sem, binC]; try omega) (by omega) (by simp only [go_sem, binC]) (by simp only [go_sem, binC]))⟩⟩
theorem toStepsS_all {F : Nat → Option IFn} (h1 : F 69 = some c_toStep) (h2 : F 32 = some (toCall .k 69 8 68 96 [(.int .i64 0), (.int .i64 0), (.int .i64 0), (.int .i64 0), (.int .i64 0), (.int .i64 0), (.slice none 0 0), (.slice none 0 0)] true)) (gv : ToOkS F Co.val true .q 95) : ∀ n, ToOkS F (Co.step n) true .k 69 ∧ ToOkS F (Co.sl (Co.step n)) false .k 32 := by
  intro n
  induction n with
  | zero =>
    have z : ToOkS F (Co.step 0) true .k 69 := by
      rintro H v a ⟨cs, _, h⟩
      exact h.elim
    exact ⟨z, toCallS_ok h2 rfl (by omega) z (step_w 0) (va_t (Co.step 0))⟩
  | succ n ih =>
    have z : ToOkS F (Co.step (n + 1)) true .k 69 := toStep_okS h1 gv ih.2 ih.2
    exact ⟨z, toCallS_ok h2 rfl (by omega) z (step_w (n + 1)) (va_t (Co.step (n + 1)))⟩
theorem szStepsT_all {F : Nat → Option IFn} (h1 : F 64 = some c_szStep) (h2 : F 27 = some (szNest 64 8 true)) : ∀ n, SzT F (Co.step n) true 64 (tT n) ∧ SzT F (Co.sl (Co.step n)) false 27 (tS n) := by
  intro n
  induction n with
  | zero =>
    have z : SzT F (Co.step 0) true 64 (tT 0) := by
      rintro H v a left ⟨cs, _, h⟩
      exact h.elim
    exact ⟨z, szNestT_ok h2 z (step_w 0) (va_t (Co.step 0))⟩
  | succ n ih =>
    have z : SzT F (Co.step (n + 1)) true 64 (tT (n + 1)) := szStepT_ok h1 ih.2 ih.2
    exact ⟨z, szNestT_ok h2 z (step_w (n + 1)) (va_t (Co.step (n + 1)))⟩
theorem markProg_ok {n : Nat} {F : Nat → Option IFn} {f : Nat} (hf : F f = some c_markProg) (g0 : MkOk F (Co.sl Co.p2) false 40 nLab) (s0 : CoSim (Co.sl Co.p2) nLab) (g1 : MkOk F (Co.sl (Co.step n)) false 41 (cS n)) (s1 : CoSim (Co.sl (Co.step n)) (cS n)) : MkOk F (Co.prog n) true f (fun a => nLab a.1 + (cS n) a.2) := by
  rintro H v ⟨a0, a1⟩ lo hi lo0 k ⟨cs, hc, _, _, rfl, ⟨v0, rfl, r0⟩, ⟨v1, rfl, r1⟩⟩ hhi hlo hk hkn
  simp only [go_sem, binC, Option.some.injEq] at hc hkn
  subst hc
  have q0 := r0
  have q1 := r1
  obtain ⟨_, x0⟩ := r0.shape
  subst x0
  obtain ⟨_, x1⟩ := r1.shape
  subst x1
  suffices h : ∃ w H', NC F lo0 f [_, .int .i64 k] H w H' ∧ (w = .int .i64 (k + (((nLab a0 + (cS n) a1 : Nat)) : Int)) ∧ FrI lo hi H H') by
    obtain ⟨w, H', h1, rfl, h2⟩ := h
    exact ⟨H', h1, h2⟩
  refine NC.mk hf rfl ?_
  refine seq_reg ?_
  simp only [go_sem, binC]
  refine wpc_gen fun Hb hHb => ?_
  have hab : Ag 0 H.length H Hb := hHb ▸ ag_app _ _
  have hlb : Hb.length = H.length + 1 := by rw [hHb, List.length_append]; rfl
  have hbx := fun o n => hHb ▸ gc_new0 H _ o n
  simp only [go_sem, binC] at hbx
  have hsb : Sub (vwb lo hi H) (vwb lo hi Hb) := vwb_same fun b _ h => hab b (Nat.zero_le _) (by omega)
  have fr : FrI lo hi H Hb := hHb ▸ FrI.grow _ _
  have fr0 : FrI lo hi Hb Hb := FrI.refl _ _ _
  refine seq_reg ?_
  simp only [go_sem, binC, hbx]
  obtain ⟨d0, x0, y0⟩ := s0 _ _ _ _ a0 fr0.vsim (CsSim.refl _) (show (Co.sl Co.p2).rd (vwb lo hi Hb) _ a0 from ⟨_, rfl, r0.mono hsb⟩)
  obtain ⟨H0, m0, f0⟩ := g0 Hb _ d0 lo hi lo0 (k) ⟨_, (by simp only [go_sem, binC]; rfl), x0⟩ (Nat.le_trans (by omega) fr0.1) hlo (by omega) (by rw [y0]; omega)
  rw [y0] at m0
  refine op_callN (by simp only [go_sem, binC]; exact m0) ?_
  simp only [go_sem, binC]
  have fr00 := fr0.trans f0
  refine seq_reg ?_
  simp only [go_sem, binC, hbx, fun o n => (fr00.gc (b := H.length) (by omega) (.inr hhi) o n).trans (hbx o n)]
  obtain ⟨d1, x1, y1⟩ := s1 _ _ _ _ a1 fr00.vsim (CsSim.refl _) (show (Co.sl (Co.step n)).rd (vwb lo hi Hb) _ a1 from ⟨_, rfl, r1.mono hsb⟩)
  obtain ⟨H1, m1, f1⟩ := g1 H0 _ d1 lo hi lo0 (k + (nLab a0 : Nat)) ⟨_, (by simp only [go_sem, binC]; rfl), x1⟩ (Nat.le_trans (by omega) fr00.1) hlo (by omega) (by rw [y1]; omega)
  rw [y1] at m1
  refine op_callN (by simp only [go_sem, binC]; exact m1) ?_
  simp only [go_sem, binC]
  have fr11 := fr00.trans f1
  refine seq_reg ?_
  simp only [go_sem, binC]
  refine wpc_ret ⟨Or.inr rfl, _, (by simp only [go_sem, binC]; rfl), ?_, fr.trans fr11⟩
  congr 1
  omega
def nInt (l : List Int) : Nat := l.length * 1
theorem mkInts_ok {F : Nat → Option IFn} {f : Nat} (hf : F f = some c_mark1) : MkOk F (Co.sl Co.int) false f nInt := MkOk.flat AllI.int rfl (by omega) (mark1_ok hf)
theorem mkLabs_ok {F : Nat → Option IFn} {f : Nat} (hf : F f = some c_mark2) : MkOk F (Co.sl Co.p2) false f nLab := MkOk.flat (AllI.pair AllI.int AllI.int) rfl (by omega) (mark2_ok hf)
end Go.Proofs.YtmakdcbpohlacaaI
end
section
/- Lists that are made by appending, from nil on: their cells, and what their elements are. -/
set_option linter.unusedVariables false
set_option linter.unusedSimpArgs false
namespace Go.Proofs.YtmakdcbpohlacaaI
open Go Go.RowKit
section
variable {α : Type} {V : Vw} {A : Co α} {es et lo : Nat} {H : Heap} {v : Value} {l : List α}
end
end Go.Proofs.YtmakdcbpohlacaaI
end
section
/- Lemmas for laws with marks. -/
set_option linter.unusedVariables false
set_option linter.unusedSimpArgs false
namespace Go.Proofs.YtmakdcbpohlacaaI
open Go Go.RowKit
theorem prog_un {n : Nat} {V : Vw} {v : Value} {ls : List (Int × Int)} {l : List (TStep n)} (h : Rd (Co.prog n) true V v (ls, l)) : ∃ lv sv, v = .agg #[lv, sv] ∧ SlR Co.p2 V lv ls ∧ SlR (Co.step n) V sv l := by
  obtain ⟨cs, hc, _, _, rfl, ⟨v0, rfl, r0⟩, ⟨v1, rfl, r1⟩⟩ := h
  simp only [go_sem, binC, Option.some.injEq] at hc
  exact ⟨v0, v1, hc.symm, r0, r1⟩
theorem ToOkS.x {F : Nat → Option IFn} {α : Type} {A : Co α} {agg : Bool} {m : Mode} {f : Nat} (h : ToOkS F A agg m f) {H : Heap} {v : Value} {a : α} (hr : Rd A agg (vw 0 H) v a) (hs : A.sm a) {e : Env} {lo : Nat} {args : List Opd} {K : Value → Heap → Prop} (ha : args.map (·.ev e) = [v])
    (k : ∀ v' H', AgX [] H H' → Rd A agg (vws H.length H') v' a → K v' H') : wpOp F lo (.call m (.f f) args) e H K :=
  h H v a hr hs e lo args K ha fun v' L hv => k v' _ (AgX.app [] _ _) hv
theorem vws_x {lo : Nat} {H H' : Heap} (hx : AgX [] H H') : Sub (vws lo H) (vw 0 H') := (vws_vw lo H).trans (vw_grow (Nat.zero_le _) fun b _ hb => hx.2 b hb (by simp))
theorem vws_b {lo : Nat} {H H' : Heap} (hx : AgX [] H H') : Sub (vws lo H) (vwb lo H.length H') := Ag.vwb (fun b _ hb => hx.2 b hb (by simp)) (Nat.le_refl _)
theorem FlatB.mono {lo hi hi' w n b o : Nat} {H H' : Heap} {v : Value} (h : FlatB lo hi H w v n b o) (hh : hi ≤ hi') (hH : n = 0 ∨ H'[b]? = H[b]?) : FlatB lo hi' H' w v n b o := by
  obtain ⟨h1, a, h2, h3⟩ := h
  refine ⟨h1, a, h2, ?_⟩
  rcases h3 with h3 | ⟨h3, h4, h5, cs, es, et, ap, h6, h7⟩
  · exact .inl h3
  · rcases hH with hH | hH
    · exact .inl hH
    · exact .inr ⟨h3, h4, by omega, cs, es, et, ap, hH.trans h6, h7⟩
theorem FlatB.one {lo hi w n b o : Nat} {H : Heap} {v : Value} (h : FlatB lo hi H w v n b o) : Go.Proofs.YtmakdcbpohlacaaI.one v = true := by
  obtain ⟨_, a, rfl, _⟩ := h
  rfl
/-- What marks leave alone. -/
theorem mark_out {H : Heap} {n b o m b' : Nat} {k : Int} (h : n = 0 ∨ b' ≠ b) : (if n = 0 then H else markB H b o k m)[b']? = H[b']? := by
  split
  · rfl
  · rename_i h0
    exact markB_ne _ _ _ _ (h.resolve_left h0)
end Go.Proofs.YtmakdcbpohlacaaI
end
section
/- Marks on trees of steps of one's own, and their tests. -/
set_option linter.unusedVariables false
set_option linter.unusedSimpArgs false
namespace Go.Proofs.YtmakdcbpohlacaaI
open Go Go.RowKit
/-- Elements marked one behind the other. -/
def mkLf {α : Type} (g : Int → α → α) (c : α → Nat) : Int → List α → List α
  | _, [] => []
  | k, s :: l => g k s :: mkLf g c (k + (c s : Nat)) l
theorem mkLf_len {α : Type} (g : Int → α → α) (c : α → Nat) : ∀ (l : List α) (k : Int), (mkLf g c k l).length = l.length
  | [], _ => rfl
  | s :: l, k => by rw [mkLf, List.length_cons, mkLf_len g c l, List.length_cons]
theorem mkLf_at {α : Type} (g : Int → α → α) (c : α → Nat) : ∀ (l : List α) (k : Int) (i : Nat) (h : i < (mkLf g c k l).length) (h' : i < l.length), (mkLf g c k l)[i] = g (k + (((l.map c).take i).sum : Nat)) l[i]
  | s :: l, k, 0, _, _ => by simp [mkLf]
  | s :: l, k, i + 1, h, h' => by
    simp only [mkLf, List.getElem_cons_succ, List.map_cons, List.take_succ_cons, List.sum_cons]
    rw [mkLf_at g c l _ i (by simpa [mkLf] using h) (by simpa using h')]
    congr 1
    omega
def mkT : (n : Nat) → Int → TStep n → TStep n
  | 0, _, s => s
  | n + 1, k, (_, _, _, _, th, el) => (k, k + 1, (k + 2, k + 3, k + 4), k + 5, mkLf (mkT n) (cT n) (k + 6) th, mkLf (mkT n) (cT n) (k + 6 + (cS n th : Nat)) el)
def mkL (n : Nat) (k : Int) (l : List (TStep n)) : List (TStep n) := mkLf (mkT n) (cT n) k l
theorem mkL_len {n : Nat} {k : Int} {l : List (TStep n)} : (mkL n k l).length = l.length := mkLf_len _ _ _ _
theorem mkL_at {n : Nat} {k : Int} {l : List (TStep n)} {i : Nat} (h : i < (mkL n k l).length) (h' : i < l.length) : (mkL n k l)[i] = mkT n (k + (((l.map (cT n)).take i).sum : Nat)) l[i] := mkLf_at _ _ _ _ _ h h'
def mkSh (k : Int) : Shal := (k, k + 1, (k + 2, k + 3, k + 4), k + 5)
theorem mkT_sh {n : Nat} (k : Int) (s : TStep (n + 1)) : shOf (mkT (n + 1) k s) = mkSh k ∧ thOf (mkT (n + 1) k s) = mkL n (k + 6) (thOf s) ∧ elOf (mkT (n + 1) k s) = mkL n (k + 6 + (cS n (thOf s) : Nat)) (elOf s) := by
  obtain ⟨a, b, c, e, th, el⟩ := s
  exact ⟨rfl, rfl, rfl⟩
theorem cT_sh {n : Nat} (s : TStep (n + 1)) : cT (n + 1) s = 6 + (cS n (thOf s) + cS n (elOf s)) := by
  obtain ⟨a, b, c, e, th, el⟩ := s
  rfl
theorem seq6 (k : Int) (tv ev : Value) (s : Shal) : setL (shV s tv ev) 0 (seqI k 6) = shV (mkSh k) tv ev := by
  have e2 : k + 1 + 1 = k + 2 := by omega
  have e3 : k + 2 + 1 = k + 3 := by omega
  have e4 : k + 3 + 1 = k + 4 := by omega
  have e5 : k + 4 + 1 = k + 5 := by omega
  simp only [seqI, shV, mkSh, setL_cons, setL_nil, e2, e3, e4, e5]
  rfl
theorem setL_in {xs cs ys : List Value} {o : Nat} (h8 : (cs.drop o).take 8 = ys) (hl : o + 8 ≤ cs.length) (hx : xs.length ≤ 8) : ((setL cs o xs).drop o).take 8 = setL ys 0 xs := by
  have hy : ys.length = 8 := by rw [← h8, List.length_take, List.length_drop]; omega
  refine List.ext_getElem? fun j => ?_
  by_cases hj : j < 8
  · rw [List.getElem?_take_of_lt hj, List.getElem?_drop, setL_get _ _ _ _ (by omega), setL_get _ _ _ _ (by omega)]
    by_cases h : j < xs.length
    · rw [if_pos (by omega), if_pos (by omega), show o + j - o = j by omega, show j - 0 = j by omega]
    · rw [if_neg (by omega), if_neg (by omega), ← h8, List.getElem?_take_of_lt hj, List.getElem?_drop]
  · rw [List.getElem?_take_eq_none (by omega), List.getElem?_eq_none (by rw [setL_length]; omega)]
theorem setL_ne6 {cc xs : List Value} {i j : Nat} (hx : xs.length ≤ 8) (h8 : i * 8 + 8 ≤ cc.length) (hji : j ≠ i) : ((setL cc (i * 8) xs).drop (j * 8)).take 8 = (cc.drop (j * 8)).take 8 := by
  refine List.ext_getElem? fun m => ?_
  rw [List.getElem?_take, List.getElem?_take]
  split
  · rw [List.getElem?_drop, List.getElem?_drop, setL_get _ _ _ _ (by omega), if_neg (by omega)]
  · rfl
theorem gcA8 {H : Heap} {b es et i : Nat} {ap so : Bool} {cs : List Value} {s : Shal} {tv ev : Value} (hb : H[b]? = some ⟨cs, es, et, ap, so⟩) (hl : i * 8 + 8 ≤ cs.length) (h8 : (cs.drop (i * 8)).take 8 = shV s tv ev) : getCells H b (i * 8) 8 = some (shV s tv ev) := by
  unfold getCells
  rw [hb]
  simp only
  rw [if_pos hl, h8]
def MkOwn (F : Nat → Option IFn) (f n : Nat) : Prop := ∀ (H : Heap) (v : Value) (l : List (TStep n)) (B : List Nat) (lo lo0 : Nat) (k : Int), OwnT lo H n v l B → lo0 ≤ lo → 0 ≤ k → k + (cS n l : Nat) ≤ 9223372036854775807 → ∃ H', NC F lo0 f [v, .int .i64 k] H (.int .i64 (k + (cS n l : Nat))) H' ∧ OwnT lo H' n v (mkL n k l) B ∧ AgX B H H'
set_option maxHeartbeats 8000000 in
theorem mkOwn_ok {F : Nat → Option IFn} {n : Nat} (hf : F 41 = some c_markStepS) (ih : ∀ m, n = m + 1 → MkOwn F 41 m) : MkOwn F 41 n := by
  intro H v l B lo lo0 k ho hlo hk hkn
  suffices h : ∃ w H', NC F lo0 41 [v, .int .i64 k] H w H' ∧ (w = .int .i64 (k + (cS n l : Nat)) ∧ OwnT lo H' n v (mkL n k l) B ∧ AgX B H H') by
    obtain ⟨w, H', h1, rfl, h2⟩ := h
    exact ⟨H', h1, h2⟩
  obtain ⟨hlm, av, hv⟩ := ho.len
  subst hv
  refine NC.mk hf rfl ?_
  refine seq_reg ?_
  simp only [go_sem, binC]
  refine seq_assoc (seq_reg ?_)
  simp only [go_sem, binC]
  refine seq_block (wpc_loop ?_)
  by_cases hl0 : l = []
  · subst hl0
    refine lp_step ?_
    refine seq_assoc (seq_reg ?_)
    simp only [go_sem, binC]
    refine seq_cond (t := false) (by (simp only [go_sem, binC]) <;> rfl) ?_
    simp only [go_sem, binC]
    refine seq_exit ?_
    simp only [go_sem, binC, thenX_e, out_e, thenX_n]
    refine seq_reg ?_
    simp only [go_sem, binC]
    exact wpc_ret ⟨Or.inr rfl, _, (by (simp only [go_sem, binC]) <;> rfl), by simp [cS], ho, AgX.refl _ _⟩
  cases n with
  | zero => exact absurd ho.2.1 hl0
  | succ n =>
  obtain ⟨b, cs, Bs, hb1, hv, hne, hb2, hBe, hbn, hbd⟩ := ho.resolve_left (fun h => hl0 h.2.1)
  simp only [sli, Value.slice.injEq, and_true] at hv
  subst hv
  have hbB : b ∈ B := by rw [hBe]; exact List.mem_cons_self
  have hBin : ∀ b' ∈ Bs.flatten, b' ∈ B := fun b' hb' => by rw [hBe]; exact List.mem_cons_of_mem _ hb'
  let lc : Nat → List (TStep (n + 1)) := fun i => l.mapIdx fun j s => if j < i then mkT (n + 1) (k + (((l.map (cT (n + 1))).take j).sum : Nat)) s else s
  have hlc : ∀ i, (lc i).length = l.length := fun i => by simp [lc]
  have hlc0 : lc 0 = l := List.ext_getElem (hlc 0) fun j h1 h2 => by simp [lc]
  have hlcE : lc l.length = mkL (n + 1) k l := List.ext_getElem (by rw [hlc, mkL_len]) fun j h1 h2 => by
    rw [hlc] at h1
    rw [mkL_at h2 h1]
    simp [lc, h1]
  have hlcg : ∀ (i j : Nat) (h : j < (lc i).length) (h' : j < l.length), (lc i)[j] = if j < i then mkT (n + 1) (k + (((l.map (cT (n + 1))).take j).sum : Nat)) l[j] else l[j] := fun i j h h' => by simp [lc]
  suffices h : ∀ (kk i : Nat) (e : Env) (Hc : Heap) (cc : List Value), i + kk = l.length → AgX B H Hc → Hc[b]? = some ⟨cc, 8, 68, true, true⟩ → BodyT (OwnT lo Hc n) (lc i) cc Bs → e 0 = sli b 0 l.length → e 5 = .int .i64 i → e 1 = .int .i64 (k + (((l.map (cT (n + 1))).take i).sum : Nat)) → W F lo0 _ e Hc _ from
    h l.length 0 _ H cs (by omega) (AgX.refl _ _) hb2 (hlc0.symm ▸ hbd) (by (simp only [go_sem, binC]) <;> rfl) (by (simp only [go_sem, binC]) <;> rfl) (by simp only [go_sem, binC]; simp)
  unfold cS at hkn
  intro kk
  induction kk with
  | zero =>
    intro i e Hc cc hi hxc hbc hbdc e0 e5 e1
    refine lp_step ?_
    refine seq_assoc (seq_reg ?_)
    simp only [go_sem, binC, e0, e5]
    refine seq_cond (t := false) (by simp only [go_sem, binC]; rw [decide_eq_false (by omega)]) ?_
    simp only [go_sem, binC]
    refine seq_exit ?_
    simp only [go_sem, binC, thenX_e, out_e, thenX_n]
    have hil : i = l.length := by omega
    rw [hil, hlcE] at hbdc
    refine seq_reg ?_
    simp only [go_sem, binC, e1]
    refine wpc_ret ⟨Or.inr rfl, _, (by (simp only [go_sem, binC]) <;> rfl), ?_, .inr ⟨b, cc, Bs, hb1, by rw [mkL_len]; rfl, fun h => hl0 (List.eq_nil_of_length_eq_zero (by have := congrArg List.length h; rw [mkL_len] at this; exact this)), hbc, hBe, hbn, hbdc⟩, hxc⟩
    unfold cS
    rw [hil, List.take_of_length_le (by rw [List.length_map]; omega)]
  | succ kk ihk =>
    intro i e Hc cc hi hxc hbc hbdc e0 e5 e1
    have hil : i < l.length := by omega
    obtain ⟨c0, c1, c2, c3, c4⟩ := id hbdc
    rw [hlc] at c0 c1 c2
    have hiB : i < Bs.length := by omega
    obtain ⟨tv, ev, B1, B2, q1, q2, q3, q4, q5⟩ := c4 i (by rw [hlc]; exact hil) hiB
    have hli : (lc i)[i]'(by rw [hlc]; exact hil) = l[i] := by rw [hlcg i i _ hil, if_neg (by omega)]
    rw [hli] at q1 q2 q3 q4
    have hsum := sum_take (fun x => x) (l.map (cT (n + 1))) i (by rw [List.length_map]; exact hil)
    rw [List.getElem_map, cT_sh] at hsum
    have hle := sum_take_le (l.map (cT (n + 1))) (i + 1)
    have hq0 : 0 ≤ k + (((l.map (cT (n + 1))).take i).sum : Nat) := by omega
    have hqn : (k + (((l.map (cT (n + 1))).take i).sum : Nat)) + (6 + (cS n (thOf l[i]) + cS n (elOf l[i])) : Nat) ≤ 9223372036854775807 := by omega
    have hq2 : k + (((l.map (cT (n + 1))).take (i + 1)).sum : Nat) = (k + (((l.map (cT (n + 1))).take i).sum : Nat)) + (6 + (cS n (thOf l[i]) + cS n (elOf l[i])) : Nat) := by omega
    have hlci : ∀ h, (lc (i + 1))[i]'h = mkT (n + 1) (k + (((l.map (cT (n + 1))).take i).sum : Nat)) l[i] := fun h => by rw [hlcg (i + 1) i h hil, if_pos (by omega)]
    generalize k + (((l.map (cT (n + 1))).take i).sum : Nat) = q at e1 hq0 hqn hq2 hlci
    have h8 : i * 8 + 8 ≤ cc.length := by omega
    have hbl := (List.getElem?_eq_some_iff.1 hbc).1
    have hb1n : b ∉ B1 := fun h => hbn (mem_flat hiB (by rw [q5]; exact List.mem_append_left _ h))
    have hb2n : b ∉ B2 := fun h => hbn (mem_flat hiB (by rw [q5]; exact List.mem_append_right _ h))
    have h12 : ∀ b' ∈ B2, b' ∉ B1 := fun b' h2 h1 => by
      have hnd := flat_in c3 hiB
      rw [q5, List.nodup_append] at hnd
      exact hnd.2.2 b' h1 b' h2 rfl
    have hlen6 : ∀ m, (setL cc (i * 8) (seqI q m)).length = cc.length := fun m => setL_length _ _ _
    refine lp_step ?_
    refine seq_assoc (seq_reg ?_)
    simp only [go_sem, binC, e0, e5]
    refine seq_cond (t := true) (by simp only [go_sem, binC]; rw [decide_eq_true (by omega)]) ?_
    simp only [go_sem, binC]
    refine seq_skip (seq_block ?_)
    rw [← markB_zero Hc b (i * 8) q]
    refine seq_reg ?_
    simp only [go_sem, binC, e0, e5, e1, markB_get hbc, hlen6]
    refine ⟨⟨by omega, by omega⟩, ⟨by omega, by omega⟩, ?_⟩
    rw [markB_step hbc (m := 0) (by omega) (by omega)]
    refine seq_reg ?_
    simp only [go_sem, binC, e1]
    rw [wrap_id (x := q + 1) (by omega) (by omega)]
    refine seq_reg ?_
    simp only [go_sem, binC, e0, e5, e1, markB_get hbc, hlen6]
    refine ⟨⟨by omega, by omega⟩, ⟨by omega, by omega⟩, ?_⟩
    rw [markB_step hbc (m := 1) (by omega) (by omega)]
    refine seq_reg ?_
    simp only [go_sem, binC, e1]
    rw [wrap_id (x := (q + 1) + 1) (by omega) (by omega)]
    refine seq_reg ?_
    simp only [go_sem, binC, e0, e5, e1, markB_get hbc, hlen6]
    refine ⟨⟨by omega, by omega⟩, ⟨by omega, by omega⟩, ?_⟩
    rw [markB_step hbc (m := 2) (by omega) (by omega)]
    refine seq_reg ?_
    simp only [go_sem, binC, e1]
    rw [wrap_id (x := ((q + 1) + 1) + 1) (by omega) (by omega)]
    refine seq_reg ?_
    simp only [go_sem, binC, e0, e5, e1, markB_get hbc, hlen6]
    refine ⟨⟨by omega, by omega⟩, ⟨by omega, by omega⟩, ?_⟩
    rw [markB_step hbc (m := 3) (by omega) (by omega)]
    refine seq_reg ?_
    simp only [go_sem, binC, e1]
    rw [wrap_id (x := (((q + 1) + 1) + 1) + 1) (by omega) (by omega)]
    refine seq_reg ?_
    simp only [go_sem, binC, e0, e5, e1, markB_get hbc, hlen6]
    refine ⟨⟨by omega, by omega⟩, ⟨by omega, by omega⟩, ?_⟩
    rw [markB_step hbc (m := 4) (by omega) (by omega)]
    refine seq_reg ?_
    simp only [go_sem, binC, e1]
    rw [wrap_id (x := ((((q + 1) + 1) + 1) + 1) + 1) (by omega) (by omega)]
    refine seq_reg ?_
    simp only [go_sem, binC, e0, e5, e1, markB_get hbc, hlen6]
    refine ⟨⟨by omega, by omega⟩, ⟨by omega, by omega⟩, ?_⟩
    rw [markB_step hbc (m := 5) (by omega) (by omega)]
    refine seq_reg ?_
    simp only [go_sem, binC, e1]
    rw [wrap_id (x := (((((q + 1) + 1) + 1) + 1) + 1) + 1) (by omega) (by omega)]
    have hxs : AgX [b] Hc (markB Hc b (i * 8) q 6) := ⟨Nat.le_of_eq (markB_len _ _ _ _ _).symm, fun b' _ hn => markB_ne _ _ _ _ (by simpa using hn)⟩
    have hb1' := markB_get hbc (i * 8) q 6
    generalize hH1 : markB Hc b (i * 8) q 6 = H1 at hb1' hxs
    have hsl : (setL cc (i * 8) (seqI q 6)).length = cc.length := setL_length ..
    have hat : ((setL cc (i * 8) (seqI q 6)).drop (i * 8)).take 8 = shV (mkSh q) tv ev := by rw [setL_in q1 h8 (by rw [seqI_length]; omega), seq6]
    have hg1 := gcA8 hb1' (by rw [hsl]; exact h8) hat
    have hg6 := gc_part (off := 6) (k := 1) hg1 (by omega)
    rw [show ((shV (mkSh q) tv ev).drop 6).take 1 = [tv] from rfl] at hg6
    have otv := q3.one
    have oev := q4.one
    have o31 : OwnT lo H1 n tv (thOf l[i]) B1 := q3.keep (Nat.le_refl _) fun b' hb' => hxs.2 b' (q3.ge b' hb').2.1 (by intro h; simp only [List.mem_singleton] at h; subst h; exact hb1n hb')
    obtain ⟨H2, k2, o2, hx2⟩ := ih n rfl H1 tv (thOf l[i]) B1 lo lo0 (q + 6) o31 hlo (by omega) (by omega)
    refine seq_reg ?_
    simp only [go_sem, binC, e0, e5]
    refine ⟨⟨by omega, by omega⟩, ?_⟩
    simp only [go_sem, binC, Int.toNat_natCast, Nat.zero_add, hg6, otv]
    refine op_callN (by simp only [go_sem, binC]; rw [show (((((q + 1) + 1) + 1) + 1) + 1) + 1 = q + 6 by omega]; exact k2) ?_
    simp only [go_sem, binC]
    have hb2' := hx2.get hb1' hb1n
    have hg2 := gcA8 hb2' (by rw [hsl]; exact h8) hat
    have hg7 := gc_part (off := 7) (k := 1) hg2 (by omega)
    rw [show ((shV (mkSh q) tv ev).drop 7).take 1 = [ev] from rfl] at hg7
    have o42 : OwnT lo H2 n ev (elOf l[i]) B2 := q4.keep (Nat.le_refl _) fun b' hb' => by
      have h1 := (q4.ge b' hb').2.1
      have h2 := hxs.1
      rw [hx2.2 b' (by omega) (h12 b' hb'), hxs.2 b' h1 (by intro h; simp only [List.mem_singleton] at h; subst h; exact hb2n hb')]
    obtain ⟨H3, k3, o3, hx3⟩ := ih n rfl H2 ev (elOf l[i]) B2 lo lo0 (q + 6 + (cS n (thOf l[i]) : Nat)) o42 hlo (by omega) (by omega)
    have hw1 : IntKind.i64.wrap ((i : Int) + 1) = ((i + 1 : Nat) : Int) := by rw [wrap_id (by omega) (by omega)]; omega
    refine wpc_reg ?_
    simp only [go_sem, binC, e0, e5]
    refine ⟨⟨by omega, by omega⟩, ?_⟩
    simp only [go_sem, binC, Int.toNat_natCast, Nat.zero_add, hg7, oev]
    refine op_callN (by simp only [go_sem, binC]; exact k3) ?_
    simp only [go_sem, binC, out_n, thenX_n]
    refine wpc_reg ?_
    simp only [go_sem, binC, e5, hw1]
    simp only [go_sem, binC, thenX_n]
    have hb3' := hx3.get hb2' hb2n
    have hl1 := hxs.1
    have hl2 := hx2.1
    have hBi : ∀ b' ∈ Bs[i], b' ∈ B := fun b' h => hBin b' (mem_flat hiB h)
    have hxB : AgX B H H3 := ((hxc.trans hxs (fun _ h _ => h) (fun b' h1 h2 => by simp only [List.mem_singleton] at h1; subst h1; exact hbB)).trans hx2 (fun _ h _ => h) (fun b' h1 h2 => hBi b' (by rw [q5]; exact List.mem_append_left _ h1))).trans hx3 (fun _ h _ => h) (fun b' h1 h2 => hBi b' (by rw [q5]; exact List.mem_append_right _ h1))
    have o23 : OwnT lo H3 n tv (mkL n (q + 6) (thOf l[i])) B1 := o2.keep (Nat.le_refl _) fun b' hb' => hx3.2 b' (o2.ge b' hb').2.1 (fun h => h12 b' h hb')
    refine ihk (i + 1) _ H3 _ (by omega) hxB hb3' ?_ (by simp only [go_sem, binC, e0]) (by simp only [go_sem, binC]) (by simp only [go_sem, binC]; rw [hq2]; congr 1; omega)
    refine ⟨by rw [hlc]; exact c0, by rw [hlc, hsl]; exact c1, by rw [hlc]; exact c2, c3, fun j hj hj' => ?_⟩
    have hjl : j < l.length := by rw [hlc] at hj; exact hj
    by_cases hji : j = i
    · subst hji
      rw [hlci hj, hat]
      obtain ⟨m1, m2, m3⟩ := mkT_sh q l[j]
      refine ⟨tv, ev, B1, B2, by rw [m1], ?_, by rw [m2]; exact o23, by rw [m3]; exact o3, q5⟩
      rw [m1]
      unfold shRg mkSh RgI
      simp only
      omega
    · have hc4 := c4 j (by rw [hlc]; exact hjl) hj'
      have hif : (lc (i + 1))[j]'hj = (lc i)[j]'(by rw [hlc]; exact hjl) := by
        rw [hlcg (i + 1) j hj hjl, hlcg i j _ hjl]
        by_cases hlt : j < i
        · rw [if_pos hlt, if_pos (by omega)]
        · rw [if_neg hlt, if_neg (by omega)]
      rw [hif, setL_ne6 (by rw [seqI_length]; omega) h8 hji]
      refine hc4.imp fun v l' B' hs h => h.keep (Nat.le_refl _) fun b' hb' => ?_
      have h1 := (h.ge b' hb').2.1
      have hnb : b' ≠ b := fun he => hbn (he ▸ mem_flat hj' (hs b' hb'))
      have hnB : b' ∉ Bs[i] := flat_apart c3 hj' hiB hji (hs b' hb')
      rw [q5, List.mem_append, not_or] at hnB
      rw [hx3.2 b' (by omega) hnB.2, hx2.2 b' (by omega) hnB.1, hxs.2 b' h1 (by simpa using hnb)]
theorem mkOwn_all {F : Nat → Option IFn} (hf : F 41 = some c_markStepS) : ∀ n, MkOwn F 41 n
  | 0 => mkOwn_ok hf fun m h => by cases h
  | n + 1 => mkOwn_ok hf fun m h => by cases h; exact mkOwn_all hf n
end Go.Proofs.YtmakdcbpohlacaaI
end
