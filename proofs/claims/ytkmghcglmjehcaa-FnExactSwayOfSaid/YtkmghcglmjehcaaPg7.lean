/- Texts of this proof, merged: E5, H0, W0, W2, J0, W1, V1, V2. -/
import Derived.Test.YtkmghcglmjehcaaPg6
section
/- What comes of a program. -/
set_option linter.unusedVariables false
set_option linter.unusedSimpArgs false
namespace Go.Proofs.YtkmghcglmjehcaaI
open Go Go.RowKit
def c_iRunOf : IFn := ⟨2, 20, [.cell true 3 4, .t 5],
 .seq (.reg none [
    ⟨(some 2), none, .box (.t 0)⟩,
    ⟨(some 4), none, .new [(.slice none 0 0), (.slice none 0 0), (.slice none 0 0)]⟩,
    ⟨(some 5), none, .mov (.c (.bool false))⟩])
 (.seq (.seq (.reg none [
     ⟨(some 7), none, .load true 2 (.t 2)⟩,
     ⟨(some 8), none, .mov (.t 1)⟩,
     ⟨(some 9), none, .call .q (.f 69) [(.t 7), (.t 8)]⟩,
     ⟨(some 10), none, .un .not (.t 9)⟩])
  (.cond (.t 10) (.seq (.reg none [
      ⟨(some 11), none, .build [(.slice none 0 0), (.slice none 0 0), (.slice none 0 0)] []⟩,
      ⟨none, none, .store 3 (.t 4) (.t 11)⟩,
      ⟨(some 5), none, .mov (.c (.bool false))⟩])
   (.ret)) (.skip)))
 (.seq (.reg none [
    ⟨(some 12), none, .mov (.t 1)⟩,
    ⟨(some 13), none, .call .k (.f 70) [(.t 12)]⟩,
    ⟨(some 14), none, .build [(.slice none 0 0), (.slice none 0 0), (.slice none 0 0)] [(0, 1, (.t 13))]⟩,
    ⟨(some 6), none, .new [(.slice none 0 0), (.slice none 0 0), (.slice none 0 0)]⟩,
    ⟨none, none, .store 3 (.t 6) (.t 14)⟩])
 (.seq (.reg none [
    ⟨(some 15), none, .fad 1 (.t 2)⟩,
    ⟨(some 16), none, .load false 1 (.t 15)⟩,
    ⟨(some 17), none, .call .n (.f 71) [(.t 6), (.t 16)]⟩])
 (.seq (.reg none [
    ⟨(some 18), none, .load true 3 (.t 6)⟩,
    ⟨(some 19), none, .call .k (.f 72) [(.t 18)]⟩,
    ⟨none, none, .store 3 (.t 4) (.t 19)⟩,
    ⟨(some 5), none, .mov (.c (.bool true))⟩])
 (.ret)))))⟩
theorem sl_ints {H : Heap} {v : Value} {l : List Int} (h : SlR Co.int (vw 0 H) v l) (hl : l ≠ []) : ∃ b o, v = .slice (some ⟨b, o, none⟩) l.length l.length ∧ getCells H b o (l.length * 1) = some (ints l) := by
  obtain ⟨b, o, ys, h1, h2, h3, h4⟩ := sl_cells (w := 1) rfl h hl
  refine ⟨b, o, h1, ?_⟩
  have : ys = ints l := by
    refine List.ext_getElem (by simp [ints]; omega) fun i hi hj => ?_
    have hil : i < l.length := by omega
    obtain ⟨h5, _⟩ := h4 i hil
    have h6 : (ys.drop (i * 1)).head? = some (.int .i64 l[i]) := by
      cases hd : ys.drop (i * 1) with
      | nil => rw [hd] at h5; cases h5
      | cons c r => rw [hd] at h5; simpa using h5
    rw [List.head?_drop, Nat.mul_one, List.getElem?_eq_getElem hi] at h6
    simpa [ints] using h6
  rw [h2, this]
theorem NumV.slV {lo : Nat} {H : Heap} {v : Value} {l : List Int} (h : NumV lo H v l) (hr : ∀ x ∈ l, RgI x) (hl : l.length ≤ 1000) : SlR Co.int (vwl lo [] H) v l := by
  rcases h with ⟨a, rfl, rfl⟩ | ⟨b, h1, rfl, _, h⟩
  · exact ⟨by simp, a, rfl, .inl rfl⟩
  · exact ints_sl (o := 0) h h1 (by simp) hr (Nat.zero_le _) (by omega)
theorem NumV.slI {lo : Nat} {H : Heap} {v : Value} {l : List Int} (h : NumV lo H v l) (hr : ∀ x ∈ l, RgI x) (hl : l.length ≤ 1000) : SlR Co.int (vw 0 H) v l := by
  rcases h with ⟨a, rfl, rfl⟩ | ⟨b, _, rfl, _, h⟩
  · exact ⟨by simp, a, rfl, .inl rfl⟩
  · exact ints_sl0 h hr (by omega)
theorem NumV.shape {lo : Nat} {H : Heap} {v : Value} {l : List Int} (h : NumV lo H v l) : ∃ a, v = .slice a l.length l.length := by
  rcases h with ⟨a, rfl, rfl⟩ | ⟨b, _, rfl, _⟩
  · exact ⟨a, rfl⟩
  · exact ⟨_, rfl⟩
theorem GLi.shape {α : Type} {fl : α → List Value} {es et lo : Nat} {H : Heap} {v : Value} {l : List α} (h : GLi fl es et lo H v l) : ∃ a, v = .slice a l.length l.length := by
  rcases h with ⟨rfl, rfl⟩ | ⟨b, so, _, rfl, _⟩
  · exact ⟨none, rfl⟩
  · exact ⟨_, rfl⟩
theorem NumV.keep {lo : Nat} {H H' : Heap} {v : Value} {l : List Int} {xs : List Nat} (h : NumV lo H v l) (hx : AgX xs H H') (hn : ∀ b, lo ≤ b → v = sli b 0 l.length → b ∉ xs) : NumV lo H' v l := by
  rcases h with h | ⟨b, h1, h2, h3, h4⟩
  · exact .inl h
  · exact .inr ⟨b, h1, h2, h3, hx.get h4 (hn b h1 h2)⟩
theorem GLi.lo_le {α : Type} {fl : α → List Value} {es et lo b : Nat} {H : Heap} {l : List α} (h : GLi fl es et lo H (sli b 0 l.length) l) : lo ≤ b := by
  rcases h with ⟨h, _⟩ | ⟨b', so, h1, h2, _⟩
  · simp [sli, nilS] at h
  · simp [sli] at h2; omega
theorem cloneInts_ok {F : Nat → Option IFn} {f : Nat} (hf : F f = some c_cloneInts) {H : Heap} {v : Value} {l : List Int} (hv : SlR Co.int (vw 0 H) v l) (hl : l.length ≤ 1048576) : ∃ w L, KC F f [v] H w (H ++ L) ∧ NumV H.length (H ++ L) w l := by
  suffices h : ∃ w H', KC F f [v] H w H' ∧ (∃ L, H' = H ++ L ∧ NumV H.length H' w l) by
    obtain ⟨w, _, h1, L, rfl, h2⟩ := h
    exact ⟨w, L, h1, h2⟩
  refine KC.mk hf rfl ?_
  refine seq_reg ?_
  simp only [go_sem, binC]
  refine seq_reg ?_
  simp only [go_sem, binC]
  by_cases h0 : l = []
  · obtain ⟨_, a, rfl, _⟩ := hv
    subst h0
    refine op_app_zero _ _ _ _ _ (by (simp only [go_sem, binC]) <;> rfl) (by (simp only [go_sem, binC]) <;> rfl) ?_
    simp only [go_sem, binC]
    exact wpc_ret ⟨Or.inr rfl, _, (by (simp only [go_sem, binC]) <;> rfl), [], by simp, .inl ⟨_, rfl, rfl⟩⟩
  · obtain ⟨b, o, rfl, hg⟩ := sl_ints hv h0
    have hne : l.length ≠ 0 := fun h => h0 (List.eq_nil_of_length_eq_zero h)
    refine op_app_nil _ _ _ _ _ (by (simp only [go_sem, binC]) <;> rfl) (by (simp only [go_sem, binC]) <;> rfl) hne hg (by omega) (by omega) ?_
    simp only [go_sem, binC]
    exact wpc_ret ⟨Or.inr rfl, _, (by (simp only [go_sem, binC]) <;> rfl), _, rfl, .inr ⟨_, Nat.le_refl _, rfl, h0, get_new0 _ _⟩⟩
theorem op_app_cp {F : Nat → Option IFn} {α : Type} {fl : α → List Value} {es et bytes lo lo0 : Nat} {x y : Opd} {e : Env} {H : Heap} {w : Value} {l : List α} {K : Value → Heap → Prop} (hw : ∀ a, (fl a).length = es) (hv : GLi fl es et lo H w l) (hx : x.ev e = nilS) (hy : y.ev e = w) (hl : l.length ≤ 1000) (hb : bytes ≤ 1048576)
    (k : ∀ w' L, GLi fl es et H.length (H ++ L) w' l → K w' (H ++ L)) : wpOp F lo0 (.app es et bytes false x y) e H K := by
  rcases hv with ⟨rfl, rfl⟩ | ⟨b, so, h1, rfl, h3, h4⟩
  · refine op_app_zero _ _ _ _ _ hx hy ?_
    have := k nilS [] (.inl ⟨rfl, rfl⟩)
    rwa [List.append_nil] at this
  · have hne : l.length ≠ 0 := fun h => h3 (List.eq_nil_of_length_eq_zero h)
    have hbytes : l.length * bytes ≤ 1000 * 1048576 := Nat.mul_le_mul hl hb
    have hfl := flat_len hw l
    have hg : getCells H b 0 (l.length * es) = some (l.flatMap fl) := by
      unfold getCells
      rw [h4]
      simp only [Nat.zero_add]
      rw [if_pos (by omega), List.drop_zero, List.take_of_length_le (by omega)]
    refine op_app_nil _ _ _ _ _ hx hy hne hg (by omega) (by omega) ?_
    exact k _ _ (.inr ⟨_, true, Nat.le_refl _, rfl, h3, get_new0 _ _⟩)
theorem GLi.slPV {es et lo : Nat} {H : Heap} {v : Value} {l : List (Int × Int)} (h : GLi fp 2 et lo H v l) (hr : ∀ p ∈ l, RgI p.1 ∧ RgI p.2) (hl : l.length ≤ 1000) : SlR Co.p2 (vwl lo [] H) v l := by
  rcases h with ⟨rfl, rfl⟩ | ⟨b, so, hlo, rfl, _, h⟩
  · exact ⟨by simp, none, rfl, .inl rfl⟩
  · have hfl := flat_len (fl := fp) (w := 2) (fun _ => rfl) l
    refine ⟨by omega, _, rfl, .inr ⟨b, 0, rfl, fun i hi => ⟨fp l[i], ?_, ⟨[.int .i64 l[i].1], [.int .i64 l[i].2], rfl, ⟨rfl, (hr _ (List.getElem_mem hi)).1⟩, ⟨rfl, (hr _ (List.getElem_mem hi)).2⟩⟩⟩⟩⟩
    unfold rng vwl
    rw [if_pos ⟨hlo, by simp⟩, h]
    simp only [Option.map_some, Nat.zero_add, show Co.p2.w = 2 from rfl]
    rw [if_pos (by omega)]
    congr 1
    have : l.flatMap fp = (l.take i).flatMap fp ++ (fp l[i] ++ (l.drop (i + 1)).flatMap fp) := by
      conv => lhs; rw [← List.take_append_drop i l, List.drop_eq_getElem_cons hi]
      rw [List.flatMap_append, List.flatMap_cons]
    rw [this]
    have hlt : ((l.take i).flatMap fp).length = i * 2 := by rw [flat_len (fl := fp) (w := 2) (fun _ => rfl), List.length_take]; omega
    rw [List.drop_append, List.drop_of_length_le (by omega), hlt, Nat.sub_self, List.nil_append, List.drop_zero]
    rfl
theorem GLi.slP {es et lo : Nat} {H : Heap} {v : Value} {l : List (Int × Int)} (h : GLi fp 2 et lo H v l) (hr : ∀ p ∈ l, RgI p.1 ∧ RgI p.2) (hl : l.length ≤ 1000) : SlR Co.p2 (vw 0 H) v l := (h.slPV (es := 2) hr hl).mono (vwl0 _ _ _)
theorem clone_ok {F : Nat → Option IFn} {f : Nat} (hf : F f = some c_clone) (hci : F 70 = some c_cloneInts) {H : Heap} {nv wv sv : Value} {r : RunS} {lo lo2 lo3 : Nat} (hn : NumV lo H nv r.1) (hw : GLi fp 2 113 lo2 H wv r.2.1) (hs : GLi fp 2 99 lo3 H sv r.2.2) (rg : ∀ x ∈ r.1, 0 ≤ x ∧ x ≤ 9)
    (pr : ∀ p, p ∈ r.2.1 ∨ p ∈ r.2.2 → RgI p.1 ∧ RgI p.2) (l1 : r.1.length ≤ 1000) (l2 : r.2.1.length + r.2.2.length ≤ 1000) : ∃ nv' wv' sv' L, KC F f [.agg #[nv, wv, sv]] H (.agg #[nv', wv', sv']) (H ++ L) ∧ SlR Co.int (vwl H.length [] (H ++ L)) nv' r.1 ∧ SlR Co.p2 (vwl H.length [] (H ++ L)) wv' r.2.1 ∧ SlR Co.p2 (vwl H.length [] (H ++ L)) sv' r.2.2 := by
  suffices h : ∃ v H', KC F f [.agg #[nv, wv, sv]] H v H' ∧ (∃ nv' wv' sv' L, v = .agg #[nv', wv', sv'] ∧ H' = H ++ L ∧ SlR Co.int (vwl H.length [] H') nv' r.1 ∧ SlR Co.p2 (vwl H.length [] H') wv' r.2.1 ∧ SlR Co.p2 (vwl H.length [] H') sv' r.2.2) by
    obtain ⟨_, _, h1, nv', wv', sv', L, rfl, rfl, h2⟩ := h
    exact ⟨nv', wv', sv', L, h1, h2⟩
  refine KC.mk hf rfl ?_
  have on := hn.one
  have ow := hw.one
  have os := hs.one
  have rgI : ∀ x ∈ r.1, RgI x := fun x hx => by have := rg x hx; unfold RgI; omega
  refine seq_reg ?_
  simp only [go_sem, binC, on, ow, os]
  refine wpc_gen fun H1 hH1 => ?_
  have hx1 : AgX [] H H1 := hH1 ▸ AgX.app [] _ _
  have hb1 : H1[H.length]? = some ⟨[nv, wv, sv], 0, 0, false, true⟩ := hH1 ▸ get_new0 _ _
  have hb2 : H1[H.length + 1]? = some ⟨[nilS, nilS, nilS], 0, 0, false, true⟩ := hH1 ▸ get_new _ _ 1
  have hN1 : NumV lo H1 nv r.1 := by
    rcases hn with h2 | ⟨nb, q1, q2, q3, q4⟩
    · exact .inl h2
    · exact .inr ⟨nb, q1, q2, q3, hx1.get q4 (by simp)⟩
  have hW1 := hw.keep hx1 (fun _ _ _ _ _ => by simp)
  have hS1 := hs.keep hx1 (fun _ _ _ _ _ => by simp)
  obtain ⟨L0, hL0⟩ : ∃ L0, H1 = H ++ L0 := ⟨_, hH1⟩
  clear hH1
  refine seq_regD ?_
  simp only [go_sem, binC, gc_of hb1, inBlk_some]
  obtain ⟨nv', L1, k1, q1⟩ := cloneInts_ok hci (hN1.slI rgI l1) (by omega)
  refine op_callK (by simp only [go_sem, binC]; exact k1) ?_
  simp only [go_sem, binC]
  have hx2 : AgX [] H1 (H1 ++ L1) := AgX.app [] _ _
  have hb12 := hx2.get hb1 (by simp)
  simp only [go_sem, binC, gc_of hb12, inBlk_some]
  refine op_app_cp (fl := fp) (fun _ => rfl) (hW1.keep hx2 (fun _ _ _ _ _ => by simp)) (by (simp only [go_sem, binC]) <;> rfl) (by simp only [go_sem, binC]) (by omega) (by omega) fun wv' L2 q2 => ?_
  simp only [go_sem, binC]
  simp only [List.append_assoc] at q2 ⊢
  have hx3 : AgX [] H1 (H1 ++ (L1 ++ L2)) := AgX.app [] _ _
  have hb13 := hx3.get hb1 (by simp)
  simp only [go_sem, binC, gc_of hb13, inBlk_some]
  refine op_app_cp (fl := fp) (fun _ => rfl) (hS1.keep hx3 (fun _ _ _ _ _ => by simp)) (by (simp only [go_sem, binC]) <;> rfl) (by simp only [go_sem, binC]) (by omega) (by omega) fun sv' L3 q3 => ?_
  simp only [List.append_assoc] at q3 ⊢
  have hx4 : AgX [] H1 (H1 ++ (L1 ++ (L2 ++ L3))) := AgX.app [] _ _
  have hb24 := hx4.get hb2 (by simp)
  obtain ⟨na, rfl⟩ := q1.shape
  obtain ⟨wa, rfl⟩ := q2.shape
  obtain ⟨sa, rfl⟩ := q3.shape
  simp only [go_sem, binC, hb24]
  have hb2l := (List.getElem?_eq_some_iff.1 hb2).1
  have hb24l := (List.getElem?_eq_some_iff.1 hb24).1
  have hxs := fun k => AgX.set (H1 ++ (L1 ++ (L2 ++ L3))) (H.length + 1) k
  have e1 : AgX [] (H1 ++ L1) (H1 ++ (L1 ++ (L2 ++ L3))) := by rw [← List.append_assoc]; exact AgX.app [] _ _
  have e2 : AgX [] (H1 ++ (L1 ++ L2)) (H1 ++ (L1 ++ (L2 ++ L3))) := by have := AgX.app [] (H1 ++ (L1 ++ L2)) L3; simpa only [List.append_assoc] using this
  have hLf : ∀ k, ∃ Lf, (H1 ++ (L1 ++ (L2 ++ L3))).set (H.length + 1) k = H ++ Lf := fun k => by
    subst hL0
    rw [List.append_assoc, List.set_append_right _ _ (by omega)]
    exact ⟨_, rfl⟩
  obtain ⟨Lf, hLf'⟩ := hLf ⟨[.slice na r.1.length r.1.length, .slice wa r.2.1.length r.2.1.length, .slice sa r.2.2.length r.2.2.length], 0, 0, false, true⟩
  refine wpc_ret ⟨Or.inr rfl, _, (by (simp only [go_sem, binC, gc_set hb24l]) <;> rfl), _, _, _, Lf, rfl, hLf', ?_, ?_, ?_⟩
  · exact (((q1.keep e1 (fun _ _ _ => by simp)).keep (hxs _) (fun b h _ => by simp; omega)).slV rgI l1).mono (vwl_sub (AgX.refl [] _) hx1.1 (fun b' _ _ h => ⟨by simp, h⟩))
  · exact (((q2.keep e2 (fun _ _ _ _ _ => by simp)).keep (hxs _) (fun b so h _ _ => by have q := (h ▸ q2).lo_le; simp only [List.length_append] at q; simp; omega)).slPV (es := 2) (fun p hp => pr p (.inl hp)) (by omega)).mono (vwl_sub (AgX.refl [] _) (by simp only [List.length_append]; have := hx1.1; omega) (fun b' _ _ h => ⟨by simp, h⟩))
  · exact ((q3.keep (hxs _) (fun b so h _ _ => by have q := (h ▸ q3).lo_le; simp only [List.length_append] at q; simp; omega)).slPV (es := 2) (fun p hp => pr p (.inr hp)) (by omega)).mono (vwl_sub (AgX.refl [] _) (by simp only [List.length_append]; have := hx1.1; omega) (fun b' _ _ h => ⟨by simp, h⟩))
def runOf (n : Nat) (p : TProg n) (nums : List Int) : RunS := if numsB n p nums = true then runL n p.2 (nums, [], []) else ([], [], [])
def RunOk (F : Nat → Option IFn) (f : Nat) : Prop := ∀ (H : Heap) (n : Nat) (lv sv w : Value) (ls : List (Int × Int)) (l : List (TStep n)) (nums : List Int), SlR Co.p2 (vw 0 H) lv ls → SlR (Co.step n) (vw 0 H) sv l → (Co.prog n).sm (ls, l) → SlR Co.int (vw 0 H) w nums → ∃ nv wv tv H', KC F f [.agg #[lv, sv], w] H (.tuple #[.agg #[nv, wv, tv], .bool (numsB n (ls, l) nums)]) H' ∧ AgX [] H H' ∧
  SlR Co.int (vw 0 H') nv (runOf n (ls, l) nums).1 ∧ SlR Co.p2 (vw 0 H') wv (runOf n (ls, l) nums).2.1 ∧ SlR Co.p2 (vw 0 H') tv (runOf n (ls, l) nums).2.2
theorem iRunOf_ok {F : Nat → Option IFn} {f : Nat} (hf : F f = some c_iRunOf) (gn : NumsOk F 69) (hci : F 70 = some c_cloneInts) (gdo : ∀ n, DoOk F 71 n) (hcl : F 72 = some c_clone) : RunOk F f := by
  intro H n lv sv w ls l nums r1 r2 hsm r3
  suffices h : ∃ v H', KC F f [.agg #[lv, sv], w] H v H' ∧ (∃ nv wv tv, v = .tuple #[.agg #[nv, wv, tv], .bool (numsB n (ls, l) nums)] ∧ AgX [] H H' ∧
      SlR Co.int (vw 0 H') nv (runOf n (ls, l) nums).1 ∧ SlR Co.p2 (vw 0 H') wv (runOf n (ls, l) nums).2.1 ∧ SlR Co.p2 (vw 0 H') tv (runOf n (ls, l) nums).2.2) by
    obtain ⟨_, H', h1, nv, wv, tv, rfl, h2⟩ := h
    exact ⟨nv, wv, tv, H', h1, h2⟩
  have olv : one lv = true := by obtain ⟨_, a, rfl, _⟩ := r1; rfl
  have osv : one sv = true := by obtain ⟨_, a, rfl, _⟩ := r2; rfl
  refine KC.mk hf rfl ?_
  refine seq_reg ?_
  simp only [go_sem, binC, olv, osv]
  refine wpc_gen fun H1 hH1 => ?_
  have hx1 : AgX [] H H1 := hH1 ▸ AgX.app [] _ _
  have hb2 : H1[H.length]? = some ⟨[lv, sv], 0, 0, false, true⟩ := hH1 ▸ get_new0 _ _
  have hb4 : H1[H.length + 1]? = some ⟨[nilS, nilS, nilS], 0, 0, false, true⟩ := hH1 ▸ get_new _ _ 1
  clear hH1
  have r1' := r1.mono (agx_sub hx1)
  have r2' := r2.mono (agx_sub hx1)
  have r3' := r3.mono (agx_sub hx1)
  have hb4l := (List.getElem?_eq_some_iff.1 hb4).1
  refine seq_assoc (seq_reg ?_)
  simp only [go_sem, binC, gc_of hb2, inBlk_some, olv, osv]
  refine op_callB (by simp only [go_sem, binC]; exact gn H1 n _ _ _ ls l nums r1' r2' hsm r3') (fun hB => ?_) (fun hB => ?_)
  rotate_left
  · simp only [go_sem, binC]
    refine seq_cond (t := true) rfl ?_
    simp only [go_sem, binC]
    refine seq_assoc (seq_reg ?_)
    simp only [go_sem, binC, hb4]
    have hr : runOf n (ls, l) nums = ([], [], []) := if_neg (by rw [hB]; simp)
    refine seq_ret ⟨Or.inr rfl, .tuple #[.agg #[nilS, nilS, nilS], .bool false], ?_, nilS, nilS, nilS, by rw [hB], hx1.setN (by omega) _, ?_, ?_, ?_⟩
    · simp [resV, resL, res1, putE_get, notT, ptr, gc_set hb4l, inBlk_some, valOf]
    all_goals (rw [hr]; exact ⟨by simp, none, rfl, .inl rfl⟩)
  have hB2 := hB
  simp only [numsB, Bool.and_eq_true, decide_eq_true_eq, List.all_eq_true] at hB2
  obtain ⟨⟨hP, hln⟩, hall⟩ := hB2
  have hrun : runOf n (ls, l) nums = runL n l (nums, [], []) := if_pos hB
  have hcnt := progB_cnt hP hsm
  have hst : l.all (stepB ls.length n 3) = true := by
    simp only [progB, Bool.and_eq_true] at hP; exact hP.1.2
  have hls : ls.length ≤ 4 := by
    simp only [progB, Bool.and_eq_true, decide_eq_true_eq] at hP; have := hP.1.1.1; omega
  simp only at hln hcnt
  have rg : ∀ x ∈ nums, 0 ≤ x ∧ x ≤ 9 := fun x hx => inB_iff'.1 (hall x hx)
  simp only [go_sem, binC]
  refine seq_cond (t := false) rfl ?_
  simp only [go_sem, binC]
  refine seq_skip (seq_reg ?_)
  simp only [go_sem, binC]
  obtain ⟨nv, L1, k1, q1⟩ := cloneInts_ok hci r3' (by omega)
  refine op_callK (by simp only [go_sem, binC]; exact k1) ?_
  obtain ⟨na, rfl⟩ := q1.shape
  simp only [go_sem, binC]
  refine ⟨by omega, ?_⟩
  have hxa : AgX [] H1 (H1 ++ L1) := AgX.app [] _ _
  refine wpc_gen fun H2 hH2 => ?_
  rw [← List.append_assoc] at hH2
  have hx2 : AgX [] (H1 ++ L1) H2 := hH2 ▸ AgX.app [] _ _
  have hb6 : H2[H1.length + L1.length]? = some ⟨[.slice na nums.length nums.length, nilS, nilS], 0, 0, false, true⟩ := by
    rw [hH2, ← List.length_append]; exact get_new0 _ _
  clear hH2
  have hx12 := hxa.tr hx2
  have hR2 : RunI H1 (H1.length + L1.length) (nums, [], []) 0 H2 := by
    exact ⟨hx12, Nat.le_add_right _ _, ⟨_, nilS, nilS, hb6, q1.keep hx2 (fun _ _ _ => by simp), .inl ⟨rfl, rfl⟩, .inl ⟨rfl, rfl⟩⟩, rg, (fun p hp => by simp at hp), Nat.le_refl _, (show nums.length ≤ 1000 by omega)⟩
  have hb22 := hx12.get hb2 (by simp)
  have hb42 := hx12.get hb4 (by simp)
  refine seq_reg ?_
  simp only [go_sem, binC, gc_of hb22, inBlk_some]
  obtain ⟨H3, k3, hR3⟩ := gdo n H1 H2 (H1.length + L1.length) H.length 0 (nums, [], []) sv l 3 hx1.1 hR2 r2' (by rw [hln]; exact hst) (by omega)
  refine op_callN (by simp only [go_sem, binC]; exact k3) ?_
  simp only [go_sem, binC]
  obtain ⟨nv3, wv3, sv3, hbox3, hn3, hw3, hs3⟩ := hR3.ex
  have on3 := hn3.one
  have ow3 := hw3.one
  have os3 := hs3.one
  have hb43 := hR3.ag.get hb4 (by simp)
  refine seq_reg ?_
  simp only [go_sem, binC, gc_of hbox3, inBlk_some, on3, ow3, os3]
  obtain ⟨nv4, wv4, sv4, L4, k4, s1, s2, s3⟩ := clone_ok hcl hci hn3 hw3 hs3 hR3.rg hR3.pr hR3.ln (by have := hR3.sm; omega)
  refine op_callK (by simp only [go_sem, binC]; exact k4) ?_
  obtain ⟨_, na4, rfl, _⟩ := id s1
  obtain ⟨_, wa4, rfl, _⟩ := id s2
  obtain ⟨_, sa4, rfl, _⟩ := id s3
  have hx3a : AgX [] H3 (H3 ++ L4) := AgX.app [] _ _
  have hb44 := hx3a.get hb43 (by simp)
  have hb44l := (List.getElem?_eq_some_iff.1 hb44).1
  simp only [go_sem, binC, hb44]
  have hag4 : AgX [] H (H3 ++ L4) := (hx1.tr hR3.ag).tr hx3a
  have h3l := hR3.ag.1
  have hsb : Sub (vwl H3.length [] (H3 ++ L4)) (vw 0 ((H3 ++ L4).set (H.length + 1) ⟨[.slice na4 (runL n l (nums, [], [])).1.length (runL n l (nums, [], [])).1.length, .slice wa4 (runL n l (nums, [], [])).2.1.length (runL n l (nums, [], [])).2.1.length, .slice sa4 (runL n l (nums, [], [])).2.2.length (runL n l (nums, [], [])).2.2.length], 0, 0, false, true⟩)) := (vwl_sub (AgX.set _ _ _) (Nat.le_refl _) (xs' := []) (fun b' h1 h2 h3 => ⟨by simp; omega, h3⟩)).trans (vwl0 _ _ _)
  refine wpc_ret ⟨Or.inr rfl, .tuple #[.agg #[.slice na4 (runL n l (nums, [], [])).1.length (runL n l (nums, [], [])).1.length, .slice wa4 (runL n l (nums, [], [])).2.1.length (runL n l (nums, [], [])).2.1.length, .slice sa4 (runL n l (nums, [], [])).2.2.length (runL n l (nums, [], [])).2.2.length], .bool true], ?_, _, _, _, by rw [hB], hag4.setN (by omega) _, by rw [hrun]; exact s1.mono hsb, by rw [hrun]; exact s2.mono hsb, by rw [hrun]; exact s3.mono hsb⟩
  simp [resV, resL, res1, putE_get, notT, ptr, gc_set hb44l, inBlk_some, valOf]
end Go.Proofs.YtkmghcglmjehcaaI
end
section
/- Rules for walks, and lists compared. -/
set_option linter.unusedVariables false
set_option linter.unusedSimpArgs false
namespace Go.Proofs.YtkmghcglmjehcaaI
open Go Go.RowKit
def IntsOk (F : Nat → Option IFn) (f : Nat) : Prop := ∀ (H : Heap) (v w : Value) (l l' : List Int), SlR Co.int (vw 0 H) v l → SlR Co.int (vw 0 H) w l' → QC F f [v, w] H (.bool (decide (l = l')))
def c_lcInts : IFn := ⟨2, 26, [.t 4],
 .seq (.reg none [
    ⟨(some 4), none, .mov (.c (.bool false))⟩])
 (.seq (.seq (.reg none [
     ⟨(some 6), none, .mov (.t 0)⟩,
     ⟨(some 7), none, .len (.t 6)⟩,
     ⟨(some 8), none, .mov (.t 1)⟩,
     ⟨(some 9), none, .len (.t 8)⟩,
     ⟨(some 10), none, .bin .neq (.t 7) (.t 9)⟩])
  (.cond (.t 10) (.seq (.reg none [
      ⟨(some 4), none, .mov (.c (.bool false))⟩])
   (.ret)) (.skip)))
 (.seq (.seq (.reg none [
     ⟨(some 5), none, .mov (.c (.int .i64 0))⟩])
  (.block 0 (.loop (.seq (.seq (.reg none [
        ⟨(some 11), none, .mov (.t 5)⟩,
        ⟨(some 12), none, .mov (.t 0)⟩,
        ⟨(some 13), none, .len (.t 12)⟩,
        ⟨(some 14), none, .bin .lss (.t 11) (.t 13)⟩])
     (.cond (.t 14) (.skip) (.exit 0)))
    (.seq (.block 1 (.seq (.reg (some 8) [
         ⟨(some 17), none, .mov (.t 0)⟩,
         ⟨(some 18), none, .mov (.t 5)⟩,
         ⟨(some 19), none, .iad 1 (.t 17) (.t 18)⟩,
         ⟨(some 20), none, .load false 1 (.t 19)⟩,
         ⟨(some 21), none, .mov (.t 1)⟩,
         ⟨(some 22), none, .mov (.t 5)⟩,
         ⟨(some 23), none, .iad 1 (.t 21) (.t 22)⟩,
         ⟨(some 24), none, .load false 1 (.t 23)⟩,
         ⟨(some 25), none, .bin .neq (.t 20) (.t 24)⟩])
      (.cond (.t 25) (.seq (.reg none [
          ⟨(some 4), none, .mov (.c (.bool false))⟩])
       (.ret)) (.skip))))
    (.reg none [
      ⟨(some 15), none, .mov (.t 5)⟩,
      ⟨(some 16), none, .bin .add (.t 15) (.c (.int .i64 1))⟩,
      ⟨(some 5), none, .mov (.t 16)⟩]))))))
 (.seq (.reg none [
    ⟨(some 4), none, .mov (.c (.bool true))⟩])
 (.ret))))⟩
theorem lcInts_ok {F : Nat → Option IFn} {f : Nat} (hf : F f = some c_lcInts) : IntsOk F f := by
  intro H v w l l' hv hw
  obtain ⟨h0, a, rfl, _⟩ := id hv
  obtain ⟨h0', a', rfl, _⟩ := id hw
  refine QC.mk hf rfl ?_
  refine seq_reg ?_
  simp only [go_sem, binC]
  by_cases hl : l.length = l'.length
  rotate_left
  · have hne : ((l.length : Int) != (l'.length : Int)) = true := by simp; omega
    refine seq_assoc (seq_reg ?_)
    simp only [go_sem, binC, hne]
    refine seq_cond (t := true) rfl ?_
    simp only [go_sem, binC]
    refine seq_assoc (seq_reg ?_)
    simp only [go_sem, binC]
    refine seq_ret ⟨Or.inr rfl, .bool false, by simp only [go_sem, binC], ?_, rfl⟩
    rw [decide_eq_false (fun h => hl (by rw [h]))]
  have hne : ((l.length : Int) != (l'.length : Int)) = false := by simp; omega
  refine seq_assoc (seq_reg ?_)
  simp only [go_sem, binC, hne]
  refine seq_cond (t := false) rfl ?_
  simp only [go_sem, binC]
  refine seq_skip (seq_assoc (seq_reg ?_))
  simp only [go_sem, binC]
  refine seq_block (wpc_loop ?_)
  suffices h : ∀ (k i : Nat) (e : Env), i + k = l.length → e 0 = .slice a l.length l.length → e 1 = .slice a' l'.length l'.length → e 5 = .int .i64 i → (l = l' ↔ l.drop i = l'.drop i) → W F H.length _ e _ _ from
    h l.length 0 _ (by omega) (by simp only [go_sem, binC]) (by simp only [go_sem, binC]) (by (simp only [go_sem, binC]) <;> rfl) (by simp)
  intro k
  induction k with
  | zero =>
    intro i e hi e0 e1 e5 heq
    refine lp_step ?_
    refine seq_assoc (seq_reg ?_)
    simp only [go_sem, binC, e0, e5]
    refine seq_cond (t := false) (by simp only [go_sem, binC]; rw [decide_eq_false (by omega)]) ?_
    simp only [go_sem, binC]
    refine seq_exit ?_
    simp only [go_sem, binC, thenX_e, out_e, thenX_n]
    refine seq_reg ?_
    simp only [go_sem, binC]
    refine wpc_ret ⟨Or.inr rfl, .bool true, by simp only [go_sem, binC], ?_, rfl⟩
    rw [decide_eq_true (heq.2 (by rw [List.drop_of_length_le (by omega), List.drop_of_length_le (by omega)]))]
  | succ k ih =>
    intro i e hi e0 e1 e5 heq
    have hil : i < l.length := by omega
    have hil' : i < l'.length := by omega
    obtain ⟨b, o, hv1, hg⟩ := gcI0 hv hil
    obtain ⟨b', o', hv2, hg'⟩ := gcI0 hw hil'
    simp only [Value.slice.injEq, and_true] at hv1 hv2
    subst hv1 hv2
    have hw1 : IntKind.i64.wrap ((i : Int) + 1) = ((i + 1 : Nat) : Int) := by rw [wrap_id (by omega) (by omega)]; omega
    rw [List.drop_eq_getElem_cons hil, List.drop_eq_getElem_cons hil', List.cons.injEq] at heq
    refine lp_step ?_
    refine seq_assoc (seq_reg ?_)
    simp only [go_sem, binC, e0, e5]
    refine seq_cond (t := true) (by simp only [go_sem, binC]; rw [decide_eq_true (by omega)]) ?_
    simp only [go_sem, binC]
    refine seq_skip (seq_block (seq_regD ?_))
    simp only [go_sem, binC, e0, e5]
    refine ⟨⟨by omega, by omega⟩, ?_⟩
    simp only [go_sem, binC, Int.toNat_natCast, Nat.mul_one, hg, e1, e5]
    refine ⟨⟨by omega, by omega⟩, ?_⟩
    simp only [go_sem, binC, Int.toNat_natCast, Nat.mul_one, hg']
    by_cases hq : l[i] = l'[i]
    · have hb : (l[i] != l'[i]) = false := by rw [hq]; exact bne_self_eq_false _
      simp only [go_sem, binC, hb]
      refine wpc_cond (t := false) (by (simp only [go_sem, binC]) <;> rfl) ?_
      simp only [go_sem, binC]
      refine wpc_skip ?_
      simp only [go_sem, binC, out_n, thenX_n]
      refine wpc_reg ?_
      simp only [go_sem, binC, e5, hw1]
      simp only [go_sem, binC, thenX_n]
      exact ih (i + 1) _ (by omega) (by simp only [go_sem, binC, e0]) (by simp only [go_sem, binC, e1]) (by simp only [go_sem, binC]) (by rw [heq]; exact ⟨fun h => h.2, fun h => ⟨hq, h⟩⟩)
    · have hb : (l[i] != l'[i]) = true := by simpa using hq
      simp only [go_sem, binC, hb]
      refine wpc_cond (t := true) (by (simp only [go_sem, binC]) <;> rfl) ?_
      simp only [go_sem, binC]
      refine seq_reg ?_
      simp only [go_sem, binC]
      refine wpc_ret ?_
      simp only [go_sem, binC, out_r, thenX_r]
      refine ⟨Or.inr rfl, .bool false, by simp only [go_sem, binC], ?_, rfl⟩
      rw [decide_eq_false (fun h => hq (heq.1 h).1)]
theorem gcP {H : Heap} {v : Value} {l : List (Int × Int)} (h : SlR Co.p2 (vw 0 H) v l) {i : Nat} (hi : i < l.length) : ∃ b o, v = .slice (some ⟨b, o, none⟩) l.length l.length ∧ getCells H b (o + i * 2) 2 = some [.int .i64 l[i].1, .int .i64 l[i].2] := by
  obtain ⟨_, a, rfl, h2⟩ := h
  rcases h2 with h2 | ⟨b, o, rfl, h2⟩
  · rw [h2] at hi; simp at hi
  · obtain ⟨cs, h3, h4⟩ := h2 i hi
    have h5 := rng_gc h3
    rw [show Co.p2.w = 2 from rfl] at h5
    obtain ⟨_, _, rfl, ⟨rfl, _⟩, ⟨rfl, _⟩⟩ := h4
    exact ⟨b, o, rfl, h5⟩
def PairsOk (F : Nat → Option IFn) (f : Nat) : Prop := ∀ (H : Heap) (v w : Value) (l l' : List (Int × Int)), SlR Co.p2 (vw 0 H) v l → SlR Co.p2 (vw 0 H) w l' → QC F f [v, w] H (.bool (decide (l = l')))
theorem eqC2 (a b c d : Int) : eqCells [.int .i64 a, .int .i64 b] [.int .i64 c, .int .i64 d] = some (decide ((a, b) = (c, d))) := by
  simp only [eqCells, if_true, Option.map_some, Bool.and_true, Prod.mk.injEq]
  congr 1
  rw [Bool.eq_iff_iff]
  simp
theorem eqsV2 (a b c d : Int) : eqsV true 2 (.agg #[.int .i64 a, .int .i64 b]) (.agg #[.int .i64 c, .int .i64 d]) = some (.bool (!decide ((a, b) = (c, d)))) := by
  have h := eqC2 a b c d
  simp only [eqsV, List.length_cons, List.length_nil, h] 
  rfl
theorem GLi.blk {α : Type} {fl : α → List Value} {es et lo : Nat} {H : Heap} {v : Value} {l : List α} (h : GLi fl es et lo H v l) (b : Nat) (hb : b ∈ blkOf v) : lo ≤ b ∧ ∃ cs so, H[b]? = some ⟨cs, es, et, true, so⟩ := by
  rcases h with ⟨rfl, _⟩ | ⟨b', so, q1, rfl, q3, q4⟩
  · cases hb
  · simp only [blkOf, sli, List.mem_singleton] at hb
    subst hb
    exact ⟨q1, _, _, q4⟩
end Go.Proofs.YtkmghcglmjehcaaI
end
section
/- What comes of a program (the reference); numbers, and what was set, compared. -/
set_option linter.unusedVariables false
set_option linter.unusedSimpArgs false
namespace Go.Proofs.YtkmghcglmjehcaaI
open Go Go.RowKit
def c_sNum : IFn := ⟨2, 43, [.t 4],
 .seq (.reg none [
    ⟨(some 2), none, .box (.t 0)⟩,
    ⟨(some 4), none, .mov (.c (.int .i64 0))⟩])
 (.seq (.seq (.reg none [
     ⟨(some 5), none, .fad 0 (.t 2)⟩,
     ⟨(some 6), none, .load false 1 (.t 5)⟩])
  (.block 0 (.seq (.reg none [
      ⟨(some 8), none, .bin .eql (.t 6) (.c (.int .i64 1))⟩,
      ⟨(some 7), none, .mov (.t 8)⟩])
   (.cond (.t 7) (.seq (.reg none [
       ⟨(some 9), none, .fad 1 (.t 2)⟩,
       ⟨(some 10), none, .load false 1 (.t 9)⟩,
       ⟨(some 4), none, .mov (.t 10)⟩])
    (.ret)) (.seq (.reg none [
       ⟨(some 12), none, .bin .eql (.t 6) (.c (.int .i64 2))⟩,
       ⟨(some 11), none, .mov (.t 12)⟩])
    (.cond (.t 11) (.seq (.reg none [
        ⟨(some 13), none, .mov (.t 1)⟩,
        ⟨(some 14), none, .fad 1 (.t 2)⟩,
        ⟨(some 15), none, .load false 1 (.t 14)⟩,
        ⟨(some 16), none, .iad 1 (.t 13) (.t 15)⟩,
        ⟨(some 17), none, .load false 1 (.t 16)⟩,
        ⟨(some 4), none, .mov (.t 17)⟩])
     (.ret)) (.seq (.reg none [
        ⟨(some 19), none, .bin .eql (.t 6) (.c (.int .i64 3))⟩,
        ⟨(some 18), none, .mov (.t 19)⟩])
     (.cond (.t 18) (.seq (.reg (some 10) [
         ⟨(some 20), none, .mov (.t 1)⟩,
         ⟨(some 21), none, .fad 1 (.t 2)⟩,
         ⟨(some 22), none, .load false 1 (.t 21)⟩,
         ⟨(some 23), none, .iad 1 (.t 20) (.t 22)⟩,
         ⟨(some 24), none, .load false 1 (.t 23)⟩,
         ⟨(some 25), none, .mov (.t 1)⟩,
         ⟨(some 26), none, .fad 2 (.t 2)⟩,
         ⟨(some 27), none, .load false 1 (.t 26)⟩,
         ⟨(some 28), none, .iad 1 (.t 25) (.t 27)⟩,
         ⟨(some 29), none, .load false 1 (.t 28)⟩,
         ⟨(some 30), none, .bin .add (.t 24) (.t 29)⟩,
         ⟨(some 31), none, .bin .rem (.t 30) (.c (.int .i64 10))⟩,
         ⟨(some 4), none, .mov (.t 31)⟩])
      (.ret)) (.skip)))))))))
 (.seq (.seq (.reg (some 10) [
     ⟨(some 32), none, .mov (.t 1)⟩,
     ⟨(some 33), none, .fad 1 (.t 2)⟩,
     ⟨(some 34), none, .load false 1 (.t 33)⟩,
     ⟨(some 35), none, .iad 1 (.t 32) (.t 34)⟩,
     ⟨(some 36), none, .load false 1 (.t 35)⟩,
     ⟨(some 37), none, .mov (.t 1)⟩,
     ⟨(some 38), none, .fad 2 (.t 2)⟩,
     ⟨(some 39), none, .load false 1 (.t 38)⟩,
     ⟨(some 40), none, .iad 1 (.t 37) (.t 39)⟩,
     ⟨(some 41), none, .load false 1 (.t 40)⟩,
     ⟨(some 42), none, .bin .eql (.t 36) (.t 41)⟩])
  (.cond (.t 42) (.seq (.reg none [
      ⟨(some 4), none, .mov (.c (.int .i64 1))⟩])
   (.ret)) (.skip)))
 (.seq (.reg none [
    ⟨(some 4), none, .mov (.c (.int .i64 0))⟩])
 (.ret))))⟩
def c_sDo : IFn := ⟨2, 74, [.cell true 3 4],
 .seq (.reg none [
    ⟨(some 3), none, .box (.t 1)⟩,
    ⟨(some 4), none, .new [(.slice none 0 0), (.slice none 0 0), (.slice none 0 0)]⟩])
 (.seq (.seq (.reg none [
     ⟨(some 5), none, .mov (.c (.int .i64 0))⟩])
  (.block 0 (.loop (.seq (.seq (.reg none [
        ⟨(some 8), none, .mov (.t 5)⟩,
        ⟨(some 9), none, .mov (.t 0)⟩,
        ⟨(some 10), none, .len (.t 9)⟩,
        ⟨(some 11), none, .bin .lss (.t 8) (.t 10)⟩])
     (.cond (.t 11) (.skip) (.exit 0)))
    (.seq (.block 1 (.seq (.reg none [
         ⟨(some 14), none, .mov (.t 0)⟩,
         ⟨(some 15), none, .mov (.t 5)⟩,
         ⟨(some 16), none, .iad 8 (.t 14) (.t 15)⟩,
         ⟨(some 17), none, .load true 8 (.t 16)⟩,
         ⟨(some 6), none, .new [(.int .i64 0), (.int .i64 0), (.int .i64 0), (.int .i64 0), (.int .i64 0), (.int .i64 0), (.slice none 0 0), (.slice none 0 0)]⟩,
         ⟨none, none, .store 8 (.t 6) (.t 17)⟩])
      (.seq (.reg none [
         ⟨(some 18), none, .fad 0 (.t 6)⟩,
         ⟨(some 19), none, .load false 1 (.t 18)⟩])
      (.block 2 (.seq (.reg none [
          ⟨(some 36), none, .bin .eql (.t 19) (.c (.int .i64 1))⟩,
          ⟨(some 35), none, .mov (.t 36)⟩])
       (.cond (.t 35) (.seq (.reg none [
           ⟨(some 37), none, .fad 2 (.t 6)⟩,
           ⟨(some 38), none, .load true 3 (.t 37)⟩,
           ⟨(some 39), none, .fad 0 (.t 3)⟩,
           ⟨(some 40), none, .load false 1 (.t 39)⟩,
           ⟨(some 41), none, .call .q (.f 154) [(.t 38), (.t 40)]⟩,
           ⟨(some 7), none, .mov (.t 41)⟩])
        (.seq (.reg none [
           ⟨(some 42), none, .fad 0 (.t 3)⟩,
           ⟨(some 43), none, .load false 1 (.t 42)⟩,
           ⟨(some 44), none, .fad 1 (.t 6)⟩,
           ⟨(some 45), none, .load false 1 (.t 44)⟩,
           ⟨(some 46), none, .mov (.t 7)⟩,
           ⟨(some 47), none, .iad 1 (.t 43) (.t 45)⟩,
           ⟨none, none, .store 1 (.t 47) (.t 46)⟩])
        (.reg none [
          ⟨(some 48), none, .fad 1 (.t 3)⟩,
          ⟨(some 49), none, .load false 1 (.t 48)⟩,
          ⟨(some 50), none, .fad 1 (.t 6)⟩,
          ⟨(some 51), none, .load false 1 (.t 50)⟩,
          ⟨(some 52), none, .mov (.t 7)⟩,
          ⟨(some 53), none, .build [(.int .i64 0), (.int .i64 0)] [(0, 1, (.t 51)), (1, 1, (.t 52))]⟩,
          ⟨(some 54), none, .lit 2 113 1 [(.int .i64 0), (.int .i64 0)] [(0, 2, (.t 53))]⟩,
          ⟨(some 55), none, .app 2 113 16 false (.t 49) (.t 54)⟩,
          ⟨(some 56), none, .fad 1 (.t 3)⟩,
          ⟨none, none, .store 1 (.t 56) (.t 55)⟩]))) (.seq (.reg none [
           ⟨(some 58), none, .bin .eql (.t 19) (.c (.int .i64 3))⟩,
           ⟨(some 57), none, .mov (.t 58)⟩])
        (.cond (.t 57) (.reg (some 12) [
           ⟨(some 59), none, .fad 2 (.t 3)⟩,
           ⟨(some 60), none, .load false 1 (.t 59)⟩,
           ⟨(some 61), none, .fad 5 (.t 6)⟩,
           ⟨(some 62), none, .load false 1 (.t 61)⟩,
           ⟨(some 63), none, .fad 0 (.t 3)⟩,
           ⟨(some 64), none, .load false 1 (.t 63)⟩,
           ⟨(some 65), none, .fad 1 (.t 6)⟩,
           ⟨(some 66), none, .load false 1 (.t 65)⟩,
           ⟨(some 67), none, .iad 1 (.t 64) (.t 66)⟩,
           ⟨(some 68), none, .load false 1 (.t 67)⟩,
           ⟨(some 69), none, .build [(.int .i64 0), (.int .i64 0)] [(0, 1, (.t 62)), (1, 1, (.t 68))]⟩,
           ⟨(some 70), none, .lit 2 99 1 [(.int .i64 0), (.int .i64 0)] [(0, 2, (.t 69))]⟩,
           ⟨(some 71), none, .app 2 99 16 false (.t 60) (.t 70)⟩,
           ⟨(some 72), none, .fad 2 (.t 3)⟩,
           ⟨none, none, .store 1 (.t 72) (.t 71)⟩]) (.seq (.reg none [
            ⟨(some 20), none, .fad 0 (.t 3)⟩,
            ⟨(some 21), none, .load false 1 (.t 20)⟩,
            ⟨(some 22), none, .fad 1 (.t 6)⟩,
            ⟨(some 23), none, .load false 1 (.t 22)⟩,
            ⟨(some 24), none, .iad 1 (.t 21) (.t 23)⟩,
            ⟨(some 25), none, .load false 1 (.t 24)⟩,
            ⟨(some 26), none, .bin .neq (.t 25) (.c (.int .i64 0))⟩])
         (.cond (.t 26) (.reg none [
            ⟨(some 27), none, .fad 6 (.t 6)⟩,
            ⟨(some 28), none, .load false 1 (.t 27)⟩,
            ⟨(some 29), none, .load true 3 (.t 3)⟩,
            ⟨(some 30), none, .call .n (.f 152) [(.t 28), (.t 29)]⟩,
            ⟨none, none, .store 3 (.t 3) (.t 30)⟩]) (.reg none [
            ⟨(some 31), none, .fad 7 (.t 6)⟩,
            ⟨(some 32), none, .load false 1 (.t 31)⟩,
            ⟨(some 33), none, .load true 3 (.t 3)⟩,
            ⟨(some 34), none, .call .n (.f 152) [(.t 32), (.t 33)]⟩,
            ⟨none, none, .store 3 (.t 3) (.t 34)⟩])))))))))))
    (.reg none [
      ⟨(some 12), none, .mov (.t 5)⟩,
      ⟨(some 13), none, .bin .add (.t 12) (.c (.int .i64 1))⟩,
      ⟨(some 5), none, .mov (.t 13)⟩]))))))
 (.seq (.reg none [
    ⟨(some 73), none, .load true 3 (.t 3)⟩,
    ⟨none, none, .store 3 (.t 4) (.t 73)⟩])
 (.ret)))⟩
theorem sNum_ok {F : Nat → Option IFn} {f : Nat} (hf : F f = some c_sNum) : ∀ (H : Heap) (k a b : Int) (w : Value) (xs : List Int), SlR Co.int (vw 0 H) w xs → (∀ x ∈ xs, 0 ≤ x ∧ x ≤ 9) → valB xs.length (k, a, b) = true → QC F f [.agg #[.int .i64 k, .int .i64 a, .int .i64 b], w] H (.int .i64 (valN xs (k, a, b))) := by
  intro H k a b w xs hw hx hv
  obtain ⟨_, wa, rfl, _⟩ := id hw
  have hS : ∀ L, Sub (vw 0 H) (vw 0 (H ++ L)) := fun L => vw_app 0 H L
  refine QC.mk hf rfl ?_
  refine seq_reg ?_
  simp only [go_sem, binC]
  refine seq_assoc (seq_reg ?_)
  simp only [go_sem, binC]
  refine seq_block (seq_reg ?_)
  simp only [go_sem, binC]
  unfold valB at hv
  by_cases h1 : k = 1
  · simp only [go_sem, binC, beq_t h1]
    refine wpc_cond (t := true) rfl ?_
    simp only [go_sem, binC]
    refine seq_reg ?_
    simp only [go_sem, binC]
    refine wpc_ret ?_
    simp only [go_sem, binC, out_r, thenX_r]
    refine ⟨Or.inr rfl, _, (by (simp only [go_sem, binC]) <;> rfl), ?_, rfl⟩
    simp [valN, h1]
  rw [if_neg h1] at hv
  simp only [go_sem, binC, beq_f h1]
  refine wpc_cond (t := false) rfl ?_
  simp only [go_sem, binC]
  refine seq_reg ?_
  simp only [go_sem, binC]
  by_cases h2 : k = 2
  · rw [if_pos h2] at hv
    simp only [Bool.and_eq_true, varB, inB_iff'] at hv
    have hal : a.toNat < xs.length := by omega
    obtain ⟨wb, wo, hwv, _⟩ := gcI0 hw hal
    simp only [Value.slice.injEq, and_true] at hwv
    subst hwv
    have g0 := fun L => (gcI2 (hw.mono (hS L)) hal)
    simp only [go_sem, binC, beq_t h2]
    refine wpc_cond (t := true) rfl ?_
    simp only [go_sem, binC]
    refine seq_reg ?_
    simp only [go_sem, binC]
    refine ⟨⟨by omega, by omega⟩, ?_⟩
    simp only [go_sem, binC, Nat.mul_one, g0]
    refine wpc_ret ?_
    simp only [go_sem, binC, out_r, thenX_r]
    refine ⟨Or.inr rfl, _, (by (simp only [go_sem, binC]) <;> rfl), ?_, rfl⟩
    simp [valN, h2, List.getD, List.getElem?_eq_getElem hal]
  rw [if_neg h2] at hv
  simp only [go_sem, binC, beq_f h2]
  refine wpc_cond (t := false) rfl ?_
  simp only [go_sem, binC]
  refine seq_reg ?_
  simp only [go_sem, binC]
  have h34 : k = 3 ∨ k = 4 := by
    by_cases h : k = 3 ∨ k = 4
    · exact h
    · simp [h] at hv
  rw [if_pos h34] at hv
  simp only [Bool.and_eq_true, varB, inB_iff'] at hv
  have hal : a.toNat < xs.length := by omega
  have hbl : b.toNat < xs.length := by omega
  obtain ⟨wb, wo, hwv, _⟩ := gcI0 hw hal
  simp only [Value.slice.injEq, and_true] at hwv
  subst hwv
  have g0 := fun L => (gcI2 (hw.mono (hS L)) hal)
  have g1 := fun L => (gcI2 (hw.mono (hS L)) hbl)
  have x0 := hx xs[a.toNat] (List.getElem_mem _)
  have x1 := hx xs[b.toNat] (List.getElem_mem _)
  have e0 : xs.getD a.toNat 0 = xs[a.toNat] := by simp [List.getD, List.getElem?_eq_getElem hal]
  have e1 : xs.getD b.toNat 0 = xs[b.toNat] := by simp [List.getD, List.getElem?_eq_getElem hbl]
  by_cases h3 : k = 3
  · simp only [go_sem, binC, beq_t h3]
    refine wpc_cond (t := true) rfl ?_
    simp only [go_sem, binC]
    refine seq_regD ?_
    simp only [go_sem, binC]
    refine ⟨⟨by omega, by omega⟩, ?_⟩
    simp only [go_sem, binC, Nat.mul_one, g0]
    refine ⟨⟨by omega, by omega⟩, ?_⟩
    simp only [go_sem, binC, Nat.mul_one, g1]
    rw [wrap_id (x := xs[a.toNat] + xs[b.toNat]) (by omega) (by omega)]
    refine rem10_rule ?_
    refine wpc_ret ?_
    simp only [go_sem, binC, out_r, thenX_r]
    refine ⟨Or.inr rfl, _, (by (simp only [go_sem, binC]) <;> rfl), ?_, rfl⟩
    rw [Int.tmod_eq_emod_of_nonneg (by omega)]
    simp only [valN, h3, e0, e1, if_true]
    rfl
  simp only [go_sem, binC, beq_f h3]
  refine wpc_cond (t := false) rfl ?_
  simp only [go_sem, binC]
  refine wpc_skip ?_
  simp only [go_sem, binC, out_n, thenX_n]
  refine seq_assoc (seq_regD ?_)
  simp only [go_sem, binC]
  refine ⟨⟨by omega, by omega⟩, ?_⟩
  simp only [go_sem, binC, Nat.mul_one, g0]
  refine ⟨⟨by omega, by omega⟩, ?_⟩
  simp only [go_sem, binC, Nat.mul_one, g1]
  by_cases h4 : xs[a.toNat] = xs[b.toNat]
  · refine seq_cond (t := true) (by simp only [go_sem, binC]; rw [beq_t h4]) ?_
    simp only [go_sem, binC]
    refine seq_assoc (seq_reg ?_)
    simp only [go_sem, binC]
    refine seq_ret ⟨Or.inr rfl, .int .i64 1, (by (simp only [go_sem, binC]) <;> rfl), ?_, rfl⟩
    simp only [valN, h1, h2, h3, e0, e1, if_false, if_pos h4]
  · refine seq_cond (t := false) (by simp only [go_sem, binC]; rw [beq_f h4]) ?_
    simp only [go_sem, binC]
    refine seq_skip (seq_reg ?_)
    simp only [go_sem, binC]
    refine wpc_ret ⟨Or.inr rfl, .int .i64 0, (by (simp only [go_sem, binC]) <;> rfl), ?_, rfl⟩
    simp only [valN, h1, h2, h3, e0, e1, if_false, if_neg h4]
/-- Boxes stay. -/
def Bx (H H' : Heap) : Prop := H.length ≤ H'.length ∧ ∀ (b : Nat) (cs : List Value), H[b]? = some ⟨cs, 0, 0, false, true⟩ → H'[b]? = some ⟨cs, 0, 0, false, true⟩
theorem Bx.tr {H H1 H2 : Heap} (h : Bx H H1) (h' : Bx H1 H2) : Bx H H2 := ⟨Nat.le_trans h.1 h'.1, fun b cs k => h'.2 b cs (h.2 b cs k)⟩
theorem AgX.bx {xs : List Nat} {H H' : Heap} (h : AgX xs H H') (hx : ∀ b, b ∈ xs → ∀ cs, H[b]? ≠ some ⟨cs, 0, 0, false, true⟩) : Bx H H' := ⟨h.1, fun b cs k => h.get k fun hb => hx b hb cs k⟩
theorem Bx.setN {H H' : Heap} (h : Bx H H') {b : Nat} (hb : H.length ≤ b) (k : Blk) : Bx H (H'.set b k) := by
  refine ⟨by rw [List.length_set]; exact h.1, fun b' cs h1 => ?_⟩
  have := (List.getElem?_eq_some_iff.1 h1).1
  rw [List.getElem?_set_ne (by omega)]
  exact h.2 b' cs h1
theorem NumV.keep' {lo : Nat} {H H' : Heap} {v : Value} {l : List Int} {xs : List Nat} (h : NumV lo H v l) (hx : AgX xs H H') (hn : ∀ b, lo ≤ b → v = sli b 0 l.length → H[b]? = some ⟨ints l, 1, 3, true, true⟩ → b ∉ xs) : NumV lo H' v l := by
  rcases h with h | ⟨b, h1, h2, h3, h4⟩
  · exact .inl h
  · exact .inr ⟨b, h1, h2, h3, hx.get h4 (hn b h1 h2 h4)⟩
/-- What comes of a program, told by value. -/
structure RunV (Hb : Heap) (r : RunS) (M : Nat) (H : Heap) (nv wv sv : Value) : Prop where
  ag : AgX [] Hb H
  n : NumV Hb.length H nv r.1
  w : GLi fp 2 113 Hb.length H wv r.2.1
  s : GLi fp 2 99 Hb.length H sv r.2.2
  rg : ∀ x ∈ r.1, 0 ≤ x ∧ x ≤ 9
  pr : ∀ p, p ∈ r.2.1 ∨ p ∈ r.2.2 → RgI p.1 ∧ RgI p.2
  sm : r.2.1.length + r.2.2.length ≤ M
  ln : r.1.length ≤ 1000
theorem RunI.v {Hb : Heap} {rb : Nat} {r : RunS} {M : Nat} {H : Heap} (h : RunI Hb rb r M H) : ∃ nv wv sv, H[rb]? = some ⟨[nv, wv, sv], 0, 0, false, true⟩ ∧ RunV Hb r M H nv wv sv := by
  obtain ⟨nv, wv, sv, h1, h2, h3, h4⟩ := h.ex
  exact ⟨nv, wv, sv, h1, h.ag, h2, h3, h4, h.rg, h.pr, h.sm, h.ln⟩
theorem RunV.box {Hb : Heap} {rb : Nat} {r : RunS} {M : Nat} {H : Heap} {nv wv sv : Value} (h : RunV Hb r M H nv wv sv) (hb : H[rb]? = some ⟨[nv, wv, sv], 0, 0, false, true⟩) (hl : Hb.length ≤ rb) : RunI Hb rb r M H := ⟨h.ag, hl, ⟨nv, wv, sv, hb, h.n, h.w, h.s⟩, h.rg, h.pr, h.sm, h.ln⟩
theorem RunV.box' {Hb : Heap} {rb : Nat} {r : RunS} {M : Nat} {H : Heap} {nv wv sv : Value} {cs : List Value} (h : RunV Hb r M H nv wv sv) (hb : H[rb]? = some ⟨cs, 0, 0, false, true⟩) (hl : Hb.length ≤ rb) : RunI Hb rb r M (H.set rb ⟨[nv, wv, sv], 0, 0, false, true⟩) := by
  have hbl := (List.getElem?_eq_some_iff.1 hb).1
  have hx : AgX [rb] H (H.set rb ⟨[nv, wv, sv], 0, 0, false, true⟩) := AgX.set _ _ _
  refine RunV.box ⟨h.ag.setN hl _, h.n.keep' hx (fun b _ _ q h => ?_), h.w.keep hx (fun b so _ _ q h => ?_), h.s.keep hx (fun b so _ _ q h => ?_), h.rg, h.pr, h.sm, h.ln⟩ (List.getElem?_set_self hbl) hl
  all_goals (simp only [List.mem_singleton] at h; subst h; rw [hb] at q; simp at q)
def DoSOk (F : Nat → Option IFn) (f n : Nat) : Prop := ∀ (Hb H : Heap) (lo M : Nat) (r : RunS) (nv wv sv v : Value) (l : List (TStep n)) (d : Int), lo ≤ Hb.length → RunV Hb r M H nv wv sv → SlR (Co.step n) (vw 0 Hb) v l → l.all (stepB r.1.length n d) = true → M + (allL n l).length ≤ 1000 →
  ∃ nv' wv' sv' H', NC F lo f [v, .agg #[nv, wv, sv]] H (.agg #[nv', wv', sv']) H' ∧ RunV Hb (runL n l r) (M + (allL n l).length) H' nv' wv' sv' ∧ Bx H H'
set_option maxHeartbeats 4000000 in
set_option maxRecDepth 20000 in
theorem sDo_ok {F : Nat → Option IFn} {f n : Nat} (hf : F f = some c_sDo) (hnu : F 154 = some c_sNum) (ih : ∀ m, n = m + 1 → DoSOk F 152 m) : DoSOk F f n := by
  intro Hb H lo M r nv0 wv0 sv0 v l d hlo hR hv hall hM
  suffices h : ∃ w H', NC F lo f [v, .agg #[nv0, wv0, sv0]] H w H' ∧ (∃ nv' wv' sv', w = .agg #[nv', wv', sv'] ∧ RunV Hb (runL n l r) (M + (allL n l).length) H' nv' wv' sv' ∧ Bx H H') by
    obtain ⟨w, H', h1, nv', wv', sv', rfl, h2⟩ := h
    exact ⟨nv', wv', sv', H', h1, h2⟩
  have hv0 := hv
  obtain ⟨h0, av, rfl, _⟩ := hv
  have o1 := hR.n.one
  have o2 := hR.w.one
  have o3 := hR.s.one
  have hHb := hR.ag.1
  refine NC.mk hf rfl ?_
  refine seq_reg ?_
  simp only [go_sem, binC, o1, o2, o3]
  refine wpc_gen fun H1 hH1 => ?_
  have hx1 : AgX [] H H1 := hH1 ▸ AgX.app [] _ _
  have hb3 : H1[H.length]? = some ⟨[nv0, wv0, sv0], 0, 0, false, true⟩ := hH1 ▸ get_new0 _ _
  have hb4 : H1[H.length + 1]? = some ⟨[nilS, nilS, nilS], 0, 0, false, true⟩ := hH1 ▸ get_new _ _ 1
  clear hH1
  have hR1 : RunI Hb H.length r M H1 := by
    refine RunV.box ⟨hR.ag.tr hx1, ?_, hR.w.keep hx1 (fun _ _ _ _ _ => by simp), hR.s.keep hx1 (fun _ _ _ _ _ => by simp), hR.rg, hR.pr, hR.sm, hR.ln⟩ hb3 hHb
    exact hR.n.keep hx1 (fun _ _ _ => by simp)
  have hB1 : Bx H H1 := hx1.bx (fun _ h => by cases h)
  refine seq_assoc (seq_reg ?_)
  simp only [go_sem, binC]
  refine seq_block (wpc_loop ?_)
  suffices h : ∀ (k i : Nat) (e : Env) (Hc : Heap) (rc : RunS) (Mc : Nat), i + k = l.length → RunI Hb H.length rc Mc Hc → Bx H Hc → Hc[H.length + 1]? = some ⟨[nilS, nilS, nilS], 0, 0, false, true⟩ → rc.1.length = r.1.length → runL n (l.drop i) rc = runL n l r → Mc + (allL n (l.drop i)).length = M + (allL n l).length →
      e 0 = .slice av l.length l.length → e 3 = ptr H.length 0 → e 4 = ptr (H.length + 1) 0 → e 5 = .int .i64 i → W F lo _ e Hc _ from
    h l.length 0 _ H1 r M (by omega) hR1 hB1 hb4 rfl rfl rfl (by simp only [go_sem, binC]) (by (simp only [go_sem, binC]) <;> rfl) (by (simp only [go_sem, binC]) <;> rfl) (by (simp only [go_sem, binC]) <;> rfl)
  intro k
  induction k with
  | zero =>
    intro i e Hc rc Mc hi hRc hBc hb4c hlen hrun hcnt e0 e3 e4 e5
    refine lp_step ?_
    refine seq_assoc (seq_reg ?_)
    simp only [go_sem, binC, e0, e5]
    refine seq_cond (t := false) (by simp only [go_sem, binC]; rw [decide_eq_false (by omega)]) ?_
    simp only [go_sem, binC]
    refine seq_exit ?_
    simp only [go_sem, binC, thenX_e, out_e, thenX_n]
    have hd : l.drop i = [] := List.drop_of_length_le (by omega)
    rw [hd] at hrun hcnt
    have hrun' : rc = runL n l r := hrun
    have hcnt' : Mc = M + (allL n l).length := by simpa [allL] using hcnt
    obtain ⟨nv, wv, sv, hbox, hV⟩ := hRc.v
    have p1 := hV.n.one
    have p2 := hV.w.one
    have p3 := hV.s.one
    have hb4l := (List.getElem?_eq_some_iff.1 hb4c).1
    refine seq_reg ?_
    simp only [go_sem, binC, e3, e4, gc_of hbox, inBlk_some, p1, p2, p3, hb4c]
    refine ⟨by omega, ?_⟩
    have hxs : AgX [H.length + 1] Hc (Hc.set (H.length + 1) ⟨[nv, wv, sv], 0, 0, false, true⟩) := AgX.set _ _ _
    refine wpc_ret ⟨Or.inr rfl, .agg #[nv, wv, sv], ?_, nv, wv, sv, rfl, ?_, hBc.setN (by omega) _⟩
    · simp [resV, resL, res1, putE_get, e4, ptr, gc_set hb4l, inBlk_some, valOf]
    · rw [hrun'] at hV
      rw [← hcnt']
      refine ⟨hV.ag.setN (by omega) _, hV.n.keep' hxs (fun b _ _ h1 h2 => ?_), hV.w.keep hxs (fun b so _ _ q h => ?_), hV.s.keep hxs (fun b so _ _ q h => ?_), hV.rg, hV.pr, hV.sm, hV.ln⟩
      · simp only [List.mem_singleton] at h2; subst h2; rw [hb4c] at h1; simp at h1
      · simp only [List.mem_singleton] at h; subst h; rw [hb4c] at q; simp at q
      · simp only [List.mem_singleton] at h; subst h; rw [hb4c] at q; simp at q
  | succ k ihk =>
    intro i e Hc rc Mc hi hRc hBc hb4c hlen hrun hcnt e0 e3 e4 e5
    have hil : i < l.length := by omega
    cases n with
    | zero => exact (l[i]).elim
    | succ n =>
    obtain ⟨vb, vo, kd, vr, va, vbb, vc, ho, tv, ev, tl, el, hav, hs, rg, otv, oev, hgc, htl, hel⟩ := step_at hv0 hil
    simp only [Value.slice.injEq, and_true] at hav
    subst hav
    have hst1 : stepB r.1.length (n + 1) d (kd, vr, (va, vbb, vc), ho, tl, el) = true := by rw [← hs]; exact List.all_eq_true.1 hall _ (List.getElem_mem hil)
    obtain ⟨hvr, hk1, hk2, hk3, hkn⟩ := stepB_f hst1
    have hagc := hRc.ag
    have hHl := hagc.1
    have hg8 := hgc Hc (agx_sub hagc)
    rw [List.drop_eq_getElem_cons hil] at hrun hcnt
    have hcnt2 : Mc + (1 + ((allL n tl).length + (allL n el).length) + (allL (n + 1) (l.drop (i + 1))).length) = M + (allL (n + 1) l).length := by
      have hc2 : (allL (n + 1) (l[i] :: l.drop (i + 1))).length = (allT (n + 1) l[i]).length + (allL (n + 1) (l.drop (i + 1))).length := by unfold allL; rw [List.map_cons, List.flatten_cons, List.length_append]
      rw [hc2, hs, allT_succ, List.length_cons, List.length_append] at hcnt
      omega
    have hw1 : IntKind.i64.wrap ((i : Int) + 1) = ((i + 1 : Nat) : Int) := by rw [wrap_id (by omega) (by omega)]; omega
    have hHHc := hBc.1
    refine lp_step ?_
    refine seq_assoc (seq_reg ?_)
    simp only [go_sem, binC, e0, e5]
    refine seq_cond (t := true) (by simp only [go_sem, binC]; rw [decide_eq_true (by omega)]) ?_
    simp only [go_sem, binC]
    refine seq_skip (seq_block (seq_reg ?_))
    simp only [go_sem, binC, e0, e5]
    refine ⟨⟨by omega, by omega⟩, ?_⟩
    simp only [go_sem, binC, Int.toNat_natCast, hg8, otv, oev]
    refine ⟨by omega, ?_⟩
    refine wpc_gen fun H1 hH1 => ?_
    have hx1 : AgX [] Hc H1 := hH1 ▸ AgX.app [] _ _
    have hbx : H1[Hc.length]? = some ⟨[.int .i64 kd, .int .i64 vr, .int .i64 va, .int .i64 vbb, .int .i64 vc, .int .i64 ho, tv, ev], 0, 0, false, true⟩ := hH1 ▸ get_new0 _ _
    have hl1 : H1.length = Hc.length + 1 := by rw [hH1, List.length_append]; rfl
    clear hH1
    have hR1 := hRc.keep hx1
    have hB1 : Bx H H1 := hBc.tr (hx1.bx (fun _ h => by cases h))
    have hb41 := hx1.get hb4c (by simp)
    refine seq_reg ?_
    simp only [go_sem, binC, gc_of hbx, inBlk_some]
    refine wpc_genK fun KK hKK => ?_
    have hnext : ∀ (e' : Env) (H' : Heap) (r' : RunS) (M' : Nat), RunI Hb H.length r' M' H' → Bx H H' → H'[H.length + 1]? = some ⟨[nilS, nilS, nilS], 0, 0, false, true⟩ → r'.1.length = r.1.length → r' = runT (n + 1) l[i] rc → M' = Mc + (1 + ((allL n tl).length + (allL n el).length)) → e' 0 = .slice (some ⟨vb, vo, none⟩) l.length l.length → e' 3 = ptr H.length 0 → e' 4 = ptr (H.length + 1) 0 → e' 5 = .int .i64 i → KK .n e' H' := by
      intro e' H' r' M' hR' hB' hb4' hlen' hr' hM' e0' e3' e4' e5'
      rw [hKK]
      simp only [go_sem, binC, out_n, thenX_n]
      refine wpc_reg ?_
      simp only [go_sem, binC, e5', hw1]
      simp only [go_sem, binC, thenX_n]
      refine ihk (i + 1) _ H' r' M' (by omega) hR' hB' hb4' hlen' ?_ (by omega) (by simp only [go_sem, binC, e0']) (by simp only [go_sem, binC, e3']) (by simp only [go_sem, binC, e4']) (by simp only [go_sem, binC])
      rw [hr', ← hrun]; rfl
    clear hKK
    refine wpc_block (seq_reg ?_)
    simp only [go_sem, binC]
    by_cases h1 : kd = 1
    · subst h1
      have hvb := hk1 rfl
      rw [← hlen] at hvb
      obtain ⟨rfl, rfl⟩ := hkn (by decide)
      rw [hs, runT_set] at hnext
      obtain ⟨nv, wv, sv, hbox, hV⟩ := hR1.v
      have hn := hV.n
      rcases hn with ⟨_, _, hn0⟩ | ⟨nb, hnb, rfl, hne, hnc⟩
      · rw [← hlen, hn0] at hvr; simp at hvr; omega
      have sI := hV.n.slI (fun x hx => by have := hV.rg x hx; unfold RgI; omega) hV.ln
      refine wpc_cond (t := true) rfl ?_
      simp only [go_sem, binC]
      refine seq_reg ?_
      simp only [go_sem, binC, e3, gc_of hbx, gc_of hbox, inBlk_some]
      refine op_callQ (by simp only [go_sem, binC]; exact sNum_ok hnu H1 va vbb vc _ _ sI hV.rg hvb) ?_
      simp only [go_sem, binC]
      generalize hx : valN rc.1 (va, vbb, vc) = x at hnext
      have hxr : 0 ≤ x ∧ x ≤ 9 := hx ▸ valN_rg hvb hV.rg
      have hnr : H.length ≠ nb := fun h => by rw [h, hnc] at hbox; simp at hbox
      have hnl := (List.getElem?_eq_some_iff.1 hnc).1
      have hsm := hV.sm
      have hln := hV.ln
      refine seq_reg ?_
      simp only [go_sem, binC, e3, gc_of hbx, gc_of hbox, inBlk_some]
      refine ⟨⟨by omega, by omega⟩, ?_⟩
      simp only [go_sem, binC, hnc, Nat.mul_one, Nat.zero_add]
      refine ⟨⟨by omega, by simp [ints]; omega⟩, ?_⟩
      rw [ints_set]
      have hx2 : AgX [nb] H1 (H1.set nb ⟨ints (rc.1.set vr.toNat x), 1, 3, true, true⟩) := AgX.set _ _ _
      refine wpc_genH fun H2 hH2 => ?_
      rw [← hH2] at hx2
      have hbox2 := hx2.get hbox (by simpa using hnr)
      have hnc2 : H2[nb]? = some ⟨ints (rc.1.set vr.toNat x), 1, 3, true, true⟩ := by rw [hH2]; exact List.getElem?_set_self hnl
      have hbx2 := hx2.get hbx (fun h => by simp only [List.mem_singleton] at h; rw [h, hnc] at hbx; simp at hbx)
      have hB2 : Bx H H2 := hB1.tr (hx2.bx (fun b h cs q => by simp only [List.mem_singleton] at h; rw [h, hnc] at q; simp at q))
      have hb42 := hx2.get hb41 (fun h => by simp only [List.mem_singleton] at h; rw [h, hnc] at hb41; simp at hb41)
      have hw2 : GLi fp 2 113 Hb.length H2 wv rc.2.1 := hV.w.keep hx2 (fun b so _ _ q h => by simp only [List.mem_singleton] at h; subst h; rw [hnc] at q; simp at q)
      have hs2 : GLi fp 2 99 Hb.length H2 sv rc.2.2 := hV.s.keep hx2 (fun b so _ _ q h => by simp only [List.mem_singleton] at h; subst h; rw [hnc] at q; simp at q)
      have hag2 : AgX [] Hb H2 := hV.ag.trans hx2 (fun _ h _ => h) (fun b h1 h2 => by simp only [List.mem_singleton] at h1; omega)
      have hl2 : H2.length = H1.length := by rw [hH2, List.length_set]
      clear hH2
      refine wpc_reg ?_
      simp only [go_sem, binC, e3, gc_of hbox2, gc_of hbx2, inBlk_some]
      refine op_app_fl (fl := fp) (a := (vr, x)) (lo := Hb.length) (fun _ => rfl) hw2 (by simp only [go_sem, binC]) (by (simp only [go_sem, binC]) <;> rfl) hlo (by omega) (by omega) (by omega) fun H3 w3 hx3 hw3 => ?_
      have hblk := hw2.blk
      have hbox3 := hx3.get hbox2 (fun h => by obtain ⟨_, cs, so, q⟩ := hblk _ h; rw [hbox2] at q; simp at q)
      have hnc3 := hx3.get hnc2 (fun h => by obtain ⟨_, cs, so, q⟩ := hblk _ h; rw [hnc2] at q; simp at q)
      have hs3 : GLi fp 2 99 Hb.length H3 sv rc.2.2 := hs2.keep hx3 (fun b so _ _ q h => by obtain ⟨_, cs, so, q2⟩ := hblk _ h; rw [q2] at q; simp at q)
      have hag3 : AgX [] Hb H3 := hag2.trans hx3 (fun _ h _ => h) (fun b h1 h2 => by have := hblk b h1; omega)
      have hB3 : Bx H H3 := hB2.tr (hx3.bx (fun b h cs q => by obtain ⟨_, cs, so, q2⟩ := hblk _ h; rw [q2] at q; simp at q))
      have hb43 := hx3.get hb42 (fun h => by obtain ⟨_, cs, so, q2⟩ := hblk _ h; rw [hb42] at q2; simp at q2)
      obtain ⟨b3, so3, _, hw3e, _, _⟩ := (id hw3).resolve_left (by simp)
      subst hw3e
      have hl3 := hx3.1
      simp only [go_sem, binC, e3, gc_of hbox3, hbox3, inBlk_some]
      refine ⟨by omega, ?_⟩
      simp only [go_sem, binC, out_n]
      refine hnext _ _ _ (Mc + 1) (hR1.put (r' := (rc.1.set vr.toNat x, rc.2.1 ++ [(vr, x)], rc.2.2)) hag3 (by omega) (.inr ⟨nb, hnb, by rw [List.length_set], by simpa using hne, hnc3⟩) hw3 hs3 ⟨_, hbox3⟩ (fun y hy => ?_) (fun p hp => ?_) (by show (rc.2.1 ++ [(vr, x)]).length + rc.2.2.length ≤ Mc + 1; rw [List.length_append, List.length_singleton]; omega) (by show (rc.1.set vr.toNat x).length ≤ 1000; rw [List.length_set]; exact hV.ln)) (hB3.setN (Nat.le_refl _) _) (by rw [List.getElem?_set_ne (by omega)]; exact hb43) (by show (rc.1.set vr.toNat x).length = _; rw [List.length_set]; exact hlen) rfl (by simp [allL]) (by simp only [go_sem, binC, e0]) (by simp only [go_sem, binC, e3]) (by simp only [go_sem, binC, e4]) (by simp only [go_sem, binC, e5])
      · rcases List.mem_or_eq_of_mem_set hy with h | rfl
        · exact hV.rg y h
        · exact hxr
      · simp only [List.mem_append, List.mem_singleton] at hp
        rcases hp with (h | rfl) | h
        · exact hV.pr p (.inl h)
        · exact ⟨by unfold RgI; omega, by unfold RgI; omega⟩
        · exact hV.pr p (.inr h)
    simp only [go_sem, binC, beq_f h1]
    refine wpc_cond (t := false) rfl ?_
    simp only [go_sem, binC]
    refine seq_reg ?_
    simp only [go_sem, binC]
    obtain ⟨nv, wv, sv, hbox, hV⟩ := hR1.v
    have hn := hV.n
    rcases hn with ⟨_, _, hn0⟩ | ⟨nb, hnb, rfl, hne, hnc⟩
    · rw [← hlen, hn0] at hvr; simp at hvr; omega
    have hgn := gc_ints hnc (i := vr.toNat) (by omega)
    by_cases h2 : kd = 2
    · subst h2
      obtain ⟨ht1, he1⟩ := hk2 rfl
      rw [← hlen] at ht1 he1
      rw [hs, runT_if] at hnext
      have h23 : ((2 : Int) == 3) = false := rfl
      have ow := hV.w.one
      have os := hV.s.one
      simp only [go_sem, binC, h23]
      refine wpc_cond (t := false) rfl ?_
      simp only [go_sem, binC]
      refine seq_reg ?_
      simp only [go_sem, binC, e3, gc_of hbx, gc_of hbox, inBlk_some]
      refine ⟨⟨by omega, by omega⟩, ?_⟩
      simp only [go_sem, binC, Nat.mul_one, Nat.zero_add, hgn]
      have hfin : ∀ (H4 : Heap) (nv4 wv4 sv4 : Value) (r4 : RunS) (M4 : Nat), RunV Hb r4 M4 H4 nv4 wv4 sv4 → Bx H1 H4 → M4 ≤ Mc + (1 + ((allL n tl).length + (allL n el).length)) → H4[H.length]? = some ⟨[sli nb 0 rc.1.length, wv, sv], 0, 0, false, true⟩ ∧ Bx H (H4.set H.length ⟨[nv4, wv4, sv4], 0, 0, false, true⟩) ∧ (H4.set H.length ⟨[nv4, wv4, sv4], 0, 0, false, true⟩)[H.length + 1]? = some ⟨[nilS, nilS, nilS], 0, 0, false, true⟩ ∧ RunI Hb H.length r4 (Mc + (1 + ((allL n tl).length + (allL n el).length))) (H4.set H.length ⟨[nv4, wv4, sv4], 0, 0, false, true⟩) := by
        intro H4 nv4 wv4 sv4 r4 M4 hV4 hB4 hM4
        have hbox4 := hB4.2 _ _ hbox
        have hb44 := hB4.2 _ _ hb41
        have hbl4 := (List.getElem?_eq_some_iff.1 hbox4).1
        refine ⟨hbox4, (hB1.tr hB4).setN (Nat.le_refl _) _, by rw [List.getElem?_set_ne (by omega)]; exact hb44, ?_⟩
        exact (hV4.box' hbox4 hHb).mono hM4
      by_cases hz : rc.1.getD vr.toNat 0 = 0
      · have hz2 : (rc.1.getD vr.toNat 0 != 0) = false := by rw [hz]; rfl
        simp only [go_sem, binC, hz2]
        refine wpc_cond (t := false) rfl ?_
        simp only [go_sem, binC]
        refine wpc_reg ?_
        simp only [go_sem, binC, e3, gc_of hbx, gc_of hbox, inBlk_some, ow, os]
        obtain ⟨nv4, wv4, sv4, H4, k4, hV4, hB4⟩ := ih n rfl Hb H1 lo Mc rc _ wv sv ev el (d - 1) hlo hV hel he1 (by omega)
        refine op_callN (by simp only [go_sem, binC]; exact k4) ?_
        obtain ⟨hb4x, q1, q2, q3⟩ := hfin H4 _ _ _ _ _ hV4 hB4 (by omega)
        have p1 := hV4.n.one
        have p2 := hV4.w.one
        have p3 := hV4.s.one
        simp only [go_sem, binC, e3, hb4x, p1, p2, p3]
        refine ⟨by omega, ?_⟩
        simp only [go_sem, binC, out_n]
        rw [if_pos hz] at hnext
        exact hnext _ _ _ _ q3 q1 q2 (by rw [runL_len he1]; exact hlen) rfl rfl (by simp only [go_sem, binC, e0]) (by simp only [go_sem, binC, e3]) (by simp only [go_sem, binC, e4]) (by simp only [go_sem, binC, e5])
      · have hz2 : (rc.1.getD vr.toNat 0 != 0) = true := by simpa using hz
        simp only [go_sem, binC, hz2]
        refine wpc_cond (t := true) rfl ?_
        simp only [go_sem, binC]
        refine wpc_reg ?_
        simp only [go_sem, binC, e3, gc_of hbx, gc_of hbox, inBlk_some, ow, os]
        obtain ⟨nv4, wv4, sv4, H4, k4, hV4, hB4⟩ := ih n rfl Hb H1 lo Mc rc _ wv sv tv tl (d - 1) hlo hV htl ht1 (by omega)
        refine op_callN (by simp only [go_sem, binC]; exact k4) ?_
        obtain ⟨hb4x, q1, q2, q3⟩ := hfin H4 _ _ _ _ _ hV4 hB4 (by omega)
        have p1 := hV4.n.one
        have p2 := hV4.w.one
        have p3 := hV4.s.one
        simp only [go_sem, binC, e3, hb4x, p1, p2, p3]
        refine ⟨by omega, ?_⟩
        simp only [go_sem, binC, out_n]
        rw [if_neg hz] at hnext
        exact hnext _ _ _ _ q3 q1 q2 (by rw [runL_len ht1]; exact hlen) rfl rfl (by simp only [go_sem, binC, e0]) (by simp only [go_sem, binC, e3]) (by simp only [go_sem, binC, e4]) (by simp only [go_sem, binC, e5])
    have h3 : kd = 3 := (hk3 h1 h2).1
    obtain ⟨rfl, rfl⟩ := hkn h2
    rw [hs, runT_tell h1 h2] at hnext
    have hsm := hV.sm
    have hrbl := (List.getElem?_eq_some_iff.1 hbox).1
    simp only [go_sem, binC, beq_t h3]
    refine wpc_cond (t := true) rfl ?_
    simp only [go_sem, binC]
    refine wpc_regD ?_
    simp only [go_sem, binC, e3, gc_of hbx, gc_of hbox, inBlk_some]
    refine ⟨⟨by omega, by omega⟩, ?_⟩
    simp only [go_sem, binC, Nat.mul_one, Nat.zero_add, hgn]
    refine op_app_fl (fl := fp) (a := (ho, rc.1.getD vr.toNat 0)) (lo := Hb.length) (fun _ => rfl) hV.s (by simp only [go_sem, binC]) (by (simp only [go_sem, binC]) <;> rfl) hlo (by omega) (by omega) (by omega) fun H2 w2 hx2 hw2 => ?_
    have hblk := hV.s.blk
    have hbox2 := hx2.get hbox (fun h => by obtain ⟨_, cs, so, q⟩ := hblk _ h; rw [hbox] at q; simp at q)
    have hnc2 := hx2.get hnc (fun h => by obtain ⟨_, cs, so, q⟩ := hblk _ h; rw [hnc] at q; simp at q)
    have hb42 := hx2.get hb41 (fun h => by obtain ⟨_, cs, so, q⟩ := hblk _ h; rw [hb41] at q; simp at q)
    have hww : GLi fp 2 113 Hb.length H2 wv rc.2.1 := hV.w.keep hx2 (fun b so _ _ q h => by obtain ⟨_, cs, so, q2⟩ := hblk _ h; rw [q2] at q; simp at q)
    have hag2 : AgX [] Hb H2 := hR1.ag.trans hx2 (fun _ h _ => h) (fun b h1 h2 => by have := hblk b h1; omega)
    have hB2 : Bx H H2 := hB1.tr (hx2.bx (fun b h cs q => by obtain ⟨_, cs, so, q2⟩ := hblk _ h; rw [q2] at q; simp at q))
    obtain ⟨b2, so2, _, hw2e, _, _⟩ := (id hw2).resolve_left (by simp)
    subst hw2e
    have hl2 := hx2.1
    simp only [go_sem, binC, e3, gc_of hbox2, hbox2, inBlk_some]
    refine ⟨by omega, ?_⟩
    simp only [go_sem, binC, out_n]
    refine hnext _ _ _ (Mc + 1) (hR1.put (r' := (rc.1, rc.2.1, rc.2.2 ++ [(ho, rc.1.getD vr.toNat 0)])) hag2 (by omega) (.inr ⟨nb, hnb, rfl, hne, hnc2⟩) hww hw2 ⟨_, hbox2⟩ hV.rg (fun p hp => ?_) (by show rc.2.1.length + (rc.2.2 ++ [_]).length ≤ Mc + 1; rw [List.length_append, List.length_singleton]; omega) hV.ln) (hB2.setN (Nat.le_refl _) _) (by rw [List.getElem?_set_ne (by omega)]; exact hb42) hlen rfl (by simp [allL]) (by simp only [go_sem, binC, e0]) (by simp only [go_sem, binC, e3]) (by simp only [go_sem, binC, e4]) (by simp only [go_sem, binC, e5])
    simp only [List.mem_append, List.mem_singleton] at hp
    rcases hp with h | h | rfl
    · exact hV.pr p (.inl h)
    · exact hV.pr p (.inr h)
    · exact ⟨rg.2.2.2.2.2, by have := getD_rg hV.rg vr.toNat; unfold RgI; omega⟩
theorem sDo_all {F : Nat → Option IFn} (hf : F 152 = some c_sDo) (hnu : F 154 = some c_sNum) : ∀ n, DoSOk F 152 n
  | 0 => sDo_ok hf hnu fun m h => by cases h
  | n + 1 => sDo_ok hf hnu fun m h => by cases h; exact sDo_all hf hnu n
def c_sRunOf : IFn := ⟨2, 18, [.cell true 3 4, .t 5],
 .seq (.reg none [
    ⟨(some 2), none, .box (.t 0)⟩,
    ⟨(some 4), none, .new [(.slice none 0 0), (.slice none 0 0), (.slice none 0 0)]⟩,
    ⟨(some 5), none, .mov (.c (.bool false))⟩])
 (.seq (.seq (.reg none [
     ⟨(some 6), none, .load true 2 (.t 2)⟩,
     ⟨(some 7), none, .mov (.t 1)⟩,
     ⟨(some 8), none, .call .q (.f 151) [(.t 6), (.t 7)]⟩,
     ⟨(some 9), none, .un .not (.t 8)⟩])
  (.cond (.t 9) (.seq (.reg none [
      ⟨(some 10), none, .build [(.slice none 0 0), (.slice none 0 0), (.slice none 0 0)] []⟩,
      ⟨none, none, .store 3 (.t 4) (.t 10)⟩,
      ⟨(some 5), none, .mov (.c (.bool false))⟩])
   (.ret)) (.skip)))
 (.seq (.reg (some 6) [
    ⟨(some 11), none, .fad 1 (.t 2)⟩,
    ⟨(some 12), none, .load false 1 (.t 11)⟩,
    ⟨(some 13), none, .lit 1 3 0 [] []⟩,
    ⟨(some 14), none, .mov (.t 1)⟩,
    ⟨(some 15), none, .app 1 3 8 false (.t 13) (.t 14)⟩,
    ⟨(some 16), none, .build [(.slice none 0 0), (.slice none 0 0), (.slice none 0 0)] [(0, 1, (.t 15))]⟩,
    ⟨(some 17), none, .call .n (.f 152) [(.t 12), (.t 16)]⟩,
    ⟨none, none, .store 3 (.t 4) (.t 17)⟩,
    ⟨(some 5), none, .mov (.c (.bool true))⟩])
 (.ret)))⟩
theorem op_app_nums {F : Nat → Option IFn} {lo lo0 : Nat} {e : Env} {H : Heap} {K : Value → Heap → Prop} {x y : Opd} {b : Nat} {so : Bool} {v : Value} {l : List Int} (hx : x.ev e = .slice (some ⟨b, 0, none⟩) 0 0) (hy : y.ev e = v) (hv : SlR Co.int (vw 0 H) v l) (hk : H[b]? = some ⟨[], 1, 3, true, so⟩) (hlt : b < lo) (hl : l.length ≤ 1048576) (h0 : lo0 ≤ H.length)
    (k : ∀ w L, NumV lo0 (H ++ L) w l → K w (H ++ L)) : wpOp F lo (.app 1 3 8 false x y) e H K := by
  by_cases hl0 : l = []
  · obtain ⟨_, a, rfl, _⟩ := hv
    subst hl0
    refine op_app_zero _ _ _ _ _ hx hy ?_
    have := k (.slice (some ⟨b, 0, none⟩) 0 0) []
    rw [List.append_nil] at this
    exact this (.inl ⟨_, rfl, rfl⟩)
  · obtain ⟨b', o', rfl, hg⟩ := sl_ints hv hl0
    have hne : l.length ≠ 0 := fun h => hl0 (List.eq_nil_of_length_eq_zero h)
    exact op_app_lit hx hy hne hg hk hlt (by omega) (by omega) (k _ _ (.inr ⟨H.length, h0, rfl, hl0, get_new0 _ _⟩))
theorem sRunOf_ok {F : Nat → Option IFn} {f : Nat} (hf : F f = some c_sRunOf) (gn : NumsOk F 151) (gdo : ∀ n, DoSOk F 152 n) : RunOk F f := by
  intro H n lv sv w ls l nums r1 r2 hsm r3
  suffices h : ∃ v H', KC F f [.agg #[lv, sv], w] H v H' ∧ (∃ nv wv tv, v = .tuple #[.agg #[nv, wv, tv], .bool (numsB n (ls, l) nums)] ∧ AgX [] H H' ∧
      SlR Co.int (vw 0 H') nv (runOf n (ls, l) nums).1 ∧ SlR Co.p2 (vw 0 H') wv (runOf n (ls, l) nums).2.1 ∧ SlR Co.p2 (vw 0 H') tv (runOf n (ls, l) nums).2.2) by
    obtain ⟨_, H', h1, nv, wv, tv, rfl, h2⟩ := h
    exact ⟨nv, wv, tv, H', h1, h2⟩
  have olv : one lv = true := by obtain ⟨_, a, rfl, _⟩ := r1; rfl
  have osv : one sv = true := by obtain ⟨_, a, rfl, _⟩ := r2; rfl
  refine KC.mk hf rfl ?_
  refine seq_reg ?_
  simp only [go_sem, binC, olv, osv]
  refine wpc_gen fun H1 hH1 => ?_
  have hx1 : AgX [] H H1 := hH1 ▸ AgX.app [] _ _
  have hb2 : H1[H.length]? = some ⟨[lv, sv], 0, 0, false, true⟩ := hH1 ▸ get_new0 _ _
  have hb4 : H1[H.length + 1]? = some ⟨[nilS, nilS, nilS], 0, 0, false, true⟩ := hH1 ▸ get_new _ _ 1
  clear hH1
  have r1' := r1.mono (agx_sub hx1)
  have r2' := r2.mono (agx_sub hx1)
  have r3' := r3.mono (agx_sub hx1)
  have hb4l := (List.getElem?_eq_some_iff.1 hb4).1
  refine seq_assoc (seq_reg ?_)
  simp only [go_sem, binC, gc_of hb2, inBlk_some, olv, osv]
  refine op_callB (by simp only [go_sem, binC]; exact gn H1 n _ _ _ ls l nums r1' r2' hsm r3') (fun hB => ?_) (fun hB => ?_)
  rotate_left
  · simp only [go_sem, binC]
    refine seq_cond (t := true) rfl ?_
    simp only [go_sem, binC]
    refine seq_assoc (seq_reg ?_)
    simp only [go_sem, binC, hb4]
    have hr : runOf n (ls, l) nums = ([], [], []) := if_neg (by rw [hB]; simp)
    refine seq_ret ⟨Or.inr rfl, .tuple #[.agg #[nilS, nilS, nilS], .bool false], ?_, nilS, nilS, nilS, by rw [hB], hx1.setN (by omega) _, ?_, ?_, ?_⟩
    · simp [resV, resL, res1, putE_get, notT, ptr, gc_set hb4l, inBlk_some, valOf]
    all_goals (rw [hr]; exact ⟨by simp, none, rfl, .inl rfl⟩)
  have hB2 := hB
  simp only [numsB, Bool.and_eq_true, decide_eq_true_eq, List.all_eq_true] at hB2
  obtain ⟨⟨hP, hln⟩, hall⟩ := hB2
  have hrun : runOf n (ls, l) nums = runL n l (nums, [], []) := if_pos hB
  have hcnt := progB_cnt hP hsm
  have hst : l.all (stepB ls.length n 3) = true := by
    simp only [progB, Bool.and_eq_true] at hP; exact hP.1.2
  have hls : ls.length ≤ 4 := by
    simp only [progB, Bool.and_eq_true, decide_eq_true_eq] at hP; have := hP.1.1.1; omega
  simp only at hln hcnt
  have rg : ∀ x ∈ nums, 0 ≤ x ∧ x ≤ 9 := fun x hx => inB_iff'.1 (hall x hx)
  simp only [go_sem, binC]
  refine seq_cond (t := false) rfl ?_
  simp only [go_sem, binC]
  refine seq_skip (seq_regD ?_)
  simp only [go_sem, binC, gc_of hb2, inBlk_some]
  have hxl : AgX [] H1 (H1 ++ [⟨[], 1, 3, true, true⟩]) := AgX.app [] _ _
  refine op_app_nums (b := H1.length) (lo0 := H1.length) (by (simp only [go_sem, binC]) <;> rfl) (by simp only [go_sem, binC]) (r3'.mono (agx_sub hxl)) (get_new0 _ _) (by omega) (by omega) (by rw [List.length_append]; omega) fun nv L q1 => ?_
  have on := q1.one
  obtain ⟨na, rfl⟩ := q1.shape
  simp only [go_sem, binC]
  have hx2 : AgX [] H1 (H1 ++ [⟨[], 1, 3, true, true⟩] ++ L) := hxl.tr (AgX.app [] _ _)
  simp only [List.append_assoc, List.cons_append, List.nil_append] at hx2 q1 ⊢
  generalize H1 ++ ⟨[], 1, 3, true, true⟩ :: L = H2 at hx2 q1 ⊢
  have hV : RunV H1 (nums, [], []) 0 H2 (.slice na nums.length nums.length) nilS nilS := ⟨hx2, q1, .inl ⟨rfl, rfl⟩, .inl ⟨rfl, rfl⟩, rg, (fun p hp => by simp at hp), Nat.le_refl _, (show nums.length ≤ 1000 by omega)⟩
  obtain ⟨nv3, wv3, sv3, H3, k3, hV3, hB3⟩ := gdo n H1 H2 H.length 0 (nums, [], []) _ _ _ sv l 3 hx1.1 hV r2' (by show l.all (stepB nums.length n 3) = true; rw [hln]; exact hst) (by omega)
  refine op_callN (by simp only [go_sem, binC]; exact k3) ?_
  have o1 := hV3.n.one
  have o2 := hV3.w.one
  have o3 := hV3.s.one
  have hb43 := hV3.ag.get hb4 (by simp)
  have hb43l := (List.getElem?_eq_some_iff.1 hb43).1
  simp only [go_sem, binC, hb43, o1, o2, o3]
  have hxs : AgX [H.length + 1] H3 (H3.set (H.length + 1) ⟨[nv3, wv3, sv3], 0, 0, false, true⟩) := AgX.set _ _ _
  have hn4 := hV3.n.keep' hxs (fun b _ _ h1 h2 => by simp only [List.mem_singleton] at h2; subst h2; rw [hb43] at h1; simp at h1)
  have hw4 := hV3.w.keep hxs (fun b so _ _ q h => by simp only [List.mem_singleton] at h; subst h; rw [hb43] at q; simp at q)
  have hs4 := hV3.s.keep hxs (fun b so _ _ q h => by simp only [List.mem_singleton] at h; subst h; rw [hb43] at q; simp at q)
  have hsm3 := hV3.sm
  refine wpc_ret ⟨Or.inr rfl, .tuple #[.agg #[nv3, wv3, sv3], .bool true], ?_, nv3, wv3, sv3, by rw [hB], (hx1.tr hV3.ag).setN (by omega) _, ?_, ?_, ?_⟩
  · simp [resV, resL, res1, putE_get, notT, ptr, gc_set hb43l, inBlk_some, valOf]
  · rw [hrun]; exact hn4.slI (fun x hx => by have := hV3.rg x hx; unfold RgI; omega) hV3.ln
  · rw [hrun]; exact hw4.slP (es := 2) (fun p hp => hV3.pr p (.inl hp)) (by omega)
  · rw [hrun]; exact hs4.slP (es := 2) (fun p hp => hV3.pr p (.inr hp)) (by omega)
end Go.Proofs.YtkmghcglmjehcaaI
end
section
/- Rows of bits, and the first two that are the same in some places and of which something is told. -/
set_option linter.unusedVariables false
set_option linter.unusedSimpArgs false
namespace Go.Proofs.YtkmghcglmjehcaaI
open Go Go.RowKit
def rowL (n k : Nat) : List Int := (List.range k).map fun v => ((n / 2 ^ v % 2 : Nat) : Int)
theorem rowL_len (n k : Nat) : (rowL n k).length = k := by simp [rowL]
theorem rowL_get {n k v : Nat} (hv : v < (rowL n k).length) : (rowL n k)[v] = ((n / 2 ^ v % 2 : Nat) : Int) := by simp [rowL]
theorem rowL_rg (n k : Nat) : ∀ x ∈ rowL n k, 0 ≤ x ∧ x ≤ 1 := by
  intro x hx
  simp only [rowL, List.mem_map, List.mem_range] at hx
  obtain ⟨v, _, rfl⟩ := hx
  omega
theorem rowL_succ (n k : Nat) : rowL n (k + 1) = rowL n k ++ [((n / 2 ^ k % 2 : Nat) : Int)] := by simp [rowL, List.range_succ]
/-- The same in some places. -/
def sameR (vs : List Bool) (f s : Nat) : Bool := (List.range vs.length).all fun i => !(vs.getD i false) || decide (f / 2 ^ i % 2 = s / 2 ^ i % 2)
theorem sameR_iff {vs : List Bool} {f s : Nat} : sameR vs f s = true ↔ ∀ i, i < vs.length → vs.getD i false = true → f / 2 ^ i % 2 = s / 2 ^ i % 2 := by
  unfold sameR
  simp only [List.all_eq_true, List.mem_range, Bool.or_eq_true, Bool.not_eq_true', decide_eq_true_eq]
  constructor
  · intro h i hi hv
    rcases h i hi with h | h
    · rw [hv] at h; cases h
    · exact h
  · intro h i hi
    cases hv : vs.getD i false with
    | false => exact .inl rfl
    | true => exact .inr (h i hi hv)
def maskN (vs : List Bool) : Nat → Nat
  | 0 => 0
  | j + 1 => if vs.getD j false = true then maskN vs j ||| 2 ^ j else maskN vs j
theorem maskN_bit (vs : List Bool) (i : Nat) : ∀ j, (maskN vs j).testBit i = (decide (i < j) && vs.getD i false) := by
  intro j
  induction j with
  | zero => simp [maskN]
  | succ j ih =>
    unfold maskN
    by_cases hv : vs.getD j false = true
    · rw [if_pos hv, Nat.testBit_or, ih, Nat.testBit_two_pow]
      by_cases hij : i = j
      · subst hij; rw [hv]; simp
      · rw [decide_eq_false (show ¬ j = i by omega), Bool.or_false]
        congr 1
        rw [Bool.eq_iff_iff, decide_eq_true_eq, decide_eq_true_eq]; omega
    · rw [if_neg hv, ih]
      by_cases hij : i = j
      · subst hij
        rw [Bool.eq_false_iff.2 hv]; simp
      · congr 1
        rw [Bool.eq_iff_iff, decide_eq_true_eq, decide_eq_true_eq]; omega
theorem maskN_lt (vs : List Bool) : ∀ j, maskN vs j < 2 ^ j := by
  intro j
  induction j with
  | zero => simp [maskN]
  | succ j ih =>
    unfold maskN
    have : (2 : Nat) ^ (j + 1) = 2 ^ j * 2 := Nat.pow_succ ..
    split
    · exact Nat.or_lt_two_pow (by omega) (by omega)
    · omega
theorem mask_same {vs : List Bool} {f s : Nat} : (f ^^^ s) &&& maskN vs vs.length = 0 ↔ sameR vs f s = true := by
  rw [sameR_iff]
  constructor
  · intro h i hi hv
    have h1 : ((f ^^^ s) &&& maskN vs vs.length).testBit i = false := by rw [h]; exact Nat.zero_testBit i
    rw [Nat.testBit_and, maskN_bit, decide_eq_true hi, hv, Bool.true_and, Bool.and_true, Nat.testBit_xor, Nat.testBit_eq_decide_div_mod_eq, Nat.testBit_eq_decide_div_mod_eq] at h1
    by_cases h2 : f / 2 ^ i % 2 = 1 <;> by_cases h3 : s / 2 ^ i % 2 = 1 <;> simp [h2, h3] at h1 ⊢ <;> omega
  · intro h
    refine Nat.eq_of_testBit_eq fun i => ?_
    rw [Nat.zero_testBit, Nat.testBit_and, maskN_bit]
    by_cases hi : i < vs.length
    · cases hv : vs.getD i false with
      | false => simp
      | true =>
        have := h i hi hv
        rw [Nat.testBit_xor, Nat.testBit_eq_decide_div_mod_eq, Nat.testBit_eq_decide_div_mod_eq, this]
        simp
    · rw [decide_eq_false hi]; simp
/-- The first two, by the second and then the first. -/
def leakF (ok : Nat → Nat → Bool) : Nat → Option (Nat × Nat)
  | 0 => none
  | i + 1 => match leakF ok i with
    | some r => some r
    | none => ((List.range i).find? fun f => ok f i).map fun f => (f, i)
theorem leakF_keep {ok : Nat → Nat → Bool} {r : Nat × Nat} {i : Nat} (h : leakF ok i = some r) : ∀ m, i ≤ m → leakF ok m = some r := by
  intro m hm
  induction m with
  | zero => have : i = 0 := by omega
            subst this; exact h
  | succ m ih =>
    rcases Nat.eq_or_lt_of_le hm with he | hl
    · rw [← he]; exact h
    · unfold leakF; rw [ih (by omega)]
theorem leakF_step {ok : Nat → Nat → Bool} {i : Nat} (h : leakF ok i = none) (hi : ∀ f, f < i → ok f i = false) : leakF ok (i + 1) = none := by
  unfold leakF
  rw [h]
  have : ((List.range i).find? fun f => ok f i) = none := by
    rw [List.find?_eq_none]
    intro f hf
    rw [hi f (List.mem_range.1 hf)]
    simp
  simp only [this]
  rfl
theorem leakF_hit {ok : Nat → Nat → Bool} {i j : Nat} (h : leakF ok i = none) (hi : ∀ f, f < j → ok f i = false) (hj : ok j i = true) (hji : j < i) : leakF ok (i + 1) = some (j, i) := by
  unfold leakF
  rw [h]
  have : ((List.range i).find? fun f => ok f i) = some j := by
    rw [List.find?_range_eq_some]
    refine ⟨hj, List.mem_range.2 hji, fun f hf => ?_⟩
    rw [hi f hf]; rfl
  simp only [this]
  rfl
end Go.Proofs.YtkmghcglmjehcaaI
end
section
/- Lists that are made by appending, from nil on: their cells, and what their elements are. -/
set_option linter.unusedVariables false
set_option linter.unusedSimpArgs false
namespace Go.Proofs.YtkmghcglmjehcaaI
open Go Go.RowKit
section
variable {α : Type} {V : Vw} {A : Co α} {es et lo : Nat} {H : Heap} {v : Value} {l : List α}
end
end Go.Proofs.YtkmghcglmjehcaaI
end
section
/- Rows of bits; lists that grow; what is told, what is set, and who may know what, or trusts it. -/
set_option linter.unusedVariables false
set_option linter.unusedSimpArgs false
namespace Go.Proofs.YtkmghcglmjehcaaI
open Go Go.RowKit
def lowL (c : Bool) (h : Int) (a : Int × Int) : Bool := hasB (if c then a.1 else a.2) h
def c_each : IFn := ⟨3, 30, [.t 6],
 .seq (.reg none [
    ⟨(some 3), none, .box (.t 0)⟩,
    ⟨(some 6), none, .mov (.c (.slice none 0 0))⟩])
 (.seq (.seq (.reg none [
     ⟨(some 10), none, .load true 2 (.t 3)⟩,
     ⟨(some 11), none, .call .q (.f 54) [(.t 10)]⟩,
     ⟨(some 12), none, .un .not (.t 11)⟩])
  (.cond (.t 12) (.seq (.reg none [
      ⟨(some 6), none, .mov (.c (.slice none 0 0))⟩])
   (.ret)) (.skip)))
 (.seq (.reg none [
    ⟨(some 7), none, .mov (.c (.slice none 0 0))⟩])
 (.seq (.seq (.reg none [
     ⟨(some 13), none, .fad 0 (.t 3)⟩,
     ⟨(some 14), none, .load false 1 (.t 13)⟩,
     ⟨(some 15), none, .len (.t 14)⟩,
     ⟨(some 16), none, .mov (.c (.int .i64 0))⟩])
  (.block 0 (.loop (.seq (.reg none [
       ⟨(some 17), none, .bin .lss (.t 16) (.t 15)⟩])
    (.seq (.cond (.t 17) (.skip) (.exit 0))
    (.seq (.block 1 (.seq (.reg none [
         ⟨(some 18), none, .iad 2 (.t 14) (.t 16)⟩,
         ⟨(some 19), none, .load true 2 (.t 18)⟩,
         ⟨(some 9), none, .new [(.int .i64 0), (.int .i64 0)]⟩,
         ⟨none, none, .store 2 (.t 9) (.t 19)⟩])
      (.reg none [
        ⟨(some 20), none, .mov (.t 7)⟩,
        ⟨(some 21), none, .mov (.t 2)⟩,
        ⟨(some 22), none, .load true 2 (.t 9)⟩,
        ⟨(some 23), none, .call .q (.t 21) [(.t 22)]⟩,
        ⟨(some 24), none, .mov (.t 1)⟩,
        ⟨(some 25), none, .call .q (.f 114) [(.t 23), (.t 24)]⟩,
        ⟨(some 26), none, .lit 1 4 1 [(.bool false)] [(0, 1, (.t 25))]⟩,
        ⟨(some 27), none, .app 1 4 1 false (.t 20) (.t 26)⟩,
        ⟨(some 7), none, .mov (.t 27)⟩])))
    (.reg none [
      ⟨(some 28), none, .bin .add (.t 16) (.c (.int .i64 1))⟩,
      ⟨(some 16), none, .mov (.t 28)⟩])))))))
 (.seq (.reg none [
    ⟨(some 29), none, .mov (.t 7)⟩,
    ⟨(some 6), none, .mov (.t 29)⟩])
 (.ret)))))⟩
def c_iTrustsV : IFn := ⟨2, 8, [.t 4],
 .seq (.reg none [
    ⟨(some 2), none, .box (.t 0)⟩,
    ⟨(some 4), none, .mov (.c (.slice none 0 0))⟩])
 (.seq (.reg none [
    ⟨(some 5), none, .load true 2 (.t 2)⟩,
    ⟨(some 6), none, .mov (.t 1)⟩,
    ⟨(some 7), none, .call .k (.f 93) [(.t 5), (.t 6), (.f 138)]⟩,
    ⟨(some 4), none, .mov (.t 7)⟩])
 (.ret))⟩
def c_tru1 : IFn := ⟨1, 5, [.t 2],
 .seq (.reg none [
    ⟨(some 1), none, .box (.t 0)⟩,
    ⟨(some 2), none, .mov (.c (.int .i64 0))⟩])
 (.seq (.reg none [
    ⟨(some 3), none, .fad 1 (.t 1)⟩,
    ⟨(some 4), none, .load false 1 (.t 3)⟩,
    ⟨(some 2), none, .mov (.t 4)⟩])
 (.ret))⟩
def c_iRunSets : IFn := ⟨2, 34, [.t 4],
 .seq (.reg none [
    ⟨(some 2), none, .box (.t 0)⟩,
    ⟨(some 4), none, .mov (.c (.slice none 0 0))⟩])
 (.seq (.reg none [
    ⟨(some 5), none, .mov (.c (.slice none 0 0))⟩])
 (.seq (.seq (.reg none [
     ⟨(some 8), none, .fad 1 (.t 2)⟩,
     ⟨(some 9), none, .load false 1 (.t 8)⟩,
     ⟨(some 10), none, .len (.t 9)⟩,
     ⟨(some 11), none, .mov (.c (.int .i64 0))⟩])
  (.block 0 (.loop (.seq (.reg none [
       ⟨(some 12), none, .bin .lss (.t 11) (.t 10)⟩])
    (.seq (.cond (.t 12) (.skip) (.exit 0))
    (.seq (.block 1 (.seq (.reg none [
         ⟨(some 13), none, .iad 2 (.t 9) (.t 11)⟩,
         ⟨(some 14), none, .load true 2 (.t 13)⟩,
         ⟨(some 7), none, .new [(.int .i64 0), (.int .i64 0)]⟩,
         ⟨none, none, .store 2 (.t 7) (.t 14)⟩])
      (.seq (.reg none [
         ⟨(some 15), none, .fad 0 (.t 7)⟩,
         ⟨(some 16), none, .load false 1 (.t 15)⟩,
         ⟨(some 17), none, .mov (.t 1)⟩,
         ⟨(some 18), none, .len (.t 17)⟩,
         ⟨(some 19), none, .bin .sub (.t 18) (.c (.int .i64 1))⟩,
         ⟨(some 20), none, .call .q (.f 136) [(.t 16), (.c (.int .i64 0)), (.t 19)]⟩,
         ⟨(some 21), none, .mov (.t 20)⟩,
         ⟨(some 22), (some (21, true)), .mov (.t 1)⟩,
         ⟨(some 23), (some (21, true)), .fad 0 (.t 7)⟩,
         ⟨(some 24), (some (21, true)), .load false 1 (.t 23)⟩,
         ⟨(some 25), (some (21, true)), .iad 1 (.t 22) (.t 24)⟩,
         ⟨(some 26), (some (21, true)), .load false 1 (.t 25)⟩,
         ⟨(some 27), none, .pick (.t 21) (.t 26) (.c (.bool false))⟩])
      (.cond (.t 27) (.reg none [
         ⟨(some 28), none, .mov (.t 5)⟩,
         ⟨(some 29), none, .load true 2 (.t 7)⟩,
         ⟨(some 30), none, .lit 2 113 1 [(.int .i64 0), (.int .i64 0)] [(0, 2, (.t 29))]⟩,
         ⟨(some 31), none, .app 2 113 16 false (.t 28) (.t 30)⟩,
         ⟨(some 5), none, .mov (.t 31)⟩]) (.skip)))))
    (.reg none [
      ⟨(some 32), none, .bin .add (.t 11) (.c (.int .i64 1))⟩,
      ⟨(some 11), none, .mov (.t 32)⟩])))))))
 (.seq (.reg none [
    ⟨(some 33), none, .mov (.t 5)⟩,
    ⟨(some 4), none, .mov (.t 33)⟩])
 (.ret))))⟩
def fb (b : Bool) : List Value := [.bool b]
theorem GLi.slB {es et lo : Nat} {H : Heap} {v : Value} {l : List Bool} (h : GLi fb 1 et lo H v l) (hl : l.length ≤ 1000) : SlR Co.bool (vw 0 H) v l := by
  rcases h with ⟨rfl, rfl⟩ | ⟨b, so, hlo, rfl, _, h⟩
  · exact ⟨by simp, none, rfl, .inl rfl⟩
  · have hfl := flat_len (fl := fb) (w := 1) (fun _ => rfl) l
    refine ⟨by omega, _, rfl, .inr ⟨b, 0, rfl, fun i hi => ⟨fb l[i], ?_, rfl⟩⟩⟩
    unfold rng vw
    rw [if_pos (Nat.zero_le _), h]
    simp only [Option.map_some, Nat.zero_add, show Co.bool.w = 1 from rfl, Nat.mul_one]
    rw [if_pos (by omega)]
    congr 1
    have : l.flatMap fb = (l.take i).flatMap fb ++ (fb l[i] ++ (l.drop (i + 1)).flatMap fb) := by
      conv => lhs; rw [← List.take_append_drop i l, List.drop_eq_getElem_cons hi]
      rw [List.flatMap_append, List.flatMap_cons]
    rw [this]
    have hlt : ((l.take i).flatMap fb).length = i := by rw [flat_len (fl := fb) (w := 1) (fun _ => rfl), List.length_take]; omega
    rw [List.drop_append, List.drop_of_length_le (by omega), hlt, Nat.sub_self, List.nil_append, List.drop_zero]
    rfl
theorem gcBo {H : Heap} {v : Value} {l : List Bool} (h : SlR Co.bool (vw 0 H) v l) {i : Nat} (hi : i < l.length) : ∃ b o, v = .slice (some ⟨b, o, none⟩) l.length l.length ∧ getCells H b (o + i) 1 = some [.bool l[i]] := by
  obtain ⟨_, a, rfl, h2⟩ := h
  rcases h2 with h2 | ⟨b, o, rfl, h2⟩
  · rw [h2] at hi; simp at hi
  · obtain ⟨cs, h3, h4⟩ := h2 i hi
    have h5 := rng_gc h3
    have h6 : cs = [.bool l[i]] := h4
    rw [show Co.bool.w = 1 from rfl, Nat.mul_one, h6] at h5
    exact ⟨b, o, rfl, h5⟩
def EachOk (F : Nat → Option IFn) (f : Nat) : Prop := ∀ (H : Heap) (n : Nat) (lv sv : Value) (ls : List (Int × Int)) (l : List (TStep n)) (h : Int) (g : Nat) (S : Int × Int → Int), 0 ≤ h → h ≤ 2 → (∀ (H : Heap) (a : Int × Int), labB a = true → QC F g [.agg #[.int .i64 a.1, .int .i64 a.2]] H (.int .i64 (S a)) ∧ 0 ≤ S a ∧ S a ≤ 7) → SlR Co.p2 (vw 0 H) lv ls → SlR (Co.step n) (vw 0 H) sv l → (Co.prog n).sm (ls, l) → progB n (ls, l) = true →
  ∃ w H', KC F f [.agg #[lv, sv], .int .i64 h, .func (.func g) #[] #[]] H w H' ∧ AgX [] H H' ∧ SlR Co.bool (vw 0 H') w (ls.map fun a => hasB (S a) h)
theorem each_ok {F : Nat → Option IFn} {f : Nat} (hf : F f = some c_each) (gp : ProgOk F 54) (gh : HasOk F 114) : EachOk F f := by
  intro H n lv sv ls l h g S h0 h2 gS r1 r2 hsm hP
  have hlab := progB_lab hP
  have hl4 : ls.length ≤ 4 := by
    simp only [progB, Bool.and_eq_true, decide_eq_true_eq] at hP; have := hP.1.1.1; omega
  suffices hh : ∃ w H', KC F f [.agg #[lv, sv], .int .i64 h, .func (.func g) #[] #[]] H w H' ∧ (AgX [] H H' ∧ SlR Co.bool (vw 0 H') w (ls.map fun a => hasB (S a) h)) from hh
  have osv : one sv = true := by obtain ⟨_, a, rfl, _⟩ := r2; rfl
  obtain ⟨_, la, rfl, _⟩ := id r1
  refine KC.mk hf rfl ?_
  refine seq_reg ?_
  simp only [go_sem, binC, osv]
  refine wpc_gen fun H1 hH1 => ?_
  have hx1 : AgX [] H H1 := hH1 ▸ AgX.app [] _ _
  have hb : H1[H.length]? = some ⟨[.slice la ls.length ls.length, sv], 0, 0, false, true⟩ := hH1 ▸ get_new0 _ _
  clear hH1
  have hS := agx_sub hx1
  have hl1 := hx1.1
  refine seq_assoc (seq_reg ?_)
  simp only [go_sem, binC, gc_of hb, inBlk_some, osv]
  refine op_callQ (by simp only [go_sem, binC]; exact gp H1 n _ (ls, l) (prog_rd (r1.mono hS) (r2.mono hS)) hsm) ?_
  simp only [go_sem, binC, hP]
  refine seq_cond (t := false) rfl ?_
  simp only [go_sem, binC]
  refine seq_skip (seq_reg ?_)
  simp only [go_sem, binC]
  refine seq_assoc (seq_reg ?_)
  simp only [go_sem, binC, gc_of hb, inBlk_some]
  refine seq_block (wpc_loop ?_)
  suffices hh : ∀ (k i : Nat) (e : Env) (Hc : Heap) (v7 : Value), i + k = ls.length → AgX [] H1 Hc → GLi fb 1 4 H1.length Hc v7 ((ls.take i).map fun a => hasB (S a) h) → e 1 = .int .i64 h → e 2 = .func (.func g) #[] #[] → e 7 = v7 → e 14 = .slice la ls.length ls.length → e 15 = .int .i64 ls.length → e 16 = .int .i64 i → W F H.length _ e Hc _ from
    hh ls.length 0 _ H1 _ (by omega) (AgX.refl _ _) (.inl ⟨rfl, rfl⟩) (by simp only [go_sem, binC]) (by simp only [go_sem, binC]) (by simp only [go_sem, binC]) (by simp only [go_sem, binC]) (by simp only [go_sem, binC]) (by (simp only [go_sem, binC]) <;> rfl)
  intro k
  induction k with
  | zero =>
    intro i e Hc v7 hi hxc q e1 e2 e7 e14 e15 e16
    refine lp_step ?_
    refine seq_reg ?_
    simp only [go_sem, binC, e15, e16]
    refine seq_cond (t := false) (by simp only [go_sem, binC]; rw [decide_eq_false (by omega)]) ?_
    simp only [go_sem, binC]
    refine seq_exit ?_
    simp only [go_sem, binC, thenX_e, out_e, thenX_n]
    refine seq_reg ?_
    simp only [go_sem, binC, e7]
    rw [List.take_of_length_le (by omega)] at q
    exact wpc_ret ⟨Or.inr rfl, _, (by (simp only [go_sem, binC]) <;> rfl), hx1.tr hxc, q.slB (es := 1) (by rw [List.length_map]; omega)⟩
  | succ k ih =>
    intro i e Hc v7 hi hxc q e1 e2 e7 e14 e15 e16
    have hil : i < ls.length := by omega
    obtain ⟨b, o, hv1, hg⟩ := gcP (r1.mono (agx_sub (hx1.tr hxc))) hil
    simp only [Value.slice.injEq, and_true] at hv1
    subst hv1
    have hli := List.all_eq_true.1 hlab _ (List.getElem_mem hil)
    have hw1 : IntKind.i64.wrap ((i : Int) + 1) = ((i + 1 : Nat) : Int) := by rw [wrap_id (by omega) (by omega)]; omega
    have htk : (ls.take i).map (fun a => hasB (S a) h) ++ [hasB (S ls[i]) h] = (ls.take (i + 1)).map fun a => hasB (S a) h := by
      rw [List.take_add_one, List.getElem?_eq_getElem hil, List.map_append]; rfl
    have hlc := hxc.1
    refine lp_step ?_
    refine seq_reg ?_
    simp only [go_sem, binC, e15, e16]
    refine seq_cond (t := true) (by simp only [go_sem, binC]; rw [decide_eq_true (by omega)]) ?_
    simp only [go_sem, binC]
    refine seq_skip (seq_block (seq_reg ?_))
    simp only [go_sem, binC, e14, e16]
    refine ⟨⟨by omega, by omega⟩, ?_⟩
    simp only [go_sem, binC, Int.toNat_natCast, hg]
    refine ⟨by omega, ?_⟩
    refine wpc_gen fun H2 hH2 => ?_
    have hx2 : AgX [] Hc H2 := hH2 ▸ AgX.app [] _ _
    have hb9 : H2[Hc.length]? = some ⟨[.int .i64 ls[i].1, .int .i64 ls[i].2], 0, 0, false, true⟩ := hH2 ▸ get_new0 _ _
    clear hH2
    have q2 := q.keep hx2 (fun _ _ _ _ _ => by simp)
    obtain ⟨gS1, gS2, gS3⟩ := gS H2 ls[i] hli
    have hl2 := hx2.1
    refine wpc_reg ?_
    simp only [go_sem, binC, e2, gc_of hb9, inBlk_some]
    refine op_callQc (g := g) (first := #[]) (cap := #[]) (by simp only [go_sem, binC, e2]) (by simp only [List.nil_append, List.append_nil]; simp only [go_sem, binC]; exact gS1) ?_
    simp only [go_sem, binC, e1]
    refine op_callQ (by simp only [go_sem, binC, e1]; exact gh H2 _ _ gS2 gS3) ?_
    simp only [go_sem, binC]
    refine op_app_fl (fl := fb) (a := hasB (S ls[i]) h) (lo := H1.length) (fun _ => rfl) q2 (by simp only [go_sem, binC, e7]) (by (simp only [go_sem, binC]) <;> rfl) hl1 (by omega) (by rw [List.length_map, List.length_take]; omega) (by omega) fun H3 w3 hx3 q3 => ?_
    rw [htk] at q3
    have hblk := q2.blk
    simp only [go_sem, binC, out_n, thenX_n]
    refine wpc_reg ?_
    simp only [go_sem, binC, e16, hw1]
    simp only [go_sem, binC, thenX_n]
    exact ih (i + 1) _ H3 w3 (by omega) ((hxc.tr hx2).trans hx3 (fun _ h _ => h) (fun b h1 h2 => by have := hblk b h1; omega)) q3 (by simp only [go_sem, binC, e1]) (by simp only [go_sem, binC, e2]) (by simp only [go_sem, binC]) (by simp only [go_sem, binC, e14]) (by simp only [go_sem, binC, e15]) (by simp only [go_sem, binC])
def VarsOk (F : Nat → Option IFn) (f : Nat) (c : Bool) : Prop := ∀ (H : Heap) (n : Nat) (lv sv : Value) (ls : List (Int × Int)) (l : List (TStep n)) (h : Int), 0 ≤ h → h ≤ 2 → SlR Co.p2 (vw 0 H) lv ls → SlR (Co.step n) (vw 0 H) sv l → (Co.prog n).sm (ls, l) → progB n (ls, l) = true →
  ∃ w H', KC F f [.agg #[lv, sv], .int .i64 h] H w H' ∧ AgX [] H H' ∧ SlR Co.bool (vw 0 H') w (ls.map (lowL c h))
theorem tru1_ok {F : Nat → Option IFn} {f : Nat} (hf : F f = some c_tru1) : ∀ (H : Heap) (a : Int × Int), labB a = true → QC F f [.agg #[.int .i64 a.1, .int .i64 a.2]] H (.int .i64 a.2) ∧ 0 ≤ a.2 ∧ a.2 ≤ 7 := by
  rintro H ⟨x, y⟩ ha
  have hb := labB_bd ha
  refine ⟨?_, by first | exact hb.2.1 | exact hb.1.1, by first | exact hb.2.2 | exact hb.1.2⟩
  refine QC.mk hf rfl ?_
  refine seq_reg ?_
  simp only [go_sem, binC]
  refine seq_reg ?_
  simp only [go_sem, binC, inBlk_some]
  exact wpc_ret ⟨Or.inr rfl, _, (by (simp only [go_sem, binC]) <;> rfl), rfl, rfl⟩
theorem iTrustsV_ok {F : Nat → Option IFn} {f : Nat} (hf : F f = some c_iTrustsV) (gc : F 138 = some c_tru1) (ge : EachOk F 93) : VarsOk F f false := by
  intro H n lv sv ls l h h0 h2 r1 r2 hsm hP
  suffices hh : ∃ w H', KC F f [.agg #[lv, sv], .int .i64 h] H w H' ∧ (AgX [] H H' ∧ SlR Co.bool (vw 0 H') w (ls.map (lowL false h))) from hh
  have olv : one lv = true := by obtain ⟨_, a, rfl, _⟩ := r1; rfl
  have osv : one sv = true := by obtain ⟨_, a, rfl, _⟩ := r2; rfl
  refine KC.mk hf rfl ?_
  refine seq_reg ?_
  simp only [go_sem, binC, olv, osv]
  refine wpc_gen fun H1 hH1 => ?_
  have hx1 : AgX [] H H1 := hH1 ▸ AgX.app [] _ _
  have hb : H1[H.length]? = some ⟨[lv, sv], 0, 0, false, true⟩ := hH1 ▸ get_new0 _ _
  clear hH1
  have hS := agx_sub hx1
  refine seq_reg ?_
  simp only [go_sem, binC, gc_of hb, inBlk_some, olv, osv]
  obtain ⟨w, H2, k2, hx2, q2⟩ := ge H1 n lv sv ls l h 138 (fun a => a.2) h0 h2 (tru1_ok gc) (r1.mono hS) (r2.mono hS) hsm hP
  refine op_callK (by simp only [go_sem, binC]; exact k2) ?_
  simp only [go_sem, binC]
  exact wpc_ret ⟨Or.inr rfl, _, (by (simp only [go_sem, binC]) <;> rfl), hx1.tr hx2, q2⟩
def seenW (vs : List Bool) (w : Int × Int) : Bool := inB w.1 0 ((vs.length : Int) - 1) && vs.getD w.1.toNat false
def SetsOk (F : Nat → Option IFn) (f : Nat) : Prop := ∀ (H : Heap) (nv wv sv u : Value) (r : RunS) (vs : List Bool), one nv = true → SlR Co.p2 (vw 0 H) wv r.2.1 → one sv = true → SlR Co.bool (vw 0 H) u vs → r.2.1.length ≤ 1000 → (∀ w ∈ r.2.1, RgI w.1 ∧ RgI w.2) → ∃ z H', KC F f [.agg #[nv, wv, sv], u] H z H' ∧ AgX [] H H' ∧ SlR Co.p2 (vw 0 H') z (r.2.1.filter (seenW vs))
theorem iRunSets_ok {F : Nat → Option IFn} {f : Nat} (hf : F f = some c_iRunSets) (gi : ∀ (H : Heap) (a b c : Int), QC F 136 [.int .i64 a, .int .i64 b, .int .i64 c] H (.bool (inB a b c))) : SetsOk F f := by
  intro H nv wv sv u r vs on hw os hu hl hrg
  suffices hh : ∃ z H', KC F f [.agg #[nv, wv, sv], u] H z H' ∧ (AgX [] H H' ∧ SlR Co.p2 (vw 0 H') z (r.2.1.filter (seenW vs))) from hh
  obtain ⟨_, wa, rfl, _⟩ := id hw
  obtain ⟨hul, ua, rfl, _⟩ := id hu
  generalize r.2.1 = ws at hw hl hrg
  refine KC.mk hf rfl ?_
  refine seq_reg ?_
  simp only [go_sem, binC, on, os]
  refine wpc_gen fun H1 hH1 => ?_
  have hx1 : AgX [] H H1 := hH1 ▸ AgX.app [] _ _
  have hb : H1[H.length]? = some ⟨[nv, .slice wa ws.length ws.length, sv], 0, 0, false, true⟩ := hH1 ▸ get_new0 _ _
  clear hH1
  have hl1 := hx1.1
  refine seq_reg ?_
  simp only [go_sem, binC]
  refine seq_assoc (seq_reg ?_)
  simp only [go_sem, binC, gc_of hb, inBlk_some]
  refine seq_block (wpc_loop ?_)
  suffices hh : ∀ (k i : Nat) (e : Env) (Hc : Heap) (v5 : Value), i + k = ws.length → AgX [] H1 Hc → GLi fp 2 113 H1.length Hc v5 ((ws.take i).filter (seenW vs)) → e 1 = .slice ua vs.length vs.length → e 5 = v5 → e 9 = .slice wa ws.length ws.length → e 10 = .int .i64 ws.length → e 11 = .int .i64 i → W F H.length _ e Hc _ from
    hh ws.length 0 _ H1 _ (by omega) (AgX.refl _ _) (.inl ⟨rfl, rfl⟩) (by simp only [go_sem, binC]) (by simp only [go_sem, binC]) (by simp only [go_sem, binC]) (by simp only [go_sem, binC]) (by (simp only [go_sem, binC]) <;> rfl)
  intro k
  induction k with
  | zero =>
    intro i e Hc v5 hi hxc q e1 e5 e9 e10 e11
    refine lp_step ?_
    refine seq_reg ?_
    simp only [go_sem, binC, e10, e11]
    refine seq_cond (t := false) (by simp only [go_sem, binC]; rw [decide_eq_false (by omega)]) ?_
    simp only [go_sem, binC]
    refine seq_exit ?_
    simp only [go_sem, binC, thenX_e, out_e, thenX_n]
    refine seq_reg ?_
    simp only [go_sem, binC, e5]
    rw [List.take_of_length_le (by omega)] at q
    exact wpc_ret ⟨Or.inr rfl, _, (by (simp only [go_sem, binC]) <;> rfl), hx1.tr hxc, q.slP (es := 2) (fun p hp => hrg p (List.mem_filter.1 hp).1) (Nat.le_trans (List.length_filter_le _ _) hl)⟩
  | succ k ih =>
    intro i e Hc v5 hi hxc q e1 e5 e9 e10 e11
    have hil : i < ws.length := by omega
    obtain ⟨b, o, hv1, hg⟩ := gcP (hw.mono (agx_sub (hx1.tr hxc))) hil
    simp only [Value.slice.injEq, and_true] at hv1
    subst hv1
    have hw1 : IntKind.i64.wrap ((i : Int) + 1) = ((i + 1 : Nat) : Int) := by rw [wrap_id (by omega) (by omega)]; omega
    have htk : (ws.take (i + 1)).filter (seenW vs) = (ws.take i).filter (seenW vs) ++ (if seenW vs ws[i] = true then [ws[i]] else []) := by
      rw [List.take_add_one, List.getElem?_eq_getElem hil, List.filter_append]
      congr 1
      by_cases hs : seenW vs ws[i] = true <;> simp [hs]
    have hlc := hxc.1
    have hw2 : IntKind.i64.wrap ((vs.length : Int) - 1) = (vs.length : Int) - 1 := wrap_id (by omega) (by omega)
    refine lp_step ?_
    refine seq_reg ?_
    simp only [go_sem, binC, e10, e11]
    refine seq_cond (t := true) (by simp only [go_sem, binC]; rw [decide_eq_true (by omega)]) ?_
    simp only [go_sem, binC]
    refine seq_skip (seq_block (seq_reg ?_))
    simp only [go_sem, binC, e9, e11]
    refine ⟨⟨by omega, by omega⟩, ?_⟩
    simp only [go_sem, binC, Int.toNat_natCast, hg]
    refine ⟨by omega, ?_⟩
    refine wpc_gen fun H2 hH2 => ?_
    have hx2 : AgX [] Hc H2 := hH2 ▸ AgX.app [] _ _
    have hb7 : H2[Hc.length]? = some ⟨[.int .i64 ws[i].1, .int .i64 ws[i].2], 0, 0, false, true⟩ := hH2 ▸ get_new0 _ _
    clear hH2
    have q2 := q.keep hx2 (fun _ _ _ _ _ => by simp)
    have hl2 := hx2.1
    have hno : seenW vs ws[i] = false → ∀ e' : Env, e' 1 = .slice ua vs.length vs.length → e' 5 = v5 → e' 9 = .slice (some ⟨b, o, none⟩) ws.length ws.length → e' 10 = .int .i64 ws.length → e' 11 = .int .i64 ((i + 1 : Nat) : Int) → W F H.length _ e' H2 _ := fun hs e' p1 p5 p9 p10 p11 =>
      ih (i + 1) e' H2 v5 (by omega) (hxc.tr hx2) (by rw [htk, hs, if_neg (by simp), List.append_nil]; exact q2) p1 p5 p9 p10 p11
    refine seq_reg ?_
    simp only [go_sem, binC, e1, gc_of hb7, inBlk_some, hw2]
    refine op_callB (by simp only [go_sem, binC]; exact gi _ _ _ _) (fun hin => ?_) (fun hin => ?_)
    rotate_left
    · simp only [go_sem, binC]
      refine wpc_cond (t := false) rfl ?_
      simp only [go_sem, binC]
      refine wpc_skip ?_
      simp only [go_sem, binC, out_n, thenX_n]
      refine wpc_reg ?_
      simp only [go_sem, binC, e11, hw1]
      simp only [go_sem, binC, thenX_n]
      exact hno (by unfold seenW; rw [hin]; rfl) _ (by simp only [go_sem, binC, e1]) (by simp only [go_sem, binC, e5]) (by simp only [go_sem, binC, e9]) (by simp only [go_sem, binC, e10]) (by simp only [go_sem, binC])
    have hin2 := inB_iff.1 hin
    have hvl : ws[i].1.toNat < vs.length := by omega
    obtain ⟨ub, uo, huv, hgu⟩ := gcBo (hu.mono (agx_sub ((hx1.tr hxc).tr hx2))) hvl
    simp only [Value.slice.injEq, and_true] at huv
    subst huv
    simp only [go_sem, binC, e1, gc_of hb7, inBlk_some]
    refine ⟨⟨by omega, by omega⟩, ?_⟩
    simp only [go_sem, binC, Nat.mul_one, hgu]
    have hgd : vs.getD ws[i].1.toNat false = vs[ws[i].1.toNat] := by simp [List.getD, hvl]
    cases hvi : vs[ws[i].1.toNat] with
    | false =>
      refine wpc_cond (t := false) rfl ?_
      simp only [go_sem, binC]
      refine wpc_skip ?_
      simp only [go_sem, binC, out_n, thenX_n]
      refine wpc_reg ?_
      simp only [go_sem, binC, e11, hw1]
      simp only [go_sem, binC, thenX_n]
      exact hno (by unfold seenW; rw [hgd, hvi, Bool.and_false]) _ (by simp only [go_sem, binC, e1]) (by simp only [go_sem, binC, e5]) (by simp only [go_sem, binC, e9]) (by simp only [go_sem, binC, e10]) (by simp only [go_sem, binC])
    | true =>
      have hs : seenW vs ws[i] = true := by unfold seenW; rw [hin, hgd, hvi]; rfl
      rw [hs, if_pos rfl] at htk
      refine wpc_cond (t := true) rfl ?_
      simp only [go_sem, binC]
      refine wpc_reg ?_
      simp only [go_sem, binC, e5, gc_of hb7, inBlk_some]
      refine op_app_fl (fl := fp) (a := ws[i]) (lo := H1.length) (fun _ => rfl) q2 (by simp only [go_sem, binC, e5]) (by (simp only [go_sem, binC]) <;> rfl) hl1 (by omega) (by have := List.length_filter_le (seenW vs) (ws.take i); rw [List.length_take] at this; omega) (by omega) fun H3 w3 hx3 q3 => ?_
      rw [← htk] at q3
      have hblk := q2.blk
      simp only [go_sem, binC, out_n, thenX_n]
      refine wpc_reg ?_
      simp only [go_sem, binC, e11, hw1]
      simp only [go_sem, binC, thenX_n]
      exact ih (i + 1) _ H3 w3 (by omega) ((hxc.tr hx2).trans hx3 (fun _ h _ => h) (fun b h1 h2 => by have := hblk b h1; omega)) q3 (by simp only [go_sem, binC, e1]) (by simp only [go_sem, binC]) (by simp only [go_sem, binC, e9]) (by simp only [go_sem, binC, e10]) (by simp only [go_sem, binC])
def toldL (h : Int) (ss : List (Int × Int)) : List Int := (ss.filter (fun w => decide (w.1 = h))).map (·.2)
def ToldOk (F : Nat → Option IFn) (f : Nat) : Prop := ∀ (H : Heap) (nv wv sv : Value) (r : RunS) (h : Int), one nv = true → one wv = true → SlR Co.p2 (vw 0 H) sv r.2.2 → r.2.2.length ≤ 1000 → (∀ w ∈ r.2.2, RgI w.1 ∧ RgI w.2) → ∃ z H', KC F f [.agg #[nv, wv, sv], .int .i64 h] H z H' ∧ AgX [] H H' ∧ SlR Co.int (vw 0 H') z (toldL h r.2.2)
end Go.Proofs.YtkmghcglmjehcaaI
end
section
/- Sizes of programs with totals, copies of programs in blocks of one's own, marks on programs. -/
set_option linter.unusedVariables false
set_option linter.unusedSimpArgs false
namespace Go.Proofs.YtkmghcglmjehcaaI
open Go Go.RowKit
/-- A size: what is left, and how much was told at most. -/
def SzT (F : Nat → Option IFn) {α : Type} (A : Co α) (agg : Bool) (f : Nat) (t : α → Nat) : Prop :=
  ∀ (H : Heap) (v : Value) (a : α) (left : Int), Rd A agg (vw 0 H) v a → 0 ≤ left → left ≤ 1048576 → ∃ r : Int, QC F f [v, .int .i64 left] H (.int .i64 r) ∧ r ≤ left ∧ (0 ≤ r → A.sm a ∧ ((t a : Nat) : Int) ≤ left - r)
def tT : (n : Nat) → TStep n → Nat
  | 0, s => s.elim
  | n + 1, (_, _, _, _, th, el) => (th.length + (th.map (tT n)).sum) + (el.length + (el.map (tT n)).sum)
def tS (n : Nat) (l : List (TStep n)) : Nat := l.length + (l.map (tT n)).sum
def tP (n : Nat) (p : TProg n) : Nat := p.1.length + tS n p.2
theorem szFlatT_ok {F : Nat → Option IFn} {α : Type} {A : Co α} {f : Nat} (hf : F f = some szFlat) (hs : ∀ a, A.sm a) : SzT F (Co.sl A) false f List.length := by
  rintro H v l left ⟨cs, hc, w, rfl, h0, a, rfl, h2⟩ hl0 hl1
  simp only [go_sem, binC, Option.some.injEq] at hc
  subst hc
  have hw : IntKind.i64.wrap (left - l.length) = left - l.length := wrap_id (by omega) (by omega)
  by_cases hn : left - l.length < 0
  · refine ⟨-1, QC.mk hf rfl ?_, by omega, by omega⟩
    refine seq_reg ?_
    simp only [go_sem, binC]
    refine seq_reg ?_
    simp only [go_sem, binC]
    rw [hw]
    refine seq_assoc (seq_reg ?_)
    simp only [go_sem, binC]
    refine seq_cond (t := true) (by simp only [go_sem, binC]; rw [decide_eq_true hn]) ?_
    simp only [go_sem, binC]
    refine seq_assoc (seq_reg ?_)
    simp only [go_sem, binC]
    refine seq_ret ⟨Or.inr rfl, _, ?_, rfl, rfl⟩
    simp only [go_sem, binC]
  · refine ⟨left - l.length, QC.mk hf rfl ?_, by omega, fun _ => ⟨⟨by omega, fun a _ => hs a⟩, by omega⟩⟩
    refine seq_reg ?_
    simp only [go_sem, binC]
    refine seq_reg ?_
    simp only [go_sem, binC]
    rw [hw]
    refine seq_assoc (seq_reg ?_)
    simp only [go_sem, binC]
    refine seq_cond (t := false) (by simp only [go_sem, binC]; rw [decide_eq_false hn]) ?_
    simp only [go_sem, binC]
    refine seq_skip (seq_reg ?_)
    simp only [go_sem, binC]
    refine wpc_ret ⟨Or.inr rfl, _, ?_, rfl, rfl⟩
    simp only [go_sem, binC]
theorem szNestT_lp {F : Nat → Option IFn} {α : Type} {A : Co α} {g w : Nat} {agg : Bool} {t : α → Nat} (hg : SzT F A agg g t) (hw : A.w = w) (hva : ∀ V cs a, A.rd V cs a → ∃ v, valOf agg cs = some v) {H : Heap} {v : Value} {l : List α} (hv : SlR A (vw 0 H) v l) (hL : l.length ≤ 1048576) :
    ∀ (k i : Nat) (e : Env) (left : Int), i + k = l.length → e 0 = v → e 1 = .int .i64 left → e 5 = .int .i64 i → 0 ≤ left → left ≤ 1048576 →
      W F H.length (.lp (szNestB g w agg)) e H fun x e1 H1 => H1 = H ∧ ((x = .e 0 ∧ ∃ r : Int, e1 1 = .int .i64 r ∧ 0 ≤ r ∧ r ≤ left ∧ (∀ j (h : j < l.length), i ≤ j → A.sm l[j]) ∧ ((((l.drop i).map t).sum : Nat) : Int) ≤ left - r) ∨ (x = .r ∧ e1 4 = .int .i64 (-1))) := by
  obtain ⟨h0, a, rfl, h2⟩ := hv
  intro k
  induction k with
  | zero =>
    intro i e left hi e0 e1 e5 hl0 hl1
    refine lp_step ?_
    refine seq_assoc (seq_reg ?_)
    simp only [go_sem, binC, e0, e1, e5]
    refine seq_cond (t := false) (by simp only [go_sem, binC]; rw [decide_eq_false (by omega)]) ?_
    simp only [go_sem, binC]
    refine seq_exit ⟨rfl, Or.inl ⟨rfl, left, ?_, hl0, by omega, fun j h hj => by omega, by rw [List.drop_of_length_le (by omega)]; simp⟩⟩
    simp only [go_sem, binC, e1]
  | succ k ih =>
    intro i e left hi e0 e1 e5 hl0 hl1
    have hil : i < l.length := by omega
    rcases h2 with h2 | ⟨b, o, rfl, h2⟩
    · rw [h2] at hil; simp at hil
    obtain ⟨cs, h3, h4⟩ := h2 i hil
    obtain ⟨u, hu⟩ := hva _ _ _ h4
    obtain ⟨r, hq, hr1, hr2⟩ := hg H u l[i] left ⟨cs, hu, h4⟩ hl0 hl1
    have h3' := rng_gc h3
    rw [hw] at h3'
    refine lp_step ?_
    refine seq_assoc (seq_reg ?_)
    simp only [go_sem, binC, e0, e1, e5]
    refine seq_cond (t := true) (by simp only [go_sem, binC]; rw [decide_eq_true (by omega)]) ?_
    simp only [go_sem, binC]
    refine seq_skip (seq_block (seq_reg ?_))
    simp only [go_sem, binC, e0, e1, e5, h3', hu]
    refine ⟨by omega, op_callQ (v := .int .i64 r) (by simp only [go_sem, binC, e1]; exact hq) ?_⟩
    simp only [go_sem, binC]
    refine seq_reg ?_
    simp only [go_sem, binC]
    by_cases hn : r < 0
    · refine wpc_cond (t := true) (by simp only [go_sem, binC]; rw [decide_eq_true hn]) ?_
      simp only [go_sem, binC]
      refine seq_reg ?_
      simp only [go_sem, binC]
      refine wpc_ret ⟨rfl, Or.inr ⟨rfl, ?_⟩⟩
      simp only [go_sem, binC]
    · refine wpc_cond (t := false) (by simp only [go_sem, binC]; rw [decide_eq_false hn]) ?_
      simp only [go_sem, binC]
      refine wpc_skip (wpc_reg ?_)
      simp only [go_sem, binC, e5]
      have hw1 : IntKind.i64.wrap ((i : Int) + 1) = ((i + 1 : Nat) : Int) := by rw [wrap_id (by omega) (by omega)]; omega
      rw [hw1]
      refine W_mono (ih (i + 1) _ r (by omega) (by simp only [go_sem, binC, e0]) (by simp only [go_sem, binC]) (by simp only [go_sem, binC]) (by omega) (by omega)) fun x e' H' h5 => ?_
      refine ⟨h5.1, h5.2.imp (fun ⟨hx, r', q1, q2, q3, q4, q5⟩ => ⟨hx, r', q1, q2, by omega, fun j h hj => ?_, ?_⟩) id⟩
      · by_cases hij : j = i
        · subst hij; exact (hr2 (by omega)).1
        · exact q4 j h (by omega)
      · rw [List.drop_eq_getElem_cons hil, List.map_cons, List.sum_cons]
        have := (hr2 (by omega)).2
        omega

theorem szNestT_ok {F : Nat → Option IFn} {α : Type} {A : Co α} {f g w : Nat} {agg : Bool} {t : α → Nat} (hf : F f = some (szNest g w agg)) (hg : SzT F A agg g t) (hw : A.w = w) (hva : ∀ V cs a, A.rd V cs a → ∃ v, valOf agg cs = some v) : SzT F (Co.sl A) false f (fun l => l.length + (l.map t).sum) := by
  rintro H v l left ⟨cs, hc, w', rfl, hv⟩ hl0 hl1
  simp only [go_sem, binC, Option.some.injEq] at hc
  subst hc
  have hv' := hv
  obtain ⟨h0, a, rfl, h2⟩ := hv
  have hwr : IntKind.i64.wrap (left - l.length) = left - l.length := wrap_id (by omega) (by omega)
  by_cases hn : left - l.length < 0
  · refine ⟨-1, QC.mk hf rfl ?_, by omega, by omega⟩
    refine seq_reg ?_
    simp only [go_sem, binC]
    refine seq_reg ?_
    simp only [go_sem, binC]
    rw [hwr]
    refine seq_assoc (seq_reg ?_)
    simp only [go_sem, binC]
    refine seq_cond (t := true) (by simp only [go_sem, binC]; rw [decide_eq_true hn]) ?_
    simp only [go_sem, binC]
    refine seq_assoc (seq_reg ?_)
    simp only [go_sem, binC]
    refine seq_ret ⟨Or.inr rfl, _, ?_, rfl, rfl⟩
    simp only [go_sem, binC]
  · suffices h : ∃ r : Int, wpc F H.length (szNest g w agg).body (ini [.slice a l.length l.length, .int .i64 left]) H (fin [.t 4] fun w' _ => w' = .int .i64 r ∧ scal w' = true) ∧ r ≤ left ∧ (0 ≤ r → (Co.sl A).sm l ∧ (((l.length + (l.map t).sum : Nat)) : Int) ≤ left - r) by
      obtain ⟨r, h, h'⟩ := h
      exact ⟨r, QC.mk hf rfl h, h'⟩
    have key := szNestT_lp hg hw hva hv' (by omega) l.length 0 (putE (putE (putE (putE (putE (putE (putE (putE (putE (ini [.slice a l.length l.length, .int .i64 left]) (some 4) (.int .i64 0)) (some 6) (.int .i64 left)) (some 7) (.slice a l.length l.length)) (some 8) (.int .i64 l.length)) (some 9) (.int .i64 (left - l.length))) (some 1) (.int .i64 (left - l.length))) (some 10) (.int .i64 (left - l.length))) (some 11) (.bool (decide (left - l.length < 0)))) (some 5) (.int .i64 0)) (left - l.length) (by omega) (by simp only [go_sem, binC]) (by simp only [go_sem, binC]) (by simp only [go_sem, binC]; rfl) (by omega) (by omega)
    obtain ⟨x, e1, H1, k1, rfl, k2⟩ := key
    rcases k2 with ⟨rfl, r, k3, k4, k5, k6, k7⟩ | ⟨rfl, k3⟩
    · rw [List.drop_zero] at k7
      refine ⟨r, ?_, by omega, fun _ => ⟨⟨by omega, fun a ha => ?_⟩, by omega⟩⟩
      · refine seq_reg ?_
        simp only [go_sem, binC]
        refine seq_reg ?_
        simp only [go_sem, binC]
        rw [hwr]
        refine seq_assoc (seq_reg ?_)
        simp only [go_sem, binC]
        refine seq_cond (t := false) (by simp only [go_sem, binC]; rw [decide_eq_false hn]) ?_
        simp only [go_sem, binC]
        refine seq_skip (seq_assoc (seq_reg ?_))
        simp only [go_sem, binC]
        refine seq_block (wpc_loop ⟨_, _, _, k1, ?_⟩)
        simp only [go_sem, binC, out_e, thenX_n]
        refine seq_reg ?_
        simp only [go_sem, binC, k3]
        refine wpc_ret ⟨Or.inr rfl, _, ?_, rfl, rfl⟩
        simp only [go_sem, binC]
      · obtain ⟨j, hj, rfl⟩ := List.getElem_of_mem ha
        exact k6 j hj (by omega)
    · refine ⟨-1, ?_, by omega, by omega⟩
      refine seq_reg ?_
      simp only [go_sem, binC]
      refine seq_reg ?_
      simp only [go_sem, binC]
      rw [hwr]
      refine seq_assoc (seq_reg ?_)
      simp only [go_sem, binC]
      refine seq_cond (t := false) (by simp only [go_sem, binC]; rw [decide_eq_false hn]) ?_
      simp only [go_sem, binC]
      refine seq_skip (seq_assoc (seq_reg ?_))
      simp only [go_sem, binC]
      refine seq_block (wpc_loop ⟨_, _, _, k1, ?_⟩)
      simp only [go_sem, binC, out_r, thenX_r]
      refine ⟨Or.inr rfl, _, ?_, rfl, rfl⟩
      simp only [go_sem, binC, k3]
theorem szStepT_ok {n : Nat} {F : Nat → Option IFn} {f : Nat} (hf : F f = some c_szStep) (g4 : SzT F (Co.sl (Co.step n)) false 76 (tS n)) (g5 : SzT F (Co.sl (Co.step n)) false 76 (tS n)) : SzT F (Co.step (n + 1)) true f (tT (n + 1)) := by
  rintro H v ⟨a0, a1, ⟨a2, a3, a4⟩, a5, a6, a7⟩ left ⟨cs, hc, _, _, rfl, ⟨rfl, b0⟩, _, _, rfl, ⟨rfl, b1⟩, _, _, rfl, ⟨_, _, rfl, ⟨rfl, b2⟩, _, _, rfl, ⟨rfl, b3⟩, ⟨rfl, b4⟩⟩, _, _, rfl, ⟨rfl, b5⟩, _, _, rfl, ⟨v6, rfl, r6⟩, ⟨v7, rfl, r7⟩⟩ hl0 hl1
  simp only [go_sem, binC, Option.some.injEq] at hc
  subst hc
  obtain ⟨_, x6⟩ := r6.shape
  subst x6
  obtain ⟨_, x7⟩ := r7.shape
  subst x7
  suffices h : ∃ w, QC F f _ H w ∧ ∃ r : Int, w = .int .i64 r ∧ r ≤ left ∧ (0 ≤ r → (Co.step (n + 1)).sm (a0, a1, (a2, a3, a4), a5, a6, a7) ∧ ((tT (n + 1) (a0, a1, (a2, a3, a4), a5, a6, a7) : Nat) : Int) ≤ left - r) from let ⟨w, h1, r, h2, h3⟩ := h; ⟨r, h2 ▸ h1, h3⟩
  refine QC.mkE hf rfl ?_
  refine seq_reg ?_
  simp only [go_sem, binC]
  refine seq_reg ?_
  simp only [go_sem, binC]
  obtain ⟨z4, k4, y4, m4⟩ := g4 (H ++ _) _ a6 left ⟨_, rfl, ⟨_, rfl, r6.mono (vw_app 0 H _)⟩⟩ (by omega) (by omega)
  refine op_callQ (by simp only [go_sem, binC]; exact k4) ?_
  simp only [go_sem, binC]
  refine seq_assoc (seq_reg ?_)
  simp only [go_sem, binC]
  by_cases n4 : z4 < 0
  · refine seq_cond (t := true) (by simp only [go_sem, binC]; rw [decide_eq_true n4]) ?_
    simp only [go_sem, binC]
    refine seq_assoc (seq_reg ?_)
    simp only [go_sem, binC]
    refine seq_ret ⟨Or.inr rfl, .int .i64 (-1), by simp only [go_sem, binC], ⟨-1, rfl, by omega, by omega⟩, rfl⟩
  refine seq_cond (t := false) (by simp only [go_sem, binC]; rw [decide_eq_false n4]) ?_
  simp only [go_sem, binC]
  refine seq_skip ?_
  refine seq_reg ?_
  simp only [go_sem, binC]
  obtain ⟨z5, k5, y5, m5⟩ := g5 (H ++ _) _ a7 z4 ⟨_, rfl, ⟨_, rfl, r7.mono (vw_app 0 H _)⟩⟩ (by omega) (by omega)
  refine op_callQ (by simp only [go_sem, binC]; exact k5) ?_
  simp only [go_sem, binC]
  refine seq_assoc (seq_reg ?_)
  simp only [go_sem, binC]
  by_cases n5 : z5 < 0
  · refine seq_cond (t := true) (by simp only [go_sem, binC]; rw [decide_eq_true n5]) ?_
    simp only [go_sem, binC]
    refine seq_assoc (seq_reg ?_)
    simp only [go_sem, binC]
    refine seq_ret ⟨Or.inr rfl, .int .i64 (-1), by simp only [go_sem, binC], ⟨-1, rfl, by omega, by omega⟩, rfl⟩
  refine seq_cond (t := false) (by simp only [go_sem, binC]; rw [decide_eq_false n5]) ?_
  simp only [go_sem, binC]
  refine seq_skip ?_
  refine seq_reg ?_
  simp only [go_sem, binC]
  refine wpc_ret ⟨Or.inr rfl, .int .i64 z5, by simp only [go_sem, binC], ⟨_, rfl, by omega, fun _ => ⟨⟨trivial, trivial, ⟨trivial, trivial, trivial⟩, trivial, (m4 (by omega)).1, (m5 (by omega)).1⟩, by have p := (m4 (by omega)).2; have q := (m5 (by omega)).2; simp only [tT, tP, tS] at p q ⊢; omega⟩⟩, rfl⟩
theorem szProgT_ok {n : Nat} {F : Nat → Option IFn} {f : Nat} (hf : F f = some c_szProg) (g0 : SzT F (Co.sl Co.p2) false 75 List.length) (g1 : SzT F (Co.sl (Co.step n)) false 76 (tS n)) : SzT F (Co.prog n) true f (tP n) := by
  rintro H v ⟨a0, a1⟩ left ⟨cs, hc, _, _, rfl, ⟨v0, rfl, r0⟩, ⟨v1, rfl, r1⟩⟩ hl0 hl1
  simp only [go_sem, binC, Option.some.injEq] at hc
  subst hc
  obtain ⟨_, x0⟩ := r0.shape
  subst x0
  obtain ⟨_, x1⟩ := r1.shape
  subst x1
  suffices h : ∃ w, QC F f _ H w ∧ ∃ r : Int, w = .int .i64 r ∧ r ≤ left ∧ (0 ≤ r → (Co.prog n).sm (a0, a1) ∧ ((tP n (a0, a1) : Nat) : Int) ≤ left - r) from let ⟨w, h1, r, h2, h3⟩ := h; ⟨r, h2 ▸ h1, h3⟩
  refine QC.mkE hf rfl ?_
  refine seq_reg ?_
  simp only [go_sem, binC]
  refine seq_reg ?_
  simp only [go_sem, binC]
  obtain ⟨z0, k0, y0, m0⟩ := g0 (H ++ _) _ a0 left ⟨_, rfl, ⟨_, rfl, r0.mono (vw_app 0 H _)⟩⟩ (by omega) (by omega)
  refine op_callQ (by simp only [go_sem, binC]; exact k0) ?_
  simp only [go_sem, binC]
  refine seq_assoc (seq_reg ?_)
  simp only [go_sem, binC]
  by_cases n0 : z0 < 0
  · refine seq_cond (t := true) (by simp only [go_sem, binC]; rw [decide_eq_true n0]) ?_
    simp only [go_sem, binC]
    refine seq_assoc (seq_reg ?_)
    simp only [go_sem, binC]
    refine seq_ret ⟨Or.inr rfl, .int .i64 (-1), by simp only [go_sem, binC], ⟨-1, rfl, by omega, by omega⟩, rfl⟩
  refine seq_cond (t := false) (by simp only [go_sem, binC]; rw [decide_eq_false n0]) ?_
  simp only [go_sem, binC]
  refine seq_skip ?_
  refine seq_reg ?_
  simp only [go_sem, binC]
  obtain ⟨z1, k1, y1, m1⟩ := g1 (H ++ _) _ a1 z0 ⟨_, rfl, ⟨_, rfl, r1.mono (vw_app 0 H _)⟩⟩ (by omega) (by omega)
  refine op_callQ (by simp only [go_sem, binC]; exact k1) ?_
  simp only [go_sem, binC]
  refine seq_assoc (seq_reg ?_)
  simp only [go_sem, binC]
  by_cases n1 : z1 < 0
  · refine seq_cond (t := true) (by simp only [go_sem, binC]; rw [decide_eq_true n1]) ?_
    simp only [go_sem, binC]
    refine seq_assoc (seq_reg ?_)
    simp only [go_sem, binC]
    refine seq_ret ⟨Or.inr rfl, .int .i64 (-1), by simp only [go_sem, binC], ⟨-1, rfl, by omega, by omega⟩, rfl⟩
  refine seq_cond (t := false) (by simp only [go_sem, binC]; rw [decide_eq_false n1]) ?_
  simp only [go_sem, binC]
  refine seq_skip ?_
  refine seq_reg ?_
  simp only [go_sem, binC]
  refine wpc_ret ⟨Or.inr rfl, .int .i64 z1, by simp only [go_sem, binC], ⟨_, rfl, by omega, fun _ => ⟨⟨(m0 (by omega)).1, (m1 (by omega)).1⟩, by have p := (m0 (by omega)).2; have q := (m1 (by omega)).2; simp only [tT, tP, tS] at p q ⊢; omega⟩⟩, rfl⟩
end Go.Proofs.YtkmghcglmjehcaaI
end
section
/- Marks on programs. -/
set_option linter.unusedVariables false
set_option linter.unusedSimpArgs false
namespace Go.Proofs.YtkmghcglmjehcaaI
open Go Go.RowKit
def c_markStepS : IFn := ⟨2, 72, [.t 4],
 .seq (.reg none [
    ⟨(some 4), none, .mov (.c (.int .i64 0))⟩])
 (.seq (.seq (.reg none [
     ⟨(some 5), none, .mov (.c (.int .i64 0))⟩])
  (.block 0 (.loop (.seq (.seq (.reg none [
        ⟨(some 6), none, .mov (.t 5)⟩,
        ⟨(some 7), none, .mov (.t 0)⟩,
        ⟨(some 8), none, .len (.t 7)⟩,
        ⟨(some 9), none, .bin .lss (.t 6) (.t 8)⟩])
     (.cond (.t 9) (.skip) (.exit 0)))
    (.seq (.block 1 (.seq (.reg none [
         ⟨(some 12), none, .mov (.t 0)⟩,
         ⟨(some 13), none, .mov (.t 5)⟩,
         ⟨(some 14), none, .mov (.t 1)⟩,
         ⟨(some 15), none, .iad 8 (.t 12) (.t 13)⟩,
         ⟨(some 16), none, .fad 0 (.t 15)⟩,
         ⟨none, none, .store 1 (.t 16) (.t 14)⟩])
      (.seq (.reg none [
         ⟨(some 17), none, .mov (.t 1)⟩,
         ⟨(some 18), none, .bin .add (.t 17) (.c (.int .i64 1))⟩,
         ⟨(some 1), none, .mov (.t 18)⟩])
      (.seq (.reg none [
         ⟨(some 19), none, .mov (.t 0)⟩,
         ⟨(some 20), none, .mov (.t 5)⟩,
         ⟨(some 21), none, .mov (.t 1)⟩,
         ⟨(some 22), none, .iad 8 (.t 19) (.t 20)⟩,
         ⟨(some 23), none, .fad 1 (.t 22)⟩,
         ⟨none, none, .store 1 (.t 23) (.t 21)⟩])
      (.seq (.reg none [
         ⟨(some 24), none, .mov (.t 1)⟩,
         ⟨(some 25), none, .bin .add (.t 24) (.c (.int .i64 1))⟩,
         ⟨(some 1), none, .mov (.t 25)⟩])
      (.seq (.reg none [
         ⟨(some 26), none, .mov (.t 0)⟩,
         ⟨(some 27), none, .mov (.t 5)⟩,
         ⟨(some 28), none, .mov (.t 1)⟩,
         ⟨(some 29), none, .iad 8 (.t 26) (.t 27)⟩,
         ⟨(some 30), none, .fad 2 (.t 29)⟩,
         ⟨(some 31), none, .fad 0 (.t 30)⟩,
         ⟨none, none, .store 1 (.t 31) (.t 28)⟩])
      (.seq (.reg none [
         ⟨(some 32), none, .mov (.t 1)⟩,
         ⟨(some 33), none, .bin .add (.t 32) (.c (.int .i64 1))⟩,
         ⟨(some 1), none, .mov (.t 33)⟩])
      (.seq (.reg none [
         ⟨(some 34), none, .mov (.t 0)⟩,
         ⟨(some 35), none, .mov (.t 5)⟩,
         ⟨(some 36), none, .mov (.t 1)⟩,
         ⟨(some 37), none, .iad 8 (.t 34) (.t 35)⟩,
         ⟨(some 38), none, .fad 2 (.t 37)⟩,
         ⟨(some 39), none, .fad 1 (.t 38)⟩,
         ⟨none, none, .store 1 (.t 39) (.t 36)⟩])
      (.seq (.reg none [
         ⟨(some 40), none, .mov (.t 1)⟩,
         ⟨(some 41), none, .bin .add (.t 40) (.c (.int .i64 1))⟩,
         ⟨(some 1), none, .mov (.t 41)⟩])
      (.seq (.reg none [
         ⟨(some 42), none, .mov (.t 0)⟩,
         ⟨(some 43), none, .mov (.t 5)⟩,
         ⟨(some 44), none, .mov (.t 1)⟩,
         ⟨(some 45), none, .iad 8 (.t 42) (.t 43)⟩,
         ⟨(some 46), none, .fad 2 (.t 45)⟩,
         ⟨(some 47), none, .fad 2 (.t 46)⟩,
         ⟨none, none, .store 1 (.t 47) (.t 44)⟩])
      (.seq (.reg none [
         ⟨(some 48), none, .mov (.t 1)⟩,
         ⟨(some 49), none, .bin .add (.t 48) (.c (.int .i64 1))⟩,
         ⟨(some 1), none, .mov (.t 49)⟩])
      (.seq (.reg none [
         ⟨(some 50), none, .mov (.t 0)⟩,
         ⟨(some 51), none, .mov (.t 5)⟩,
         ⟨(some 52), none, .mov (.t 1)⟩,
         ⟨(some 53), none, .iad 8 (.t 50) (.t 51)⟩,
         ⟨(some 54), none, .fad 5 (.t 53)⟩,
         ⟨none, none, .store 1 (.t 54) (.t 52)⟩])
      (.seq (.reg none [
         ⟨(some 55), none, .mov (.t 1)⟩,
         ⟨(some 56), none, .bin .add (.t 55) (.c (.int .i64 1))⟩,
         ⟨(some 1), none, .mov (.t 56)⟩])
      (.seq (.reg none [
         ⟨(some 57), none, .mov (.t 0)⟩,
         ⟨(some 58), none, .mov (.t 5)⟩,
         ⟨(some 59), none, .iad 8 (.t 57) (.t 58)⟩,
         ⟨(some 60), none, .fad 6 (.t 59)⟩,
         ⟨(some 61), none, .load false 1 (.t 60)⟩,
         ⟨(some 62), none, .mov (.t 1)⟩,
         ⟨(some 63), none, .call .n (.f 82) [(.t 61), (.t 62)]⟩,
         ⟨(some 1), none, .mov (.t 63)⟩])
      (.reg none [
        ⟨(some 64), none, .mov (.t 0)⟩,
        ⟨(some 65), none, .mov (.t 5)⟩,
        ⟨(some 66), none, .iad 8 (.t 64) (.t 65)⟩,
        ⟨(some 67), none, .fad 7 (.t 66)⟩,
        ⟨(some 68), none, .load false 1 (.t 67)⟩,
        ⟨(some 69), none, .mov (.t 1)⟩,
        ⟨(some 70), none, .call .n (.f 82) [(.t 68), (.t 69)]⟩,
        ⟨(some 1), none, .mov (.t 70)⟩])))))))))))))))
    (.reg none [
      ⟨(some 10), none, .mov (.t 5)⟩,
      ⟨(some 11), none, .bin .add (.t 10) (.c (.int .i64 1))⟩,
      ⟨(some 5), none, .mov (.t 11)⟩]))))))
 (.seq (.reg none [
    ⟨(some 71), none, .mov (.t 1)⟩,
    ⟨(some 4), none, .mov (.t 71)⟩])
 (.ret)))⟩
def c_markProg : IFn := ⟨2, 14, [.t 4],
 .seq (.reg none [
    ⟨(some 2), none, .box (.t 0)⟩,
    ⟨(some 4), none, .mov (.c (.int .i64 0))⟩])
 (.seq (.reg none [
    ⟨(some 5), none, .fad 0 (.t 2)⟩,
    ⟨(some 6), none, .load false 1 (.t 5)⟩,
    ⟨(some 7), none, .mov (.t 1)⟩,
    ⟨(some 8), none, .call .n (.f 81) [(.t 6), (.t 7)]⟩,
    ⟨(some 1), none, .mov (.t 8)⟩])
 (.seq (.reg none [
    ⟨(some 9), none, .fad 1 (.t 2)⟩,
    ⟨(some 10), none, .load false 1 (.t 9)⟩,
    ⟨(some 11), none, .mov (.t 1)⟩,
    ⟨(some 12), none, .call .n (.f 82) [(.t 10), (.t 11)]⟩,
    ⟨(some 1), none, .mov (.t 12)⟩])
 (.seq (.reg none [
    ⟨(some 13), none, .mov (.t 1)⟩,
    ⟨(some 4), none, .mov (.t 13)⟩])
 (.ret))))⟩
def cT : (n : Nat) → TStep n → Nat
  | 0, s => s.elim
  | n + 1, (_, _, _, _, th, el) => 6 + ((th.map (cT n)).sum + (el.map (cT n)).sum)
def cS (n : Nat) (l : List (TStep n)) : Nat := (l.map (cT n)).sum
def nLab (l : List (Int × Int)) : Nat := l.length * 2
def cP (n : Nat) (p : TProg n) : Nat := nLab p.1 + cS n p.2
theorem cS_le : ∀ (n : Nat), (∀ s : TStep n, cT n s ≤ 6 + 6 * tT n s)
  | 0 => fun s => s.elim
  | n + 1 => fun (k, x, v, h, th, el) => by
    have go : ∀ l : List (TStep n), (l.map (cT n)).sum ≤ 6 * (l.length + (l.map (tT n)).sum) := by
      intro l
      induction l with
      | nil => simp
      | cons a l ih =>
        have := cS_le n a
        simp only [List.map_cons, List.sum_cons, List.length_cons]
        omega
    have h1 := go th
    have h2 := go el
    simp only [cT, tT]
    omega
theorem cS_le' {n : Nat} (l : List (TStep n)) : cS n l ≤ 6 * tS n l := by
  unfold cS tS
  induction l with
  | nil => simp
  | cons a l ih =>
    have := cS_le n a
    simp only [List.map_cons, List.sum_cons, List.length_cons]
    omega
theorem cP_le {n : Nat} (p : TProg n) : cP n p ≤ 6 * tP n p := by
  have := cS_le' p.2
  unfold cP tP nLab
  omega
theorem sT : ∀ n, CoSim (Co.step n) (cT n)
  | 0 => fun V V' cs cs' a _ _ h => h.elim
  | n + 1 => by
    have h1 := (sT n).sum
    have hv : CoSim Co.val (fun p : Int × Int × Int => ((), (), ())) := CoSim.pair CoSim.int (CoSim.pair CoSim.int CoSim.int)
    have h2 := (CoSim.pair CoSim.int (CoSim.pair CoSim.int (CoSim.pair hv (CoSim.pair CoSim.int (CoSim.pair h1 h1))))).comp (fun p => 6 + (p.2.2.2.2.1 + p.2.2.2.2.2))
    intro V V' cs cs' a g1 g2 g3
    obtain ⟨a', g4, g5⟩ := h2 V V' cs cs' a g1 g2 g3
    exact ⟨a', g4, g5⟩
theorem sS (n : Nat) : CoSim (Co.sl (Co.step n)) (cS n) := (sT n).sum
theorem sLab : CoSim (Co.sl Co.p2) nLab := (CoSim.pair CoSim.int CoSim.int).len 2
theorem FrI.sl1 {lo hi : Nat} {H H' : Heap} (h : FrI lo hi H H') {b j : Nat} {a : Option Addr} {n c : Nat} (hg : getCells H b j 1 = some [.slice a n c]) : getCells H' b j 1 = some [.slice a n c] := by
  unfold getCells at hg ⊢
  cases hb : H[b]? with
  | none => rw [hb] at hg; cases hg
  | some k =>
    rw [hb] at hg
    simp only at hg
    split at hg
    case isFalse => cases hg
    case isTrue hl =>
    rcases h.2 b (List.getElem?_eq_some_iff.1 hb).1 with h1 | ⟨_, _, k1, k2, h1, h2, _, h3⟩
    · rw [h1, hb]
      simp only
      rw [if_pos hl]
      exact hg
    · rw [hb] at h1
      cases h1
      rw [h2]
      simp only
      rw [h3.1, if_pos hl]
      have e1 : k.cells[j]? = some (.slice a n c) := by
        have := congrArg (fun q => (q.getD []).head?) hg
        simp only [Option.getD_some, List.head?_cons, List.head?_take, List.head?_drop] at this
        simpa using this
      obtain ⟨c', q1, q2⟩ := h3.2 j _ e1
      have q3 : c' = .slice a n c := by
        rcases q2 with q2 | ⟨⟨m, q2⟩, _⟩
        · exact q2
        · cases q2
      subst q3
      obtain ⟨hj, hje⟩ := List.getElem?_eq_some_iff.1 q1
      rw [List.drop_eq_getElem_cons hj, hje]
      rfl
/-- Six numbers of a step written. -/
theorem frI_six {lo hi : Nat} {H : Heap} {b o : Nat} {cs : List Value} {es et : Nat} {ap : Bool} (hb : H[b]? = some ⟨cs, es, et, ap, true⟩) (h1 : lo ≤ b) (h2 : b < hi) (hl : o + 6 ≤ cs.length) (hc : ∀ j, j < 6 → ∃ m, cs[o + j]? = some (.int .i64 m)) {k : Int} (hk : 0 ≤ k) (hkn : k + 6 ≤ 9223372036854775807) : FrI lo hi H (markB H b o k 6) := by
  refine ⟨Nat.le_of_eq (markB_len _ _ _ _ _).symm, fun b' hb' => ?_⟩
  by_cases e : b' = b
  · subst e
    refine .inr ⟨h1, h2, _, _, hb, markB_get hb _ _ _, rfl, setL_length _ _ _, fun i c hi => ?_⟩
    simp only at hi ⊢
    rw [setL_get _ _ _ _ (by rw [seqI_length]; exact hl), seqI_length]
    by_cases hi2 : o ≤ i ∧ i < o + 6
    · rw [if_pos hi2, seqI_at _ _ _ (by omega)]
      obtain ⟨m, hm⟩ := hc (i - o) (by omega)
      rw [show o + (i - o) = i by omega, hi] at hm
      cases hm
      exact ⟨_, rfl, .inr ⟨⟨m, rfl⟩, _, rfl, by omega, by omega⟩⟩
    · rw [if_neg hi2]
      exact ⟨c, hi, .inl rfl⟩
  · exact .inl (markB_ne _ _ _ _ e)
set_option maxHeartbeats 4000000 in
theorem mkSteps_ok {F : Nat → Option IFn} {n : Nat} (hf : F 82 = some c_markStepS) (ihn : MkOk F (Co.sl (Co.step n)) false 82 (cS n)) : MkOk F (Co.sl (Co.step (n + 1))) false 82 (cS (n + 1)) := by
  rintro H v l lo hi lo0 k ⟨cs, hc, u, rfl, hr⟩ hhi hlo hk hkn
  simp only [valOf_one, Option.some.injEq] at hc
  subst hc
  have hr0 := hr
  obtain ⟨hn, a, rfl, ha⟩ := hr
  have hs := sT (n + 1)
  suffices h : ∃ v H', NC F lo0 82 [.slice a l.length l.length, .int .i64 k] H v H' ∧ v = .int .i64 (k + (cS (n + 1) l : Nat)) ∧ FrI lo hi H H' by
    obtain ⟨v, H', h1, rfl, h2⟩ := h
    exact ⟨H', h1, h2⟩
  unfold cS at hkn ⊢
  refine NC.mk hf rfl ?_
  refine seq_reg ?_
  simp only [go_sem, binC]
  refine seq_assoc (seq_reg ?_)
  simp only [go_sem, binC]
  refine seq_block (wpc_loop ?_)
  suffices h : ∀ (j i : Nat) (e : Env) (H' : Heap), i + j = l.length → FrI lo hi H H' → e 0 = .slice a l.length l.length → e 5 = .int .i64 i → e 1 = .int .i64 (k + (((l.map (cT (n + 1))).take i).sum : Nat)) → W F lo0 _ e H' _ from
    h l.length 0 _ _ (by omega) (FrI.refl _ _ _) (by simp only [go_sem, binC]) (by simp only [go_sem, binC]; rfl) (by simp only [go_sem, binC]; simp)
  intro j
  induction j with
  | zero =>
    intro i e H' hi2 hfr e0 e5 e1
    refine lp_step ?_
    refine seq_assoc (seq_reg ?_)
    simp only [go_sem, binC, e0, e5]
    refine seq_cond (t := false) (by simp only [go_sem, binC]; rw [decide_eq_false (by omega)]) ?_
    simp only [go_sem, binC]
    refine seq_exit ?_
    simp only [go_sem, binC, thenX_e, out_e, thenX_n]
    refine seq_reg ?_
    simp only [go_sem, binC, e1]
    obtain rfl : i = l.length := by omega
    refine wpc_ret ⟨Or.inr rfl, _, (by simp only [go_sem, binC]; rfl), ?_, hfr⟩
    rw [List.take_of_length_le (by rw [List.length_map]; omega)]
  | succ j ih =>
    intro i e H' hi2 hfr e0 e5 e1
    have hil : i < l.length := by omega
    have hsum := sum_take (fun x => x) (l.map (cT (n + 1))) i (by rw [List.length_map]; exact hil)
    rw [List.getElem_map] at hsum
    have hle := sum_take_le (l.map (cT (n + 1))) (i + 1)
    obtain ⟨l', hl', hm⟩ := hs.sl _ _ _ _ _ hfr.vsim (CsSim.refl _) (Co.rd_sl.2 hr0)
    obtain ⟨_, a', e6, h7⟩ := Co.rd_sl.1 hl'
    have hll : l'.length = l.length := by have := congrArg List.length hm; simpa using this
    rcases h7 with rfl | ⟨b, o, rfl, h7⟩
    · simp only [List.length_nil] at hll; omega
    obtain ⟨cs, h8, h9⟩ := h7 i (by omega)
    rw [hll] at e6
    simp only [Value.slice.injEq] at e6
    obtain ⟨rfl, _⟩ := e6
    have hci : cT (n + 1) l'[i] = cT (n + 1) l[i] := by
      have := congrArg (fun q => q[i]?) hm
      simp only [List.getElem?_map, List.getElem?_eq_getElem hil, List.getElem?_eq_getElem (show i < l'.length by omega), Option.map_some, Option.some.injEq] at this
      exact this
    rw [← hci] at hsum
    generalize l'[i] = s at h9 hsum
    obtain ⟨c0, c1, ⟨c2, c3, c4⟩, c5, th, el⟩ := s
    obtain ⟨_, _, rfl, ⟨rfl, b0⟩, _, _, rfl, ⟨rfl, b1⟩, _, _, rfl, ⟨_, _, rfl, ⟨rfl, b2⟩, _, _, rfl, ⟨rfl, b3⟩, ⟨rfl, b4⟩⟩, _, _, rfl, ⟨rfl, b5⟩, _, _, rfl, ⟨tv, rfl, r6⟩, ⟨ev, rfl, r7⟩⟩ := h9
    simp only [List.cons_append, List.nil_append] at h8
    obtain ⟨ccs, es, et, ap, hb, hlen, hcut, hlb, hbh⟩ : ∃ ccs es et ap, H'[b]? = some ⟨ccs, es, et, ap, true⟩ ∧ o + i * 8 + 8 ≤ ccs.length ∧ (ccs.drop (o + i * 8)).take 8 = [.int .i64 c0, .int .i64 c1, .int .i64 c2, .int .i64 c3, .int .i64 c4, .int .i64 c5, tv, ev] ∧ lo ≤ b ∧ b < hi := by
      rw [step_w] at h8
      unfold rng at h8
      split at h8
      · rename_i kk hk2
        obtain ⟨g1, g2, es, et, ap, g3⟩ := vwb_some hk2
        split at h8
        · rename_i hl2
          simp only [Option.some.injEq] at h8
          exact ⟨kk, es, et, ap, g3, hl2, h8, g1, g2⟩
        · cases h8
      · cases h8
    clear h8
    have hcj : ∀ j, ccs[o + i * 8 + j]? = if j < 8 then [.int .i64 c0, .int .i64 c1, .int .i64 c2, .int .i64 c3, .int .i64 c4, .int .i64 c5, tv, ev][j]? else ccs[o + i * 8 + j]? := fun j => by
      split
      · rename_i hj
        rw [← hcut, List.getElem?_take_of_lt hj, List.getElem?_drop]
      · rfl
    have hone : ∀ v' : Value, ∀ j, j < 8 → 6 ≤ j → ccs[o + i * 8 + j]? = some v' → ∀ q, getCells (markB H' b (o + i * 8) q 6) b (o + i * 8 + j) 1 = some [v'] := fun v' j h1 h2 h3 q => by
      unfold getCells
      rw [markB_get hb]
      simp only [setL_length]
      rw [if_pos (by omega)]
      have hg : (setL ccs (o + i * 8) (seqI q 6))[o + i * 8 + j]? = some v' := by
        rw [setL_get _ _ _ _ (by rw [seqI_length]; omega), seqI_length, if_neg (by omega)]
        exact h3
      obtain ⟨hj, hje⟩ := List.getElem?_eq_some_iff.1 hg
      rw [List.drop_eq_getElem_cons hj, hje]
      rfl
    obtain ⟨h60, a6, rfl, h62⟩ := r6
    obtain ⟨h70, a7, rfl, h72⟩ := r7
    have hq0 : 0 ≤ k + (((l.map (cT (n + 1))).take i).sum : Nat) := by omega
    have hct : cT (n + 1) (c0, c1, (c2, c3, c4), c5, th, el) = 6 + (cS n th + cS n el) := rfl
    rw [hct] at hsum
    have hqn : (k + (((l.map (cT (n + 1))).take i).sum : Nat)) + (6 + (cS n th + cS n el) : Nat) ≤ 9223372036854775807 := by omega
    have hq2 : k + (((l.map (cT (n + 1))).take (i + 1)).sum : Nat) = (k + (((l.map (cT (n + 1))).take i).sum : Nat)) + (6 + (cS n th + cS n el) : Nat) := by omega
    generalize k + (((l.map (cT (n + 1))).take i).sum : Nat) = q at e1 hq0 hqn hq2
    have hF6 := frI_six hb hlb hbh (o := o + i * 8) (k := q) (by omega) (fun j hj => by
      rw [hcj, if_pos (by omega)]
      have : j = 0 ∨ j = 1 ∨ j = 2 ∨ j = 3 ∨ j = 4 ∨ j = 5 := by omega
      rcases this with rfl | rfl | rfl | rfl | rfl | rfl <;> exact ⟨_, rfl⟩) hq0 (by omega)
    have g6 := hone _ 6 (by omega) (by omega) (by rw [hcj, if_pos (by omega)]; rfl) q
    have g7 := hone _ 7 (by omega) (by omega) (by rw [hcj, if_pos (by omega)]; rfl) q
    have hlen6 : ∀ m, (setL ccs (o + i * 8) (seqI q m)).length = ccs.length := fun m => setL_length _ _ _
    refine lp_step ?_
    refine seq_assoc (seq_reg ?_)
    simp only [go_sem, binC, e0, e5]
    refine seq_cond (t := true) (by simp only [go_sem, binC]; rw [decide_eq_true (by omega)]) ?_
    simp only [go_sem, binC]
    refine seq_skip (seq_block ?_)
    rw [← markB_zero H' b (o + i * 8) q]
    refine seq_reg ?_
    simp only [go_sem, binC, e0, e5, e1, markB_get hb, hlen6]
    refine ⟨⟨by omega, by omega⟩, ⟨by omega, by omega⟩, ?_⟩
    rw [markB_step hb (m := 0) (by omega) (by omega)]
    refine seq_reg ?_
    simp only [go_sem, binC, e1]
    rw [wrap_id (x := q + 1) (by omega) (by omega)]
    refine seq_reg ?_
    simp only [go_sem, binC, e0, e5, e1, markB_get hb, hlen6]
    refine ⟨⟨by omega, by omega⟩, ⟨by omega, by omega⟩, ?_⟩
    rw [markB_step hb (m := 1) (by omega) (by omega)]
    refine seq_reg ?_
    simp only [go_sem, binC, e1]
    rw [wrap_id (x := (q + 1) + 1) (by omega) (by omega)]
    refine seq_reg ?_
    simp only [go_sem, binC, e0, e5, e1, markB_get hb, hlen6]
    refine ⟨⟨by omega, by omega⟩, ⟨by omega, by omega⟩, ?_⟩
    rw [markB_step hb (m := 2) (by omega) (by omega)]
    refine seq_reg ?_
    simp only [go_sem, binC, e1]
    rw [wrap_id (x := ((q + 1) + 1) + 1) (by omega) (by omega)]
    refine seq_reg ?_
    simp only [go_sem, binC, e0, e5, e1, markB_get hb, hlen6]
    refine ⟨⟨by omega, by omega⟩, ⟨by omega, by omega⟩, ?_⟩
    rw [markB_step hb (m := 3) (by omega) (by omega)]
    refine seq_reg ?_
    simp only [go_sem, binC, e1]
    rw [wrap_id (x := (((q + 1) + 1) + 1) + 1) (by omega) (by omega)]
    refine seq_reg ?_
    simp only [go_sem, binC, e0, e5, e1, markB_get hb, hlen6]
    refine ⟨⟨by omega, by omega⟩, ⟨by omega, by omega⟩, ?_⟩
    rw [markB_step hb (m := 4) (by omega) (by omega)]
    refine seq_reg ?_
    simp only [go_sem, binC, e1]
    rw [wrap_id (x := ((((q + 1) + 1) + 1) + 1) + 1) (by omega) (by omega)]
    refine seq_reg ?_
    simp only [go_sem, binC, e0, e5, e1, markB_get hb, hlen6]
    refine ⟨⟨by omega, by omega⟩, ⟨by omega, by omega⟩, ?_⟩
    rw [markB_step hb (m := 5) (by omega) (by omega)]
    refine seq_reg ?_
    simp only [go_sem, binC, e1]
    rw [wrap_id (x := (((((q + 1) + 1) + 1) + 1) + 1) + 1) (by omega) (by omega)]
    obtain ⟨th', ht1, ht2⟩ := sS n _ _ _ _ th hF6.vsim (CsSim.refl [.slice a6 th.length th.length]) ⟨_, rfl, h60, a6, rfl, h62⟩
    obtain ⟨Ha, ka, fa⟩ := ihn _ (.slice a6 th.length th.length) th' lo hi lo0 (q + 6) ⟨_, rfl, ht1⟩ (by have := hfr.1; have := hF6.1; omega) hlo (by omega) (by omega)
    rw [ht2] at ka
    refine seq_reg ?_
    simp only [go_sem, binC, e0, e5, g6]
    refine ⟨⟨by omega, by omega⟩, ?_⟩
    refine op_callN (by simp only [go_sem, binC]; rw [show (((((q + 1) + 1) + 1) + 1) + 1) + 1 = q + 6 by omega]; exact ka) ?_
    simp only [go_sem, binC]
    have hFa := hF6.trans fa
    obtain ⟨el', he1, he2⟩ := sS n _ _ _ _ el hFa.vsim (CsSim.refl [.slice a7 el.length el.length]) ⟨_, rfl, h70, a7, rfl, h72⟩
    obtain ⟨Hb, kb, fb⟩ := ihn _ (.slice a7 el.length el.length) el' lo hi lo0 (q + 6 + (cS n th : Nat)) ⟨_, rfl, he1⟩ (by have := hfr.1; have := hFa.1; omega) hlo (by omega) (by omega)
    rw [he2] at kb
    have g7a := fa.sl1 g7
    refine wpc_reg ?_
    simp only [go_sem, binC, e0, e5, g7a]
    refine ⟨⟨by omega, by omega⟩, ?_⟩
    refine op_callN (by simp only [go_sem, binC]; exact kb) ?_
    simp only [go_sem, binC, out_n, thenX_n]
    have hw1 : IntKind.i64.wrap ((i : Int) + 1) = ((i + 1 : Nat) : Int) := by rw [wrap_id (by omega) (by omega)]; omega
    refine wpc_reg ?_
    simp only [go_sem, binC, e5, hw1]
    simp only [go_sem, binC, thenX_n]
    refine ih (i + 1) _ Hb (by omega) ((hfr.trans hFa).trans fb) (by simp only [go_sem, binC, e0]) (by simp only [go_sem, binC]) (by simp only [go_sem, binC]; rw [hq2]; congr 1; omega)
theorem mkSteps_all {F : Nat → Option IFn} (hf : F 82 = some c_markStepS) : ∀ n, MkOk F (Co.sl (Co.step n)) false 82 (cS n)
  | 0 => by
    rintro H v l lo hi lo0 k ⟨cs, hc, u, rfl, hr⟩ hhi hlo hk hkn
    simp only [valOf_one, Option.some.injEq] at hc
    subst hc
    obtain ⟨hn, a, rfl, ha⟩ := hr
    have h0 : l = [] := by
      cases l with
      | nil => rfl
      | cons s l => exact s.elim
    subst h0
    suffices h : ∃ v H', NC F lo0 82 [.slice a 0 0, .int .i64 k] H v H' ∧ v = .int .i64 k ∧ FrI lo hi H H' by
      obtain ⟨v, H', h1, rfl, h2⟩ := h
      refine ⟨H', ?_, h2⟩
      have e : k + ((cS 0 [] : Nat) : Int) = k := by simp [cS]
      rw [e]
      exact h1
    refine NC.mk hf rfl ?_
    refine seq_reg ?_
    simp only [go_sem, binC]
    refine seq_assoc (seq_reg ?_)
    simp only [go_sem, binC]
    refine seq_block (wpc_loop ?_)
    refine lp_step ?_
    refine seq_assoc (seq_reg ?_)
    simp only [go_sem, binC]
    refine seq_cond (t := false) (by simp only [go_sem, binC]; rfl) ?_
    simp only [go_sem, binC]
    refine seq_exit ?_
    simp only [go_sem, binC, thenX_e, out_e, thenX_n]
    refine seq_reg ?_
    simp only [go_sem, binC]
    exact wpc_ret ⟨Or.inr rfl, _, (by (simp only [go_sem, binC]) <;> rfl), rfl, FrI.refl _ _ _⟩
  | n + 1 => mkSteps_ok hf (mkSteps_all hf n)
end Go.Proofs.YtkmghcglmjehcaaI
end
