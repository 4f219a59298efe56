/- Texts of this proof, merged: E5, E8, F1, F2. -/
import Derived.Test.YtpaoppgbgjnkmaaM9
import Derived.Test.YtpaoppgbgjnkmaaRows
section
/- What comes of a program. -/
set_option linter.unusedVariables false
set_option linter.unusedSimpArgs false
namespace Go.Proofs.YtpaoppgbgjnkmaaI
open Go Go.RowKit
def c_iRunOf : IFn := ⟨2, 20, [.cell true 3 4, .t 5],
 .seq (.reg none [
    ⟨(some 2), none, .box (.t 0)⟩,
    ⟨(some 4), none, .new [(.slice none 0 0), (.slice none 0 0), (.slice none 0 0)]⟩,
    ⟨(some 5), none, .mov (.c (.bool false))⟩])
 (.seq (.seq (.reg none [
     ⟨(some 7), none, .load true 2 (.t 2)⟩,
     ⟨(some 8), none, .mov (.t 1)⟩,
     ⟨(some 9), none, .call .q (.f 13) [(.t 7), (.t 8)]⟩,
     ⟨(some 10), none, .un .not (.t 9)⟩])
  (.cond (.t 10) (.seq (.reg none [
      ⟨(some 11), none, .build [(.slice none 0 0), (.slice none 0 0), (.slice none 0 0)] []⟩,
      ⟨none, none, .store 3 (.t 4) (.t 11)⟩,
      ⟨(some 5), none, .mov (.c (.bool false))⟩])
   (.ret)) (.skip)))
 (.seq (.reg none [
    ⟨(some 12), none, .mov (.t 1)⟩,
    ⟨(some 13), none, .call .k (.f 45) [(.t 12)]⟩,
    ⟨(some 14), none, .build [(.slice none 0 0), (.slice none 0 0), (.slice none 0 0)] [(0, 1, (.t 13))]⟩,
    ⟨(some 6), none, .new [(.slice none 0 0), (.slice none 0 0), (.slice none 0 0)]⟩,
    ⟨none, none, .store 3 (.t 6) (.t 14)⟩])
 (.seq (.reg none [
    ⟨(some 15), none, .fad 1 (.t 2)⟩,
    ⟨(some 16), none, .load false 1 (.t 15)⟩,
    ⟨(some 17), none, .call .n (.f 46) [(.t 6), (.t 16)]⟩])
 (.seq (.reg none [
    ⟨(some 18), none, .load true 3 (.t 6)⟩,
    ⟨(some 19), none, .call .k (.f 47) [(.t 18)]⟩,
    ⟨none, none, .store 3 (.t 4) (.t 19)⟩,
    ⟨(some 5), none, .mov (.c (.bool true))⟩])
 (.ret)))))⟩
theorem sl_ints {H : Heap} {v : Value} {l : List Int} (h : SlR Co.int (vw 0 H) v l) (hl : l ≠ []) : ∃ b o, v = .slice (some ⟨b, o, none⟩) l.length l.length ∧ getCells H b o (l.length * 1) = some (ints l) := by
  obtain ⟨b, o, ys, h1, h2, h3, h4⟩ := sl_cells (w := 1) rfl h hl
  refine ⟨b, o, h1, ?_⟩
  have : ys = ints l := by
    refine List.ext_getElem (by simp [ints]; omega) fun i hi hj => ?_
    have hil : i < l.length := by omega
    obtain ⟨h5, _⟩ := h4 i hil
    have h6 : (ys.drop (i * 1)).head? = some (.int .i64 l[i]) := by
      cases hd : ys.drop (i * 1) with
      | nil => rw [hd] at h5; cases h5
      | cons c r => rw [hd] at h5; simpa using h5
    rw [List.head?_drop, Nat.mul_one, List.getElem?_eq_getElem hi] at h6
    simpa [ints] using h6
  rw [h2, this]
theorem NumV.slV {lo : Nat} {H : Heap} {v : Value} {l : List Int} (h : NumV lo H v l) (hr : ∀ x ∈ l, RgI x) (hl : l.length ≤ 1000) : SlR Co.int (vwl lo [] H) v l := by
  rcases h with ⟨a, rfl, rfl⟩ | ⟨b, h1, rfl, _, h⟩
  · exact ⟨by simp, a, rfl, .inl rfl⟩
  · exact ints_sl (o := 0) h h1 (by simp) hr (Nat.zero_le _) (by omega)
theorem NumV.slI {lo : Nat} {H : Heap} {v : Value} {l : List Int} (h : NumV lo H v l) (hr : ∀ x ∈ l, RgI x) (hl : l.length ≤ 1000) : SlR Co.int (vw 0 H) v l := by
  rcases h with ⟨a, rfl, rfl⟩ | ⟨b, _, rfl, _, h⟩
  · exact ⟨by simp, a, rfl, .inl rfl⟩
  · exact ints_sl0 h hr (by omega)
theorem NumV.shape {lo : Nat} {H : Heap} {v : Value} {l : List Int} (h : NumV lo H v l) : ∃ a, v = .slice a l.length l.length := by
  rcases h with ⟨a, rfl, rfl⟩ | ⟨b, _, rfl, _⟩
  · exact ⟨a, rfl⟩
  · exact ⟨_, rfl⟩
theorem GLi.shape {α : Type} {fl : α → List Value} {es et lo : Nat} {H : Heap} {v : Value} {l : List α} (h : GLi fl es et lo H v l) : ∃ a, v = .slice a l.length l.length := by
  rcases h with ⟨rfl, rfl⟩ | ⟨b, so, _, rfl, _⟩
  · exact ⟨none, rfl⟩
  · exact ⟨_, rfl⟩
theorem NumV.keep {lo : Nat} {H H' : Heap} {v : Value} {l : List Int} {xs : List Nat} (h : NumV lo H v l) (hx : AgX xs H H') (hn : ∀ b, lo ≤ b → v = sli b 0 l.length → b ∉ xs) : NumV lo H' v l := by
  rcases h with h | ⟨b, h1, h2, h3, h4⟩
  · exact .inl h
  · exact .inr ⟨b, h1, h2, h3, hx.get h4 (hn b h1 h2)⟩
theorem GLi.lo_le {α : Type} {fl : α → List Value} {es et lo b : Nat} {H : Heap} {l : List α} (h : GLi fl es et lo H (sli b 0 l.length) l) : lo ≤ b := by
  rcases h with ⟨h, _⟩ | ⟨b', so, h1, h2, _⟩
  · simp [sli, nilS] at h
  · simp [sli] at h2; omega
theorem cloneInts_ok {F : Nat → Option IFn} {f : Nat} (hf : F f = some c_cloneInts) {H : Heap} {v : Value} {l : List Int} (hv : SlR Co.int (vw 0 H) v l) (hl : l.length ≤ 1048576) : ∃ w L, KC F f [v] H w (H ++ L) ∧ NumV H.length (H ++ L) w l := by
  suffices h : ∃ w H', KC F f [v] H w H' ∧ (∃ L, H' = H ++ L ∧ NumV H.length H' w l) by
    obtain ⟨w, _, h1, L, rfl, h2⟩ := h
    exact ⟨w, L, h1, h2⟩
  refine KC.mk hf rfl ?_
  refine seq_reg ?_
  simp only [go_sem, binC]
  refine seq_reg ?_
  simp only [go_sem, binC]
  by_cases h0 : l = []
  · obtain ⟨_, a, rfl, _⟩ := hv
    subst h0
    refine op_app_zero _ _ _ _ _ (by (simp only [go_sem, binC]) <;> rfl) (by (simp only [go_sem, binC]) <;> rfl) ?_
    simp only [go_sem, binC]
    exact wpc_ret ⟨Or.inr rfl, _, (by (simp only [go_sem, binC]) <;> rfl), [], by simp, .inl ⟨_, rfl, rfl⟩⟩
  · obtain ⟨b, o, rfl, hg⟩ := sl_ints hv h0
    have hne : l.length ≠ 0 := fun h => h0 (List.eq_nil_of_length_eq_zero h)
    refine op_app_nil _ _ _ _ _ (by (simp only [go_sem, binC]) <;> rfl) (by (simp only [go_sem, binC]) <;> rfl) hne hg (by omega) (by omega) ?_
    simp only [go_sem, binC]
    exact wpc_ret ⟨Or.inr rfl, _, (by (simp only [go_sem, binC]) <;> rfl), _, rfl, .inr ⟨_, Nat.le_refl _, rfl, h0, get_new0 _ _⟩⟩
theorem op_app_cp {F : Nat → Option IFn} {α : Type} {fl : α → List Value} {es et bytes lo lo0 : Nat} {x y : Opd} {e : Env} {H : Heap} {w : Value} {l : List α} {K : Value → Heap → Prop} (hw : ∀ a, (fl a).length = es) (hv : GLi fl es et lo H w l) (hx : x.ev e = nilS) (hy : y.ev e = w) (hl : l.length ≤ 1000) (hb : bytes ≤ 1048576)
    (k : ∀ w' L, GLi fl es et H.length (H ++ L) w' l → K w' (H ++ L)) : wpOp F lo0 (.app es et bytes false x y) e H K := by
  rcases hv with ⟨rfl, rfl⟩ | ⟨b, so, h1, rfl, h3, h4⟩
  · refine op_app_zero _ _ _ _ _ hx hy ?_
    have := k nilS [] (.inl ⟨rfl, rfl⟩)
    rwa [List.append_nil] at this
  · have hne : l.length ≠ 0 := fun h => h3 (List.eq_nil_of_length_eq_zero h)
    have hbytes : l.length * bytes ≤ 1000 * 1048576 := Nat.mul_le_mul hl hb
    have hfl := flat_len hw l
    have hg : getCells H b 0 (l.length * es) = some (l.flatMap fl) := by
      unfold getCells
      rw [h4]
      simp only [Nat.zero_add]
      rw [if_pos (by omega), List.drop_zero, List.take_of_length_le (by omega)]
    refine op_app_nil _ _ _ _ _ hx hy hne hg (by omega) (by omega) ?_
    exact k _ _ (.inr ⟨_, true, Nat.le_refl _, rfl, h3, get_new0 _ _⟩)
theorem GLi.slPV {es et lo : Nat} {H : Heap} {v : Value} {l : List (Int × Int)} (h : GLi fp 2 et lo H v l) (hr : ∀ p ∈ l, RgI p.1 ∧ RgI p.2) (hl : l.length ≤ 1000) : SlR Co.p2 (vwl lo [] H) v l := by
  rcases h with ⟨rfl, rfl⟩ | ⟨b, so, hlo, rfl, _, h⟩
  · exact ⟨by simp, none, rfl, .inl rfl⟩
  · have hfl := flat_len (fl := fp) (w := 2) (fun _ => rfl) l
    refine ⟨by omega, _, rfl, .inr ⟨b, 0, rfl, fun i hi => ⟨fp l[i], ?_, ⟨[.int .i64 l[i].1], [.int .i64 l[i].2], rfl, ⟨rfl, (hr _ (List.getElem_mem hi)).1⟩, ⟨rfl, (hr _ (List.getElem_mem hi)).2⟩⟩⟩⟩⟩
    unfold rng vwl
    rw [if_pos ⟨hlo, by simp⟩, h]
    simp only [Option.map_some, Nat.zero_add, show Co.p2.w = 2 from rfl]
    rw [if_pos (by omega)]
    congr 1
    have : l.flatMap fp = (l.take i).flatMap fp ++ (fp l[i] ++ (l.drop (i + 1)).flatMap fp) := by
      conv => lhs; rw [← List.take_append_drop i l, List.drop_eq_getElem_cons hi]
      rw [List.flatMap_append, List.flatMap_cons]
    rw [this]
    have hlt : ((l.take i).flatMap fp).length = i * 2 := by rw [flat_len (fl := fp) (w := 2) (fun _ => rfl), List.length_take]; omega
    rw [List.drop_append, List.drop_of_length_le (by omega), hlt, Nat.sub_self, List.nil_append, List.drop_zero]
    rfl
theorem GLi.slP {es et lo : Nat} {H : Heap} {v : Value} {l : List (Int × Int)} (h : GLi fp 2 et lo H v l) (hr : ∀ p ∈ l, RgI p.1 ∧ RgI p.2) (hl : l.length ≤ 1000) : SlR Co.p2 (vw 0 H) v l := (h.slPV (es := 2) hr hl).mono (vwl0 _ _ _)
theorem clone_ok {F : Nat → Option IFn} {f : Nat} (hf : F f = some c_clone) (hci : F 45 = some c_cloneInts) {H : Heap} {nv wv sv : Value} {r : RunS} {lo lo2 lo3 : Nat} (hn : NumV lo H nv r.1) (hw : GLi fp 2 48 lo2 H wv r.2.1) (hs : GLi fp 2 79 lo3 H sv r.2.2) (rg : ∀ x ∈ r.1, 0 ≤ x ∧ x ≤ 9)
    (pr : ∀ p, p ∈ r.2.1 ∨ p ∈ r.2.2 → RgI p.1 ∧ RgI p.2) (l1 : r.1.length ≤ 1000) (l2 : r.2.1.length + r.2.2.length ≤ 1000) : ∃ nv' wv' sv' L, KC F f [.agg #[nv, wv, sv]] H (.agg #[nv', wv', sv']) (H ++ L) ∧ SlR Co.int (vwl H.length [] (H ++ L)) nv' r.1 ∧ SlR Co.p2 (vwl H.length [] (H ++ L)) wv' r.2.1 ∧ SlR Co.p2 (vwl H.length [] (H ++ L)) sv' r.2.2 := by
  suffices h : ∃ v H', KC F f [.agg #[nv, wv, sv]] H v H' ∧ (∃ nv' wv' sv' L, v = .agg #[nv', wv', sv'] ∧ H' = H ++ L ∧ SlR Co.int (vwl H.length [] H') nv' r.1 ∧ SlR Co.p2 (vwl H.length [] H') wv' r.2.1 ∧ SlR Co.p2 (vwl H.length [] H') sv' r.2.2) by
    obtain ⟨_, _, h1, nv', wv', sv', L, rfl, rfl, h2⟩ := h
    exact ⟨nv', wv', sv', L, h1, h2⟩
  refine KC.mk hf rfl ?_
  have on := hn.one
  have ow := hw.one
  have os := hs.one
  have rgI : ∀ x ∈ r.1, RgI x := fun x hx => by have := rg x hx; unfold RgI; omega
  refine seq_reg ?_
  simp only [go_sem, binC, on, ow, os]
  refine wpc_gen fun H1 hH1 => ?_
  have hx1 : AgX [] H H1 := hH1 ▸ AgX.app [] _ _
  have hb1 : H1[H.length]? = some ⟨[nv, wv, sv], 0, 0, false, true⟩ := hH1 ▸ get_new0 _ _
  have hb2 : H1[H.length + 1]? = some ⟨[nilS, nilS, nilS], 0, 0, false, true⟩ := hH1 ▸ get_new _ _ 1
  have hN1 : NumV lo H1 nv r.1 := by
    rcases hn with h2 | ⟨nb, q1, q2, q3, q4⟩
    · exact .inl h2
    · exact .inr ⟨nb, q1, q2, q3, hx1.get q4 (by simp)⟩
  have hW1 := hw.keep hx1 (fun _ _ _ _ _ => by simp)
  have hS1 := hs.keep hx1 (fun _ _ _ _ _ => by simp)
  obtain ⟨L0, hL0⟩ : ∃ L0, H1 = H ++ L0 := ⟨_, hH1⟩
  clear hH1
  refine seq_regD ?_
  simp only [go_sem, binC, gc_of hb1, inBlk_some]
  obtain ⟨nv', L1, k1, q1⟩ := cloneInts_ok hci (hN1.slI rgI l1) (by omega)
  refine op_callK (by simp only [go_sem, binC]; exact k1) ?_
  simp only [go_sem, binC]
  have hx2 : AgX [] H1 (H1 ++ L1) := AgX.app [] _ _
  have hb12 := hx2.get hb1 (by simp)
  simp only [go_sem, binC, gc_of hb12, inBlk_some]
  refine op_app_cp (fl := fp) (fun _ => rfl) (hW1.keep hx2 (fun _ _ _ _ _ => by simp)) (by (simp only [go_sem, binC]) <;> rfl) (by simp only [go_sem, binC]) (by omega) (by omega) fun wv' L2 q2 => ?_
  simp only [go_sem, binC]
  simp only [List.append_assoc] at q2 ⊢
  have hx3 : AgX [] H1 (H1 ++ (L1 ++ L2)) := AgX.app [] _ _
  have hb13 := hx3.get hb1 (by simp)
  simp only [go_sem, binC, gc_of hb13, inBlk_some]
  refine op_app_cp (fl := fp) (fun _ => rfl) (hS1.keep hx3 (fun _ _ _ _ _ => by simp)) (by (simp only [go_sem, binC]) <;> rfl) (by simp only [go_sem, binC]) (by omega) (by omega) fun sv' L3 q3 => ?_
  simp only [List.append_assoc] at q3 ⊢
  have hx4 : AgX [] H1 (H1 ++ (L1 ++ (L2 ++ L3))) := AgX.app [] _ _
  have hb24 := hx4.get hb2 (by simp)
  obtain ⟨na, rfl⟩ := q1.shape
  obtain ⟨wa, rfl⟩ := q2.shape
  obtain ⟨sa, rfl⟩ := q3.shape
  simp only [go_sem, binC, hb24]
  have hb2l := (List.getElem?_eq_some_iff.1 hb2).1
  have hb24l := (List.getElem?_eq_some_iff.1 hb24).1
  have hxs := fun k => AgX.set (H1 ++ (L1 ++ (L2 ++ L3))) (H.length + 1) k
  have e1 : AgX [] (H1 ++ L1) (H1 ++ (L1 ++ (L2 ++ L3))) := by rw [← List.append_assoc]; exact AgX.app [] _ _
  have e2 : AgX [] (H1 ++ (L1 ++ L2)) (H1 ++ (L1 ++ (L2 ++ L3))) := by have := AgX.app [] (H1 ++ (L1 ++ L2)) L3; simpa only [List.append_assoc] using this
  have hLf : ∀ k, ∃ Lf, (H1 ++ (L1 ++ (L2 ++ L3))).set (H.length + 1) k = H ++ Lf := fun k => by
    subst hL0
    rw [List.append_assoc, List.set_append_right _ _ (by omega)]
    exact ⟨_, rfl⟩
  obtain ⟨Lf, hLf'⟩ := hLf ⟨[.slice na r.1.length r.1.length, .slice wa r.2.1.length r.2.1.length, .slice sa r.2.2.length r.2.2.length], 0, 0, false, true⟩
  refine wpc_ret ⟨Or.inr rfl, _, (by (simp only [go_sem, binC, gc_set hb24l]) <;> rfl), _, _, _, Lf, rfl, hLf', ?_, ?_, ?_⟩
  · exact (((q1.keep e1 (fun _ _ _ => by simp)).keep (hxs _) (fun b h _ => by simp; omega)).slV rgI l1).mono (vwl_sub (AgX.refl [] _) hx1.1 (fun b' _ _ h => ⟨by simp, h⟩))
  · exact (((q2.keep e2 (fun _ _ _ _ _ => by simp)).keep (hxs _) (fun b so h _ _ => by have q := (h ▸ q2).lo_le; simp only [List.length_append] at q; simp; omega)).slPV (es := 2) (fun p hp => pr p (.inl hp)) (by omega)).mono (vwl_sub (AgX.refl [] _) (by simp only [List.length_append]; have := hx1.1; omega) (fun b' _ _ h => ⟨by simp, h⟩))
  · exact ((q3.keep (hxs _) (fun b so h _ _ => by have q := (h ▸ q3).lo_le; simp only [List.length_append] at q; simp; omega)).slPV (es := 2) (fun p hp => pr p (.inr hp)) (by omega)).mono (vwl_sub (AgX.refl [] _) (by simp only [List.length_append]; have := hx1.1; omega) (fun b' _ _ h => ⟨by simp, h⟩))
def runOf (n : Nat) (p : TProg n) (nums : List Int) : RunS := if numsB n p nums = true then runL n p.2 (nums, [], []) else ([], [], [])
def RunOk (F : Nat → Option IFn) (f : Nat) : Prop := ∀ (H : Heap) (n : Nat) (lv sv w : Value) (ls : List (Int × Int)) (l : List (TStep n)) (nums : List Int), SlR Co.p2 (vw 0 H) lv ls → SlR (Co.step n) (vw 0 H) sv l → (Co.prog n).sm (ls, l) → SlR Co.int (vw 0 H) w nums → ∃ nv wv tv H', KC F f [.agg #[lv, sv], w] H (.tuple #[.agg #[nv, wv, tv], .bool (numsB n (ls, l) nums)]) H' ∧ AgX [] H H' ∧
  SlR Co.int (vw 0 H') nv (runOf n (ls, l) nums).1 ∧ SlR Co.p2 (vw 0 H') wv (runOf n (ls, l) nums).2.1 ∧ SlR Co.p2 (vw 0 H') tv (runOf n (ls, l) nums).2.2
theorem iRunOf_ok {F : Nat → Option IFn} {f : Nat} (hf : F f = some c_iRunOf) (gn : NumsOk F 13) (hci : F 45 = some c_cloneInts) (gdo : ∀ n, DoOk F 46 n) (hcl : F 47 = some c_clone) : RunOk F f := by
  intro H n lv sv w ls l nums r1 r2 hsm r3
  suffices h : ∃ v H', KC F f [.agg #[lv, sv], w] H v H' ∧ (∃ nv wv tv, v = .tuple #[.agg #[nv, wv, tv], .bool (numsB n (ls, l) nums)] ∧ AgX [] H H' ∧
      SlR Co.int (vw 0 H') nv (runOf n (ls, l) nums).1 ∧ SlR Co.p2 (vw 0 H') wv (runOf n (ls, l) nums).2.1 ∧ SlR Co.p2 (vw 0 H') tv (runOf n (ls, l) nums).2.2) by
    obtain ⟨_, H', h1, nv, wv, tv, rfl, h2⟩ := h
    exact ⟨nv, wv, tv, H', h1, h2⟩
  have olv : one lv = true := by obtain ⟨_, a, rfl, _⟩ := r1; rfl
  have osv : one sv = true := by obtain ⟨_, a, rfl, _⟩ := r2; rfl
  refine KC.mk hf rfl ?_
  refine seq_reg ?_
  simp only [go_sem, binC, olv, osv]
  refine wpc_gen fun H1 hH1 => ?_
  have hx1 : AgX [] H H1 := hH1 ▸ AgX.app [] _ _
  have hb2 : H1[H.length]? = some ⟨[lv, sv], 0, 0, false, true⟩ := hH1 ▸ get_new0 _ _
  have hb4 : H1[H.length + 1]? = some ⟨[nilS, nilS, nilS], 0, 0, false, true⟩ := hH1 ▸ get_new _ _ 1
  clear hH1
  have r1' := r1.mono (agx_sub hx1)
  have r2' := r2.mono (agx_sub hx1)
  have r3' := r3.mono (agx_sub hx1)
  have hb4l := (List.getElem?_eq_some_iff.1 hb4).1
  refine seq_assoc (seq_reg ?_)
  simp only [go_sem, binC, gc_of hb2, inBlk_some, olv, osv]
  refine op_callB (by simp only [go_sem, binC]; exact gn H1 n _ _ _ ls l nums r1' r2' hsm r3') (fun hB => ?_) (fun hB => ?_)
  rotate_left
  · simp only [go_sem, binC]
    refine seq_cond (t := true) rfl ?_
    simp only [go_sem, binC]
    refine seq_assoc (seq_reg ?_)
    simp only [go_sem, binC, hb4]
    have hr : runOf n (ls, l) nums = ([], [], []) := if_neg (by rw [hB]; simp)
    refine seq_ret ⟨Or.inr rfl, .tuple #[.agg #[nilS, nilS, nilS], .bool false], ?_, nilS, nilS, nilS, by rw [hB], hx1.setN (by omega) _, ?_, ?_, ?_⟩
    · simp [resV, resL, res1, putE_get, notT, ptr, gc_set hb4l, inBlk_some, valOf]
    all_goals (rw [hr]; exact ⟨by simp, none, rfl, .inl rfl⟩)
  have hB2 := hB
  simp only [numsB, Bool.and_eq_true, decide_eq_true_eq, List.all_eq_true] at hB2
  obtain ⟨⟨hP, hln⟩, hall⟩ := hB2
  have hrun : runOf n (ls, l) nums = runL n l (nums, [], []) := if_pos hB
  have hcnt := progB_cnt hP hsm
  have hst : l.all (stepB ls.length n 3) = true := by
    simp only [progB, Bool.and_eq_true] at hP; exact hP.1.2
  have hls : ls.length ≤ 4 := by
    simp only [progB, Bool.and_eq_true, decide_eq_true_eq] at hP; have := hP.1.1.1; omega
  simp only at hln hcnt
  have rg : ∀ x ∈ nums, 0 ≤ x ∧ x ≤ 9 := fun x hx => inB_iff'.1 (hall x hx)
  simp only [go_sem, binC]
  refine seq_cond (t := false) rfl ?_
  simp only [go_sem, binC]
  refine seq_skip (seq_reg ?_)
  simp only [go_sem, binC]
  obtain ⟨nv, L1, k1, q1⟩ := cloneInts_ok hci r3' (by omega)
  refine op_callK (by simp only [go_sem, binC]; exact k1) ?_
  obtain ⟨na, rfl⟩ := q1.shape
  simp only [go_sem, binC]
  refine ⟨by omega, ?_⟩
  have hxa : AgX [] H1 (H1 ++ L1) := AgX.app [] _ _
  refine wpc_gen fun H2 hH2 => ?_
  rw [← List.append_assoc] at hH2
  have hx2 : AgX [] (H1 ++ L1) H2 := hH2 ▸ AgX.app [] _ _
  have hb6 : H2[H1.length + L1.length]? = some ⟨[.slice na nums.length nums.length, nilS, nilS], 0, 0, false, true⟩ := by
    rw [hH2, ← List.length_append]; exact get_new0 _ _
  clear hH2
  have hx12 := hxa.tr hx2
  have hR2 : RunI H1 (H1.length + L1.length) (nums, [], []) 0 H2 := by
    exact ⟨hx12, Nat.le_add_right _ _, ⟨_, nilS, nilS, hb6, q1.keep hx2 (fun _ _ _ => by simp), .inl ⟨rfl, rfl⟩, .inl ⟨rfl, rfl⟩⟩, rg, (fun p hp => by simp at hp), Nat.le_refl _, (show nums.length ≤ 1000 by omega)⟩
  have hb22 := hx12.get hb2 (by simp)
  have hb42 := hx12.get hb4 (by simp)
  refine seq_reg ?_
  simp only [go_sem, binC, gc_of hb22, inBlk_some]
  obtain ⟨H3, k3, hR3⟩ := gdo n H1 H2 (H1.length + L1.length) H.length 0 (nums, [], []) sv l 3 hx1.1 hR2 r2' (by rw [hln]; exact hst) (by omega)
  refine op_callN (by simp only [go_sem, binC]; exact k3) ?_
  simp only [go_sem, binC]
  obtain ⟨nv3, wv3, sv3, hbox3, hn3, hw3, hs3⟩ := hR3.ex
  have on3 := hn3.one
  have ow3 := hw3.one
  have os3 := hs3.one
  have hb43 := hR3.ag.get hb4 (by simp)
  refine seq_reg ?_
  simp only [go_sem, binC, gc_of hbox3, inBlk_some, on3, ow3, os3]
  obtain ⟨nv4, wv4, sv4, L4, k4, s1, s2, s3⟩ := clone_ok hcl hci hn3 hw3 hs3 hR3.rg hR3.pr hR3.ln (by have := hR3.sm; omega)
  refine op_callK (by simp only [go_sem, binC]; exact k4) ?_
  obtain ⟨_, na4, rfl, _⟩ := id s1
  obtain ⟨_, wa4, rfl, _⟩ := id s2
  obtain ⟨_, sa4, rfl, _⟩ := id s3
  have hx3a : AgX [] H3 (H3 ++ L4) := AgX.app [] _ _
  have hb44 := hx3a.get hb43 (by simp)
  have hb44l := (List.getElem?_eq_some_iff.1 hb44).1
  simp only [go_sem, binC, hb44]
  have hag4 : AgX [] H (H3 ++ L4) := (hx1.tr hR3.ag).tr hx3a
  have h3l := hR3.ag.1
  have hsb : Sub (vwl H3.length [] (H3 ++ L4)) (vw 0 ((H3 ++ L4).set (H.length + 1) ⟨[.slice na4 (runL n l (nums, [], [])).1.length (runL n l (nums, [], [])).1.length, .slice wa4 (runL n l (nums, [], [])).2.1.length (runL n l (nums, [], [])).2.1.length, .slice sa4 (runL n l (nums, [], [])).2.2.length (runL n l (nums, [], [])).2.2.length], 0, 0, false, true⟩)) := (vwl_sub (AgX.set _ _ _) (Nat.le_refl _) (xs' := []) (fun b' h1 h2 h3 => ⟨by simp; omega, h3⟩)).trans (vwl0 _ _ _)
  refine wpc_ret ⟨Or.inr rfl, .tuple #[.agg #[.slice na4 (runL n l (nums, [], [])).1.length (runL n l (nums, [], [])).1.length, .slice wa4 (runL n l (nums, [], [])).2.1.length (runL n l (nums, [], [])).2.1.length, .slice sa4 (runL n l (nums, [], [])).2.2.length (runL n l (nums, [], [])).2.2.length], .bool true], ?_, _, _, _, by rw [hB], hag4.setN (by omega) _, by rw [hrun]; exact s1.mono hsb, by rw [hrun]; exact s2.mono hsb, by rw [hrun]; exact s3.mono hsb⟩
  simp [resV, resL, res1, putE_get, notT, ptr, gc_set hb44l, inBlk_some, valOf]
end Go.Proofs.YtpaoppgbgjnkmaaI
end
section
/- The law FnRunNums on the ideal machine. -/
set_option linter.unusedVariables false
set_option linter.unusedSimpArgs false
namespace Go.Proofs.YtpaoppgbgjnkmaaI
open Go Go.RowKit
def c_lawRN : IFn := ⟨1, 35, [.t 2],
 .seq (.reg none [
    ⟨(some 2), none, .mov (.c (.bool false))⟩])
 (.seq (.seq (.reg none [
     ⟨(some 8), none, .mov (.t 0)⟩,
     ⟨(some 9), none, .len (.t 8)⟩,
     ⟨(some 10), none, .bin .gtr (.t 9) (.c (.int .i64 1048576))⟩])
  (.cond (.t 10) (.seq (.reg none [
      ⟨(some 2), none, .mov (.c (.bool true))⟩])
   (.ret)) (.skip)))
 (.seq (.reg none [
    ⟨(some 12), none, .mov (.t 0)⟩,
    ⟨(some 13), none, .call .k (.f 12) [(.t 12)]⟩,
    ⟨(some 11), none, .mov (.t 13)⟩,
    ⟨(some 14), none, .ext (.t 11) 0⟩,
    ⟨(some 15), none, .ext (.t 11) 1⟩,
    ⟨(some 3), none, .new [(.slice none 0 0), (.slice none 0 0)]⟩,
    ⟨none, none, .store 2 (.t 3) (.t 14)⟩,
    ⟨(some 4), none, .mov (.t 15)⟩])
 (.seq (.reg none [
    ⟨(some 16), none, .load true 2 (.t 3)⟩,
    ⟨(some 17), none, .mov (.t 4)⟩,
    ⟨(some 18), none, .call .q (.f 13) [(.t 16), (.t 17)]⟩,
    ⟨(some 5), none, .mov (.t 18)⟩])
 (.seq (.reg none [
    ⟨(some 20), none, .load true 2 (.t 3)⟩,
    ⟨(some 21), none, .mov (.t 4)⟩,
    ⟨(some 22), none, .call .k (.f 14) [(.t 20), (.t 21)]⟩,
    ⟨(some 19), none, .mov (.t 22)⟩,
    ⟨(some 23), none, .ext (.t 19) 0⟩,
    ⟨(some 24), none, .ext (.t 19) 1⟩,
    ⟨(some 6), none, .new [(.slice none 0 0), (.slice none 0 0), (.slice none 0 0)]⟩,
    ⟨none, none, .store 3 (.t 6) (.t 23)⟩,
    ⟨(some 7), none, .mov (.t 24)⟩])
 (.seq (.reg none [
    ⟨(some 25), none, .mov (.t 5)⟩,
    ⟨(some 26), none, .load true 2 (.t 3)⟩,
    ⟨(some 27), none, .mov (.t 4)⟩,
    ⟨(some 28), none, .call .q (.f 15) [(.t 26), (.t 27)]⟩,
    ⟨(some 29), none, .beq false (.t 25) (.t 28)⟩,
    ⟨(some 30), none, .mov (.t 29)⟩,
    ⟨(some 31), (some (30, true)), .mov (.t 7)⟩,
    ⟨(some 32), (some (30, true)), .mov (.t 5)⟩,
    ⟨(some 33), (some (30, true)), .beq false (.t 31) (.t 32)⟩,
    ⟨(some 34), none, .pick (.t 30) (.t 33) (.c (.bool false))⟩,
    ⟨(some 2), none, .mov (.t 34)⟩])
 (.ret))))))⟩
def LawB (F : Nat → Option IFn) (f : Nat) : Prop := ∀ (H : Heap) (v : Value) (code : List Int), SlR Co.byte (vw 0 H) v code → QC F f [v] H (.bool true)
theorem lawRN_ok {F : Nat → Option IFn} {f : Nat} (hf : F f = some c_lawRN) (gd : DrawNumsOk F 12) (gi : NumsOk F 13) (gr : RunOk F 14) (gs : NumsOk F 15) : LawB F f := by
  intro H v code hv
  have hv0 := hv
  obtain ⟨h0, a, rfl, _⟩ := hv
  refine QC.mk hf rfl ?_
  refine seq_reg ?_
  simp only [go_sem, binC]
  refine seq_assoc (seq_reg ?_)
  simp only [go_sem, binC]
  by_cases hbig : 1048576 < (code.length : Int)
  · refine seq_cond (t := true) (by simp only [go_sem, binC]; rw [decide_eq_true hbig]) ?_
    simp only [go_sem, binC]
    refine seq_assoc (seq_reg ?_)
    simp only [go_sem, binC]
    exact seq_ret ⟨Or.inr rfl, .bool true, by simp only [go_sem, binC], rfl, rfl⟩
  refine seq_cond (t := false) (by simp only [go_sem, binC]; rw [decide_eq_false hbig]) ?_
  simp only [go_sem, binC]
  refine seq_skip (seq_reg ?_)
  simp only [go_sem, binC]
  obtain ⟨d, lv, sv, nv, ls, l, nums, H1, k, hx, r1, r2, r3, r4⟩ := gd H _ code hv0
  have hl1 := hx.1
  have olv : one lv = true := by obtain ⟨_, a, rfl, _⟩ := r1; rfl
  have osv : one sv = true := by obtain ⟨_, a, rfl, _⟩ := r2; rfl
  refine op_callK (by simp only [go_sem, binC]; exact k) ?_
  simp only [go_sem, binC, olv, osv]
  refine ⟨by omega, ?_⟩
  refine wpc_gen fun H2 hH2 => ?_
  have hb : H2[H1.length]? = some ⟨[lv, sv], 0, 0, false, true⟩ := hH2 ▸ get_new0 _ _
  have hS : Sub (vw 0 H1) (vw 0 H2) := hH2 ▸ vw_app 0 H1 _
  have hl2 : H2.length = H1.length + 1 := by rw [hH2, List.length_append]; rfl
  replace r1 := r1.mono hS
  replace r2 := r2.mono hS
  replace r4 := r4.mono hS
  clear hH2 hS
  refine seq_reg ?_
  simp only [go_sem, binC, gc_of hb, inBlk_some, osv]
  refine op_callQ (by simp only [go_sem, binC]; exact gi H2 d _ _ _ ls l nums r1 r2 r3 r4) ?_
  simp only [go_sem, binC]
  refine seq_reg ?_
  simp only [go_sem, binC, gc_of hb, inBlk_some, osv]
  obtain ⟨nv3, wv3, tv3, H3, k3, hx3, s1, s2, s3⟩ := gr H2 d _ _ _ ls l nums r1 r2 r3 r4
  have o1 : one nv3 = true := by obtain ⟨_, a, rfl, _⟩ := s1; rfl
  have o2 : one wv3 = true := by obtain ⟨_, a, rfl, _⟩ := s2; rfl
  have o3 : one tv3 = true := by obtain ⟨_, a, rfl, _⟩ := s3; rfl
  have hl3 := hx3.1
  refine op_callK (by simp only [go_sem, binC]; exact k3) ?_
  simp only [go_sem, binC, o1, o2, o3]
  refine ⟨by omega, ?_⟩
  refine wpc_gen fun H4 hH4 => ?_
  have hx4 : AgX [] H2 H4 := hH4 ▸ hx3.appN _
  have hb4 := hx4.get hb (by simp)
  have hS4 := agx_sub hx4
  clear hH4
  refine seq_reg ?_
  simp only [go_sem, binC, gc_of hb4, inBlk_some, osv]
  refine op_callQ (by simp only [go_sem, binC]; exact gs H4 d _ _ _ ls l nums (r1.mono hS4) (r2.mono hS4) r3 (r4.mono hS4)) ?_
  cases numsB d (ls, l) nums with
  | true =>
    simp only [go_sem, binC, beq_self_eq_true]
    exact wpc_ret ⟨Or.inr rfl, .bool true, by simp only [go_sem, binC], rfl, rfl⟩
  | false =>
    simp only [go_sem, binC, beq_self_eq_true]
    exact wpc_ret ⟨Or.inr rfl, .bool true, by simp only [go_sem, binC], rfl, rfl⟩
end Go.Proofs.YtpaoppgbgjnkmaaI
end
section
/- The functions that the law FnRunNums reaches, as ideal functions. -/
set_option linter.unusedVariables false
set_option linter.unusedSimpArgs false
namespace Go.Proofs.YtpaoppgbgjnkmaaI
open Go Go.RowKit
def fnOf : Nat → Option IFn
  | 3 => some (c_lawRN)
  | 12 => some (c_drNumsOk)
  | 13 => some (c_iNums)
  | 14 => some (c_iRunOf)
  | 15 => some (c_sNums)
  | 20 => some (c_sProg)
  | 40 => some (c_l6Open)
  | 41 => some (c_drAny)
  | 42 => some (c_drNums)
  | 43 => some (c_iNum)
  | 44 => some (c_iProg)
  | 45 => some (c_cloneInts)
  | 46 => some (c_do)
  | 47 => some (c_clone)
  | 48 => some (c_sIn)
  | 50 => some (c_sLabelOk)
  | 51 => some (c_sSteps)
  | 52 => some (c_sCount)
  | 53 => some (c_iSize)
  | 69 => some (c_sWhy)
  | 72 => some (c_iIn)
  | 74 => some (c_drProg)
  | 75 => some (c_pick)
  | 76 => some (c_drFine)
  | 77 => some (c_drBent)
  | 78 => some (c_con)
  | 79 => some (c_p1)
  | 80 => some (c_iLabelOk)
  | 81 => some (c_iSteps)
  | 82 => some (c_vars)
  | 83 => some (c_set)
  | 84 => some (c_of)
  | 86 => some (c_sSet)
  | 87 => some (c_sStep)
  | 95 => some (c_sAllSteps)
  | 96 => some (c_sTypeAt)
  | 97 => some (c_sFine)
  | 99 => some (c_drLabel)
  | 100 => some (c_drSteps)
  | 101 => some (c_sWithout)
  | 102 => some (c_sCopy)
  | 103 => some (c_idx)
  | 104 => some (c_iSet)
  | 105 => some (c_iVar)
  | 106 => some (c_iVal)
  | 107 => some (c_iHost)
  | 108 => some (c_sAll)
  | 109 => some (c_sVar)
  | 110 => some (c_sVal)
  | 113 => some (c_sAt)
  | 114 => some (c_sAny)
  | 115 => some (c_sFlows)
  | 116 => some (c_sLBoth)
  | 117 => some (c_sValL)
  | 118 => some (c_sHas)
  | 119 => some (c_sBoth)
  | 120 => some (c_drVal)
  | 121 => some (c_sWithin)
  | _ => none
def cmOf (f : Nat) : CM := ⟨fun g => if [3, 13, 15, 20, 43, 44, 48, 50, 51, 52, 53, 69, 72, 78, 79, 80, 81, 84, 86, 87, 97, 103, 104, 105, 106, 107, 108, 109, 110, 114, 115, 116, 117, 118, 119, 121].contains g then .q else if [40, 41, 42, 46, 74, 75, 76, 77, 83, 99, 100, 113, 120].contains g then .n else .k, if [40, 41, 42, 46, 74, 75, 76, 77, 83, 99, 100, 113, 120].contains f then .n else .q, [42].contains f⟩
theorem hF3 : cFn Try.prog cmOf 3 = some (c_lawRN) := by kernel_rfl
theorem hF12 : cFn Try.prog cmOf 12 = some (c_drNumsOk) := by kernel_rfl
theorem hF13 : cFn Try.prog cmOf 13 = some (c_iNums) := by kernel_rfl
theorem hF14 : cFn Try.prog cmOf 14 = some (c_iRunOf) := by kernel_rfl
theorem hF15 : cFn Try.prog cmOf 15 = some (c_sNums) := by kernel_rfl
theorem hF20 : cFn Try.prog cmOf 20 = some (c_sProg) := by kernel_rfl
theorem hF40 : cFn Try.prog cmOf 40 = some (c_l6Open) := by kernel_rfl
theorem hF41 : cFn Try.prog cmOf 41 = some (c_drAny) := by kernel_rfl
theorem hF42 : cFn Try.prog cmOf 42 = some (c_drNums) := by kernel_rfl
theorem hF43 : cFn Try.prog cmOf 43 = some (c_iNum) := by kernel_rfl
theorem hF44 : cFn Try.prog cmOf 44 = some (c_iProg) := by kernel_rfl
theorem hF45 : cFn Try.prog cmOf 45 = some (c_cloneInts) := by kernel_rfl
theorem hF46 : cFn Try.prog cmOf 46 = some (c_do) := by kernel_rfl
theorem hF47 : cFn Try.prog cmOf 47 = some (c_clone) := by kernel_rfl
theorem hF48 : cFn Try.prog cmOf 48 = some (c_sIn) := by kernel_rfl
theorem hF50 : cFn Try.prog cmOf 50 = some (c_sLabelOk) := by kernel_rfl
theorem hF51 : cFn Try.prog cmOf 51 = some (c_sSteps) := by kernel_rfl
theorem hF52 : cFn Try.prog cmOf 52 = some (c_sCount) := by kernel_rfl
theorem hF53 : cFn Try.prog cmOf 53 = some (c_iSize) := by kernel_rfl
theorem hF69 : cFn Try.prog cmOf 69 = some (c_sWhy) := by kernel_rfl
theorem hF72 : cFn Try.prog cmOf 72 = some (c_iIn) := by kernel_rfl
theorem hF74 : cFn Try.prog cmOf 74 = some (c_drProg) := by kernel_rfl
theorem hF75 : cFn Try.prog cmOf 75 = some (c_pick) := by kernel_rfl
theorem hF76 : cFn Try.prog cmOf 76 = some (c_drFine) := by kernel_rfl
theorem hF77 : cFn Try.prog cmOf 77 = some (c_drBent) := by kernel_rfl
theorem hF78 : cFn Try.prog cmOf 78 = some (c_con) := by kernel_rfl
theorem hF79 : cFn Try.prog cmOf 79 = some (c_p1) := by kernel_rfl
theorem hF80 : cFn Try.prog cmOf 80 = some (c_iLabelOk) := by kernel_rfl
theorem hF81 : cFn Try.prog cmOf 81 = some (c_iSteps) := by kernel_rfl
theorem hF82 : cFn Try.prog cmOf 82 = some (c_vars) := by kernel_rfl
theorem hF83 : cFn Try.prog cmOf 83 = some (c_set) := by kernel_rfl
theorem hF84 : cFn Try.prog cmOf 84 = some (c_of) := by kernel_rfl
theorem hF86 : cFn Try.prog cmOf 86 = some (c_sSet) := by kernel_rfl
theorem hF87 : cFn Try.prog cmOf 87 = some (c_sStep) := by kernel_rfl
theorem hF95 : cFn Try.prog cmOf 95 = some (c_sAllSteps) := by kernel_rfl
theorem hF96 : cFn Try.prog cmOf 96 = some (c_sTypeAt) := by kernel_rfl
theorem hF97 : cFn Try.prog cmOf 97 = some (c_sFine) := by kernel_rfl
theorem hF99 : cFn Try.prog cmOf 99 = some (c_drLabel) := by kernel_rfl
theorem hF100 : cFn Try.prog cmOf 100 = some (c_drSteps) := by kernel_rfl
theorem hF101 : cFn Try.prog cmOf 101 = some (c_sWithout) := by kernel_rfl
theorem hF102 : cFn Try.prog cmOf 102 = some (c_sCopy) := by kernel_rfl
theorem hF103 : cFn Try.prog cmOf 103 = some (c_idx) := by kernel_rfl
theorem hF104 : cFn Try.prog cmOf 104 = some (c_iSet) := by kernel_rfl
theorem hF105 : cFn Try.prog cmOf 105 = some (c_iVar) := by kernel_rfl
theorem hF106 : cFn Try.prog cmOf 106 = some (c_iVal) := by kernel_rfl
theorem hF107 : cFn Try.prog cmOf 107 = some (c_iHost) := by kernel_rfl
theorem hF108 : cFn Try.prog cmOf 108 = some (c_sAll) := by kernel_rfl
theorem hF109 : cFn Try.prog cmOf 109 = some (c_sVar) := by kernel_rfl
theorem hF110 : cFn Try.prog cmOf 110 = some (c_sVal) := by kernel_rfl
theorem hF113 : cFn Try.prog cmOf 113 = some (c_sAt) := by kernel_rfl
theorem hF114 : cFn Try.prog cmOf 114 = some (c_sAny) := by kernel_rfl
theorem hF115 : cFn Try.prog cmOf 115 = some (c_sFlows) := by kernel_rfl
theorem hF116 : cFn Try.prog cmOf 116 = some (c_sLBoth) := by kernel_rfl
theorem hF117 : cFn Try.prog cmOf 117 = some (c_sValL) := by kernel_rfl
theorem hF118 : cFn Try.prog cmOf 118 = some (c_sHas) := by kernel_rfl
theorem hF119 : cFn Try.prog cmOf 119 = some (c_sBoth) := by kernel_rfl
theorem hF120 : cFn Try.prog cmOf 120 = some (c_drVal) := by kernel_rfl
theorem hF121 : cFn Try.prog cmOf 121 = some (c_sWithin) := by kernel_rfl
theorem hF (g : Nat) (fn : IFn) (h : fnOf g = some fn) : cFn Try.prog cmOf g = some fn := by
  unfold fnOf at h
  split at h
  · rw [← h]; exact hF3
  · rw [← h]; exact hF12
  · rw [← h]; exact hF13
  · rw [← h]; exact hF14
  · rw [← h]; exact hF15
  · rw [← h]; exact hF20
  · rw [← h]; exact hF40
  · rw [← h]; exact hF41
  · rw [← h]; exact hF42
  · rw [← h]; exact hF43
  · rw [← h]; exact hF44
  · rw [← h]; exact hF45
  · rw [← h]; exact hF46
  · rw [← h]; exact hF47
  · rw [← h]; exact hF48
  · rw [← h]; exact hF50
  · rw [← h]; exact hF51
  · rw [← h]; exact hF52
  · rw [← h]; exact hF53
  · rw [← h]; exact hF69
  · rw [← h]; exact hF72
  · rw [← h]; exact hF74
  · rw [← h]; exact hF75
  · rw [← h]; exact hF76
  · rw [← h]; exact hF77
  · rw [← h]; exact hF78
  · rw [← h]; exact hF79
  · rw [← h]; exact hF80
  · rw [← h]; exact hF81
  · rw [← h]; exact hF82
  · rw [← h]; exact hF83
  · rw [← h]; exact hF84
  · rw [← h]; exact hF86
  · rw [← h]; exact hF87
  · rw [← h]; exact hF95
  · rw [← h]; exact hF96
  · rw [← h]; exact hF97
  · rw [← h]; exact hF99
  · rw [← h]; exact hF100
  · rw [← h]; exact hF101
  · rw [← h]; exact hF102
  · rw [← h]; exact hF103
  · rw [← h]; exact hF104
  · rw [← h]; exact hF105
  · rw [← h]; exact hF106
  · rw [← h]; exact hF107
  · rw [← h]; exact hF108
  · rw [← h]; exact hF109
  · rw [← h]; exact hF110
  · rw [← h]; exact hF113
  · rw [← h]; exact hF114
  · rw [← h]; exact hF115
  · rw [← h]; exact hF116
  · rw [← h]; exact hF117
  · rw [← h]; exact hF118
  · rw [← h]; exact hF119
  · rw [← h]; exact hF120
  · rw [← h]; exact hF121
  · cases h
theorem hMixed : Try.prog.follows .mixedOrders = true := by kernel_rfl
theorem ok_iIn : ∀ (H : Heap) (a b c : Int), QC fnOf 72 [.int .i64 a, .int .i64 b, .int .i64 c] H (.bool (inB a b c)) := iIn_ok rfl
theorem ok_sIn : ∀ (H : Heap) (a b c : Int), QC fnOf 48 [.int .i64 a, .int .i64 b, .int .i64 c] H (.bool (inB a b c)) := sIn_ok rfl
theorem ok_iSet : ∀ (H : Heap) (a : Int), QC fnOf 104 [.int .i64 a] H (.bool (inB a 0 7)) := iSet_ok rfl ok_iIn
theorem ok_iHost : ∀ (H : Heap) (a : Int), QC fnOf 107 [.int .i64 a] H (.bool (inB a 0 2)) := iHost_ok rfl ok_iIn
theorem ok_iNum : ∀ (H : Heap) (a : Int), QC fnOf 43 [.int .i64 a] H (.bool (inB a 0 9)) := iNum_ok rfl ok_iIn
theorem ok_sAll : ∀ H, QC fnOf 108 [] H (.int .i64 7) := sAll_ok rfl
theorem ok_sSet : ∀ (H : Heap) (a : Int), QC fnOf 86 [.int .i64 a] H (.bool (inB a 0 7)) := sSet_ok rfl ok_sIn ok_sAll
theorem ok_iLabelOk : LabOk fnOf 80 := iLabelOk_ok rfl ok_iSet
theorem ok_sLabelOk : LabOk fnOf 50 := sLabelOk_ok rfl ok_sSet
theorem ok_iVar : VarOk fnOf 105 := iVar_ok rfl ok_iIn
theorem ok_sVar : VarOk fnOf 109 := sVar_ok rfl ok_sIn
theorem ok_iVal : ValOk fnOf 106 := iVal_ok rfl ok_iNum ok_iVar
theorem ok_sVal : ValOk fnOf 110 := sVal_ok rfl ok_sIn ok_sVar
theorem ok_sSteps : ∀ n, StepsOk fnOf 51 n := fun n => (sSteps_all rfl rfl ok_sIn ok_sVar ok_sVal n).1
theorem ok_iSteps : ∀ n, StepsOk fnOf 81 n := iSteps_all rfl ok_iVar ok_iVal ok_iHost
theorem ok_sCount : ∀ n, CntOk fnOf 52 n := cnt_all (fun _ h => sCount_ok rfl h) (sCount_z rfl)
theorem ok_iSize : ∀ n, CntOk fnOf 53 n := cnt_all (fun _ h => iSize_ok rfl h) (iSize_z rfl)
theorem ok_sProg : ProgOk fnOf 20 := sProg_ok rfl ok_sLabelOk ok_sSteps ok_sCount
theorem ok_iProg : ProgOk fnOf 44 := iProg_ok rfl (con_ok rfl (idx_ok rfl (p1_ok rfl ok_iLabelOk))) ok_iSteps ok_iSize
theorem ok_sHas : HasOk fnOf 118 := sHas_ok rfl
theorem ok_sWit : WitOk fnOf 121 := sWithin_ok rfl ok_sHas
theorem ok_sBoth : BothOk fnOf 119 := sBoth_ok rfl ok_sHas
theorem ok_sLBoth : LBothOk fnOf 116 := sLBoth_ok rfl ok_sLabelOk ok_sBoth
theorem ok_sFlows : FlowsOk fnOf 115 := sFlows_ok rfl ok_sLabelOk ok_sWit
theorem ok_sAny : ∀ H, QC fnOf 114 [] H (.agg #[.int .i64 7, .int .i64 7]) := sAny_ok rfl ok_sAll
theorem ok_sFine : FineOk fnOf 97 := sFine_ok rfl (sValL_ok rfl ok_sAny ok_sLBoth) ok_sLBoth ok_sFlows ok_sBoth ok_sHas
theorem ok_sAllSteps : ∀ n, AllOk fnOf 95 n := sAllSteps_all rfl
theorem ok_sAt : ∀ n, AtOk fnOf 113 n := sAt_all rfl ok_sLBoth
theorem ok_sTypeAt : TypeAtOk fnOf 96 := sTypeAt_ok rfl ok_sProg ok_sAny ok_sAt
theorem ok_sWhy : WhyOk fnOf 69 := sWhy_ok rfl ok_sProg ok_sAllSteps ok_sTypeAt ok_sFine
theorem ok_sCopy : ∀ n, CopyOk fnOf 102 n := sCopy_all rfl
theorem ok_sWithout : ∀ n, WoOk fnOf 101 n := sWithout_all rfl ok_sCount
theorem ok_drProg {H0 : Heap} {rb : Nat} {bv : Value} {code : List Int} (hc : RdC H0 rb bv code) : DrawS fnOf H0 rb bv 74 [] 40000 (ProgQ 3) := drProg_ok rfl rfl rfl rfl rfl ok_sProg hc
theorem ok_drFine {H0 : Heap} {rb : Nat} {bv : Value} {code : List Int} (hc : RdC H0 rb bv code) : DrawS fnOf H0 rb bv 76 [] 40000 (ProgQ 3) := drFine_ok rfl hc (ok_drProg hc) ok_sWhy ok_sWithout
theorem ok_drAny {H0 : Heap} {rb : Nat} {bv : Value} {code : List Int} (hc : RdC H0 rb bv code) : DrawS fnOf H0 rb bv 41 [] 90000 ProgR := drAny_ok rfl rfl hc (ok_drProg hc) (ok_drFine hc) (drBent_ok rfl rfl ok_sCopy hc)
theorem ok_iNums : NumsOk fnOf 13 := iNums_ok rfl ok_iNum ok_iProg
theorem ok_sNums : NumsOk fnOf 15 := sNums_ok rfl ok_sIn ok_sProg
theorem ok_do : ∀ n, DoOk fnOf 46 n := do_all rfl rfl rfl rfl
theorem ok_iRunOf : RunOk fnOf 14 := iRunOf_ok rfl ok_iNums rfl ok_do rfl
theorem ok_drNumsOk : DrawNumsOk fnOf 12 := drNumsOk_ok rfl rfl rfl rfl ok_drAny
theorem ok_lawRN : LawB fnOf 3 := lawRN_ok rfl ok_drNumsOk ok_iNums ok_iRunOf ok_sNums
end Go.Proofs.YtpaoppgbgjnkmaaI
end
section
/- A law of one argument, a list of bytes, called in the model. -/
set_option linter.unusedVariables false
set_option linter.unusedSimpArgs false
namespace Go.Proofs.YtpaoppgbgjnkmaaI
open Go Go.RowKit
theorem Good.byte {w : World} {n : Int} (h : (Lit.int .u8 n).wf = true) : Good Co.byte w [.int .u8 n] := fun H m s =>
  ⟨n, [], m, [.int .u8 n], by simpa using s, sub_refl m, ⟨rfl, by simpa [Lit.wf, IntKind.min, IntKind.max, IntKind.signed, IntKind.bits] using h⟩, All2.cons (.inl rfl) All2.nil⟩
theorem good_5 {T : Type} {enc : TypeId × Value → T} {w : World} {spare : Nat → Bool} {held : Bool} {n : Nat} {cs : List Value} {x : DataW T × List MemPlace} (h : DataW.trod enc Try.prog w 0 spare held n 5 cs = some x) : Good Co.byte w cs := by
  obtain ⟨m, rfl, _, hw⟩ := DataW.trod_int Try.underlying5 h
  exact Good.byte hw
theorem good_22 {T : Type} {enc : TypeId × Value → T} {w : World} {spare : Nat → Bool} {held : Bool} {n : Nat} {cs : List Value} {x : DataW T × List MemPlace} (h : DataW.trod enc Try.prog w 0 spare held n 22 cs = some x) : Good (Co.sl Co.byte) w cs :=
  Good.sl Try.underlying22 (by kernel_rfl) (by decide) h fun _ _ _ _ h => good_5 h
theorem lawB_calls {n : Nat} (hl : LawB fnOf n) {W : World} {a : Option Addr} {l c : Nat} (g0 : Good (Co.sl Co.byte) W [.slice a l c]) :
    Calls Try.prog n #[.slice a l c] W fun e w' => e = .returned (.bool true) ∧ Below W.heap.size W w' := by
  obtain ⟨ts, L2, m2, cs1, s2, q2, r2, e2⟩ := g0 [] (fun _ => none) (SL.none _)
  obtain ⟨u, rfl, hu⟩ := r2
  exact law_core hF hMixed s2 (vals := [u]) (All2.cons (VR.one_mk e2) All2.nil) (hl _ u ts hu)
end Go.Proofs.YtpaoppgbgjnkmaaI
end
