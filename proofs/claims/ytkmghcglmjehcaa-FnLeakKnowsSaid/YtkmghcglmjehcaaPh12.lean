/- Texts of this proof, merged: W9, W10, GL68, BL68. -/
import Derived.Test.YtkmghcglmjehcaaPh11
import Derived.Test.YtkmghcglmjehcaaRows
section
/- A program and a host drawn (spec.DrawLeakOf). -/
set_option linter.unusedVariables false
set_option linter.unusedSimpArgs false
namespace Go.Proofs.YtkmghcglmjehcaaI
open Go Go.RowKit
def drLeakRet : ICode := .seq (.reg none [
    ⟨(some 49), none, .load true 2 (.t 5)⟩,
    ⟨(some 50), none, .mov (.t 6)⟩,
    ⟨none, none, .store 2 (.t 2) (.t 49)⟩,
    ⟨(some 3), none, .mov (.t 50)⟩])
 (.ret)
def drLeakEnd : ICode := .seq (.seq (.reg none [
     ⟨(some 44), none, .mov (.t 4)⟩,
     ⟨(some 45), none, .call .n (.f 50) [(.t 44), (.c (.int .i64 2))]⟩,
     ⟨(some 46), none, .bin .eql (.t 45) (.c (.int .i64 0))⟩])
  (.cond (.t 46) (.reg none [
     ⟨(some 47), none, .mov (.t 4)⟩,
     ⟨(some 48), none, .call .n (.f 49) [(.t 47)]⟩,
     ⟨none, none, .store 2 (.t 5) (.t 48)⟩]) (.skip)))
 drLeakRet
def c_drLeak : IFn := ⟨1, 51, [.cell true 2 2, .t 3],
 .seq (.reg none [
    ⟨(some 2), none, .new [(.slice none 0 0), (.slice none 0 0)]⟩,
    ⟨(some 3), none, .mov (.c (.int .i64 0))⟩])
 (.seq (.reg none [
    ⟨(some 11), none, .mov (.t 0)⟩,
    ⟨(some 12), none, .call .n (.f 48) [(.t 11)]⟩,
    ⟨(some 4), none, .mov (.t 12)⟩])
 (.seq (.reg none [
    ⟨(some 13), none, .mov (.t 4)⟩,
    ⟨(some 14), none, .call .n (.f 85) [(.t 13)]⟩,
    ⟨(some 5), none, .new [(.slice none 0 0), (.slice none 0 0)]⟩,
    ⟨none, none, .store 2 (.t 5) (.t 14)⟩])
 (.seq (.reg none [
    ⟨(some 15), none, .mov (.t 4)⟩,
    ⟨(some 16), none, .call .n (.f 50) [(.t 15), (.c (.int .i64 4))]⟩,
    ⟨(some 17), none, .mov (.t 4)⟩,
    ⟨(some 18), none, .call .n (.f 50) [(.t 17), (.c (.int .i64 9))]⟩,
    ⟨(some 19), none, .bin .quo (.t 18) (.c (.int .i64 8))⟩,
    ⟨(some 20), none, .bin .sub (.t 16) (.t 19)⟩,
    ⟨(some 6), none, .mov (.t 20)⟩])
 (.seq (.seq (.reg none [
     ⟨(some 7), none, .mov (.c (.int .i64 0))⟩])
  (.block 0 (.loop (.seq (.seq (.reg none [
        ⟨(some 21), none, .mov (.t 7)⟩,
        ⟨(some 22), none, .bin .lss (.t 21) (.c (.int .i64 20))⟩,
        ⟨(some 23), none, .mov (.t 22)⟩,
        ⟨(some 24), (some (23, true)), .mov (.t 4)⟩,
        ⟨(some 25), (some (23, true)), .call .n (.f 50) [(.t 24), (.c (.int .i64 16))]⟩,
        ⟨(some 26), (some (23, true)), .bin .gtr (.t 25) (.c (.int .i64 0))⟩,
        ⟨(some 27), none, .pick (.t 23) (.t 26) (.c (.bool false))⟩])
     (.cond (.t 27) (.skip) (.exit 0)))
    (.seq (.block 1 (.seq (.reg none [
         ⟨(some 31), none, .load true 2 (.t 5)⟩,
         ⟨(some 32), none, .mov (.t 6)⟩,
         ⟨(some 33), none, .call .k (.f 38) [(.t 31), (.t 32)]⟩,
         ⟨(some 30), none, .mov (.t 33)⟩,
         ⟨(some 34), none, .ext (.t 30) 0⟩,
         ⟨(some 35), none, .ext (.t 30) 1⟩,
         ⟨(some 36), none, .ext (.t 30) 2⟩,
         ⟨(some 8), none, .mov (.t 34)⟩,
         ⟨(some 9), none, .mov (.t 35)⟩,
         ⟨(some 10), none, .mov (.t 36)⟩])
      (.seq (.seq (.reg none [
          ⟨(some 37), none, .mov (.t 10)⟩])
       (.cond (.t 37) (.seq (.reg none [
           ⟨(some 38), none, .load true 2 (.t 5)⟩,
           ⟨(some 39), none, .mov (.t 6)⟩,
           ⟨none, none, .store 2 (.t 2) (.t 38)⟩,
           ⟨(some 3), none, .mov (.t 39)⟩])
        (.ret)) (.skip)))
      (.seq (.reg none [
         ⟨(some 40), none, .mov (.t 4)⟩,
         ⟨(some 41), none, .call .n (.f 85) [(.t 40)]⟩,
         ⟨none, none, .store 2 (.t 5) (.t 41)⟩])
      (.reg none [
        ⟨(some 42), none, .mov (.t 4)⟩,
        ⟨(some 43), none, .call .n (.f 50) [(.t 42), (.c (.int .i64 3))]⟩,
        ⟨(some 6), none, .mov (.t 43)⟩])))))
    (.reg none [
      ⟨(some 28), none, .mov (.t 7)⟩,
      ⟨(some 29), none, .bin .add (.t 28) (.c (.int .i64 1))⟩,
      ⟨(some 7), none, .mov (.t 29)⟩]))))))
 drLeakEnd))))⟩
/-- The reader, and the program that lies in a box. -/
structure LeakI (H1 : Heap) (rb bx lo : Nat) (bv : Value) (q : Int) (Hc : Heap) (d : Nat) (lv sv : Value) (ls : List (Int × Int)) (l : List (TStep d)) : Prop where
  st : St H1 rb bv q Hc
  box : Hc[bx]? = some ⟨[lv, sv], 0, 0, false, true⟩
  r1 : SlR Co.p2 (vwl lo [bx] Hc) lv ls
  r2 : SlR (Co.step d) (vwl lo [bx] Hc) sv l
  sm : (Co.prog d).sm (ls, l)
theorem LeakI.draw {H1 : Heap} {rb bx lo : Nat} {bv : Value} {q q' : Int} {Hc H' : Heap} {d : Nat} {lv sv : Value} {ls : List (Int × Int)} {l : List (TStep d)} (h : LeakI H1 rb bx lo bv q Hc d lv sv ls l) (hx : AgX [rb] Hc H') (hs : St H1 rb bv q' H') (hr : rb < lo) (hb : bx ≠ rb) : LeakI H1 rb bx lo bv q' H' d lv sv ls l := by
  have hv : Sub (vwl lo [bx] Hc) (vwl lo [bx] H') := vwl_sub hx (Nat.le_refl _) fun b h1 h2 h3 => ⟨by simp; omega, h3⟩
  exact ⟨hs, hx.get h.box (by simp [hb]), h.r1.mono hv, h.r2.mono hv, h.sm⟩
theorem LeakI.new {H1 : Heap} {rb bx lo : Nat} {bv : Value} {q : Int} {Hc H' : Heap} {d : Nat} {lv sv : Value} {ls : List (Int × Int)} {l : List (TStep d)} (hs : St H1 rb bv q H') (hc : ∃ code, RdC H1 rb bv code) (r1 : SlR Co.p2 (vwl Hc.length [] H') lv ls) (r2 : SlR (Co.step d) (vwl Hc.length [] H') sv l) (sm : (Co.prog d).sm (ls, l)) (hlo : lo ≤ Hc.length) (hb : bx < Hc.length) (hrb : rb < bx) (hl : Hc.length ≤ H'.length) : LeakI H1 rb bx lo bv q (H'.set bx ⟨[lv, sv], 0, 0, false, true⟩) d lv sv ls l := by
  obtain ⟨code, hc⟩ := hc
  have hv : Sub (vwl Hc.length [] H') (vwl lo [bx] (H'.set bx ⟨[lv, sv], 0, 0, false, true⟩)) := vwl_sub (AgX.set H' bx _) hlo fun b h1 h2 h3 => ⟨by simp; omega, by simp; omega⟩
  exact ⟨hs.setN hc hrb _, List.getElem?_set_self (by omega), r1.mono hv, r2.mono hv, sm⟩
def DrawLeak (F : Nat → Option IFn) (f : Nat) : Prop := ∀ (H : Heap) (v : Value) (code : List Int), SlR Co.byte (vw 0 H) v code → ∃ (d : Nat) (lv sv : Value) (h : Int) (ls : List (Int × Int)) (l : List (TStep d)) (H' : Heap), KC F f [v] H (.tuple #[.agg #[lv, sv], .int .i64 h]) H' ∧ AgX [] H H' ∧ SlR Co.p2 (vw 0 H') lv ls ∧ SlR (Co.step d) (vw 0 H') sv l ∧ (Co.prog d).sm (ls, l)
theorem drLeak_ok {F : Nat → Option IFn} {f : Nat} (hf : F f = some c_drLeak) (hop : F 48 = some c_l6Open) (hpk : F 50 = some c_pick) (gpr : ∀ {H0 : Heap} {rb : Nat} {bv : Value} {code : List Int}, RdC H0 rb bv code → DrawS F H0 rb bv 85 [] 40000 (ProgQ 3)) (gan : ∀ {H0 : Heap} {rb : Nat} {bv : Value} {code : List Int}, RdC H0 rb bv code → DrawS F H0 rb bv 49 [] 90000 ProgR) (gs : LeakOk F 38 true) : DrawLeak F f := by
  intro H v code hv
  suffices h : ∃ w H', KC F f [v] H w H' ∧ (∃ (d : Nat) (lv sv : Value) (h : Int) (ls : List (Int × Int)) (l : List (TStep d)), w = .tuple #[.agg #[lv, sv], .int .i64 h] ∧ (AgX [] H H' ∧ SlR Co.p2 (vw 0 H') lv ls ∧ SlR (Co.step d) (vw 0 H') sv l ∧ (Co.prog d).sm (ls, l))) by
    obtain ⟨w, H', h1, d, lv, sv, h, ls, l, rfl, h2⟩ := h
    exact ⟨d, lv, sv, h, ls, l, H', h1, h2⟩
  refine KC.mk hf rfl ?_
  refine seq_reg ?_
  simp only [go_sem, binC]
  refine wpc_gen fun H1 hH1 => ?_
  have ht1 : AgX [] H H1 := hH1 ▸ AgX.app [] _ _
  have hb1 : H1[H.length]? = some ⟨[nilS, nilS], 0, 0, false, true⟩ := hH1 ▸ get_new0 _ _
  have hn1 : H1.length = H.length + 1 := by rw [hH1, List.length_append]; rfl
  clear hH1
  refine seq_reg ?_
  simp only [go_sem, binC]
  obtain ⟨bv, code', k2, hc, hs2⟩ := l6Open_ok hop (hv.mono (agx_sub ht1)) H.length ht1.1
  refine op_callN (by simp only [go_sem, binC]; exact k2) ?_
  simp only [go_sem, binC]
  refine wpc_gen fun H2 hH2 => ?_
  rw [← hH2] at hs2
  have ht12 : AgX [] H1 H2 := hH2 ▸ AgX.app [] _ _
  have ht2 : AgX [] H H2 := ht1.tr ht12
  have hb2 : H2[H.length]? = some ⟨[nilS, nilS], 0, 0, false, true⟩ := ht12.get hb1 (by simp)
  have hn2 : H2.length = H1.length + 1 := by rw [hH2, List.length_append]; rfl
  clear hH2
  refine seq_reg ?_
  simp only [go_sem, binC]
  obtain ⟨v3, H3, p3, k3, x3, s3, c3, y3⟩ := gpr hc H2 0 H.length hs2 (by omega) (by omega) (by omega)
  obtain ⟨d, lv, sv, ls, l, rfl, r1, r2, r3, r4, r5⟩ := y3.toR
  refine op_callN (by simp only [go_sem, binC]; exact k3) ?_
  obtain ⟨_, la, rfl, _⟩ := id r1
  obtain ⟨_, sa, rfl, _⟩ := id r2
  have hl3 := x3.1
  simp only [go_sem, binC]
  refine ⟨by omega, ?_⟩
  refine wpc_gen fun H4 hH4 => ?_
  have x4 : AgX [] H3 H4 := hH4 ▸ AgX.app [] _ _
  have hb5 : H4[H3.length]? = some ⟨[.slice la ls.length ls.length, .slice sa l.length l.length], 0, 0, false, true⟩ := hH4 ▸ get_new0 _ _
  have hn4 : H4.length = H3.length + 1 := by rw [hH4, List.length_append]; rfl
  clear hH4
  have hb34 : ∀ b, b < H3.length → b ≠ H3.length := fun b h => by omega
  have hI4 : LeakI H1 H1.length H3.length H2.length bv p3 H4 d (.slice la ls.length ls.length) (.slice sa l.length l.length) ls l := by
    have hvv : Sub (vwl H2.length [] H3) (vwl H2.length [H3.length] H4) := vwl_sub x4 (Nat.le_refl _) fun b h1 h2 h3 => ⟨by simp, by simp; omega⟩
    exact ⟨s3.mono hc x4 (fun _ h => by cases h), hb5, r1.mono hvv, r2.mono hvv, r3⟩
  have x24 : AgX [H1.length] H2 H4 := x3.trans x4 (fun _ h _ => h) (fun _ h _ => by cases h)
  have hb24 : H4[H.length]? = some ⟨[nilS, nilS], 0, 0, false, true⟩ := x24.get hb2 (by simp; omega)
  clear k2 k3 y3 r1 r2 r3
  -- the drawn program and host are handed back
  have hfin : ∀ {Hc : Heap} {q h : Int} {d : Nat} {lv sv : Value} {ls : List (Int × Int)} {l : List (TStep d)}, LeakI H1 H1.length H3.length H2.length bv q Hc d lv sv ls l → AgX [H1.length, H3.length] H4 Hc → ∃ (d : Nat) (lv' sv' : Value) (h' : Int) (ls : List (Int × Int)) (l : List (TStep d)), Value.tuple #[.agg #[lv, sv], .int .i64 h] = .tuple #[.agg #[lv', sv'], .int .i64 h'] ∧ (AgX [] H (Hc.set H.length ⟨[lv, sv], 0, 0, false, true⟩) ∧ SlR Co.p2 (vw 0 (Hc.set H.length ⟨[lv, sv], 0, 0, false, true⟩)) lv' ls ∧ SlR (Co.step d) (vw 0 (Hc.set H.length ⟨[lv, sv], 0, 0, false, true⟩)) sv' l ∧ (Co.prog d).sm (ls, l)) := fun {Hc q h d lv sv ls l} hI hx => by
    have hvv : Sub (vwl H2.length [H3.length] Hc) (vw 0 (Hc.set H.length ⟨[lv, sv], 0, 0, false, true⟩)) := (vwl_sub (AgX.set Hc H.length _) (Nat.le_refl _) (xs' := []) fun b h1 h2 h3 => ⟨by simp; omega, by simp⟩).trans (vwl0 _ _ _)
    refine ⟨d, lv, sv, h, ls, l, rfl, ?_, hI.r1.mono hvv, hI.r2.mono hvv, hI.sm⟩
    have := x24.1
    exact (ht2.trans (x24.trans hx (zs := [H1.length, H3.length]) (fun _ h _ => by simp only [List.mem_singleton] at h; simp [h]) (fun _ h _ => h)) (fun _ h _ => h) (fun b h1 h2 => by simp only [List.mem_cons, List.mem_nil_iff, or_false] at h1; omega)).setN (Nat.le_refl _) _
  have hend : ∀ (e : Env) (Hc : Heap) (q h : Int) (d : Nat) (lv sv : Value) (ls : List (Int × Int)) (l : List (TStep d)), LeakI H1 H1.length H3.length H2.length bv q Hc d lv sv ls l → 0 ≤ q → q ≤ 900000 → AgX [H1.length, H3.length] H4 Hc → e 2 = ptr H.length 0 → e 4 = ptr H1.length 0 → e 5 = ptr H3.length 0 → e 6 = .int .i64 h → wpc F H.length drLeakEnd e Hc (fin [.cell true 2 2, .t 3] fun w H' => ∃ (d : Nat) (lv sv : Value) (h : Int) (ls : List (Int × Int)) (l : List (TStep d)), w = .tuple #[.agg #[lv, sv], .int .i64 h] ∧ (AgX [] H H' ∧ SlR Co.p2 (vw 0 H') lv ls ∧ SlR (Co.step d) (vw 0 H') sv l ∧ (Co.prog d).sm (ls, l))) := by
    intro e Hc q h d lv sv ls l hI hq0 hq hxc e2 e4 e5 e6
    unfold drLeakEnd
    have hlc := hxc.1
    refine seq_assoc (seq_reg ?_)
    simp only [go_sem, binC, e4]
    refine op_draw (n := 2) hpk hc hI.st (by omega) (by omega) (by omega) (by simp only [go_sem, binC, e4]) (by simp only [go_sem, binC]) fun H5 hl5 hx5 hs5 => ?_
    have hI5 := hI.draw hx5 hs5 (by omega) (by omega)
    have hx45 : AgX [H1.length, H3.length] H4 H5 := hxc.trans hx5 (fun _ h _ => h) (fun _ h _ => by simp only [List.mem_singleton] at h; simp [h])
    generalize pickV code' q 2 = pk
    clear hI
    have htail : ∀ (e : Env) (Hc : Heap) (q : Int) (d : Nat) (lv sv : Value) (ls : List (Int × Int)) (l : List (TStep d)), LeakI H1 H1.length H3.length H2.length bv q Hc d lv sv ls l → AgX [H1.length, H3.length] H4 Hc → e 2 = ptr H.length 0 → e 5 = ptr H3.length 0 → e 6 = .int .i64 h → wpc F H.length drLeakRet e Hc (fin [.cell true 2 2, .t 3] fun w H' => ∃ (d : Nat) (lv sv : Value) (h : Int) (ls : List (Int × Int)) (l : List (TStep d)), w = .tuple #[.agg #[lv, sv], .int .i64 h] ∧ (AgX [] H H' ∧ SlR Co.p2 (vw 0 H') lv ls ∧ SlR (Co.step d) (vw 0 H') sv l ∧ (Co.prog d).sm (ls, l))) := by
      intro e Hc q d lv sv ls l hI hxc e2 e5 e6
      unfold drLeakRet
      obtain ⟨_, la, rfl, _⟩ := id hI.r1
      obtain ⟨_, sa, rfl, _⟩ := id hI.r2
      have hbr := hxc.get hb24 (by simp; omega)
      have hbrl := (List.getElem?_eq_some_iff.1 hbr).1
      refine seq_reg ?_
      simp only [go_sem, binC, e2, e5, e6, gc_of hI.box, inBlk_some, hbr]
      refine wpc_ret ⟨Or.inr rfl, .tuple #[.agg #[.slice la ls.length ls.length, .slice sa l.length l.length], .int .i64 h], ?_, hfin hI hxc⟩
      simp [resV, resL, res1, putE_get, notT, ptr, gc_set hbrl, inBlk_some, valOf, e2, e6]
    by_cases hpk2 : pk = 0
    · simp only [go_sem, binC, beq_t hpk2]
      refine seq_cond (t := true) (by first | rfl | (simp only [go_sem, binC]; rw [beq_t hpk2])) ?_
      simp only [go_sem, binC]
      refine seq_reg ?_
      simp only [go_sem, binC, e4]
      obtain ⟨v6, H6, p6, k6, x6, s6, c6, d', lv', sv', ls', l', rfl, r1, r2, r3, r4, r5⟩ := gan hc H5 (q + 1) H.length hs5 (by omega) (by omega) (by omega)
      refine op_callN (by simp only [go_sem, binC, e4]; exact k6) ?_
      obtain ⟨_, la', rfl, _⟩ := id r1
      obtain ⟨_, sa', rfl, _⟩ := id r2
      have hl6 := x6.1
      have hb6 := x6.get hI5.box (by simp; omega)
      simp only [go_sem, binC, e5, hb6]
      refine ⟨by omega, ?_⟩
      refine htail _ _ p6 d' _ _ ls' l' (LeakI.new (Hc := H5) s6 ⟨_, hc⟩ r1 r2 r3 (by omega) (by omega) (by omega) hl6) ?_ (by simp only [go_sem, binC, e2]) (by simp only [go_sem, binC, e5]) (by simp only [go_sem, binC, e6])
      exact (hx45.trans x6 (zs := [H1.length, H3.length]) (fun _ h _ => h) (fun _ h _ => by simp only [List.mem_singleton] at h; simp [h])).trans (AgX.set H6 H3.length _) (fun _ h _ => h) (fun _ h _ => by simp only [List.mem_singleton] at h; simp [h])
    · simp only [go_sem, binC, beq_f hpk2]
      refine seq_cond (t := false) (by first | rfl | (simp only [go_sem, binC]; rw [beq_f hpk2])) ?_
      simp only [go_sem, binC]
      refine seq_skip ?_
      exact htail _ H5 _ d lv sv ls l hI5 hx45 (by simp only [go_sem, binC, e2]) (by simp only [go_sem, binC, e5]) (by simp only [go_sem, binC, e6])
  refine seq_reg ?_
  simp only [go_sem, binC]
  refine op_draw (n := 4) hpk hc hI4.st (by omega) (by omega) (by omega) (by simp only [go_sem, binC]) (by simp only [go_sem, binC]) fun H5 hl5 hx5 hs5 => ?_
  simp only [go_sem, binC]
  refine op_draw (n := 9) hpk hc hs5 (by omega) (by omega) (by omega) (by simp only [go_sem, binC]) (by simp only [go_sem, binC]) fun H6 hl6 hx6 hs6 => ?_
  have hk4 := pickV_bd code' p3 (n := 4) (by omega)
  have hk9 := pickV_bd code' (p3 + 1) (n := 9) (by omega)
  generalize pickV code' p3 4 = pa at hk4 ⊢
  generalize pickV code' (p3 + 1) 9 = pb at hk9 ⊢
  have hqd : binI .quo .i64 pb 8 = some (.int .i64 (pb / 8)) := by rw [quo_eqU (by omega), Int.tdiv_eq_ediv_of_nonneg hk9.1, wrap_id (by omega) (by omega)]
  have hwa : IntKind.i64.wrap (pa - pb / 8) = pa - pb / 8 := wrap_id (by omega) (by omega)
  simp only [go_sem, binC, hqd, hwa]
  have hI6 := (hI4.draw hx5 hs5 (by omega) (by omega)).draw hx6 hs6 (by omega) (by omega)
  have hx46 : AgX [H1.length, H3.length] H4 H6 := (hx5.tr hx6).trans (AgX.refl [] _) (fun _ h _ => by simp only [List.mem_singleton] at h; simp [h]) (fun _ h _ => by cases h)
  refine seq_assoc (seq_reg ?_)
  simp only [go_sem, binC]
  refine seq_block (wpc_loop ?_)
  suffices hh : ∀ (k i : Nat) (e : Env) (Hc : Heap) (q h : Int) (d : Nat) (lv sv : Value) (ls : List (Int × Int)) (l : List (TStep d)), i + k = 20 → LeakI H1 H1.length H3.length H2.length bv q Hc d lv sv ls l → (0 ≤ q ∧ q ≤ 40002 + 40002 * (i : Int)) → AgX [H1.length, H3.length] H4 Hc → e 2 = ptr H.length 0 → e 4 = ptr H1.length 0 → e 5 = ptr H3.length 0 → e 6 = .int .i64 h → e 7 = .int .i64 i → Go.Proofs.YtkmghcglmjehcaaI.W F H.length _ e Hc _ from
    hh 20 0 _ H6 _ (pa - pb / 8) d _ _ ls l rfl hI6 (by omega) hx46 (by simp only [go_sem, binC]) (by simp only [go_sem, binC]) (by simp only [go_sem, binC]) (by simp only [go_sem, binC]) (by (simp only [go_sem, binC]) <;> rfl)
  intro k
  induction k with
  | zero =>
    intro i e Hc q h d lv sv ls l hik hI hq hxc e2 e4 e5 e6 e7
    obtain rfl : i = 20 := by omega
    have hd : decide (((20 : Nat) : Int) < 20) = false := rfl
    refine lp_step ?_
    refine seq_assoc (seq_reg ?_)
    simp only [go_sem, binC, e7, hd]
    refine seq_cond (t := false) (by simp only [go_sem, binC]) ?_
    simp only [go_sem, binC]
    refine seq_exit ?_
    simp only [go_sem, binC, thenX_e, out_e, thenX_n]
    exact hend _ Hc q h d lv sv ls l hI (by omega) (by omega) hxc (by simp only [go_sem, binC, e2]) (by simp only [go_sem, binC, e4]) (by simp only [go_sem, binC, e5]) (by simp only [go_sem, binC, e6])
  | succ k ih =>
    intro i e Hc q h d lv sv ls l hik hI hq hxc e2 e4 e5 e6 e7
    have hd : decide ((i : Int) < 20) = true := decide_eq_true (by omega)
    have hw1 : IntKind.i64.wrap ((i : Int) + 1) = ((i + 1 : Nat) : Int) := by rw [wrap_id (by omega) (by omega)]; omega
    have hlc := hxc.1
    refine lp_step ?_
    refine seq_assoc (seq_reg ?_)
    simp only [go_sem, binC, e7, hd, e4]
    refine op_draw (n := 16) hpk hc hI.st (by omega) (by omega) (by omega) (by simp only [go_sem, binC, e4]) (by simp only [go_sem, binC]) fun H7 hl7 hx7 hs7 => ?_
    have hI7 := hI.draw hx7 hs7 (by omega) (by omega)
    have hx47 : AgX [H1.length, H3.length] H4 H7 := hxc.trans hx7 (fun _ h _ => h) (fun _ h _ => by simp only [List.mem_singleton] at h; simp [h])
    generalize pickV code' q 16 = pk
    clear hI
    by_cases hgt : 0 < pk
    rotate_left
    · simp only [go_sem, binC, decide_eq_false hgt]
      refine seq_cond (t := false) (by simp only [go_sem, binC]) ?_
      simp only [go_sem, binC]
      refine seq_exit ?_
      simp only [go_sem, binC, thenX_e, out_e, thenX_n]
      exact hend _ H7 _ h d lv sv ls l hI7 (by omega) (by omega) hx47 (by simp only [go_sem, binC, e2]) (by simp only [go_sem, binC, e4]) (by simp only [go_sem, binC, e5]) (by simp only [go_sem, binC, e6])
    simp only [go_sem, binC, decide_eq_true hgt]
    refine seq_cond (t := true) (by simp only [go_sem, binC]) ?_
    simp only [go_sem, binC]
    obtain ⟨_, la, rfl, _⟩ := id hI7.r1
    obtain ⟨_, sa, rfl, _⟩ := id hI7.r2
    obtain ⟨a, b, H8, k8, x8, q8, q8'⟩ := gs H7 d _ _ ls l h (hI7.r1.mono (vwl0 _ _ _)) (hI7.r2.mono (vwl0 _ _ _)) hI7.sm
    obtain ⟨_, aa, rfl, _⟩ := id q8
    obtain ⟨_, ab, rfl, _⟩ := id q8'
    have hs8 := hs7.mono hc x8 (fun _ h => by cases h)
    have hI8 : LeakI H1 H1.length H3.length H2.length bv (q + 1) H8 d _ _ ls l := hI7.draw (x8.trans (AgX.refl [] _) (fun _ h _ => by cases h) (fun _ h _ => by cases h)) hs8 (by omega) (by omega)
    have hx48 : AgX [H1.length, H3.length] H4 H8 := hx47.trans x8 (fun _ h _ => h) (fun _ h _ => by cases h)
    have hbr := hx48.get hb24 (by simp; omega)
    have hbrl := (List.getElem?_eq_some_iff.1 hbr).1
    have hl8 := x8.1
    refine seq_skip (seq_block (seq_reg ?_))
    simp only [go_sem, binC, e5, e6, gc_of hI7.box, inBlk_some]
    refine op_callK (by simp only [go_sem, binC]; exact k8) ?_
    simp only [go_sem, binC]
    refine seq_assoc (seq_reg ?_)
    simp only [go_sem, binC]
    cases hlk : (leakV true d (ls, l) h).isSome with
    | true =>
      refine seq_cond (t := true) (by simp only [go_sem, binC]) ?_
      simp only [go_sem, binC]
      refine seq_assoc (seq_reg ?_)
      simp only [go_sem, binC, e2, e5, e6, gc_of hI8.box, inBlk_some, hbr]
      refine seq_ret ?_
      simp only [go_sem, binC, out_r, thenX_r]
      refine ⟨Or.inr rfl, .tuple #[.agg #[.slice la ls.length ls.length, .slice sa l.length l.length], .int .i64 h], ?_, hfin hI8 hx48⟩
      simp [resV, resL, res1, putE_get, notT, ptr, gc_set hbrl, inBlk_some, valOf, e2, e6]
    | false =>
      refine seq_cond (t := false) (by simp only [go_sem, binC]) ?_
      simp only [go_sem, binC]
      obtain ⟨v9, H9, p9, k9, x9, s9, c9, y9⟩ := gpr hc H8 (q + 1) H.length hs8 (by omega) (by omega) (by omega)
      obtain ⟨d', lv', sv', ls', l', rfl, r1, r2, r3, r4, r5⟩ := y9.toR
      obtain ⟨_, la', rfl, _⟩ := id r1
      obtain ⟨_, sa', rfl, _⟩ := id r2
      have hl9 := x9.1
      have hb9 := x9.get hI8.box (by simp; omega)
      refine seq_skip (seq_reg ?_)
      simp only [go_sem, binC, e4]
      refine op_callN (by simp only [go_sem, binC, e4]; exact k9) ?_
      simp only [go_sem, binC, e5, hb9]
      refine ⟨by omega, ?_⟩
      have hI9 : LeakI H1 H1.length H3.length H2.length bv p9 (H9.set H3.length ⟨[.slice la' ls'.length ls'.length, .slice sa' l'.length l'.length], 0, 0, false, true⟩) d' _ _ ls' l' := LeakI.new (Hc := H8) s9 ⟨_, hc⟩ r1 r2 r3 (by omega) (by omega) (by omega) hl9
      have hx49 : AgX [H1.length, H3.length] H4 (H9.set H3.length ⟨[.slice la' ls'.length ls'.length, .slice sa' l'.length l'.length], 0, 0, false, true⟩) := (hx48.trans x9 (zs := [H1.length, H3.length]) (fun _ h _ => h) (fun _ h _ => by simp only [List.mem_singleton] at h; simp [h])).trans (AgX.set H9 H3.length _) (fun _ h _ => h) (fun _ h _ => by simp only [List.mem_singleton] at h; simp [h])
      generalize H9.set H3.length ⟨[.slice la' ls'.length ls'.length, .slice sa' l'.length l'.length], 0, 0, false, true⟩ = H10 at hI9 hx49 ⊢
      refine wpc_reg ?_
      simp only [go_sem, binC, e4]
      refine op_draw (n := 3) hpk hc hI9.st (by omega) (by omega) (by omega) (by simp only [go_sem, binC, e4]) (by simp only [go_sem, binC]) fun H11 hl11 hx11 hs11 => ?_
      simp only [go_sem, binC]
      simp only [go_sem, binC, out_n, thenX_n]
      refine wpc_reg ?_
      simp only [go_sem, binC, e7, hw1]
      simp only [go_sem, binC, thenX_n]
      exact ih (i + 1) _ H11 _ (pickV code' p9 3) d' _ _ ls' l' (by omega) (hI9.draw hx11 hs11 (by omega) (by omega)) (by omega) (hx49.trans hx11 (fun _ h _ => h) (fun _ h _ => by simp only [List.mem_singleton] at h; simp [h])) (by simp only [go_sem, binC, e2]) (by simp only [go_sem, binC, e4]) (by simp only [go_sem, binC, e5]) (by simp only [go_sem, binC]) (by simp only [go_sem, binC])
end Go.Proofs.YtkmghcglmjehcaaI
end
section
/- The law FnLeakKnows on the ideal machine. -/
set_option linter.unusedVariables false
set_option linter.unusedSimpArgs false
namespace Go.Proofs.YtkmghcglmjehcaaI
open Go Go.RowKit
def c_lawLKn : IFn := ⟨1, 92, [.t 2],
 .seq (.reg none [
    ⟨(some 2), none, .mov (.c (.bool false))⟩])
 (.seq (.seq (.reg none [
     ⟨(some 14), none, .mov (.t 0)⟩,
     ⟨(some 15), none, .len (.t 14)⟩,
     ⟨(some 16), none, .bin .gtr (.t 15) (.c (.int .i64 1048576))⟩])
  (.cond (.t 16) (.seq (.reg none [
      ⟨(some 2), none, .mov (.c (.bool true))⟩])
   (.ret)) (.skip)))
 (.seq (.reg none [
    ⟨(some 18), none, .mov (.t 0)⟩,
    ⟨(some 19), none, .call .k (.f 37) [(.t 18)]⟩,
    ⟨(some 17), none, .mov (.t 19)⟩,
    ⟨(some 20), none, .ext (.t 17) 0⟩,
    ⟨(some 21), none, .ext (.t 17) 1⟩,
    ⟨(some 3), none, .new [(.slice none 0 0), (.slice none 0 0)]⟩,
    ⟨none, none, .store 2 (.t 3) (.t 20)⟩,
    ⟨(some 4), none, .mov (.t 21)⟩])
 (.seq (.reg none [
    ⟨(some 23), none, .load true 2 (.t 3)⟩,
    ⟨(some 24), none, .mov (.t 4)⟩,
    ⟨(some 25), none, .call .k (.f 38) [(.t 23), (.t 24)]⟩,
    ⟨(some 22), none, .mov (.t 25)⟩,
    ⟨(some 26), none, .ext (.t 22) 0⟩,
    ⟨(some 27), none, .ext (.t 22) 1⟩,
    ⟨(some 28), none, .ext (.t 22) 2⟩,
    ⟨(some 5), none, .mov (.t 26)⟩,
    ⟨(some 6), none, .mov (.t 27)⟩,
    ⟨(some 7), none, .mov (.t 28)⟩])
 (.seq (.reg none [
    ⟨(some 30), none, .load true 2 (.t 3)⟩,
    ⟨(some 31), none, .mov (.t 4)⟩,
    ⟨(some 32), none, .call .k (.f 39) [(.t 30), (.t 31)]⟩,
    ⟨(some 29), none, .mov (.t 32)⟩,
    ⟨(some 33), none, .ext (.t 29) 0⟩,
    ⟨(some 34), none, .ext (.t 29) 1⟩,
    ⟨(some 35), none, .ext (.t 29) 2⟩,
    ⟨(some 8), none, .mov (.t 33)⟩,
    ⟨(some 9), none, .mov (.t 34)⟩,
    ⟨(some 10), none, .mov (.t 35)⟩])
 (.seq (.seq (.reg none [
     ⟨(some 36), none, .mov (.t 10)⟩,
     ⟨(some 37), none, .mov (.t 7)⟩,
     ⟨(some 38), none, .beq true (.t 36) (.t 37)⟩,
     ⟨(some 39), none, .mov (.t 38)⟩,
     ⟨(some 40), (some (39, false)), .mov (.t 8)⟩,
     ⟨(some 41), (some (39, false)), .mov (.t 5)⟩,
     ⟨(some 42), (some (39, false)), .call .q (.f 40) [(.t 40), (.t 41)]⟩,
     ⟨(some 43), (some (39, false)), .un .not (.t 42)⟩,
     ⟨(some 44), none, .pick (.t 39) (.c (.bool true)) (.t 43)⟩,
     ⟨(some 45), none, .mov (.t 44)⟩,
     ⟨(some 46), (some (45, false)), .mov (.t 9)⟩,
     ⟨(some 47), (some (45, false)), .mov (.t 6)⟩,
     ⟨(some 48), (some (45, false)), .call .q (.f 40) [(.t 46), (.t 47)]⟩,
     ⟨(some 49), (some (45, false)), .un .not (.t 48)⟩,
     ⟨(some 50), none, .pick (.t 45) (.c (.bool true)) (.t 49)⟩,
     ⟨(some 51), none, .mov (.t 50)⟩,
     ⟨(some 52), (some (51, false)), .mov (.t 10)⟩,
     ⟨(some 53), (some (51, false)), .un .not (.t 52)⟩,
     ⟨(some 54), none, .pick (.t 51) (.c (.bool true)) (.t 53)⟩])
  (.cond (.t 54) (.seq (.reg none [
      ⟨(some 55), none, .mov (.t 10)⟩,
      ⟨(some 56), none, .mov (.t 7)⟩,
      ⟨(some 57), none, .beq false (.t 55) (.t 56)⟩,
      ⟨(some 58), none, .mov (.t 57)⟩,
      ⟨(some 59), (some (58, true)), .mov (.t 8)⟩,
      ⟨(some 60), (some (58, true)), .mov (.t 5)⟩,
      ⟨(some 61), (some (58, true)), .call .q (.f 40) [(.t 59), (.t 60)]⟩,
      ⟨(some 62), none, .pick (.t 58) (.t 61) (.c (.bool false))⟩,
      ⟨(some 63), none, .mov (.t 62)⟩,
      ⟨(some 64), (some (63, true)), .mov (.t 9)⟩,
      ⟨(some 65), (some (63, true)), .mov (.t 6)⟩,
      ⟨(some 66), (some (63, true)), .call .q (.f 40) [(.t 64), (.t 65)]⟩,
      ⟨(some 67), none, .pick (.t 63) (.t 66) (.c (.bool false))⟩,
      ⟨(some 2), none, .mov (.t 67)⟩])
   (.ret)) (.skip)))
 (.seq (.reg none [
    ⟨(some 11), none, .mov (.c (.bool true))⟩])
 (.seq (.reg none [
    ⟨(some 68), none, .load true 2 (.t 3)⟩,
    ⟨(some 69), none, .mov (.t 4)⟩,
    ⟨(some 70), none, .call .k (.f 41) [(.t 68), (.t 69)]⟩,
    ⟨(some 12), none, .mov (.t 70)⟩])
 (.seq (.seq (.reg none [
     ⟨(some 13), none, .mov (.c (.int .i64 0))⟩])
  (.block 0 (.loop (.seq (.seq (.reg none [
        ⟨(some 71), none, .mov (.t 13)⟩,
        ⟨(some 72), none, .mov (.t 12)⟩,
        ⟨(some 73), none, .len (.t 72)⟩,
        ⟨(some 74), none, .bin .lss (.t 71) (.t 73)⟩])
     (.cond (.t 74) (.skip) (.exit 0)))
    (.seq (.block 1 (.reg none [
        ⟨(some 77), none, .mov (.t 11)⟩,
        ⟨(some 78), none, .mov (.t 77)⟩,
        ⟨(some 79), (some (78, true)), .mov (.t 12)⟩,
        ⟨(some 80), (some (78, true)), .mov (.t 13)⟩,
        ⟨(some 81), (some (78, true)), .iad 1 (.t 79) (.t 80)⟩,
        ⟨(some 82), (some (78, true)), .load false 1 (.t 81)⟩,
        ⟨(some 83), none, .pick (.t 78) (.t 82) (.c (.bool false))⟩,
        ⟨(some 11), none, .mov (.t 83)⟩]))
    (.reg none [
      ⟨(some 75), none, .mov (.t 13)⟩,
      ⟨(some 76), none, .bin .add (.t 75) (.c (.int .i64 1))⟩,
      ⟨(some 13), none, .mov (.t 76)⟩]))))))
 (.seq (.reg none [
    ⟨(some 84), none, .mov (.t 11)⟩,
    ⟨(some 85), none, .un .not (.t 84)⟩,
    ⟨(some 86), none, .mov (.t 85)⟩,
    ⟨(some 87), (some (86, true)), .mov (.t 8)⟩,
    ⟨(some 88), (some (86, true)), .mov (.t 9)⟩,
    ⟨(some 89), (some (86, true)), .call .q (.f 40) [(.t 87), (.t 88)]⟩,
    ⟨(some 90), (some (86, true)), .un .not (.t 89)⟩,
    ⟨(some 91), none, .pick (.t 86) (.t 90) (.c (.bool false))⟩,
    ⟨(some 2), none, .mov (.t 91)⟩])
 (.ret))))))))))⟩
theorem leakG_some {n : Nat} {p : TProg n} {vs : List Bool} {d : RunS → RunS → Bool} {a b : Nat} (h : leakG n p vs d = some (a, b)) : a < b ∧ b < 2 ^ p.1.length ∧ sameR vs a b = true := by
  obtain ⟨h1, h2, h3⟩ := leakF_some h
  unfold okR at h3
  rw [Bool.and_eq_true] at h3
  exact ⟨h1, h2, h3.1⟩
theorem leakV_some {c : Bool} {n : Nat} {p : TProg n} {h : Int} {r : Nat × Nat} (hr : leakV c n p h = some r) : leakG n p (p.1.map (lowL c h)) (diffC c h (p.1.map (lowL c h))) = some r ∧ progB n p = true ∧ inB h 0 2 = true := by
  unfold leakV at hr
  by_cases hp : (progB n p && inB h 0 2) = true
  · rw [if_pos hp] at hr
    rw [Bool.and_eq_true] at hp
    exact ⟨hr, hp⟩
  · rw [if_neg hp] at hr; cases hr
theorem leak_rows {c : Bool} {n : Nat} {ls : List (Int × Int)} {l : List (TStep n)} {h : Int} {a b : Nat} (hr : leakV c n (ls, l) h = some (a, b)) : rowL a ls.length ≠ rowL b ls.length ∧ (ls.map (lowL c h)).all id = false := by
  obtain ⟨hg, _, _⟩ := leakV_some hr
  obtain ⟨h1, h2, h3⟩ := leakG_some hg
  have hne : rowL a ls.length ≠ rowL b ls.length := fun e => by
    have := rowL_inj (Nat.lt_trans h1 h2) h2 e
    omega
  refine ⟨hne, Bool.eq_false_iff.2 fun ha => hne ?_⟩
  refine List.ext_getElem (by rw [rowL_len, rowL_len]) fun i hi hi' => ?_
  rw [rowL_len] at hi
  have hi2 : i < (ls.map (lowL c h)).length := by rw [List.length_map]; exact hi
  have := sameR_iff.1 h3 i hi2 (by
    have := List.all_eq_true.1 ha _ (List.getElem_mem hi2)
    simpa [List.getD, hi] using this)
  rw [rowL_get, rowL_get, this]
set_option maxHeartbeats 4000000 in
theorem lawLKn_ok {F : Nat → Option IFn} {f : Nat} (hf : F f = some c_lawLKn) (gd : DrawLeak F 37) (gs : LeakOk F 38 true) (gi : LeakOwn F 39 true) (ge : IntsOk F 40) (gv : VarsOk F 41 true) : LawB F f := by
  intro H v code hv
  have hv0 := hv
  obtain ⟨h0, a, rfl, _⟩ := hv
  refine QC.mk hf rfl ?_
  refine seq_reg ?_
  simp only [go_sem, binC]
  refine seq_assoc (seq_reg ?_)
  simp only [go_sem, binC]
  by_cases hbig : 1048576 < (code.length : Int)
  · refine seq_cond (t := true) (by simp only [go_sem, binC]; rw [decide_eq_true hbig]) ?_
    simp only [go_sem, binC]
    refine seq_assoc (seq_reg ?_)
    simp only [go_sem, binC]
    exact seq_ret ⟨Or.inr rfl, .bool true, by simp only [go_sem, binC], rfl, rfl⟩
  refine seq_cond (t := false) (by simp only [go_sem, binC]; rw [decide_eq_false hbig]) ?_
  simp only [go_sem, binC]
  refine seq_skip (seq_reg ?_)
  simp only [go_sem, binC]
  have gee : ∀ {H : Heap} {v w : Value} {l : List Int}, SlR Co.int (vw 0 H) v l → SlR Co.int (vw 0 H) w l → QC F 40 [v, w] H (.bool true) := fun {H v w l} a b => by
    have := ge H v w l l a b
    rwa [decide_eq_true rfl] at this
  obtain ⟨d, lv, sv, h, ls, l, H1, k1, x1, r1, r2, hsm⟩ := gd H _ code hv0
  obtain ⟨_, la, rfl, _⟩ := id r1
  obtain ⟨_, sa, rfl, _⟩ := id r2
  have hl1 := x1.1
  refine op_callK (by simp only [go_sem, binC]; exact k1) ?_
  simp only [go_sem, binC]
  refine ⟨by omega, ?_⟩
  refine wpc_gen fun H2 hH2 => ?_
  have hb : H2[H1.length]? = some ⟨[.slice la ls.length ls.length, .slice sa l.length l.length], 0, 0, false, true⟩ := hH2 ▸ get_new0 _ _
  have x2 : AgX [] H1 H2 := hH2 ▸ AgX.app [] _ _
  clear hH2 k1
  replace r1 := r1.mono (agx_sub x2)
  replace r2 := r2.mono (agx_sub x2)
  obtain ⟨wa, wb, H3, k3, x3, z1, z2⟩ := gs H2 d _ _ ls l h r1 r2 hsm
  have hb3 := x3.get hb (by simp)
  obtain ⟨ia, ib, H4, k4, x4, tw⟩ := gi H3 d _ _ ls l h (r1.mono (agx_sub x3)) (r2.mono (agx_sub x3)) hsm
  have x24 := x3.tr x4
  have hb4 := x24.get hb (by simp)
  obtain ⟨P, hPL⟩ : ∃ P, leakV true d (ls, l) h = P := ⟨_, rfl⟩
  have hk4 : P = none ∨ ls.length ≤ 4 := by
    cases hP : P with
    | none => exact .inl rfl
    | some r => rw [hP] at hPL; exact .inr (progB_le4 (leakV_some hPL).2.1)
  rw [hPL] at k3 k4 z1 z2 tw
  obtain ⟨_, _, _, _, _, _, i1, i2⟩ := tw.flats (hk4.imp id fun h => by omega)
  replace z1 := z1.mono (agx_sub x4)
  replace z2 := z2.mono (agx_sub x4)
  obtain ⟨R, hR⟩ : ∃ R, rowsO ls.length P = R := ⟨_, rfl⟩
  rw [hR] at z1 z2 i1 i2
  obtain ⟨_, za, rfl, _⟩ := id z1
  obtain ⟨_, zb, rfl, _⟩ := id z2
  obtain ⟨_, ja, rfl, _⟩ := id i1
  obtain ⟨_, jb, rfl, _⟩ := id i2
  refine seq_reg ?_
  simp only [go_sem, binC, gc_of hb, inBlk_some]
  refine op_callK (by simp only [go_sem, binC]; exact k3) ?_
  simp only [go_sem, binC]
  refine seq_reg ?_
  simp only [go_sem, binC, gc_of hb3, inBlk_some]
  refine op_callK (by simp only [go_sem, binC]; exact k4) ?_
  simp only [go_sem, binC]
  refine seq_assoc (seq_reg ?_)
  simp only [go_sem, binC, bne_self_eq_false, beq_self_eq_true, Bool.not_true]
  refine op_callQ (by simp only [go_sem, binC]; exact gee i1 z1) ?_
  simp only [go_sem, binC]
  refine op_callQ (by simp only [go_sem, binC]; exact gee i2 z2) ?_
  simp only [go_sem, binC]
  cases hfo : P.isSome with
  | false =>
    simp only [go_sem, binC, Bool.not_false]
    refine seq_cond (t := true) (by simp only [go_sem, binC]) ?_
    simp only [go_sem, binC]
    refine seq_assoc (seq_reg ?_)
    simp only [go_sem, binC, beq_self_eq_true]
    refine op_callQ (by simp only [go_sem, binC]; exact gee i1 z1) ?_
    simp only [go_sem, binC]
    refine op_callQ (by simp only [go_sem, binC]; exact gee i2 z2) ?_
    simp only [go_sem, binC]
    exact seq_ret ⟨Or.inr rfl, .bool true, by simp only [go_sem, binC], rfl, rfl⟩
  | true =>
  simp only [go_sem, binC, Bool.not_true]
  refine seq_cond (t := false) (by simp only [go_sem, binC]) ?_
  simp only [go_sem, binC]
  obtain ⟨⟨pa, pb⟩, rfl⟩ := Option.isSome_iff_exists.1 hfo
  obtain ⟨hne, hall⟩ := leak_rows hPL
  obtain ⟨_, hpB, hI⟩ := leakV_some hPL
  have hI2 := inB_iff.1 hI
  have hl4 := hk4.resolve_left (by simp)
  have hRne : R.1 ≠ R.2 := by rw [← hR]; exact hne
  obtain ⟨w, H5, k5, x5, q5⟩ := gv H4 d _ _ ls l h hI2.1 hI2.2 (r1.mono (agx_sub x24)) (r2.mono (agx_sub x24)) hsm hpB
  obtain ⟨vs, hvs⟩ : ∃ vs, ls.map (lowL true h) = vs := ⟨_, rfl⟩
  rw [hvs] at q5 hall
  have hvl : vs.length = ls.length := by rw [← hvs, List.length_map]
  obtain ⟨_, ua, rfl, _⟩ := id q5
  refine seq_skip (seq_reg ?_)
  simp only [go_sem, binC]
  refine seq_reg ?_
  simp only [go_sem, binC, gc_of hb4, inBlk_some]
  refine op_callK (by simp only [go_sem, binC]; exact k5) ?_
  simp only [go_sem, binC]
  refine seq_assoc (seq_reg ?_)
  simp only [go_sem, binC]
  refine seq_block (wpc_loop ?_)
  suffices hh : ∀ (m i : Nat) (e : Env), i + m = vs.length → e 8 = .slice ja R.1.length R.1.length → e 9 = .slice jb R.2.length R.2.length → e 11 = .bool ((vs.take i).all id) → e 12 = .slice ua vs.length vs.length → e 13 = .int .i64 i → W F H.length _ e H5 _ from
    hh vs.length 0 _ (by omega) (by simp only [go_sem, binC]) (by simp only [go_sem, binC]) (by (simp only [go_sem, binC]) <;> rfl) (by simp only [go_sem, binC]) (by (simp only [go_sem, binC]) <;> rfl)
  intro m
  induction m with
  | zero =>
    intro i e hi e8 e9 e11 e12 e13
    rw [List.take_of_length_le (by omega), hall] at e11
    have hne2 := ge H5 _ _ R.1 R.2 (i1.mono (agx_sub x5)) (i2.mono (agx_sub x5))
    rw [decide_eq_false hRne] at hne2
    refine lp_step ?_
    refine seq_assoc (seq_reg ?_)
    simp only [go_sem, binC, e12, e13]
    refine seq_cond (t := false) (by simp only [go_sem, binC]; rw [decide_eq_false (by omega)]) ?_
    simp only [go_sem, binC]
    refine seq_exit ?_
    simp only [go_sem, binC, thenX_e, out_e, thenX_n]
    refine seq_reg ?_
    simp only [go_sem, binC, e11, e8, e9, Bool.not_false]
    refine op_callQ (by simp only [go_sem, binC, e8, e9]; exact hne2) ?_
    simp only [go_sem, binC, Bool.not_false]
    exact wpc_ret ⟨Or.inr rfl, .bool true, by simp only [go_sem, binC], rfl, rfl⟩
  | succ m ih =>
    intro i e hi e8 e9 e11 e12 e13
    have hiv : i < vs.length := by omega
    have hw1 : IntKind.i64.wrap ((i : Int) + 1) = ((i + 1 : Nat) : Int) := by rw [wrap_id (by omega) (by omega)]; omega
    obtain ⟨ub, uo, huv, hgu⟩ := gcBo q5 hiv
    simp only [Value.slice.injEq, and_true] at huv
    subst huv
    have htk : (vs.take (i + 1)).all id = ((vs.take i).all id && vs[i]) := by
      rw [List.take_add_one, List.getElem?_eq_getElem hiv, List.all_append]; simp
    refine lp_step ?_
    refine seq_assoc (seq_reg ?_)
    simp only [go_sem, binC, e12, e13]
    refine seq_cond (t := true) (by simp only [go_sem, binC]; rw [decide_eq_true (by omega)]) ?_
    simp only [go_sem, binC]
    refine seq_skip (seq_block (wpc_reg ?_))
    cases hb : (vs.take i).all id with
    | false =>
      rw [hb] at e11 htk
      simp only [go_sem, binC, e11, e12, e13]
      simp only [go_sem, binC, out_n, thenX_n]
      refine wpc_reg ?_
      simp only [go_sem, binC, e13, hw1]
      simp only [go_sem, binC, thenX_n]
      exact ih (i + 1) _ (by omega) (by simp only [go_sem, binC, e8]) (by simp only [go_sem, binC, e9]) (by rw [htk, Bool.false_and]; simp only [go_sem, binC]) (by simp only [go_sem, binC, e12]) (by simp only [go_sem, binC])
    | true =>
      rw [hb] at e11 htk
      simp only [go_sem, binC, e11, e12, e13]
      refine ⟨⟨by omega, by omega⟩, ?_⟩
      simp only [go_sem, binC, Int.toNat_natCast, Nat.mul_one, hgu]
      simp only [go_sem, binC, out_n, thenX_n]
      refine wpc_reg ?_
      simp only [go_sem, binC, e13, hw1]
      simp only [go_sem, binC, thenX_n]
      exact ih (i + 1) _ (by omega) (by simp only [go_sem, binC, e8]) (by simp only [go_sem, binC, e9]) (by rw [htk, Bool.true_and]; simp only [go_sem, binC]) (by simp only [go_sem, binC, e12]) (by simp only [go_sem, binC])
end Go.Proofs.YtkmghcglmjehcaaI
end
section
/- The functions that the law FnLeakKnows reaches, as ideal functions. -/
set_option linter.unusedVariables false
set_option linter.unusedSimpArgs false
namespace Go.Proofs.YtkmghcglmjehcaaI
open Go Go.RowKit
def fnOf : Nat → Option IFn
  | 12 => some (c_lawLKn)
  | 19 => some (c_sProg)
  | 25 => some (c_sLabelOk)
  | 26 => some (c_iRunOf)
  | 37 => some (c_drLeak)
  | 38 => some (c_sLeakOf)
  | 39 => some (c_iLeakOf)
  | 40 => some (c_lcInts)
  | 41 => some (c_iKnows)
  | 42 => some (c_iRunTo)
  | 48 => some (c_l6Open)
  | 49 => some (c_drAny)
  | 50 => some (c_pick)
  | 51 => some (c_sCopy)
  | 52 => some (c_sAny)
  | 54 => some (c_iProg)
  | 61 => some (c_sSteps)
  | 62 => some (c_sCount)
  | 64 => some (c_sWhy)
  | 65 => some (c_iLabelOk)
  | 68 => some (c_sSet)
  | 69 => some (c_iNums)
  | 70 => some (c_cloneInts)
  | 71 => some (c_do)
  | 72 => some (c_clone)
  | 74 => some (c_iSize)
  | 85 => some (c_drProg)
  | 86 => some (c_sIn)
  | 87 => some (c_sFind12)
  | 88 => some (c_sKnows)
  | 89 => some (c_iHost)
  | 90 => some (c_iPair)
  | 91 => some (c_leak1)
  | 92 => some (c_eqI)
  | 93 => some (c_each)
  | 94 => some (c_kno1)
  | 100 => some (c_drFine)
  | 101 => some (c_drBent)
  | 102 => some (c_sAll)
  | 103 => some (c_sAllSteps)
  | 104 => some (c_sTypeAt)
  | 105 => some (c_sLBoth)
  | 106 => some (c_sValL)
  | 107 => some (c_con)
  | 108 => some (c_p1)
  | 109 => some (c_iSteps)
  | 112 => some (c_vars)
  | 113 => some (c_sStep)
  | 114 => some (c_iHas)
  | 115 => some (c_sFine)
  | 116 => some (c_iSet)
  | 118 => some (c_drLabel)
  | 119 => some (c_iNum)
  | 120 => some (c_set)
  | 121 => some (c_of)
  | 127 => some (c_drSteps)
  | 128 => some (c_sBits)
  | 129 => some (c_sSameV)
  | 130 => some (c_sRunOf)
  | 131 => some (c_lcInts)
  | 132 => some (c_sRunTo)
  | 133 => some (c_lcWrites)
  | 134 => some (c_sRunSets)
  | 135 => some (c_sHas)
  | 136 => some (c_iIn)
  | 137 => some (c_iBits)
  | 139 => some (c_sWithout)
  | 140 => some (c_sAt)
  | 141 => some (c_sBoth)
  | 142 => some (c_idx)
  | 143 => some (c_iVar)
  | 144 => some (c_iVal)
  | 145 => some (c_sVar)
  | 146 => some (c_sVal)
  | 147 => some (c_sFlows)
  | 150 => some (c_drVal)
  | 151 => some (c_sNums)
  | 152 => some (c_sDo)
  | 153 => some (c_sWithin)
  | 154 => some (c_sNum)
  | _ => none
def cmOf (f : Nat) : CM := ⟨fun g => if [12, 19, 25, 40, 52, 54, 61, 62, 64, 65, 68, 69, 74, 86, 89, 91, 92, 94, 102, 105, 106, 107, 108, 109, 113, 114, 115, 116, 119, 121, 129, 131, 133, 135, 136, 141, 142, 143, 144, 145, 146, 147, 151, 153, 154].contains g then .q else if [48, 49, 50, 71, 85, 100, 101, 118, 120, 127, 140, 150, 152].contains g then .n else .k, if [48, 49, 50, 71, 85, 100, 101, 118, 120, 127, 140, 150, 152].contains f then .n else .q, [137].contains f⟩
theorem hF12 : cFn Try.prog cmOf 12 = some (c_lawLKn) := by kernel_rfl
theorem hF19 : cFn Try.prog cmOf 19 = some (c_sProg) := by kernel_rfl
theorem hF25 : cFn Try.prog cmOf 25 = some (c_sLabelOk) := by kernel_rfl
theorem hF26 : cFn Try.prog cmOf 26 = some (c_iRunOf) := by kernel_rfl
theorem hF37 : cFn Try.prog cmOf 37 = some (c_drLeak) := by kernel_rfl
theorem hF38 : cFn Try.prog cmOf 38 = some (c_sLeakOf) := by kernel_rfl
theorem hF39 : cFn Try.prog cmOf 39 = some (c_iLeakOf) := by kernel_rfl
theorem hF40 : cFn Try.prog cmOf 40 = some (c_lcInts) := by kernel_rfl
theorem hF41 : cFn Try.prog cmOf 41 = some (c_iKnows) := by kernel_rfl
theorem hF42 : cFn Try.prog cmOf 42 = some (c_iRunTo) := by kernel_rfl
theorem hF48 : cFn Try.prog cmOf 48 = some (c_l6Open) := by kernel_rfl
theorem hF49 : cFn Try.prog cmOf 49 = some (c_drAny) := by kernel_rfl
theorem hF50 : cFn Try.prog cmOf 50 = some (c_pick) := by kernel_rfl
theorem hF51 : cFn Try.prog cmOf 51 = some (c_sCopy) := by kernel_rfl
theorem hF52 : cFn Try.prog cmOf 52 = some (c_sAny) := by kernel_rfl
theorem hF54 : cFn Try.prog cmOf 54 = some (c_iProg) := by kernel_rfl
theorem hF61 : cFn Try.prog cmOf 61 = some (c_sSteps) := by kernel_rfl
theorem hF62 : cFn Try.prog cmOf 62 = some (c_sCount) := by kernel_rfl
theorem hF64 : cFn Try.prog cmOf 64 = some (c_sWhy) := by kernel_rfl
theorem hF65 : cFn Try.prog cmOf 65 = some (c_iLabelOk) := by kernel_rfl
theorem hF68 : cFn Try.prog cmOf 68 = some (c_sSet) := by kernel_rfl
theorem hF69 : cFn Try.prog cmOf 69 = some (c_iNums) := by kernel_rfl
theorem hF70 : cFn Try.prog cmOf 70 = some (c_cloneInts) := by kernel_rfl
theorem hF71 : cFn Try.prog cmOf 71 = some (c_do) := by kernel_rfl
theorem hF72 : cFn Try.prog cmOf 72 = some (c_clone) := by kernel_rfl
theorem hF74 : cFn Try.prog cmOf 74 = some (c_iSize) := by kernel_rfl
theorem hF85 : cFn Try.prog cmOf 85 = some (c_drProg) := by kernel_rfl
theorem hF86 : cFn Try.prog cmOf 86 = some (c_sIn) := by kernel_rfl
theorem hF87 : cFn Try.prog cmOf 87 = some (c_sFind12) := by kernel_rfl
theorem hF88 : cFn Try.prog cmOf 88 = some (c_sKnows) := by kernel_rfl
theorem hF89 : cFn Try.prog cmOf 89 = some (c_iHost) := by kernel_rfl
theorem hF90 : cFn Try.prog cmOf 90 = some (c_iPair) := by kernel_rfl
theorem hF91 : cFn Try.prog cmOf 91 = some (c_leak1) := by kernel_rfl
theorem hF92 : cFn Try.prog cmOf 92 = some (c_eqI) := by kernel_rfl
theorem hF93 : cFn Try.prog cmOf 93 = some (c_each) := by kernel_rfl
theorem hF94 : cFn Try.prog cmOf 94 = some (c_kno1) := by kernel_rfl
theorem hF100 : cFn Try.prog cmOf 100 = some (c_drFine) := by kernel_rfl
theorem hF101 : cFn Try.prog cmOf 101 = some (c_drBent) := by kernel_rfl
theorem hF102 : cFn Try.prog cmOf 102 = some (c_sAll) := by kernel_rfl
theorem hF103 : cFn Try.prog cmOf 103 = some (c_sAllSteps) := by kernel_rfl
theorem hF104 : cFn Try.prog cmOf 104 = some (c_sTypeAt) := by kernel_rfl
theorem hF105 : cFn Try.prog cmOf 105 = some (c_sLBoth) := by kernel_rfl
theorem hF106 : cFn Try.prog cmOf 106 = some (c_sValL) := by kernel_rfl
theorem hF107 : cFn Try.prog cmOf 107 = some (c_con) := by kernel_rfl
theorem hF108 : cFn Try.prog cmOf 108 = some (c_p1) := by kernel_rfl
theorem hF109 : cFn Try.prog cmOf 109 = some (c_iSteps) := by kernel_rfl
theorem hF112 : cFn Try.prog cmOf 112 = some (c_vars) := by kernel_rfl
theorem hF113 : cFn Try.prog cmOf 113 = some (c_sStep) := by kernel_rfl
theorem hF114 : cFn Try.prog cmOf 114 = some (c_iHas) := by kernel_rfl
theorem hF115 : cFn Try.prog cmOf 115 = some (c_sFine) := by kernel_rfl
theorem hF116 : cFn Try.prog cmOf 116 = some (c_iSet) := by kernel_rfl
theorem hF118 : cFn Try.prog cmOf 118 = some (c_drLabel) := by kernel_rfl
theorem hF119 : cFn Try.prog cmOf 119 = some (c_iNum) := by kernel_rfl
theorem hF120 : cFn Try.prog cmOf 120 = some (c_set) := by kernel_rfl
theorem hF121 : cFn Try.prog cmOf 121 = some (c_of) := by kernel_rfl
theorem hF127 : cFn Try.prog cmOf 127 = some (c_drSteps) := by kernel_rfl
theorem hF128 : cFn Try.prog cmOf 128 = some (c_sBits) := by kernel_rfl
theorem hF129 : cFn Try.prog cmOf 129 = some (c_sSameV) := by kernel_rfl
theorem hF130 : cFn Try.prog cmOf 130 = some (c_sRunOf) := by kernel_rfl
theorem hF131 : cFn Try.prog cmOf 131 = some (c_lcInts) := by kernel_rfl
theorem hF132 : cFn Try.prog cmOf 132 = some (c_sRunTo) := by kernel_rfl
theorem hF133 : cFn Try.prog cmOf 133 = some (c_lcWrites) := by kernel_rfl
theorem hF134 : cFn Try.prog cmOf 134 = some (c_sRunSets) := by kernel_rfl
theorem hF135 : cFn Try.prog cmOf 135 = some (c_sHas) := by kernel_rfl
theorem hF136 : cFn Try.prog cmOf 136 = some (c_iIn) := by kernel_rfl
theorem hF137 : cFn Try.prog cmOf 137 = some (c_iBits) := by kernel_rfl
theorem hF139 : cFn Try.prog cmOf 139 = some (c_sWithout) := by kernel_rfl
theorem hF140 : cFn Try.prog cmOf 140 = some (c_sAt) := by kernel_rfl
theorem hF141 : cFn Try.prog cmOf 141 = some (c_sBoth) := by kernel_rfl
theorem hF142 : cFn Try.prog cmOf 142 = some (c_idx) := by kernel_rfl
theorem hF143 : cFn Try.prog cmOf 143 = some (c_iVar) := by kernel_rfl
theorem hF144 : cFn Try.prog cmOf 144 = some (c_iVal) := by kernel_rfl
theorem hF145 : cFn Try.prog cmOf 145 = some (c_sVar) := by kernel_rfl
theorem hF146 : cFn Try.prog cmOf 146 = some (c_sVal) := by kernel_rfl
theorem hF147 : cFn Try.prog cmOf 147 = some (c_sFlows) := by kernel_rfl
theorem hF150 : cFn Try.prog cmOf 150 = some (c_drVal) := by kernel_rfl
theorem hF151 : cFn Try.prog cmOf 151 = some (c_sNums) := by kernel_rfl
theorem hF152 : cFn Try.prog cmOf 152 = some (c_sDo) := by kernel_rfl
theorem hF153 : cFn Try.prog cmOf 153 = some (c_sWithin) := by kernel_rfl
theorem hF154 : cFn Try.prog cmOf 154 = some (c_sNum) := by kernel_rfl
theorem hF (g : Nat) (fn : IFn) (h : fnOf g = some fn) : cFn Try.prog cmOf g = some fn := by
  unfold fnOf at h
  split at h
  · rw [← h]; exact hF12
  · rw [← h]; exact hF19
  · rw [← h]; exact hF25
  · rw [← h]; exact hF26
  · rw [← h]; exact hF37
  · rw [← h]; exact hF38
  · rw [← h]; exact hF39
  · rw [← h]; exact hF40
  · rw [← h]; exact hF41
  · rw [← h]; exact hF42
  · rw [← h]; exact hF48
  · rw [← h]; exact hF49
  · rw [← h]; exact hF50
  · rw [← h]; exact hF51
  · rw [← h]; exact hF52
  · rw [← h]; exact hF54
  · rw [← h]; exact hF61
  · rw [← h]; exact hF62
  · rw [← h]; exact hF64
  · rw [← h]; exact hF65
  · rw [← h]; exact hF68
  · rw [← h]; exact hF69
  · rw [← h]; exact hF70
  · rw [← h]; exact hF71
  · rw [← h]; exact hF72
  · rw [← h]; exact hF74
  · rw [← h]; exact hF85
  · rw [← h]; exact hF86
  · rw [← h]; exact hF87
  · rw [← h]; exact hF88
  · rw [← h]; exact hF89
  · rw [← h]; exact hF90
  · rw [← h]; exact hF91
  · rw [← h]; exact hF92
  · rw [← h]; exact hF93
  · rw [← h]; exact hF94
  · rw [← h]; exact hF100
  · rw [← h]; exact hF101
  · rw [← h]; exact hF102
  · rw [← h]; exact hF103
  · rw [← h]; exact hF104
  · rw [← h]; exact hF105
  · rw [← h]; exact hF106
  · rw [← h]; exact hF107
  · rw [← h]; exact hF108
  · rw [← h]; exact hF109
  · rw [← h]; exact hF112
  · rw [← h]; exact hF113
  · rw [← h]; exact hF114
  · rw [← h]; exact hF115
  · rw [← h]; exact hF116
  · rw [← h]; exact hF118
  · rw [← h]; exact hF119
  · rw [← h]; exact hF120
  · rw [← h]; exact hF121
  · rw [← h]; exact hF127
  · rw [← h]; exact hF128
  · rw [← h]; exact hF129
  · rw [← h]; exact hF130
  · rw [← h]; exact hF131
  · rw [← h]; exact hF132
  · rw [← h]; exact hF133
  · rw [← h]; exact hF134
  · rw [← h]; exact hF135
  · rw [← h]; exact hF136
  · rw [← h]; exact hF137
  · rw [← h]; exact hF139
  · rw [← h]; exact hF140
  · rw [← h]; exact hF141
  · rw [← h]; exact hF142
  · rw [← h]; exact hF143
  · rw [← h]; exact hF144
  · rw [← h]; exact hF145
  · rw [← h]; exact hF146
  · rw [← h]; exact hF147
  · rw [← h]; exact hF150
  · rw [← h]; exact hF151
  · rw [← h]; exact hF152
  · rw [← h]; exact hF153
  · rw [← h]; exact hF154
  · cases h
theorem hMixed : Try.prog.follows .mixedOrders = true := by kernel_rfl
theorem ok_iIn : ∀ (H : Heap) (a b c : Int), QC fnOf 136 [.int .i64 a, .int .i64 b, .int .i64 c] H (.bool (inB a b c)) := iIn_ok rfl
theorem ok_sIn : ∀ (H : Heap) (a b c : Int), QC fnOf 86 [.int .i64 a, .int .i64 b, .int .i64 c] H (.bool (inB a b c)) := sIn_ok rfl
theorem ok_iSet : ∀ (H : Heap) (a : Int), QC fnOf 116 [.int .i64 a] H (.bool (inB a 0 7)) := iSet_ok rfl ok_iIn
theorem ok_iHost : ∀ (H : Heap) (a : Int), QC fnOf 89 [.int .i64 a] H (.bool (inB a 0 2)) := iHost_ok rfl ok_iIn
theorem ok_iNum : ∀ (H : Heap) (a : Int), QC fnOf 119 [.int .i64 a] H (.bool (inB a 0 9)) := iNum_ok rfl ok_iIn
theorem ok_sAll : ∀ H, QC fnOf 102 [] H (.int .i64 7) := sAll_ok rfl
theorem ok_sSet : ∀ (H : Heap) (a : Int), QC fnOf 68 [.int .i64 a] H (.bool (inB a 0 7)) := sSet_ok rfl ok_sIn ok_sAll
theorem ok_iLabelOk : LabOk fnOf 65 := iLabelOk_ok rfl ok_iSet
theorem ok_sLabelOk : LabOk fnOf 25 := sLabelOk_ok rfl ok_sSet
theorem ok_iVar : VarOk fnOf 143 := iVar_ok rfl ok_iIn
theorem ok_sVar : VarOk fnOf 145 := sVar_ok rfl ok_sIn
theorem ok_iVal : ValOk fnOf 144 := iVal_ok rfl ok_iNum ok_iVar
theorem ok_sVal : ValOk fnOf 146 := sVal_ok rfl ok_sIn ok_sVar
theorem ok_sSteps : ∀ n, StepsOk fnOf 61 n := fun n => (sSteps_all rfl rfl ok_sIn ok_sVar ok_sVal n).1
theorem ok_iSteps : ∀ n, StepsOk fnOf 109 n := iSteps_all rfl ok_iVar ok_iVal ok_iHost
theorem ok_sCount : ∀ n, CntOk fnOf 62 n := cnt_all (fun _ h => sCount_ok rfl h) (sCount_z rfl)
theorem ok_iSize : ∀ n, CntOk fnOf 74 n := cnt_all (fun _ h => iSize_ok rfl h) (iSize_z rfl)
theorem ok_sProg : ProgOk fnOf 19 := sProg_ok rfl ok_sLabelOk ok_sSteps ok_sCount
theorem ok_iProg : ProgOk fnOf 54 := iProg_ok rfl (con_ok rfl (idx_ok rfl (p1_ok rfl ok_iLabelOk))) ok_iSteps ok_iSize
theorem ok_sHas : HasOk fnOf 135 := sHas_ok rfl
theorem ok_sWit : WitOk fnOf 153 := sWithin_ok rfl ok_sHas
theorem ok_sBoth : BothOk fnOf 141 := sBoth_ok rfl ok_sHas
theorem ok_sLBoth : LBothOk fnOf 105 := sLBoth_ok rfl ok_sLabelOk ok_sBoth
theorem ok_sFlows : FlowsOk fnOf 147 := sFlows_ok rfl ok_sLabelOk ok_sWit
theorem ok_sAny : ∀ H, QC fnOf 52 [] H (.agg #[.int .i64 7, .int .i64 7]) := sAny_ok rfl ok_sAll
theorem ok_sFine : FineOk fnOf 115 := sFine_ok rfl (sValL_ok rfl ok_sAny ok_sLBoth) ok_sLBoth ok_sFlows ok_sBoth ok_sHas
theorem ok_sAllSteps : ∀ n, AllOk fnOf 103 n := sAllSteps_all rfl
theorem ok_sAt : ∀ n, AtOk fnOf 140 n := sAt_all rfl ok_sLBoth
theorem ok_sTypeAt : TypeAtOk fnOf 104 := sTypeAt_ok rfl ok_sProg ok_sAny ok_sAt
theorem ok_sWhy : WhyOk fnOf 64 := sWhy_ok rfl ok_sProg ok_sAllSteps ok_sTypeAt ok_sFine
theorem ok_sCopy : ∀ n, CopyOk fnOf 51 n := sCopy_all rfl
theorem ok_sWithout : ∀ n, WoOk fnOf 139 n := sWithout_all rfl ok_sCount
theorem ok_drProg {H0 : Heap} {rb : Nat} {bv : Value} {code : List Int} (hc : RdC H0 rb bv code) : DrawS fnOf H0 rb bv 85 [] 40000 (ProgQ 3) := drProg_ok rfl rfl rfl rfl rfl ok_sProg hc
theorem ok_drFine {H0 : Heap} {rb : Nat} {bv : Value} {code : List Int} (hc : RdC H0 rb bv code) : DrawS fnOf H0 rb bv 100 [] 40000 (ProgQ 3) := drFine_ok rfl hc (ok_drProg hc) ok_sWhy ok_sWithout
theorem ok_drAny {H0 : Heap} {rb : Nat} {bv : Value} {code : List Int} (hc : RdC H0 rb bv code) : DrawS fnOf H0 rb bv 49 [] 90000 ProgR := drAny_ok rfl rfl hc (ok_drProg hc) (ok_drFine hc) (drBent_ok rfl rfl ok_sCopy hc)
theorem ok_iHas : HasOk fnOf 114 := iHas_ok rfl ok_iHost
theorem ok_iNums : NumsOk fnOf 69 := iNums_ok rfl ok_iNum ok_iProg
theorem ok_do : ∀ n, DoOk fnOf 71 n := do_all rfl rfl rfl rfl
theorem ok_iRunOf : RunOk fnOf 26 := iRunOf_ok rfl ok_iNums rfl ok_do rfl
theorem ok_lcInts : IntsOk fnOf 40 := lcInts_ok rfl
theorem ok_sNums : NumsOk fnOf 151 := sNums_ok rfl ok_sIn ok_sProg
theorem ok_sDo : ∀ n, DoSOk fnOf 152 n := sDo_all rfl rfl
theorem ok_sRunOf : RunOk fnOf 130 := sRunOf_ok rfl ok_sNums ok_sDo
theorem ok_sBits : BitsOk fnOf 128 := sBits_ok rfl
theorem ok_iBits : BitsOwn fnOf 137 := iBits_ok rfl
theorem ok_sSameV : SameV fnOf 129 := sSameV_ok rfl
theorem ok_l12Ints : IntsOk fnOf 131 := lcInts_ok rfl
theorem ok_l12Writes : PairsOk fnOf 133 := lcWrites_ok rfl
theorem ok_sRunTo : ToldOk fnOf 132 := sRunTo_ok rfl
theorem ok_sRunSets : SetsOk fnOf 134 := sRunSets_ok rfl ok_sIn
theorem ok_iRunTo : ToldOk fnOf 42 := iRunTo_ok rfl
theorem ok_sKnows : VarsOk fnOf 88 true := sKnows_ok rfl ok_sProg ok_sHas
theorem ok_each : EachOk fnOf 93 := each_ok rfl ok_iProg ok_iHas
theorem ok_iKnows : VarsOk fnOf 41 true := iKnows_ok rfl rfl ok_each
theorem ok_eqI : IntsOk fnOf 92 := eqI_ok rfl
theorem ok_sFind12 : FindG fnOf 87 := sFind12_ok rfl ok_sBits ok_sSameV ok_sRunOf ok_sRunTo ok_l12Ints ok_sRunSets ok_l12Writes
theorem ok_sLeakOf : LeakOk fnOf 38 true := sLeakOf_ok rfl ok_sProg ok_sIn ok_sKnows ok_sFind12
theorem ok_iPair : PairG fnOf 90 := iPair_ok rfl ok_iBits ok_iRunOf
theorem ok_iLeakOf : LeakOwn fnOf 39 true := iLeakOf_ok rfl ok_iProg ok_iHost ok_iKnows ok_iPair rfl ok_iRunTo ok_eqI
theorem ok_drLeak : DrawLeak fnOf 37 := drLeak_ok rfl rfl rfl ok_drProg ok_drAny ok_sLeakOf
theorem ok_lawLKn : LawB fnOf 12 := lawLKn_ok rfl ok_drLeak ok_sLeakOf ok_iLeakOf ok_lcInts ok_iKnows
end Go.Proofs.YtkmghcglmjehcaaI
end
section
/- Laws of lists of bytes, called in the model. -/
set_option linter.unusedVariables false
set_option linter.unusedSimpArgs false
namespace Go.Proofs.YtkmghcglmjehcaaI
open Go Go.RowKit
theorem Good.byte {w : World} {n : Int} (h : (Lit.int .u8 n).wf = true) : Good Co.byte w [.int .u8 n] := fun H m s =>
  ⟨n, [], m, [.int .u8 n], by simpa using s, sub_refl m, ⟨rfl, by simpa [Lit.wf, IntKind.min, IntKind.max, IntKind.signed, IntKind.bits] using h⟩, All2.cons (.inl rfl) All2.nil⟩
theorem good_5 {T : Type} {enc : TypeId × Value → T} {w : World} {spare : Nat → Bool} {held : Bool} {n : Nat} {cs : List Value} {x : DataW T × List MemPlace} (h : DataW.trod enc Try.prog w 0 spare held n 5 cs = some x) : Good Co.byte w cs := by
  obtain ⟨m, rfl, _, hw⟩ := DataW.trod_int Try.underlying5 h
  exact Good.byte hw
theorem good_22 {T : Type} {enc : TypeId × Value → T} {w : World} {spare : Nat → Bool} {held : Bool} {n : Nat} {cs : List Value} {x : DataW T × List MemPlace} (h : DataW.trod enc Try.prog w 0 spare held n 22 cs = some x) : Good (Co.sl Co.byte) w cs :=
  Good.sl Try.underlying22 (by kernel_rfl) (by decide) h fun _ _ _ _ h => good_5 h
theorem lawB_calls {n : Nat} (hl : LawB fnOf n) {W : World} {a : Option Addr} {l c : Nat} (g0 : Good (Co.sl Co.byte) W [.slice a l c]) :
    Calls Try.prog n #[.slice a l c] W fun e w' => e = .returned (.bool true) ∧ Below W.heap.size W w' := by
  obtain ⟨ts, L2, m2, cs1, s2, q2, r2, e2⟩ := g0 [] (fun _ => none) (SL.none _)
  obtain ⟨u, rfl, hu⟩ := r2
  exact law_core hF hMixed s2 (vals := [u]) (All2.cons (VR.one_mk e2) All2.nil) (hl _ u ts hu)
end Go.Proofs.YtkmghcglmjehcaaI
end
