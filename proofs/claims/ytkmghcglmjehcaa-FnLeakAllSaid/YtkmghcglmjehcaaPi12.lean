/- Texts of this proof, merged: W9, W10, W11, GL69, BL69. -/
import Derived.Test.YtkmghcglmjehcaaPi11
import Derived.Test.YtkmghcglmjehcaaRows
section
/- A program and a host drawn (spec.DrawLeakOf). -/
set_option linter.unusedVariables false
set_option linter.unusedSimpArgs false
namespace Go.Proofs.YtkmghcglmjehcaaI
open Go Go.RowKit
def drLeakRet : ICode := .seq (.reg none [
    ⟨(some 49), none, .load true 2 (.t 5)⟩,
    ⟨(some 50), none, .mov (.t 6)⟩,
    ⟨none, none, .store 2 (.t 2) (.t 49)⟩,
    ⟨(some 3), none, .mov (.t 50)⟩])
 (.ret)
def drLeakEnd : ICode := .seq (.seq (.reg none [
     ⟨(some 44), none, .mov (.t 4)⟩,
     ⟨(some 45), none, .call .n (.f 50) [(.t 44), (.c (.int .i64 2))]⟩,
     ⟨(some 46), none, .bin .eql (.t 45) (.c (.int .i64 0))⟩])
  (.cond (.t 46) (.reg none [
     ⟨(some 47), none, .mov (.t 4)⟩,
     ⟨(some 48), none, .call .n (.f 49) [(.t 47)]⟩,
     ⟨none, none, .store 2 (.t 5) (.t 48)⟩]) (.skip)))
 drLeakRet
def c_drLeak : IFn := ⟨1, 51, [.cell true 2 2, .t 3],
 .seq (.reg none [
    ⟨(some 2), none, .new [(.slice none 0 0), (.slice none 0 0)]⟩,
    ⟨(some 3), none, .mov (.c (.int .i64 0))⟩])
 (.seq (.reg none [
    ⟨(some 11), none, .mov (.t 0)⟩,
    ⟨(some 12), none, .call .n (.f 48) [(.t 11)]⟩,
    ⟨(some 4), none, .mov (.t 12)⟩])
 (.seq (.reg none [
    ⟨(some 13), none, .mov (.t 4)⟩,
    ⟨(some 14), none, .call .n (.f 85) [(.t 13)]⟩,
    ⟨(some 5), none, .new [(.slice none 0 0), (.slice none 0 0)]⟩,
    ⟨none, none, .store 2 (.t 5) (.t 14)⟩])
 (.seq (.reg none [
    ⟨(some 15), none, .mov (.t 4)⟩,
    ⟨(some 16), none, .call .n (.f 50) [(.t 15), (.c (.int .i64 4))]⟩,
    ⟨(some 17), none, .mov (.t 4)⟩,
    ⟨(some 18), none, .call .n (.f 50) [(.t 17), (.c (.int .i64 9))]⟩,
    ⟨(some 19), none, .bin .quo (.t 18) (.c (.int .i64 8))⟩,
    ⟨(some 20), none, .bin .sub (.t 16) (.t 19)⟩,
    ⟨(some 6), none, .mov (.t 20)⟩])
 (.seq (.seq (.reg none [
     ⟨(some 7), none, .mov (.c (.int .i64 0))⟩])
  (.block 0 (.loop (.seq (.seq (.reg none [
        ⟨(some 21), none, .mov (.t 7)⟩,
        ⟨(some 22), none, .bin .lss (.t 21) (.c (.int .i64 20))⟩,
        ⟨(some 23), none, .mov (.t 22)⟩,
        ⟨(some 24), (some (23, true)), .mov (.t 4)⟩,
        ⟨(some 25), (some (23, true)), .call .n (.f 50) [(.t 24), (.c (.int .i64 16))]⟩,
        ⟨(some 26), (some (23, true)), .bin .gtr (.t 25) (.c (.int .i64 0))⟩,
        ⟨(some 27), none, .pick (.t 23) (.t 26) (.c (.bool false))⟩])
     (.cond (.t 27) (.skip) (.exit 0)))
    (.seq (.block 1 (.seq (.reg none [
         ⟨(some 31), none, .load true 2 (.t 5)⟩,
         ⟨(some 32), none, .mov (.t 6)⟩,
         ⟨(some 33), none, .call .k (.f 38) [(.t 31), (.t 32)]⟩,
         ⟨(some 30), none, .mov (.t 33)⟩,
         ⟨(some 34), none, .ext (.t 30) 0⟩,
         ⟨(some 35), none, .ext (.t 30) 1⟩,
         ⟨(some 36), none, .ext (.t 30) 2⟩,
         ⟨(some 8), none, .mov (.t 34)⟩,
         ⟨(some 9), none, .mov (.t 35)⟩,
         ⟨(some 10), none, .mov (.t 36)⟩])
      (.seq (.seq (.reg none [
          ⟨(some 37), none, .mov (.t 10)⟩])
       (.cond (.t 37) (.seq (.reg none [
           ⟨(some 38), none, .load true 2 (.t 5)⟩,
           ⟨(some 39), none, .mov (.t 6)⟩,
           ⟨none, none, .store 2 (.t 2) (.t 38)⟩,
           ⟨(some 3), none, .mov (.t 39)⟩])
        (.ret)) (.skip)))
      (.seq (.reg none [
         ⟨(some 40), none, .mov (.t 4)⟩,
         ⟨(some 41), none, .call .n (.f 85) [(.t 40)]⟩,
         ⟨none, none, .store 2 (.t 5) (.t 41)⟩])
      (.reg none [
        ⟨(some 42), none, .mov (.t 4)⟩,
        ⟨(some 43), none, .call .n (.f 50) [(.t 42), (.c (.int .i64 3))]⟩,
        ⟨(some 6), none, .mov (.t 43)⟩])))))
    (.reg none [
      ⟨(some 28), none, .mov (.t 7)⟩,
      ⟨(some 29), none, .bin .add (.t 28) (.c (.int .i64 1))⟩,
      ⟨(some 7), none, .mov (.t 29)⟩]))))))
 drLeakEnd))))⟩
/-- The reader, and the program that lies in a box. -/
structure LeakI (H1 : Heap) (rb bx lo : Nat) (bv : Value) (q : Int) (Hc : Heap) (d : Nat) (lv sv : Value) (ls : List (Int × Int)) (l : List (TStep d)) : Prop where
  st : St H1 rb bv q Hc
  box : Hc[bx]? = some ⟨[lv, sv], 0, 0, false, true⟩
  r1 : SlR Co.p2 (vwl lo [bx] Hc) lv ls
  r2 : SlR (Co.step d) (vwl lo [bx] Hc) sv l
  sm : (Co.prog d).sm (ls, l)
theorem LeakI.draw {H1 : Heap} {rb bx lo : Nat} {bv : Value} {q q' : Int} {Hc H' : Heap} {d : Nat} {lv sv : Value} {ls : List (Int × Int)} {l : List (TStep d)} (h : LeakI H1 rb bx lo bv q Hc d lv sv ls l) (hx : AgX [rb] Hc H') (hs : St H1 rb bv q' H') (hr : rb < lo) (hb : bx ≠ rb) : LeakI H1 rb bx lo bv q' H' d lv sv ls l := by
  have hv : Sub (vwl lo [bx] Hc) (vwl lo [bx] H') := vwl_sub hx (Nat.le_refl _) fun b h1 h2 h3 => ⟨by simp; omega, h3⟩
  exact ⟨hs, hx.get h.box (by simp [hb]), h.r1.mono hv, h.r2.mono hv, h.sm⟩
theorem LeakI.new {H1 : Heap} {rb bx lo : Nat} {bv : Value} {q : Int} {Hc H' : Heap} {d : Nat} {lv sv : Value} {ls : List (Int × Int)} {l : List (TStep d)} (hs : St H1 rb bv q H') (hc : ∃ code, RdC H1 rb bv code) (r1 : SlR Co.p2 (vwl Hc.length [] H') lv ls) (r2 : SlR (Co.step d) (vwl Hc.length [] H') sv l) (sm : (Co.prog d).sm (ls, l)) (hlo : lo ≤ Hc.length) (hb : bx < Hc.length) (hrb : rb < bx) (hl : Hc.length ≤ H'.length) : LeakI H1 rb bx lo bv q (H'.set bx ⟨[lv, sv], 0, 0, false, true⟩) d lv sv ls l := by
  obtain ⟨code, hc⟩ := hc
  have hv : Sub (vwl Hc.length [] H') (vwl lo [bx] (H'.set bx ⟨[lv, sv], 0, 0, false, true⟩)) := vwl_sub (AgX.set H' bx _) hlo fun b h1 h2 h3 => ⟨by simp; omega, by simp; omega⟩
  exact ⟨hs.setN hc hrb _, List.getElem?_set_self (by omega), r1.mono hv, r2.mono hv, sm⟩
def DrawLeak (F : Nat → Option IFn) (f : Nat) : Prop := ∀ (H : Heap) (v : Value) (code : List Int), SlR Co.byte (vw 0 H) v code → ∃ (d : Nat) (lv sv : Value) (h : Int) (ls : List (Int × Int)) (l : List (TStep d)) (H' : Heap), KC F f [v] H (.tuple #[.agg #[lv, sv], .int .i64 h]) H' ∧ AgX [] H H' ∧ SlR Co.p2 (vw 0 H') lv ls ∧ SlR (Co.step d) (vw 0 H') sv l ∧ (Co.prog d).sm (ls, l)
theorem drLeak_ok {F : Nat → Option IFn} {f : Nat} (hf : F f = some c_drLeak) (hop : F 48 = some c_l6Open) (hpk : F 50 = some c_pick) (gpr : ∀ {H0 : Heap} {rb : Nat} {bv : Value} {code : List Int}, RdC H0 rb bv code → DrawS F H0 rb bv 85 [] 40000 (ProgQ 3)) (gan : ∀ {H0 : Heap} {rb : Nat} {bv : Value} {code : List Int}, RdC H0 rb bv code → DrawS F H0 rb bv 49 [] 90000 ProgR) (gs : LeakOk F 38 true) : DrawLeak F f := by
  intro H v code hv
  suffices h : ∃ w H', KC F f [v] H w H' ∧ (∃ (d : Nat) (lv sv : Value) (h : Int) (ls : List (Int × Int)) (l : List (TStep d)), w = .tuple #[.agg #[lv, sv], .int .i64 h] ∧ (AgX [] H H' ∧ SlR Co.p2 (vw 0 H') lv ls ∧ SlR (Co.step d) (vw 0 H') sv l ∧ (Co.prog d).sm (ls, l))) by
    obtain ⟨w, H', h1, d, lv, sv, h, ls, l, rfl, h2⟩ := h
    exact ⟨d, lv, sv, h, ls, l, H', h1, h2⟩
  refine KC.mk hf rfl ?_
  refine seq_reg ?_
  simp only [go_sem, binC]
  refine wpc_gen fun H1 hH1 => ?_
  have ht1 : AgX [] H H1 := hH1 ▸ AgX.app [] _ _
  have hb1 : H1[H.length]? = some ⟨[nilS, nilS], 0, 0, false, true⟩ := hH1 ▸ get_new0 _ _
  have hn1 : H1.length = H.length + 1 := by rw [hH1, List.length_append]; rfl
  clear hH1
  refine seq_reg ?_
  simp only [go_sem, binC]
  obtain ⟨bv, code', k2, hc, hs2⟩ := l6Open_ok hop (hv.mono (agx_sub ht1)) H.length ht1.1
  refine op_callN (by simp only [go_sem, binC]; exact k2) ?_
  simp only [go_sem, binC]
  refine wpc_gen fun H2 hH2 => ?_
  rw [← hH2] at hs2
  have ht12 : AgX [] H1 H2 := hH2 ▸ AgX.app [] _ _
  have ht2 : AgX [] H H2 := ht1.tr ht12
  have hb2 : H2[H.length]? = some ⟨[nilS, nilS], 0, 0, false, true⟩ := ht12.get hb1 (by simp)
  have hn2 : H2.length = H1.length + 1 := by rw [hH2, List.length_append]; rfl
  clear hH2
  refine seq_reg ?_
  simp only [go_sem, binC]
  obtain ⟨v3, H3, p3, k3, x3, s3, c3, y3⟩ := gpr hc H2 0 H.length hs2 (by omega) (by omega) (by omega)
  obtain ⟨d, lv, sv, ls, l, rfl, r1, r2, r3, r4, r5⟩ := y3.toR
  refine op_callN (by simp only [go_sem, binC]; exact k3) ?_
  obtain ⟨_, la, rfl, _⟩ := id r1
  obtain ⟨_, sa, rfl, _⟩ := id r2
  have hl3 := x3.1
  simp only [go_sem, binC]
  refine ⟨by omega, ?_⟩
  refine wpc_gen fun H4 hH4 => ?_
  have x4 : AgX [] H3 H4 := hH4 ▸ AgX.app [] _ _
  have hb5 : H4[H3.length]? = some ⟨[.slice la ls.length ls.length, .slice sa l.length l.length], 0, 0, false, true⟩ := hH4 ▸ get_new0 _ _
  have hn4 : H4.length = H3.length + 1 := by rw [hH4, List.length_append]; rfl
  clear hH4
  have hb34 : ∀ b, b < H3.length → b ≠ H3.length := fun b h => by omega
  have hI4 : LeakI H1 H1.length H3.length H2.length bv p3 H4 d (.slice la ls.length ls.length) (.slice sa l.length l.length) ls l := by
    have hvv : Sub (vwl H2.length [] H3) (vwl H2.length [H3.length] H4) := vwl_sub x4 (Nat.le_refl _) fun b h1 h2 h3 => ⟨by simp, by simp; omega⟩
    exact ⟨s3.mono hc x4 (fun _ h => by cases h), hb5, r1.mono hvv, r2.mono hvv, r3⟩
  have x24 : AgX [H1.length] H2 H4 := x3.trans x4 (fun _ h _ => h) (fun _ h _ => by cases h)
  have hb24 : H4[H.length]? = some ⟨[nilS, nilS], 0, 0, false, true⟩ := x24.get hb2 (by simp; omega)
  clear k2 k3 y3 r1 r2 r3
  -- the drawn program and host are handed back
  have hfin : ∀ {Hc : Heap} {q h : Int} {d : Nat} {lv sv : Value} {ls : List (Int × Int)} {l : List (TStep d)}, LeakI H1 H1.length H3.length H2.length bv q Hc d lv sv ls l → AgX [H1.length, H3.length] H4 Hc → ∃ (d : Nat) (lv' sv' : Value) (h' : Int) (ls : List (Int × Int)) (l : List (TStep d)), Value.tuple #[.agg #[lv, sv], .int .i64 h] = .tuple #[.agg #[lv', sv'], .int .i64 h'] ∧ (AgX [] H (Hc.set H.length ⟨[lv, sv], 0, 0, false, true⟩) ∧ SlR Co.p2 (vw 0 (Hc.set H.length ⟨[lv, sv], 0, 0, false, true⟩)) lv' ls ∧ SlR (Co.step d) (vw 0 (Hc.set H.length ⟨[lv, sv], 0, 0, false, true⟩)) sv' l ∧ (Co.prog d).sm (ls, l)) := fun {Hc q h d lv sv ls l} hI hx => by
    have hvv : Sub (vwl H2.length [H3.length] Hc) (vw 0 (Hc.set H.length ⟨[lv, sv], 0, 0, false, true⟩)) := (vwl_sub (AgX.set Hc H.length _) (Nat.le_refl _) (xs' := []) fun b h1 h2 h3 => ⟨by simp; omega, by simp⟩).trans (vwl0 _ _ _)
    refine ⟨d, lv, sv, h, ls, l, rfl, ?_, hI.r1.mono hvv, hI.r2.mono hvv, hI.sm⟩
    have := x24.1
    exact (ht2.trans (x24.trans hx (zs := [H1.length, H3.length]) (fun _ h _ => by simp only [List.mem_singleton] at h; simp [h]) (fun _ h _ => h)) (fun _ h _ => h) (fun b h1 h2 => by simp only [List.mem_cons, List.mem_nil_iff, or_false] at h1; omega)).setN (Nat.le_refl _) _
  have hend : ∀ (e : Env) (Hc : Heap) (q h : Int) (d : Nat) (lv sv : Value) (ls : List (Int × Int)) (l : List (TStep d)), LeakI H1 H1.length H3.length H2.length bv q Hc d lv sv ls l → 0 ≤ q → q ≤ 900000 → AgX [H1.length, H3.length] H4 Hc → e 2 = ptr H.length 0 → e 4 = ptr H1.length 0 → e 5 = ptr H3.length 0 → e 6 = .int .i64 h → wpc F H.length drLeakEnd e Hc (fin [.cell true 2 2, .t 3] fun w H' => ∃ (d : Nat) (lv sv : Value) (h : Int) (ls : List (Int × Int)) (l : List (TStep d)), w = .tuple #[.agg #[lv, sv], .int .i64 h] ∧ (AgX [] H H' ∧ SlR Co.p2 (vw 0 H') lv ls ∧ SlR (Co.step d) (vw 0 H') sv l ∧ (Co.prog d).sm (ls, l))) := by
    intro e Hc q h d lv sv ls l hI hq0 hq hxc e2 e4 e5 e6
    unfold drLeakEnd
    have hlc := hxc.1
    refine seq_assoc (seq_reg ?_)
    simp only [go_sem, binC, e4]
    refine op_draw (n := 2) hpk hc hI.st (by omega) (by omega) (by omega) (by simp only [go_sem, binC, e4]) (by simp only [go_sem, binC]) fun H5 hl5 hx5 hs5 => ?_
    have hI5 := hI.draw hx5 hs5 (by omega) (by omega)
    have hx45 : AgX [H1.length, H3.length] H4 H5 := hxc.trans hx5 (fun _ h _ => h) (fun _ h _ => by simp only [List.mem_singleton] at h; simp [h])
    generalize pickV code' q 2 = pk
    clear hI
    have htail : ∀ (e : Env) (Hc : Heap) (q : Int) (d : Nat) (lv sv : Value) (ls : List (Int × Int)) (l : List (TStep d)), LeakI H1 H1.length H3.length H2.length bv q Hc d lv sv ls l → AgX [H1.length, H3.length] H4 Hc → e 2 = ptr H.length 0 → e 5 = ptr H3.length 0 → e 6 = .int .i64 h → wpc F H.length drLeakRet e Hc (fin [.cell true 2 2, .t 3] fun w H' => ∃ (d : Nat) (lv sv : Value) (h : Int) (ls : List (Int × Int)) (l : List (TStep d)), w = .tuple #[.agg #[lv, sv], .int .i64 h] ∧ (AgX [] H H' ∧ SlR Co.p2 (vw 0 H') lv ls ∧ SlR (Co.step d) (vw 0 H') sv l ∧ (Co.prog d).sm (ls, l))) := by
      intro e Hc q d lv sv ls l hI hxc e2 e5 e6
      unfold drLeakRet
      obtain ⟨_, la, rfl, _⟩ := id hI.r1
      obtain ⟨_, sa, rfl, _⟩ := id hI.r2
      have hbr := hxc.get hb24 (by simp; omega)
      have hbrl := (List.getElem?_eq_some_iff.1 hbr).1
      refine seq_reg ?_
      simp only [go_sem, binC, e2, e5, e6, gc_of hI.box, inBlk_some, hbr]
      refine wpc_ret ⟨Or.inr rfl, .tuple #[.agg #[.slice la ls.length ls.length, .slice sa l.length l.length], .int .i64 h], ?_, hfin hI hxc⟩
      simp [resV, resL, res1, putE_get, notT, ptr, gc_set hbrl, inBlk_some, valOf, e2, e6]
    by_cases hpk2 : pk = 0
    · simp only [go_sem, binC, beq_t hpk2]
      refine seq_cond (t := true) (by first | rfl | (simp only [go_sem, binC]; rw [beq_t hpk2])) ?_
      simp only [go_sem, binC]
      refine seq_reg ?_
      simp only [go_sem, binC, e4]
      obtain ⟨v6, H6, p6, k6, x6, s6, c6, d', lv', sv', ls', l', rfl, r1, r2, r3, r4, r5⟩ := gan hc H5 (q + 1) H.length hs5 (by omega) (by omega) (by omega)
      refine op_callN (by simp only [go_sem, binC, e4]; exact k6) ?_
      obtain ⟨_, la', rfl, _⟩ := id r1
      obtain ⟨_, sa', rfl, _⟩ := id r2
      have hl6 := x6.1
      have hb6 := x6.get hI5.box (by simp; omega)
      simp only [go_sem, binC, e5, hb6]
      refine ⟨by omega, ?_⟩
      refine htail _ _ p6 d' _ _ ls' l' (LeakI.new (Hc := H5) s6 ⟨_, hc⟩ r1 r2 r3 (by omega) (by omega) (by omega) hl6) ?_ (by simp only [go_sem, binC, e2]) (by simp only [go_sem, binC, e5]) (by simp only [go_sem, binC, e6])
      exact (hx45.trans x6 (zs := [H1.length, H3.length]) (fun _ h _ => h) (fun _ h _ => by simp only [List.mem_singleton] at h; simp [h])).trans (AgX.set H6 H3.length _) (fun _ h _ => h) (fun _ h _ => by simp only [List.mem_singleton] at h; simp [h])
    · simp only [go_sem, binC, beq_f hpk2]
      refine seq_cond (t := false) (by first | rfl | (simp only [go_sem, binC]; rw [beq_f hpk2])) ?_
      simp only [go_sem, binC]
      refine seq_skip ?_
      exact htail _ H5 _ d lv sv ls l hI5 hx45 (by simp only [go_sem, binC, e2]) (by simp only [go_sem, binC, e5]) (by simp only [go_sem, binC, e6])
  refine seq_reg ?_
  simp only [go_sem, binC]
  refine op_draw (n := 4) hpk hc hI4.st (by omega) (by omega) (by omega) (by simp only [go_sem, binC]) (by simp only [go_sem, binC]) fun H5 hl5 hx5 hs5 => ?_
  simp only [go_sem, binC]
  refine op_draw (n := 9) hpk hc hs5 (by omega) (by omega) (by omega) (by simp only [go_sem, binC]) (by simp only [go_sem, binC]) fun H6 hl6 hx6 hs6 => ?_
  have hk4 := pickV_bd code' p3 (n := 4) (by omega)
  have hk9 := pickV_bd code' (p3 + 1) (n := 9) (by omega)
  generalize pickV code' p3 4 = pa at hk4 ⊢
  generalize pickV code' (p3 + 1) 9 = pb at hk9 ⊢
  have hqd : binI .quo .i64 pb 8 = some (.int .i64 (pb / 8)) := by rw [quo_eqU (by omega), Int.tdiv_eq_ediv_of_nonneg hk9.1, wrap_id (by omega) (by omega)]
  have hwa : IntKind.i64.wrap (pa - pb / 8) = pa - pb / 8 := wrap_id (by omega) (by omega)
  simp only [go_sem, binC, hqd, hwa]
  have hI6 := (hI4.draw hx5 hs5 (by omega) (by omega)).draw hx6 hs6 (by omega) (by omega)
  have hx46 : AgX [H1.length, H3.length] H4 H6 := (hx5.tr hx6).trans (AgX.refl [] _) (fun _ h _ => by simp only [List.mem_singleton] at h; simp [h]) (fun _ h _ => by cases h)
  refine seq_assoc (seq_reg ?_)
  simp only [go_sem, binC]
  refine seq_block (wpc_loop ?_)
  suffices hh : ∀ (k i : Nat) (e : Env) (Hc : Heap) (q h : Int) (d : Nat) (lv sv : Value) (ls : List (Int × Int)) (l : List (TStep d)), i + k = 20 → LeakI H1 H1.length H3.length H2.length bv q Hc d lv sv ls l → (0 ≤ q ∧ q ≤ 40002 + 40002 * (i : Int)) → AgX [H1.length, H3.length] H4 Hc → e 2 = ptr H.length 0 → e 4 = ptr H1.length 0 → e 5 = ptr H3.length 0 → e 6 = .int .i64 h → e 7 = .int .i64 i → Go.Proofs.YtkmghcglmjehcaaI.W F H.length _ e Hc _ from
    hh 20 0 _ H6 _ (pa - pb / 8) d _ _ ls l rfl hI6 (by omega) hx46 (by simp only [go_sem, binC]) (by simp only [go_sem, binC]) (by simp only [go_sem, binC]) (by simp only [go_sem, binC]) (by (simp only [go_sem, binC]) <;> rfl)
  intro k
  induction k with
  | zero =>
    intro i e Hc q h d lv sv ls l hik hI hq hxc e2 e4 e5 e6 e7
    obtain rfl : i = 20 := by omega
    have hd : decide (((20 : Nat) : Int) < 20) = false := rfl
    refine lp_step ?_
    refine seq_assoc (seq_reg ?_)
    simp only [go_sem, binC, e7, hd]
    refine seq_cond (t := false) (by simp only [go_sem, binC]) ?_
    simp only [go_sem, binC]
    refine seq_exit ?_
    simp only [go_sem, binC, thenX_e, out_e, thenX_n]
    exact hend _ Hc q h d lv sv ls l hI (by omega) (by omega) hxc (by simp only [go_sem, binC, e2]) (by simp only [go_sem, binC, e4]) (by simp only [go_sem, binC, e5]) (by simp only [go_sem, binC, e6])
  | succ k ih =>
    intro i e Hc q h d lv sv ls l hik hI hq hxc e2 e4 e5 e6 e7
    have hd : decide ((i : Int) < 20) = true := decide_eq_true (by omega)
    have hw1 : IntKind.i64.wrap ((i : Int) + 1) = ((i + 1 : Nat) : Int) := by rw [wrap_id (by omega) (by omega)]; omega
    have hlc := hxc.1
    refine lp_step ?_
    refine seq_assoc (seq_reg ?_)
    simp only [go_sem, binC, e7, hd, e4]
    refine op_draw (n := 16) hpk hc hI.st (by omega) (by omega) (by omega) (by simp only [go_sem, binC, e4]) (by simp only [go_sem, binC]) fun H7 hl7 hx7 hs7 => ?_
    have hI7 := hI.draw hx7 hs7 (by omega) (by omega)
    have hx47 : AgX [H1.length, H3.length] H4 H7 := hxc.trans hx7 (fun _ h _ => h) (fun _ h _ => by simp only [List.mem_singleton] at h; simp [h])
    generalize pickV code' q 16 = pk
    clear hI
    by_cases hgt : 0 < pk
    rotate_left
    · simp only [go_sem, binC, decide_eq_false hgt]
      refine seq_cond (t := false) (by simp only [go_sem, binC]) ?_
      simp only [go_sem, binC]
      refine seq_exit ?_
      simp only [go_sem, binC, thenX_e, out_e, thenX_n]
      exact hend _ H7 _ h d lv sv ls l hI7 (by omega) (by omega) hx47 (by simp only [go_sem, binC, e2]) (by simp only [go_sem, binC, e4]) (by simp only [go_sem, binC, e5]) (by simp only [go_sem, binC, e6])
    simp only [go_sem, binC, decide_eq_true hgt]
    refine seq_cond (t := true) (by simp only [go_sem, binC]) ?_
    simp only [go_sem, binC]
    obtain ⟨_, la, rfl, _⟩ := id hI7.r1
    obtain ⟨_, sa, rfl, _⟩ := id hI7.r2
    obtain ⟨a, b, H8, k8, x8, q8, q8'⟩ := gs H7 d _ _ ls l h (hI7.r1.mono (vwl0 _ _ _)) (hI7.r2.mono (vwl0 _ _ _)) hI7.sm
    obtain ⟨_, aa, rfl, _⟩ := id q8
    obtain ⟨_, ab, rfl, _⟩ := id q8'
    have hs8 := hs7.mono hc x8 (fun _ h => by cases h)
    have hI8 : LeakI H1 H1.length H3.length H2.length bv (q + 1) H8 d _ _ ls l := hI7.draw (x8.trans (AgX.refl [] _) (fun _ h _ => by cases h) (fun _ h _ => by cases h)) hs8 (by omega) (by omega)
    have hx48 : AgX [H1.length, H3.length] H4 H8 := hx47.trans x8 (fun _ h _ => h) (fun _ h _ => by cases h)
    have hbr := hx48.get hb24 (by simp; omega)
    have hbrl := (List.getElem?_eq_some_iff.1 hbr).1
    have hl8 := x8.1
    refine seq_skip (seq_block (seq_reg ?_))
    simp only [go_sem, binC, e5, e6, gc_of hI7.box, inBlk_some]
    refine op_callK (by simp only [go_sem, binC]; exact k8) ?_
    simp only [go_sem, binC]
    refine seq_assoc (seq_reg ?_)
    simp only [go_sem, binC]
    cases hlk : (leakV true d (ls, l) h).isSome with
    | true =>
      refine seq_cond (t := true) (by simp only [go_sem, binC]) ?_
      simp only [go_sem, binC]
      refine seq_assoc (seq_reg ?_)
      simp only [go_sem, binC, e2, e5, e6, gc_of hI8.box, inBlk_some, hbr]
      refine seq_ret ?_
      simp only [go_sem, binC, out_r, thenX_r]
      refine ⟨Or.inr rfl, .tuple #[.agg #[.slice la ls.length ls.length, .slice sa l.length l.length], .int .i64 h], ?_, hfin hI8 hx48⟩
      simp [resV, resL, res1, putE_get, notT, ptr, gc_set hbrl, inBlk_some, valOf, e2, e6]
    | false =>
      refine seq_cond (t := false) (by simp only [go_sem, binC]) ?_
      simp only [go_sem, binC]
      obtain ⟨v9, H9, p9, k9, x9, s9, c9, y9⟩ := gpr hc H8 (q + 1) H.length hs8 (by omega) (by omega) (by omega)
      obtain ⟨d', lv', sv', ls', l', rfl, r1, r2, r3, r4, r5⟩ := y9.toR
      obtain ⟨_, la', rfl, _⟩ := id r1
      obtain ⟨_, sa', rfl, _⟩ := id r2
      have hl9 := x9.1
      have hb9 := x9.get hI8.box (by simp; omega)
      refine seq_skip (seq_reg ?_)
      simp only [go_sem, binC, e4]
      refine op_callN (by simp only [go_sem, binC, e4]; exact k9) ?_
      simp only [go_sem, binC, e5, hb9]
      refine ⟨by omega, ?_⟩
      have hI9 : LeakI H1 H1.length H3.length H2.length bv p9 (H9.set H3.length ⟨[.slice la' ls'.length ls'.length, .slice sa' l'.length l'.length], 0, 0, false, true⟩) d' _ _ ls' l' := LeakI.new (Hc := H8) s9 ⟨_, hc⟩ r1 r2 r3 (by omega) (by omega) (by omega) hl9
      have hx49 : AgX [H1.length, H3.length] H4 (H9.set H3.length ⟨[.slice la' ls'.length ls'.length, .slice sa' l'.length l'.length], 0, 0, false, true⟩) := (hx48.trans x9 (zs := [H1.length, H3.length]) (fun _ h _ => h) (fun _ h _ => by simp only [List.mem_singleton] at h; simp [h])).trans (AgX.set H9 H3.length _) (fun _ h _ => h) (fun _ h _ => by simp only [List.mem_singleton] at h; simp [h])
      generalize H9.set H3.length ⟨[.slice la' ls'.length ls'.length, .slice sa' l'.length l'.length], 0, 0, false, true⟩ = H10 at hI9 hx49 ⊢
      refine wpc_reg ?_
      simp only [go_sem, binC, e4]
      refine op_draw (n := 3) hpk hc hI9.st (by omega) (by omega) (by omega) (by simp only [go_sem, binC, e4]) (by simp only [go_sem, binC]) fun H11 hl11 hx11 hs11 => ?_
      simp only [go_sem, binC]
      simp only [go_sem, binC, out_n, thenX_n]
      refine wpc_reg ?_
      simp only [go_sem, binC, e7, hw1]
      simp only [go_sem, binC, thenX_n]
      exact ih (i + 1) _ H11 _ (pickV code' p9 3) d' _ _ ls' l' (by omega) (hI9.draw hx11 hs11 (by omega) (by omega)) (by omega) (hx49.trans hx11 (fun _ h _ => h) (fun _ h _ => by simp only [List.mem_singleton] at h; simp [h])) (by simp only [go_sem, binC, e2]) (by simp only [go_sem, binC, e4]) (by simp only [go_sem, binC, e5]) (by simp only [go_sem, binC]) (by simp only [go_sem, binC])
end Go.Proofs.YtkmghcglmjehcaaI
end
section
/- The law FnLeakKnows on the ideal machine. -/
set_option linter.unusedVariables false
set_option linter.unusedSimpArgs false
namespace Go.Proofs.YtkmghcglmjehcaaI
open Go Go.RowKit
theorem leakV_some {c : Bool} {n : Nat} {p : TProg n} {h : Int} {r : Nat × Nat} (hr : leakV c n p h = some r) : leakG n p (p.1.map (lowL c h)) (diffC c h (p.1.map (lowL c h))) = some r ∧ progB n p = true ∧ inB h 0 2 = true := by
  unfold leakV at hr
  by_cases hp : (progB n p && inB h 0 2) = true
  · rw [if_pos hp] at hr
    rw [Bool.and_eq_true] at hp
    exact ⟨hr, hp⟩
  · rw [if_neg hp] at hr; cases hr
end Go.Proofs.YtkmghcglmjehcaaI
end
section
/- The law FnLeakAll on the ideal machine. -/
set_option linter.unusedVariables false
set_option linter.unusedSimpArgs false
namespace Go.Proofs.YtkmghcglmjehcaaI
open Go Go.RowKit
def lawLAret : ICode := .seq (.reg none [
      ⟨(some 79), none, .mov (.t 12)⟩,
      ⟨(some 80), none, .mov (.t 9)⟩,
      ⟨(some 81), none, .beq false (.t 79) (.t 80)⟩,
      ⟨(some 82), none, .mov (.t 81)⟩,
      ⟨(some 83), (some (82, true)), .mov (.t 10)⟩,
      ⟨(some 84), (some (82, true)), .mov (.t 7)⟩,
      ⟨(some 85), (some (82, true)), .call .q (.f 40) [(.t 83), (.t 84)]⟩,
      ⟨(some 86), none, .pick (.t 82) (.t 85) (.c (.bool false))⟩,
      ⟨(some 87), none, .mov (.t 86)⟩,
      ⟨(some 88), (some (87, true)), .mov (.t 11)⟩,
      ⟨(some 89), (some (87, true)), .mov (.t 8)⟩,
      ⟨(some 90), (some (87, true)), .call .q (.f 40) [(.t 88), (.t 89)]⟩,
      ⟨(some 91), none, .pick (.t 87) (.t 90) (.c (.bool false))⟩,
      ⟨(some 4), none, .mov (.t 91)⟩])
   (.ret)
def lawLAend : ICode := .seq (.reg none [
    ⟨(some 92), none, .lit 1 3 0 [] []⟩,
    ⟨(some 13), none, .mov (.t 92)⟩])
 (.seq (.reg none [
    ⟨(some 93), none, .lit 1 3 0 [] []⟩,
    ⟨(some 14), none, .mov (.t 93)⟩])
 (.seq (.reg none [
    ⟨(some 94), none, .load true 2 (.t 5)⟩,
    ⟨(some 95), none, .mov (.t 6)⟩,
    ⟨(some 96), none, .call .k (.f 41) [(.t 94), (.t 95)]⟩,
    ⟨(some 15), none, .mov (.t 96)⟩])
 (.seq (.seq (.reg none [
     ⟨(some 16), none, .mov (.c (.int .i64 0))⟩])
  (.block 0 (.loop (.seq (.seq (.reg none [
        ⟨(some 97), none, .mov (.t 16)⟩,
        ⟨(some 98), none, .fad 0 (.t 5)⟩,
        ⟨(some 99), none, .load false 1 (.t 98)⟩,
        ⟨(some 100), none, .len (.t 99)⟩,
        ⟨(some 101), none, .bin .lss (.t 97) (.t 100)⟩])
     (.cond (.t 101) (.skip) (.exit 0)))
    (.seq (.block 1 (.seq (.reg none [
         ⟨(some 104), none, .mov (.t 13)⟩,
         ⟨(some 105), none, .mov (.t 1)⟩,
         ⟨(some 106), none, .len (.t 105)⟩,
         ⟨(some 107), none, .mov (.t 16)⟩,
         ⟨(some 108), none, .bin .shr (.t 106) (.t 107)⟩,
         ⟨(some 109), none, .bin .rem (.t 108) (.c (.int .i64 2))⟩,
         ⟨(some 110), none, .lit 1 3 1 [(.int .i64 0)] [(0, 1, (.t 109))]⟩,
         ⟨(some 111), none, .app 1 3 8 true (.t 104) (.t 110)⟩,
         ⟨(some 13), none, .mov (.t 111)⟩])
      (.seq (.reg none [
         ⟨(some 112), none, .mov (.t 14)⟩,
         ⟨(some 113), none, .mov (.t 1)⟩,
         ⟨(some 114), none, .len (.t 113)⟩,
         ⟨(some 115), none, .mov (.t 16)⟩,
         ⟨(some 116), none, .bin .add (.t 115) (.c (.int .i64 2))⟩,
         ⟨(some 117), none, .bin .shr (.t 114) (.t 116)⟩,
         ⟨(some 118), none, .bin .rem (.t 117) (.c (.int .i64 2))⟩,
         ⟨(some 119), none, .lit 1 3 1 [(.int .i64 0)] [(0, 1, (.t 118))]⟩,
         ⟨(some 120), none, .app 1 3 8 true (.t 112) (.t 119)⟩,
         ⟨(some 14), none, .mov (.t 120)⟩])
      (.seq (.reg none [
         ⟨(some 121), none, .mov (.t 15)⟩,
         ⟨(some 122), none, .mov (.t 16)⟩,
         ⟨(some 123), none, .iad 1 (.t 121) (.t 122)⟩,
         ⟨(some 124), none, .load false 1 (.t 123)⟩])
      (.cond (.t 124) (.reg none [
         ⟨(some 125), none, .mov (.t 14)⟩,
         ⟨(some 126), none, .mov (.t 16)⟩,
         ⟨(some 127), none, .mov (.t 13)⟩,
         ⟨(some 128), none, .mov (.t 16)⟩,
         ⟨(some 129), none, .iad 1 (.t 127) (.t 128)⟩,
         ⟨(some 130), none, .load false 1 (.t 129)⟩,
         ⟨(some 131), none, .iad 1 (.t 125) (.t 126)⟩,
         ⟨none, none, .store 1 (.t 131) (.t 130)⟩]) (.skip))))))
    (.reg none [
      ⟨(some 102), none, .mov (.t 16)⟩,
      ⟨(some 103), none, .bin .add (.t 102) (.c (.int .i64 1))⟩,
      ⟨(some 16), none, .mov (.t 103)⟩]))))))
 (.seq (.reg none [
    ⟨(some 133), none, .load true 2 (.t 5)⟩,
    ⟨(some 134), none, .mov (.t 13)⟩,
    ⟨(some 135), none, .call .k (.f 26) [(.t 133), (.t 134)]⟩,
    ⟨(some 132), none, .mov (.t 135)⟩,
    ⟨(some 136), none, .ext (.t 132) 0⟩,
    ⟨(some 137), none, .ext (.t 132) 1⟩,
    ⟨(some 17), none, .new [(.slice none 0 0), (.slice none 0 0), (.slice none 0 0)]⟩,
    ⟨none, none, .store 3 (.t 17) (.t 136)⟩,
    ⟨(some 18), none, .mov (.t 137)⟩])
 (.seq (.reg none [
    ⟨(some 139), none, .load true 2 (.t 5)⟩,
    ⟨(some 140), none, .mov (.t 14)⟩,
    ⟨(some 141), none, .call .k (.f 26) [(.t 139), (.t 140)]⟩,
    ⟨(some 138), none, .mov (.t 141)⟩,
    ⟨(some 142), none, .ext (.t 138) 0⟩,
    ⟨(some 143), none, .ext (.t 138) 1⟩,
    ⟨(some 19), none, .new [(.slice none 0 0), (.slice none 0 0), (.slice none 0 0)]⟩,
    ⟨none, none, .store 3 (.t 19) (.t 142)⟩,
    ⟨(some 20), none, .mov (.t 143)⟩])
 (.seq (.reg (some 5) [
    ⟨(some 144), none, .load true 3 (.t 17)⟩,
    ⟨(some 145), none, .mov (.t 6)⟩,
    ⟨(some 146), none, .call .k (.f 42) [(.t 144), (.t 145)]⟩,
    ⟨(some 147), none, .load true 3 (.t 19)⟩,
    ⟨(some 148), none, .mov (.t 6)⟩,
    ⟨(some 149), none, .call .k (.f 42) [(.t 147), (.t 148)]⟩,
    ⟨(some 150), none, .call .q (.f 40) [(.t 146), (.t 149)]⟩,
    ⟨(some 4), none, .mov (.t 150)⟩])
 (.ret)))))))
def c_lawLA : IFn := ⟨2, 151, [.t 4],
 .seq (.reg none [
    ⟨(some 4), none, .mov (.c (.bool false))⟩])
 (.seq (.seq (.reg none [
     ⟨(some 21), none, .mov (.t 0)⟩,
     ⟨(some 22), none, .len (.t 21)⟩,
     ⟨(some 23), none, .bin .gtr (.t 22) (.c (.int .i64 1048576))⟩,
     ⟨(some 24), none, .mov (.t 23)⟩,
     ⟨(some 25), (some (24, false)), .mov (.t 1)⟩,
     ⟨(some 26), (some (24, false)), .len (.t 25)⟩,
     ⟨(some 27), (some (24, false)), .bin .gtr (.t 26) (.c (.int .i64 1048576))⟩,
     ⟨(some 28), none, .pick (.t 24) (.c (.bool true)) (.t 27)⟩])
  (.cond (.t 28) (.seq (.reg none [
      ⟨(some 4), none, .mov (.c (.bool true))⟩])
   (.ret)) (.skip)))
 (.seq (.reg none [
    ⟨(some 30), none, .mov (.t 0)⟩,
    ⟨(some 31), none, .call .k (.f 37) [(.t 30)]⟩,
    ⟨(some 29), none, .mov (.t 31)⟩,
    ⟨(some 32), none, .ext (.t 29) 0⟩,
    ⟨(some 33), none, .ext (.t 29) 1⟩,
    ⟨(some 5), none, .new [(.slice none 0 0), (.slice none 0 0)]⟩,
    ⟨none, none, .store 2 (.t 5) (.t 32)⟩,
    ⟨(some 6), none, .mov (.t 33)⟩])
 (.seq (.reg none [
    ⟨(some 35), none, .load true 2 (.t 5)⟩,
    ⟨(some 36), none, .mov (.t 6)⟩,
    ⟨(some 37), none, .call .k (.f 38) [(.t 35), (.t 36)]⟩,
    ⟨(some 34), none, .mov (.t 37)⟩,
    ⟨(some 38), none, .ext (.t 34) 0⟩,
    ⟨(some 39), none, .ext (.t 34) 1⟩,
    ⟨(some 40), none, .ext (.t 34) 2⟩,
    ⟨(some 7), none, .mov (.t 38)⟩,
    ⟨(some 8), none, .mov (.t 39)⟩,
    ⟨(some 9), none, .mov (.t 40)⟩])
 (.seq (.reg none [
    ⟨(some 42), none, .load true 2 (.t 5)⟩,
    ⟨(some 43), none, .mov (.t 6)⟩,
    ⟨(some 44), none, .call .k (.f 39) [(.t 42), (.t 43)]⟩,
    ⟨(some 41), none, .mov (.t 44)⟩,
    ⟨(some 45), none, .ext (.t 41) 0⟩,
    ⟨(some 46), none, .ext (.t 41) 1⟩,
    ⟨(some 47), none, .ext (.t 41) 2⟩,
    ⟨(some 10), none, .mov (.t 45)⟩,
    ⟨(some 11), none, .mov (.t 46)⟩,
    ⟨(some 12), none, .mov (.t 47)⟩])
 (.seq (.seq (.reg none [
     ⟨(some 48), none, .mov (.t 12)⟩,
     ⟨(some 49), none, .mov (.t 9)⟩,
     ⟨(some 50), none, .beq true (.t 48) (.t 49)⟩,
     ⟨(some 51), none, .mov (.t 50)⟩,
     ⟨(some 52), (some (51, false)), .mov (.t 10)⟩,
     ⟨(some 53), (some (51, false)), .mov (.t 7)⟩,
     ⟨(some 54), (some (51, false)), .call .q (.f 40) [(.t 52), (.t 53)]⟩,
     ⟨(some 55), (some (51, false)), .un .not (.t 54)⟩,
     ⟨(some 56), none, .pick (.t 51) (.c (.bool true)) (.t 55)⟩,
     ⟨(some 57), none, .mov (.t 56)⟩,
     ⟨(some 58), (some (57, false)), .mov (.t 11)⟩,
     ⟨(some 59), (some (57, false)), .mov (.t 8)⟩,
     ⟨(some 60), (some (57, false)), .call .q (.f 40) [(.t 58), (.t 59)]⟩,
     ⟨(some 61), (some (57, false)), .un .not (.t 60)⟩,
     ⟨(some 62), none, .pick (.t 57) (.c (.bool true)) (.t 61)⟩,
     ⟨(some 63), none, .mov (.t 62)⟩,
     ⟨(some 64), (some (63, false)), .mov (.t 12)⟩,
     ⟨(some 65), none, .pick (.t 63) (.c (.bool true)) (.t 64)⟩,
     ⟨(some 66), none, .mov (.t 65)⟩,
     ⟨(some 67), (some (66, false)), .load true 2 (.t 5)⟩,
     ⟨(some 68), (some (66, false)), .call .q (.f 19) [(.t 67)]⟩,
     ⟨(some 69), (some (66, false)), .un .not (.t 68)⟩,
     ⟨(some 70), none, .pick (.t 66) (.c (.bool true)) (.t 69)⟩,
     ⟨(some 71), none, .mov (.t 70)⟩,
     ⟨(some 72), (some (71, false)), .mov (.t 6)⟩,
     ⟨(some 73), (some (71, false)), .bin .lss (.t 72) (.c (.int .i64 0))⟩,
     ⟨(some 74), none, .pick (.t 71) (.c (.bool true)) (.t 73)⟩,
     ⟨(some 75), none, .mov (.t 74)⟩,
     ⟨(some 76), (some (75, false)), .mov (.t 6)⟩,
     ⟨(some 77), (some (75, false)), .bin .geq (.t 76) (.c (.int .i64 3))⟩,
     ⟨(some 78), none, .pick (.t 75) (.c (.bool true)) (.t 77)⟩])
  (.cond (.t 78) lawLAret (.skip)))
 lawLAend)))))⟩
/-- The second row: where it may be known as the first, else by other bits. -/
def secX (m : Nat) (vs : List Bool) (i : Nat) : Int := if vs.getD i false = true then ((m / 2 ^ i % 2 : Nat) : Int) else ((m / 2 ^ (i + 2) % 2 : Nat) : Int)
def secL (m : Nat) (vs : List Bool) (k : Nat) : List Int := (List.range k).map (secX m vs)
theorem secL_succ (m : Nat) (vs : List Bool) (k : Nat) : secL m vs (k + 1) = secL m vs k ++ [secX m vs k] := by simp [secL, List.range_succ]
theorem secL_len (m : Nat) (vs : List Bool) (k : Nat) : (secL m vs k).length = k := by simp [secL]
theorem secL_bit (m : Nat) (vs : List Bool) (k : Nat) : ∀ x ∈ secL m vs k, x = 0 ∨ x = 1 := by
  intro x hx
  simp only [secL, List.mem_map, List.mem_range] at hx
  obtain ⟨i, _, rfl⟩ := hx
  unfold secX
  split <;> omega
theorem rowL_bit (m k : Nat) : ∀ x ∈ rowL m k, x = 0 ∨ x = 1 := fun x hx => by have := rowL_rg m k x hx; omega
theorem diffT_symm (h : Int) (r r' : RunS) : diffT h r r' = diffT h r' r := by
  unfold diffT
  congr 1
  rw [decide_eq_decide]
  exact eq_comm
theorem diffT_irr (h : Int) (r : RunS) : diffT h r r = false := by simp [diffT]
/-- Where no rows are told nothing is told by these. -/
theorem leak_none {n : Nat} {ls : List (Int × Int)} {l : List (TStep n)} {h : Int} (hP : progB n (ls, l) = true) (hI : inB h 0 2 = true) (hr : leakV true n (ls, l) h = none) (m : Nat) : toldL h (runOf n (ls, l) (rowL m ls.length)).2.2 = toldL h (runOf n (ls, l) (secL m (ls.map (lowL true h)) ls.length)).2.2 := by
  have hg : leakF (okR n (ls, l) (ls.map (lowL true h)) (diffT h)) (2 ^ ls.length) = none := by
    unfold leakV at hr
    rw [if_pos (by rw [hP, hI]; rfl)] at hr
    exact hr
  obtain ⟨f, hf, hfe⟩ := rowL_surj (rowL m ls.length) (rowL_bit _ _)
  obtain ⟨s, hs, hse⟩ := rowL_surj (secL m (ls.map (lowL true h)) ls.length) (secL_bit _ _ _)
  rw [rowL_len] at hf hfe
  rw [secL_len] at hs hse
  have hsame : sameR (ls.map (lowL true h)) f s = true := by
    rw [sameR_iff]
    intro i hi hv
    rw [List.length_map] at hi
    have h1 : (rowL f ls.length)[i]'(by rw [rowL_len]; exact hi) = (rowL m ls.length)[i]'(by rw [rowL_len]; exact hi) := by simp only [hfe]
    have h2 : (rowL s ls.length)[i]'(by rw [rowL_len]; exact hi) = (secL m (ls.map (lowL true h)) ls.length)[i]'(by rw [secL_len]; exact hi) := by simp only [hse]
    rw [rowL_get, rowL_get] at h1
    rw [rowL_get] at h2
    simp only [secL, List.getElem_map, List.getElem_range, secX] at h2
    rw [if_pos hv] at h2
    omega
  have := leak_all (vs := ls.map (lowL true h)) (d := fun f s => diffT h (runR n (ls, l) f) (runR n (ls, l) s)) (fun _ _ => diffT_symm h _ _) (fun _ => diffT_irr h _) hg hf hs hsame
  unfold diffT at this
  rw [Bool.not_eq_false', decide_eq_true_eq] at this
  unfold runR at this
  rwa [hfe, hse] at this
theorem op_app_K1 {F : Nat → Option IFn} {lo0 et bytes b : Nat} {x y : Opd} {e : Env} {H : Heap} {l : List Int} {a : Int} {K : Value → Heap → Prop} (hb : H[b]? = some ⟨ints l, 1, et, true, true⟩) (hx : x.ev e = sli b 0 l.length) (hy : y.ev e = sli H.length 0 1) (hlo : lo0 ≤ b) (hl : l.length < 1048576) (hby : bytes ≤ 1048576)
    (k : ∀ H', AgX [b] H H' → H'.length = H.length + 2 → H'[H.length + 1]? = some ⟨ints (l ++ [a]), 1, et, true, true⟩ → K (sli (H.length + 1) 0 (l.length + 1)) H') : wpOp F lo0 (.app 1 et bytes true x y) e (H ++ [⟨[.int .i64 a], 1, et, true, true⟩]) K := by
  have hgl : getCells (H ++ [⟨[.int .i64 a], 1, et, true, true⟩]) H.length 0 (1 * 1) = some [.int .i64 a] := by
    unfold getCells
    rw [get_new0]
    rfl
  have hbl := (List.getElem?_eq_some_iff.1 hb).1
  have hbytes : (l.length + 1) * bytes ≤ 1048576 * 1048576 := Nat.mul_le_mul (by omega) hby
  refine op_app _ _ _ _ _ (b := ⟨b, 0, none⟩) (n := l.length) (c := l.length) (a := ⟨H.length, 0, none⟩) (m := 1) (c' := 1) (ys := [.int .i64 a]) (kb := ⟨ints l, 1, et, true, true⟩) hx hy (by omega) hgl (by show (H ++ [_])[b]? = _; rw [List.getElem?_append_left hbl]; exact hb) ⟨by show lo0 ≤ b; omega, rfl, rfl, rfl, rfl, by simp [ints], by omega, by omega⟩ ?_
  simp only [if_true, Bool.or_true, Bool.and_true, Bool.true_and, List.length_append, List.length_cons, List.length_nil, Nat.zero_add]
  rw [List.set_append_left _ _ hbl, List.append_assoc]
  have hag : AgX [b] H (H.set b ⟨[], 1, et, false, l.length == 0⟩ ++ ([⟨[.int .i64 a], 1, et, true, true⟩] ++ [⟨ints l ++ [.int .i64 a], 1, et, true, true⟩])) := (AgX.set H b _).trans (AgX.app [] _ _) (fun b h _ => h) (fun b h _ => by cases h)
  refine k _ hag (by simp) ?_
  have : H.length + 1 = (H.set b ⟨[], 1, et, false, l.length == 0⟩).length + 1 := by rw [List.length_set]
  rw [this, get_new]
  simp [ints]
theorem wpc_genEq {F : Nat → Option IFn} {lo : Nat} {c : ICode} {e : Env} {H : Heap} {K : X → Env → Heap → Prop} (h : ∀ e0, e0 = e → wpc F lo c e0 H K) : wpc F lo c e H K := h _ rfl
theorem wpo_genEq {F : Nat → Option IFn} {lo : Nat} {c : List IOper} {e : Env} {H : Heap} {K : Env → Heap → Prop} (h : ∀ e0, e0 = e → wpo F lo c e0 H K) : wpo F lo c e H K := h _ rfl
set_option maxHeartbeats 4000000 in
theorem lawLA_end {F : Nat → Option IFn} (ge : IntsOk F 40) (gv : VarsOk F 41 true) (gr : RunOk F 26) (gt : ToldOk F 42) {lo bx : Nat} {H4 : Heap} {e : Env} {am : Option Addr} {more : List Int} {h : Int} {d : Nat} {la sa : Option Addr} {ls : List (Int × Int)} {l : List (TStep d)} (hlo : lo ≤ H4.length) (hb4 : H4[bx]? = some ⟨[.slice la ls.length ls.length, .slice sa l.length l.length], 0, 0, false, true⟩) (r1 : SlR Co.p2 (vw 0 H4) (.slice la ls.length ls.length) ls) (r2 : SlR (Co.step d) (vw 0 H4) (.slice sa l.length l.length) l) (hsm : (Co.prog d).sm (ls, l)) (hpB : progB d (ls, l) = true) (hI : inB h 0 2 = true)
    (hplain : toldL h (runOf d (ls, l) (rowL more.length ls.length)).2.2 = toldL h (runOf d (ls, l) (secL more.length (ls.map (lowL true h)) ls.length)).2.2) (hlm : more.length ≤ 1048576) (e1 : e 1 = .slice am more.length more.length) (e5 : e 5 = ptr bx 0) (e6 : e 6 = .int .i64 h) : wpc F lo lawLAend e H4 (fin [.t 4] fun w' _ => w' = .bool true ∧ scal w' = true) := by
  have gee : ∀ {H : Heap} {v w : Value} {l : List Int}, SlR Co.int (vw 0 H) v l → SlR Co.int (vw 0 H) w l → QC F 40 [v, w] H (.bool true) := fun {H v w l} a b => by
    have := ge H v w l l a b
    rwa [decide_eq_true rfl] at this
  have hI2 := inB_iff.1 hI
  have hl4 : ls.length ≤ 4 := progB_le4 hpB
  have hbx := (List.getElem?_eq_some_iff.1 hb4).1
  unfold lawLAend
  refine seq_reg ?_
  simp only [go_sem, binC]
  refine seq_reg ?_
  simp only [go_sem, binC]
  refine wpc_gen fun H5 hH5 => ?_
  have x5 : AgX [] H4 H5 := by rw [hH5]; first | exact AgX.app [] _ _ | (rw [List.append_assoc]; exact AgX.app [] _ _)
  have hn5 : H5.length = H4.length + 2 := by rw [hH5]; simp
  have ha5 : H5[H4.length]? = some ⟨ints [], 1, 3, true, true⟩ := by rw [hH5]; simp [ints]
  have hc5 : H5[H4.length + 1]? = some ⟨ints [], 1, 3, true, true⟩ := by rw [hH5]; simp [ints]
  clear hH5
  obtain ⟨w, H6, k6, x6, q6⟩ := gv H5 d _ _ ls l h hI2.1 hI2.2 (r1.mono (agx_sub x5)) (r2.mono (agx_sub x5)) hsm hpB
  obtain ⟨vs, hvs⟩ : ∃ vs, ls.map (lowL true h) = vs := ⟨_, rfl⟩
  rw [hvs] at q6 hplain
  have hvl : vs.length = ls.length := by rw [← hvs, List.length_map]
  obtain ⟨_, ua, rfl, _⟩ := id q6
  have hb5 := x5.get hb4 (by simp)
  have ha6 := x6.get ha5 (by simp)
  have hc6 := x6.get hc5 (by simp)
  have l6 := x6.1
  refine seq_reg ?_
  simp only [go_sem, binC, e5, e6, gc_of hb5, inBlk_some]
  refine op_callK (by simp only [go_sem, binC]; exact k6) ?_
  simp only [go_sem, binC]
  have x26 := x5.tr x6
  have hb6 := x26.get hb4 (by simp)
  refine seq_assoc (seq_reg ?_)
  simp only [go_sem, binC]
  refine seq_block (wpc_loop ?_)
  suffices hh : ∀ (m i : Nat) (e : Env) (Hc : Heap) (b1 b2 : Nat), i + m = ls.length → AgX [H4.length, H4.length + 1] H6 Hc → b1 ≠ b2 → (b1 = H4.length ∨ H6.length ≤ b1) → (b2 = H4.length + 1 ∨ H6.length ≤ b2) → Hc[b1]? = some ⟨ints (rowL more.length i), 1, 3, true, true⟩ → Hc[b2]? = some ⟨ints (secL more.length vs i), 1, 3, true, true⟩ → e 1 = .slice am more.length more.length → e 5 = ptr bx 0 → e 6 = .int .i64 h → e 13 = sli b1 0 i → e 14 = sli b2 0 i → e 15 = .slice ua vs.length vs.length → e 16 = .int .i64 i → W F lo _ e Hc _ from
    hh ls.length 0 _ H6 H4.length (H4.length + 1) (by omega) (AgX.refl _ _) (by omega) (.inl rfl) (.inl rfl) ha6 hc6 (by simp only [go_sem, binC, e1]) (by simp only [go_sem, binC, e5]) (by simp only [go_sem, binC, e6]) (by (simp only [go_sem, binC]) <;> rfl) (by (simp only [go_sem, binC]) <;> rfl) (by simp only [go_sem, binC]) (by (simp only [go_sem, binC]) <;> rfl)
  clear e1 e5 e6
  intro m
  induction m with
  | zero =>
    intro i e Hc b1 b2 hi hxc h12 hb1 hb2 hB1 hB2 e1 e5 e6 e13 e14 e15 e16
    obtain rfl : i = ls.length := by omega
    have hbc := hxc.get hb6 (by simp; omega)
    have x2c : AgX [] H4 Hc := x26.trans hxc (fun _ h _ => h) (fun b h1 h2 => by simp only [List.mem_cons, List.mem_nil_iff, or_false] at h1; omega)
    have s1 : SlR Co.int (vw 0 Hc) (sli b1 0 ls.length) (rowL more.length ls.length) := by
      have := ints_sl0 hB1 (rowL_RgI _ _) (by rw [rowL_len]; omega)
      rwa [rowL_len] at this
    have s2 : SlR Co.int (vw 0 Hc) (sli b2 0 ls.length) (secL more.length vs ls.length) := by
      have := ints_sl0 hB2 (fun x hx => by have := secL_bit _ _ _ x hx; unfold RgI; omega) (by rw [secL_len]; omega)
      rwa [secL_len] at this
    have hn : ∀ {nums : List Int}, nums.length = ls.length → (∀ x ∈ nums, x = 0 ∨ x = 1) → numsB d (ls, l) nums = true := fun {nums} h1 h2 => by
      simp only [numsB, hpB, h1, decide_true, Bool.true_and, List.all_eq_true]
      intro x hx
      have := h2 x hx
      exact inB_iff.2 (by omega)
    have n1 := hn (rowL_len more.length ls.length) (rowL_bit _ _)
    have n2 := hn (secL_len more.length vs ls.length) (secL_bit _ _ _)
    obtain ⟨nx, wx, tx, H7, k7, x7, u1, u2, u3⟩ := gr Hc d _ _ _ ls l _ (r1.mono (agx_sub x2c)) (r2.mono (agx_sub x2c)) hsm s1
    obtain ⟨bx1, bx2⟩ := run_bd n1 hsm
    rw [n1] at k7
    obtain ⟨_, nxa, rfl, _⟩ := id u1
    obtain ⟨_, wxa, rfl, _⟩ := id u2
    obtain ⟨_, txa, rfl, _⟩ := id u3
    have l7 := x7.1
    have lcc := hxc.1
    refine lp_step ?_
    refine seq_assoc (seq_reg ?_)
    simp only [go_sem, binC, e5, e16, gc_of hbc, inBlk_some]
    refine seq_cond (t := false) (by simp only [go_sem, binC]; rw [decide_eq_false (by omega)]) ?_
    simp only [go_sem, binC]
    refine seq_exit ?_
    simp only [go_sem, binC, thenX_e, out_e, thenX_n]
    refine seq_reg ?_
    simp only [go_sem, binC, e5, e13, gc_of hbc, inBlk_some]
    refine op_callK (by simp only [go_sem, binC, e13]; exact k7) ?_
    simp only [go_sem, binC]
    refine ⟨by omega, ?_⟩
    refine wpc_gen fun H8 hh8 => ?_
    have x8 : AgX [] H7 H8 := hh8 ▸ AgX.app [] _ _
    have hbx : H8[H7.length]? = some ⟨[.slice nxa (runOf d (ls, l) (rowL more.length ls.length)).1.length (runOf d (ls, l) (rowL more.length ls.length)).1.length, .slice wxa (runOf d (ls, l) (rowL more.length ls.length)).2.1.length (runOf d (ls, l) (rowL more.length ls.length)).2.1.length, .slice txa (runOf d (ls, l) (rowL more.length ls.length)).2.2.length (runOf d (ls, l) (rowL more.length ls.length)).2.2.length], 0, 0, false, true⟩ := hh8 ▸ get_new0 _ _
    clear hh8
    have xc8 := x7.tr x8
    have x28 := x2c.tr xc8
    have hb8 := x28.get hb4 (by simp)
    have l8 := x8.1
    obtain ⟨ny, wy, ty, H9, k9, x9, v1, v2, v3⟩ := gr H8 d _ _ _ ls l _ (r1.mono (agx_sub x28)) (r2.mono (agx_sub x28)) hsm (s2.mono (agx_sub xc8))
    obtain ⟨by1, by2⟩ := run_bd n2 hsm
    rw [n2] at k9
    obtain ⟨_, nya, rfl, _⟩ := id v1
    obtain ⟨_, wya, rfl, _⟩ := id v2
    obtain ⟨_, tya, rfl, _⟩ := id v3
    have l9 := x9.1
    refine seq_reg ?_
    simp only [go_sem, binC, e5, e14, gc_of hb8, inBlk_some]
    refine op_callK (by simp only [go_sem, binC, e14]; exact k9) ?_
    simp only [go_sem, binC]
    refine ⟨by omega, ?_⟩
    refine wpc_gen fun H10 hh10 => ?_
    have x10 : AgX [] H9 H10 := hh10 ▸ AgX.app [] _ _
    have hby : H10[H9.length]? = some ⟨[.slice nya (runOf d (ls, l) (secL more.length vs ls.length)).1.length (runOf d (ls, l) (secL more.length vs ls.length)).1.length, .slice wya (runOf d (ls, l) (secL more.length vs ls.length)).2.1.length (runOf d (ls, l) (secL more.length vs ls.length)).2.1.length, .slice tya (runOf d (ls, l) (secL more.length vs ls.length)).2.2.length (runOf d (ls, l) (secL more.length vs ls.length)).2.2.length], 0, 0, false, true⟩ := hh10 ▸ get_new0 _ _
    clear hh10
    have x910 := x9.tr x10
    have hbx10 := x910.get hbx (by simp)
    have u3' := u3.mono (agx_sub (x8.tr x910))
    obtain ⟨z, H11, k11, x11, q11⟩ := gt H10 (.slice nxa (runOf d (ls, l) (rowL more.length ls.length)).1.length (runOf d (ls, l) (rowL more.length ls.length)).1.length) (.slice wxa (runOf d (ls, l) (rowL more.length ls.length)).2.1.length (runOf d (ls, l) (rowL more.length ls.length)).2.1.length) _ _ h rfl rfl u3' bx2 (p2_rg u3')
    have hby11 := x11.get hby (by simp)
    have v3' := v3.mono (agx_sub (x10.tr x11))
    obtain ⟨z', H12, k12, x12, q12⟩ := gt H11 (.slice nya (runOf d (ls, l) (secL more.length vs ls.length)).1.length (runOf d (ls, l) (secL more.length vs ls.length)).1.length) (.slice wya (runOf d (ls, l) (secL more.length vs ls.length)).2.1.length (runOf d (ls, l) (secL more.length vs ls.length)).2.1.length) _ _ h rfl rfl v3' by2 (p2_rg v3')
    rw [hplain] at q11
    refine seq_regD ?_
    simp only [go_sem, binC, e6, gc_of hbx10, inBlk_some]
    refine op_callK (by simp only [go_sem, binC, e6]; exact k11) ?_
    simp only [go_sem, binC, e6, gc_of hby11, inBlk_some]
    refine op_callK (by simp only [go_sem, binC, e6]; exact k12) ?_
    simp only [go_sem, binC]
    refine op_callQ (by simp only [go_sem, binC]; exact gee (q11.mono (agx_sub x12)) q12) ?_
    simp only [go_sem, binC]
    exact wpc_ret ⟨Or.inr rfl, .bool true, by simp only [go_sem, binC], rfl, rfl⟩
  | succ m ih =>
    intro i e Hc b1 b2 hi hxc h12 hb1 hb2 hB1 hB2 e1 e5 e6 e13 e14 e15 e16
    have hil : i < ls.length := by omega
    have hiv : i < vs.length := by omega
    have hbc := hxc.get hb6 (by simp; omega)
    have lcc := hxc.1
    have hw1 : IntKind.i64.wrap ((i : Int) + 1) = ((i + 1 : Nat) : Int) := by rw [wrap_id (by omega) (by omega)]; omega
    have hw2 : IntKind.i64.wrap ((i : Int) + 2) = ((i + 2 : Nat) : Int) := by rw [wrap_id (by omega) (by omega)]; omega
    have hs1 : binI .shr .i64 (more.length : Int) (i : Int) = some (.int .i64 ((more.length / 2 ^ i : Nat) : Int)) := binI_shrN (by omega)
    have hs2 : binI .shr .i64 (more.length : Int) ((i + 2 : Nat) : Int) = some (.int .i64 ((more.length / 2 ^ (i + 2) : Nat) : Int)) := binI_shrN (by omega)
    have hm1 : binI .rem .i64 ((more.length / 2 ^ i : Nat) : Int) 2 = some (.int .i64 ((more.length / 2 ^ i % 2 : Nat) : Int)) := binI_remN
    have hm2 : binI .rem .i64 ((more.length / 2 ^ (i + 2) : Nat) : Int) 2 = some (.int .i64 ((more.length / 2 ^ (i + 2) % 2 : Nat) : Int)) := binI_remN
    obtain ⟨ub, uo, huv, hgu⟩ := gcBo q6 hiv
    simp only [Value.slice.injEq, and_true] at huv
    subst huv
    have hub : ub < H6.length ∧ ub ≠ H4.length ∧ ub ≠ H4.length + 1 := by
      refine ⟨?_, fun he => ?_, fun he => ?_⟩
      · unfold getCells at hgu
        cases hx : H6[ub]? with
        | none => rw [hx] at hgu; cases hgu
        | some k => exact (List.getElem?_eq_some_iff.1 hx).1
      · rw [he, gc_of ha6] at hgu
        simp [inBlk, ints] at hgu
      · rw [he, gc_of hc6] at hgu
        simp [inBlk, ints] at hgu
    have hgk : ∀ {H' : Heap}, H'[ub]? = H6[ub]? → getCells H' ub (uo + i) 1 = some [.bool vs[i]] := fun {H'} h => by
      rw [← hgu]; unfold getCells; rw [h]
    have hll1 : (rowL more.length i).length = i := rowL_len _ _
    have hll2 : (secL more.length vs i).length = i := secL_len _ _ _
    have hvd : vs.getD i false = vs[i] := by simp [List.getD, hiv]
    have hb1l := (List.getElem?_eq_some_iff.1 hB1).1
    have hb2l := (List.getElem?_eq_some_iff.1 hB2).1
    refine lp_step ?_
    refine seq_assoc (seq_reg ?_)
    simp only [go_sem, binC, e5, e16, gc_of hbc, inBlk_some]
    refine seq_cond (t := true) (by simp only [go_sem, binC]; rw [decide_eq_true (by omega)]) ?_
    simp only [go_sem, binC]
    refine seq_skip (seq_block (seq_reg ?_))
    simp only [go_sem, binC, e1, e13, e16, hs1, hm1]
    refine op_app_K1 (b := b1) (l := rowL more.length i) (a := ((more.length / 2 ^ i % 2 : Nat) : Int)) hB1 (by simp only [go_sem, binC, e13]; rw [hll1]) (by (simp only [go_sem, binC]) <;> rfl) (by omega) (by omega) (by omega) fun H7 hx7 hn7 hA7 => ?_
    rw [← rowL_succ] at hA7
    rw [hll1]
    simp only [go_sem, binC]
    have hB27 := hx7.get hB2 (by simp; omega)
    refine seq_reg ?_
    simp only [go_sem, binC, e1, e14, e16, hw2, hs2, hm2]
    refine op_app_K1 (b := b2) (l := secL more.length vs i) (a := ((more.length / 2 ^ (i + 2) % 2 : Nat) : Int)) hB27 (by simp only [go_sem, binC, e14]; rw [hll2]) (by (simp only [go_sem, binC]) <;> rfl) (by omega) (by omega) (by omega) fun H8 hx8 hn8 hA8 => ?_
    rw [hll2]
    simp only [go_sem, binC]
    have hA18 := hx8.get hA7 (by simp; omega)
    have hx78 : AgX [H4.length, H4.length + 1] H6 H8 := (hxc.trans hx7 (fun _ h _ => h) (fun b h1 h2 => by simp only [List.mem_singleton] at h1; simp; omega)).trans hx8 (fun _ h _ => h) (fun b h1 h2 => by simp only [List.mem_singleton] at h1; simp; omega)
    have hu8 := hgk (hx78.2 ub hub.1 (by simp; omega))
    refine seq_reg ?_
    simp only [go_sem, binC, e15, e16]
    refine ⟨⟨by omega, by omega⟩, ?_⟩
    simp only [go_sem, binC, Int.toNat_natCast, Nat.mul_one, hu8]
    cases hvi : vs[i] with
    | false =>
      have hsx : secL more.length vs (i + 1) = secL more.length vs i ++ [((more.length / 2 ^ (i + 2) % 2 : Nat) : Int)] := by
        rw [secL_succ]; unfold secX; rw [hvd, hvi]; rfl
      rw [← hsx] at hA8
      refine wpc_cond (t := false) (by simp only [go_sem, binC]) ?_
      simp only [go_sem, binC]
      refine wpc_skip ?_
      simp only [go_sem, binC, out_n, thenX_n]
      refine wpc_reg ?_
      simp only [go_sem, binC, e16, hw1]
      simp only [go_sem, binC, thenX_n]
      exact ih (i + 1) _ H8 (Hc.length + 1) (H7.length + 1) (by omega) hx78 (by omega) (.inr (by omega)) (.inr (by omega)) hA18 hA8 (by simp only [go_sem, binC, e1]) (by simp only [go_sem, binC, e5]) (by simp only [go_sem, binC, e6]) (by simp only [go_sem, binC]) (by simp only [go_sem, binC]) (by simp only [go_sem, binC, e15]) (by simp only [go_sem, binC])
    | true =>
      have hsx : secL more.length vs (i + 1) = secL more.length vs i ++ [((more.length / 2 ^ i % 2 : Nat) : Int)] := by
        rw [secL_succ]; unfold secX; rw [hvd, hvi]; rfl
      have hg1 : getCells H8 (Hc.length + 1) i 1 = some [.int .i64 ((more.length / 2 ^ i % 2 : Nat) : Int)] := by
        have := gc_ints hA18 (i := i) (by rw [rowL_len]; omega)
        rw [this]
        have : (rowL more.length (i + 1)).getD i 0 = ((more.length / 2 ^ i % 2 : Nat) : Int) := by
          rw [List.getD, List.getElem?_eq_getElem (by rw [rowL_len]; omega), Option.getD_some, rowL_get]
        rw [this]
      have hset : (ints (secL more.length vs i ++ [((more.length / 2 ^ (i + 2) % 2 : Nat) : Int)])).set i (.int .i64 ((more.length / 2 ^ i % 2 : Nat) : Int)) = ints (secL more.length vs (i + 1)) := by
        rw [ints_set, hsx, List.set_append_right _ _ (by omega), hll2, Nat.sub_self]
        rfl
      refine wpc_cond (t := true) (by simp only [go_sem, binC]) ?_
      simp only [go_sem, binC]
      refine wpc_reg ?_
      simp only [go_sem, binC, e16]
      refine ⟨⟨by omega, by omega⟩, ?_⟩
      simp only [go_sem, binC, Int.toNat_natCast, Nat.mul_one, Nat.zero_add, hg1]
      refine ⟨⟨by omega, by omega⟩, ?_⟩
      simp only [go_sem, binC, Int.toNat_natCast, Nat.mul_one, Nat.zero_add, hA8]
      refine ⟨⟨by omega, by simp [ints, secL_len]⟩, ?_⟩
      simp only [go_sem, binC, out_n, thenX_n]
      rw [hset]
      have hlt := (List.getElem?_eq_some_iff.1 hA8).1
      have hxs : AgX [H7.length + 1] H8 (H8.set (H7.length + 1) ⟨ints (secL more.length vs (i + 1)), 1, 3, true, true⟩) := AgX.set _ _ _
      refine wpc_reg ?_
      simp only [go_sem, binC, e16, hw1]
      simp only [go_sem, binC, thenX_n]
      exact ih (i + 1) _ _ (Hc.length + 1) (H7.length + 1) (by omega) (hx78.trans hxs (fun _ h _ => h) (fun b h1 h2 => by simp only [List.mem_singleton] at h1; omega)) (by omega) (.inr (by omega)) (.inr (by omega)) (hxs.get hA18 (by simp; omega)) (List.getElem?_set_self hlt) (by simp only [go_sem, binC, e1]) (by simp only [go_sem, binC, e5]) (by simp only [go_sem, binC, e6]) (by simp only [go_sem, binC]) (by simp only [go_sem, binC]) (by simp only [go_sem, binC, e15]) (by simp only [go_sem, binC])
set_option maxHeartbeats 4000000 in
theorem lawLA_ok {F : Nat → Option IFn} {f : Nat} (hf : F f = some c_lawLA) (gd : DrawLeak F 37) (gs : LeakOk F 38 true) (gi : LeakOwn F 39 true) (ge : IntsOk F 40) (gp : ProgOk F 19) (gv : VarsOk F 41 true) (gr : RunOk F 26) (gt : ToldOk F 42) : LawB2 F f := by
  intro H v w code more hv hw
  have hv0 := hv
  obtain ⟨h0, a, rfl, _⟩ := hv
  obtain ⟨_, am, rfl, _⟩ := id hw
  have gee : ∀ {H : Heap} {v w : Value} {l : List Int}, SlR Co.int (vw 0 H) v l → SlR Co.int (vw 0 H) w l → QC F 40 [v, w] H (.bool true) := fun {H v w l} a b => by
    have := ge H v w l l a b
    rwa [decide_eq_true rfl] at this
  refine QC.mk hf rfl ?_
  refine seq_reg ?_
  simp only [go_sem, binC]
  refine seq_assoc (seq_reg ?_)
  simp only [go_sem, binC]
  by_cases hbig : 1048576 < (code.length : Int)
  · simp only [go_sem, binC, decide_eq_true hbig]
    refine seq_cond (t := true) (by simp only [go_sem, binC]) ?_
    simp only [go_sem, binC]
    refine seq_assoc (seq_reg ?_)
    simp only [go_sem, binC]
    exact seq_ret ⟨Or.inr rfl, .bool true, by simp only [go_sem, binC], rfl, rfl⟩
  simp only [go_sem, binC, decide_eq_false hbig]
  by_cases hbig2 : 1048576 < (more.length : Int)
  · simp only [go_sem, binC, decide_eq_true hbig2]
    refine seq_cond (t := true) (by simp only [go_sem, binC]) ?_
    simp only [go_sem, binC]
    refine seq_assoc (seq_reg ?_)
    simp only [go_sem, binC]
    exact seq_ret ⟨Or.inr rfl, .bool true, by simp only [go_sem, binC], rfl, rfl⟩
  simp only [go_sem, binC, decide_eq_false hbig2]
  refine seq_cond (t := false) (by simp only [go_sem, binC]) ?_
  simp only [go_sem, binC]
  refine seq_skip (seq_reg ?_)
  simp only [go_sem, binC]
  obtain ⟨d, lv, sv, h, ls, l, H1, k1, x1, r1, r2, hsm⟩ := gd H _ code hv0
  obtain ⟨_, la, rfl, _⟩ := id r1
  obtain ⟨_, sa, rfl, _⟩ := id r2
  have hl1 := x1.1
  refine op_callK (by simp only [go_sem, binC]; exact k1) ?_
  simp only [go_sem, binC]
  refine ⟨by omega, ?_⟩
  refine wpc_gen fun H2 hH2 => ?_
  have hb : H2[H1.length]? = some ⟨[.slice la ls.length ls.length, .slice sa l.length l.length], 0, 0, false, true⟩ := hH2 ▸ get_new0 _ _
  have x2 : AgX [] H1 H2 := hH2 ▸ AgX.app [] _ _
  have hn2 : H2.length = H1.length + 1 := by rw [hH2, List.length_append]; rfl
  clear hH2 k1
  replace r1 := r1.mono (agx_sub x2)
  replace r2 := r2.mono (agx_sub x2)
  obtain ⟨wa, wb, H3, k3, x3, z1, z2⟩ := gs H2 d _ _ ls l h r1 r2 hsm
  have hb3 := x3.get hb (by simp)
  obtain ⟨ia, ib, H4, k4, x4, tw⟩ := gi H3 d _ _ ls l h (r1.mono (agx_sub x3)) (r2.mono (agx_sub x3)) hsm
  have x24 := x3.tr x4
  have hb4 := x24.get hb (by simp)
  obtain ⟨P, hPL⟩ : ∃ P, leakV true d (ls, l) h = P := ⟨_, rfl⟩
  have hk4 : P = none ∨ ls.length ≤ 4 := by
    cases hP : P with
    | none => exact .inl rfl
    | some r => rw [hP] at hPL; exact .inr (progB_le4 (leakV_some hPL).2.1)
  rw [hPL] at k3 k4 z1 z2 tw
  obtain ⟨_, _, _, _, _, _, i1, i2⟩ := tw.flats (hk4.imp id fun h => by omega)
  replace z1 := z1.mono (agx_sub x4)
  replace z2 := z2.mono (agx_sub x4)
  obtain ⟨R, hR⟩ : ∃ R, rowsO ls.length P = R := ⟨_, rfl⟩
  rw [hR] at z1 z2 i1 i2
  obtain ⟨_, za, rfl, _⟩ := id z1
  obtain ⟨_, zb, rfl, _⟩ := id z2
  obtain ⟨_, ja, rfl, _⟩ := id i1
  obtain ⟨_, jb, rfl, _⟩ := id i2
  have l24 := x24.1
  refine seq_reg ?_
  simp only [go_sem, binC, gc_of hb, inBlk_some]
  refine op_callK (by simp only [go_sem, binC]; exact k3) ?_
  simp only [go_sem, binC]
  refine seq_reg ?_
  simp only [go_sem, binC, gc_of hb3, inBlk_some]
  refine op_callK (by simp only [go_sem, binC]; exact k4) ?_
  simp only [go_sem, binC]
  have hret : ∀ (rest : ICode) (e : Env), e 12 = .bool P.isSome → e 9 = .bool P.isSome → e 7 = .slice za R.1.length R.1.length → e 8 = .slice zb R.2.length R.2.length → e 10 = .slice ja R.1.length R.1.length → e 11 = .slice jb R.2.length R.2.length → wpc F H.length (.seq lawLAret rest) e H4 (fin [.t 4] fun w' _ => w' = .bool true ∧ scal w' = true) := by
    intro rest e e12 e9 e7 e8 e10 e11
    unfold lawLAret
    refine seq_assoc (seq_reg ?_)
    simp only [go_sem, binC, e12, e9, beq_self_eq_true, e10, e7]
    refine op_callQ (by simp only [go_sem, binC, e10, e7]; exact gee i1 z1) ?_
    simp only [go_sem, binC, e11, e8]
    refine op_callQ (by simp only [go_sem, binC, e11, e8]; exact gee i2 z2) ?_
    simp only [go_sem, binC]
    exact seq_ret ⟨Or.inr rfl, .bool true, by simp only [go_sem, binC], rfl, rfl⟩
  have hpq := gp H4 d _ (ls, l) (prog_rd (r1.mono (agx_sub x24)) (r2.mono (agx_sub x24))) hsm
  refine wpc_genEq fun e0 he => ?_
  have f1 : e0 1 = .slice am more.length more.length := by rw [he]; simp only [go_sem, binC]
  have f5 : e0 5 = ptr H1.length 0 := by rw [he]; simp only [go_sem, binC]
  have f6 : e0 6 = .int .i64 h := by rw [he]; simp only [go_sem, binC]
  have f7 : e0 7 = .slice za R.1.length R.1.length := by rw [he]; simp only [go_sem, binC]
  have f8 : e0 8 = .slice zb R.2.length R.2.length := by rw [he]; simp only [go_sem, binC]
  have f9 : e0 9 = .bool P.isSome := by rw [he]; simp only [go_sem, binC]
  have f10 : e0 10 = .slice ja R.1.length R.1.length := by rw [he]; simp only [go_sem, binC]
  have f11 : e0 11 = .slice jb R.2.length R.2.length := by rw [he]; simp only [go_sem, binC]
  have f12 : e0 12 = .bool P.isSome := by rw [he]; simp only [go_sem, binC]
  clear he
  generalize hfo : P.isSome = fo at f9 f12 hret
  refine seq_assoc (seq_reg ?_)
  refine wpo_cut 15 fun Kc hK => ?_
  simp only [List.take_succ_cons, List.take_zero, List.drop_succ_cons, List.drop_zero] at hK ⊢
  simp only [go_sem, binC, f9, f12, bne_self_eq_false, beq_self_eq_true, Bool.not_true]
  refine op_callQ (by simp only [go_sem, binC, f10, f7]; exact gee i1 z1) ?_
  simp only [go_sem, binC, f11, f8]
  refine op_callQ (by simp only [go_sem, binC, f11, f8]; exact gee i2 z2) ?_
  simp only [go_sem, binC]
  refine hK _ _ ?_
  clear hK
  refine wpo_genEq fun e2 he2 => ?_
  have g1 : e2 1 = .slice am more.length more.length := by rw [he2]; simp only [go_sem, binC, f1]
  have g5 : e2 5 = ptr H1.length 0 := by rw [he2]; simp only [go_sem, binC, f5]
  have g6 : e2 6 = .int .i64 h := by rw [he2]; simp only [go_sem, binC, f6]
  have g7 : e2 7 = .slice za R.1.length R.1.length := by rw [he2]; simp only [go_sem, binC, f7]
  have g8 : e2 8 = .slice zb R.2.length R.2.length := by rw [he2]; simp only [go_sem, binC, f8]
  have g9 : e2 9 = .bool fo := by rw [he2]; simp only [go_sem, binC, f9]
  have g10 : e2 10 = .slice ja R.1.length R.1.length := by rw [he2]; simp only [go_sem, binC, f10]
  have g11 : e2 11 = .slice jb R.2.length R.2.length := by rw [he2]; simp only [go_sem, binC, f11]
  have g12 : e2 12 = .bool fo := by rw [he2]; simp only [go_sem, binC, f12]
  have g62 : e2 62 = .bool false := by rw [he2]; simp only [go_sem, binC]
  clear he2 f1 f5 f6 f7 f8 f9 f10 f11 f12
  cases fo with
  | true =>
    simp only [go_sem, binC, g62, g12]
    refine seq_cond (t := true) (by simp only [go_sem, binC]) ?_
    simp only [go_sem, binC]
    exact hret _ _ (by simp only [go_sem, binC, g12]) (by simp only [go_sem, binC, g9]) (by simp only [go_sem, binC, g7]) (by simp only [go_sem, binC, g8]) (by simp only [go_sem, binC, g10]) (by simp only [go_sem, binC, g11])
  | false =>
  cases hpB : progB d (ls, l) with
  | false =>
    rw [hpB] at hpq
    simp only [go_sem, binC, g62, g12, g5, gc_of hb4, inBlk_some]
    refine op_callQ (by simp only [go_sem, binC, g5, gc_of hb4, inBlk_some]; exact hpq) ?_
    simp only [go_sem, binC]
    refine seq_cond (t := true) (by simp only [go_sem, binC]) ?_
    simp only [go_sem, binC]
    exact hret _ _ (by simp only [go_sem, binC, g12]) (by simp only [go_sem, binC, g9]) (by simp only [go_sem, binC, g7]) (by simp only [go_sem, binC, g8]) (by simp only [go_sem, binC, g10]) (by simp only [go_sem, binC, g11])
  | true =>
  rw [hpB] at hpq
  by_cases hh0 : h < 0
  · have dh0 : decide (h < 0) = true := decide_eq_true hh0
    simp only [go_sem, binC, g62, g12, g5, gc_of hb4, inBlk_some]
    refine op_callQ (by simp only [go_sem, binC, g5, gc_of hb4, inBlk_some]; exact hpq) ?_
    simp only [go_sem, binC, g6, dh0]
    refine seq_cond (t := true) (by simp only [go_sem, binC]) ?_
    simp only [go_sem, binC]
    exact hret _ _ (by simp only [go_sem, binC, g12]) (by simp only [go_sem, binC, g9]) (by simp only [go_sem, binC, g7]) (by simp only [go_sem, binC, g8]) (by simp only [go_sem, binC, g10]) (by simp only [go_sem, binC, g11])
  have dh0 : decide (h < 0) = false := decide_eq_false hh0
  by_cases hh3 : 3 ≤ h
  · have dh3 : decide (3 ≤ h) = true := decide_eq_true hh3
    simp only [go_sem, binC, g62, g12, g5, gc_of hb4, inBlk_some]
    refine op_callQ (by simp only [go_sem, binC, g5, gc_of hb4, inBlk_some]; exact hpq) ?_
    simp only [go_sem, binC, g6, dh0, dh3]
    refine seq_cond (t := true) (by simp only [go_sem, binC]) ?_
    simp only [go_sem, binC]
    exact hret _ _ (by simp only [go_sem, binC, g12]) (by simp only [go_sem, binC, g9]) (by simp only [go_sem, binC, g7]) (by simp only [go_sem, binC, g8]) (by simp only [go_sem, binC, g10]) (by simp only [go_sem, binC, g11])
  have dh3 : decide (3 ≤ h) = false := decide_eq_false hh3
  simp only [go_sem, binC, g62, g12, g5, gc_of hb4, inBlk_some]
  refine op_callQ (by simp only [go_sem, binC, g5, gc_of hb4, inBlk_some]; exact hpq) ?_
  simp only [go_sem, binC, g6, dh0, dh3]
  refine seq_cond (t := false) (by simp only [go_sem, binC]) ?_
  simp only [go_sem, binC]
  have hI : inB h 0 2 = true := inB_iff.2 (by omega)
  obtain rfl : P = none := by
    clear hret z1 z2 i1 i2 tw hR k3 k4 hPL hk4
    cases P with
    | none => rfl
    | some r => cases hfo
  have hplain := leak_none hpB hI hPL more.length
  refine seq_skip ?_
  exact lawLA_end (am := am) ge gv gr gt (by omega) hb4 (r1.mono (agx_sub x24)) (r2.mono (agx_sub x24)) hsm hpB hI hplain (by omega) (by simp only [go_sem, binC, g1]) (by simp only [go_sem, binC, g5]) (by simp only [go_sem, binC, g6])
end Go.Proofs.YtkmghcglmjehcaaI
end
section
/- The functions that the law FnLeakAll reaches, as ideal functions. -/
set_option linter.unusedVariables false
set_option linter.unusedSimpArgs false
namespace Go.Proofs.YtkmghcglmjehcaaI
open Go Go.RowKit
def fnOf : Nat → Option IFn
  | 11 => some (c_lawLA)
  | 19 => some (c_sProg)
  | 25 => some (c_sLabelOk)
  | 26 => some (c_iRunOf)
  | 37 => some (c_drLeak)
  | 38 => some (c_sLeakOf)
  | 39 => some (c_iLeakOf)
  | 40 => some (c_lcInts)
  | 41 => some (c_iKnows)
  | 42 => some (c_iRunTo)
  | 48 => some (c_l6Open)
  | 49 => some (c_drAny)
  | 50 => some (c_pick)
  | 51 => some (c_sCopy)
  | 52 => some (c_sAny)
  | 54 => some (c_iProg)
  | 61 => some (c_sSteps)
  | 62 => some (c_sCount)
  | 64 => some (c_sWhy)
  | 65 => some (c_iLabelOk)
  | 68 => some (c_sSet)
  | 69 => some (c_iNums)
  | 70 => some (c_cloneInts)
  | 71 => some (c_do)
  | 72 => some (c_clone)
  | 74 => some (c_iSize)
  | 85 => some (c_drProg)
  | 86 => some (c_sIn)
  | 87 => some (c_sFind12)
  | 88 => some (c_sKnows)
  | 89 => some (c_iHost)
  | 90 => some (c_iPair)
  | 91 => some (c_leak1)
  | 92 => some (c_eqI)
  | 93 => some (c_each)
  | 94 => some (c_kno1)
  | 100 => some (c_drFine)
  | 101 => some (c_drBent)
  | 102 => some (c_sAll)
  | 103 => some (c_sAllSteps)
  | 104 => some (c_sTypeAt)
  | 105 => some (c_sLBoth)
  | 106 => some (c_sValL)
  | 107 => some (c_con)
  | 108 => some (c_p1)
  | 109 => some (c_iSteps)
  | 112 => some (c_vars)
  | 113 => some (c_sStep)
  | 114 => some (c_iHas)
  | 115 => some (c_sFine)
  | 116 => some (c_iSet)
  | 118 => some (c_drLabel)
  | 119 => some (c_iNum)
  | 120 => some (c_set)
  | 121 => some (c_of)
  | 127 => some (c_drSteps)
  | 128 => some (c_sBits)
  | 129 => some (c_sSameV)
  | 130 => some (c_sRunOf)
  | 131 => some (c_lcInts)
  | 132 => some (c_sRunTo)
  | 133 => some (c_lcWrites)
  | 134 => some (c_sRunSets)
  | 135 => some (c_sHas)
  | 136 => some (c_iIn)
  | 137 => some (c_iBits)
  | 139 => some (c_sWithout)
  | 140 => some (c_sAt)
  | 141 => some (c_sBoth)
  | 142 => some (c_idx)
  | 143 => some (c_iVar)
  | 144 => some (c_iVal)
  | 145 => some (c_sVar)
  | 146 => some (c_sVal)
  | 147 => some (c_sFlows)
  | 150 => some (c_drVal)
  | 151 => some (c_sNums)
  | 152 => some (c_sDo)
  | 153 => some (c_sWithin)
  | 154 => some (c_sNum)
  | _ => none
def cmOf (f : Nat) : CM := ⟨fun g => if [11, 19, 25, 40, 52, 54, 61, 62, 64, 65, 68, 69, 74, 86, 89, 91, 92, 94, 102, 105, 106, 107, 108, 109, 113, 114, 115, 116, 119, 121, 129, 131, 133, 135, 136, 141, 142, 143, 144, 145, 146, 147, 151, 153, 154].contains g then .q else if [48, 49, 50, 71, 85, 100, 101, 118, 120, 127, 140, 150, 152].contains g then .n else .k, if [48, 49, 50, 71, 85, 100, 101, 118, 120, 127, 140, 150, 152].contains f then .n else .q, [11, 137].contains f⟩
theorem hF11 : cFn Try.prog cmOf 11 = some (c_lawLA) := by kernel_rfl
theorem hF19 : cFn Try.prog cmOf 19 = some (c_sProg) := by kernel_rfl
theorem hF25 : cFn Try.prog cmOf 25 = some (c_sLabelOk) := by kernel_rfl
theorem hF26 : cFn Try.prog cmOf 26 = some (c_iRunOf) := by kernel_rfl
theorem hF37 : cFn Try.prog cmOf 37 = some (c_drLeak) := by kernel_rfl
theorem hF38 : cFn Try.prog cmOf 38 = some (c_sLeakOf) := by kernel_rfl
theorem hF39 : cFn Try.prog cmOf 39 = some (c_iLeakOf) := by kernel_rfl
theorem hF40 : cFn Try.prog cmOf 40 = some (c_lcInts) := by kernel_rfl
theorem hF41 : cFn Try.prog cmOf 41 = some (c_iKnows) := by kernel_rfl
theorem hF42 : cFn Try.prog cmOf 42 = some (c_iRunTo) := by kernel_rfl
theorem hF48 : cFn Try.prog cmOf 48 = some (c_l6Open) := by kernel_rfl
theorem hF49 : cFn Try.prog cmOf 49 = some (c_drAny) := by kernel_rfl
theorem hF50 : cFn Try.prog cmOf 50 = some (c_pick) := by kernel_rfl
theorem hF51 : cFn Try.prog cmOf 51 = some (c_sCopy) := by kernel_rfl
theorem hF52 : cFn Try.prog cmOf 52 = some (c_sAny) := by kernel_rfl
theorem hF54 : cFn Try.prog cmOf 54 = some (c_iProg) := by kernel_rfl
theorem hF61 : cFn Try.prog cmOf 61 = some (c_sSteps) := by kernel_rfl
theorem hF62 : cFn Try.prog cmOf 62 = some (c_sCount) := by kernel_rfl
theorem hF64 : cFn Try.prog cmOf 64 = some (c_sWhy) := by kernel_rfl
theorem hF65 : cFn Try.prog cmOf 65 = some (c_iLabelOk) := by kernel_rfl
theorem hF68 : cFn Try.prog cmOf 68 = some (c_sSet) := by kernel_rfl
theorem hF69 : cFn Try.prog cmOf 69 = some (c_iNums) := by kernel_rfl
theorem hF70 : cFn Try.prog cmOf 70 = some (c_cloneInts) := by kernel_rfl
theorem hF71 : cFn Try.prog cmOf 71 = some (c_do) := by kernel_rfl
theorem hF72 : cFn Try.prog cmOf 72 = some (c_clone) := by kernel_rfl
theorem hF74 : cFn Try.prog cmOf 74 = some (c_iSize) := by kernel_rfl
theorem hF85 : cFn Try.prog cmOf 85 = some (c_drProg) := by kernel_rfl
theorem hF86 : cFn Try.prog cmOf 86 = some (c_sIn) := by kernel_rfl
theorem hF87 : cFn Try.prog cmOf 87 = some (c_sFind12) := by kernel_rfl
theorem hF88 : cFn Try.prog cmOf 88 = some (c_sKnows) := by kernel_rfl
theorem hF89 : cFn Try.prog cmOf 89 = some (c_iHost) := by kernel_rfl
theorem hF90 : cFn Try.prog cmOf 90 = some (c_iPair) := by kernel_rfl
theorem hF91 : cFn Try.prog cmOf 91 = some (c_leak1) := by kernel_rfl
theorem hF92 : cFn Try.prog cmOf 92 = some (c_eqI) := by kernel_rfl
theorem hF93 : cFn Try.prog cmOf 93 = some (c_each) := by kernel_rfl
theorem hF94 : cFn Try.prog cmOf 94 = some (c_kno1) := by kernel_rfl
theorem hF100 : cFn Try.prog cmOf 100 = some (c_drFine) := by kernel_rfl
theorem hF101 : cFn Try.prog cmOf 101 = some (c_drBent) := by kernel_rfl
theorem hF102 : cFn Try.prog cmOf 102 = some (c_sAll) := by kernel_rfl
theorem hF103 : cFn Try.prog cmOf 103 = some (c_sAllSteps) := by kernel_rfl
theorem hF104 : cFn Try.prog cmOf 104 = some (c_sTypeAt) := by kernel_rfl
theorem hF105 : cFn Try.prog cmOf 105 = some (c_sLBoth) := by kernel_rfl
theorem hF106 : cFn Try.prog cmOf 106 = some (c_sValL) := by kernel_rfl
theorem hF107 : cFn Try.prog cmOf 107 = some (c_con) := by kernel_rfl
theorem hF108 : cFn Try.prog cmOf 108 = some (c_p1) := by kernel_rfl
theorem hF109 : cFn Try.prog cmOf 109 = some (c_iSteps) := by kernel_rfl
theorem hF112 : cFn Try.prog cmOf 112 = some (c_vars) := by kernel_rfl
theorem hF113 : cFn Try.prog cmOf 113 = some (c_sStep) := by kernel_rfl
theorem hF114 : cFn Try.prog cmOf 114 = some (c_iHas) := by kernel_rfl
theorem hF115 : cFn Try.prog cmOf 115 = some (c_sFine) := by kernel_rfl
theorem hF116 : cFn Try.prog cmOf 116 = some (c_iSet) := by kernel_rfl
theorem hF118 : cFn Try.prog cmOf 118 = some (c_drLabel) := by kernel_rfl
theorem hF119 : cFn Try.prog cmOf 119 = some (c_iNum) := by kernel_rfl
theorem hF120 : cFn Try.prog cmOf 120 = some (c_set) := by kernel_rfl
theorem hF121 : cFn Try.prog cmOf 121 = some (c_of) := by kernel_rfl
theorem hF127 : cFn Try.prog cmOf 127 = some (c_drSteps) := by kernel_rfl
theorem hF128 : cFn Try.prog cmOf 128 = some (c_sBits) := by kernel_rfl
theorem hF129 : cFn Try.prog cmOf 129 = some (c_sSameV) := by kernel_rfl
theorem hF130 : cFn Try.prog cmOf 130 = some (c_sRunOf) := by kernel_rfl
theorem hF131 : cFn Try.prog cmOf 131 = some (c_lcInts) := by kernel_rfl
theorem hF132 : cFn Try.prog cmOf 132 = some (c_sRunTo) := by kernel_rfl
theorem hF133 : cFn Try.prog cmOf 133 = some (c_lcWrites) := by kernel_rfl
theorem hF134 : cFn Try.prog cmOf 134 = some (c_sRunSets) := by kernel_rfl
theorem hF135 : cFn Try.prog cmOf 135 = some (c_sHas) := by kernel_rfl
theorem hF136 : cFn Try.prog cmOf 136 = some (c_iIn) := by kernel_rfl
theorem hF137 : cFn Try.prog cmOf 137 = some (c_iBits) := by kernel_rfl
theorem hF139 : cFn Try.prog cmOf 139 = some (c_sWithout) := by kernel_rfl
theorem hF140 : cFn Try.prog cmOf 140 = some (c_sAt) := by kernel_rfl
theorem hF141 : cFn Try.prog cmOf 141 = some (c_sBoth) := by kernel_rfl
theorem hF142 : cFn Try.prog cmOf 142 = some (c_idx) := by kernel_rfl
theorem hF143 : cFn Try.prog cmOf 143 = some (c_iVar) := by kernel_rfl
theorem hF144 : cFn Try.prog cmOf 144 = some (c_iVal) := by kernel_rfl
theorem hF145 : cFn Try.prog cmOf 145 = some (c_sVar) := by kernel_rfl
theorem hF146 : cFn Try.prog cmOf 146 = some (c_sVal) := by kernel_rfl
theorem hF147 : cFn Try.prog cmOf 147 = some (c_sFlows) := by kernel_rfl
theorem hF150 : cFn Try.prog cmOf 150 = some (c_drVal) := by kernel_rfl
theorem hF151 : cFn Try.prog cmOf 151 = some (c_sNums) := by kernel_rfl
theorem hF152 : cFn Try.prog cmOf 152 = some (c_sDo) := by kernel_rfl
theorem hF153 : cFn Try.prog cmOf 153 = some (c_sWithin) := by kernel_rfl
theorem hF154 : cFn Try.prog cmOf 154 = some (c_sNum) := by kernel_rfl
theorem hF (g : Nat) (fn : IFn) (h : fnOf g = some fn) : cFn Try.prog cmOf g = some fn := by
  unfold fnOf at h
  split at h
  · rw [← h]; exact hF11
  · rw [← h]; exact hF19
  · rw [← h]; exact hF25
  · rw [← h]; exact hF26
  · rw [← h]; exact hF37
  · rw [← h]; exact hF38
  · rw [← h]; exact hF39
  · rw [← h]; exact hF40
  · rw [← h]; exact hF41
  · rw [← h]; exact hF42
  · rw [← h]; exact hF48
  · rw [← h]; exact hF49
  · rw [← h]; exact hF50
  · rw [← h]; exact hF51
  · rw [← h]; exact hF52
  · rw [← h]; exact hF54
  · rw [← h]; exact hF61
  · rw [← h]; exact hF62
  · rw [← h]; exact hF64
  · rw [← h]; exact hF65
  · rw [← h]; exact hF68
  · rw [← h]; exact hF69
  · rw [← h]; exact hF70
  · rw [← h]; exact hF71
  · rw [← h]; exact hF72
  · rw [← h]; exact hF74
  · rw [← h]; exact hF85
  · rw [← h]; exact hF86
  · rw [← h]; exact hF87
  · rw [← h]; exact hF88
  · rw [← h]; exact hF89
  · rw [← h]; exact hF90
  · rw [← h]; exact hF91
  · rw [← h]; exact hF92
  · rw [← h]; exact hF93
  · rw [← h]; exact hF94
  · rw [← h]; exact hF100
  · rw [← h]; exact hF101
  · rw [← h]; exact hF102
  · rw [← h]; exact hF103
  · rw [← h]; exact hF104
  · rw [← h]; exact hF105
  · rw [← h]; exact hF106
  · rw [← h]; exact hF107
  · rw [← h]; exact hF108
  · rw [← h]; exact hF109
  · rw [← h]; exact hF112
  · rw [← h]; exact hF113
  · rw [← h]; exact hF114
  · rw [← h]; exact hF115
  · rw [← h]; exact hF116
  · rw [← h]; exact hF118
  · rw [← h]; exact hF119
  · rw [← h]; exact hF120
  · rw [← h]; exact hF121
  · rw [← h]; exact hF127
  · rw [← h]; exact hF128
  · rw [← h]; exact hF129
  · rw [← h]; exact hF130
  · rw [← h]; exact hF131
  · rw [← h]; exact hF132
  · rw [← h]; exact hF133
  · rw [← h]; exact hF134
  · rw [← h]; exact hF135
  · rw [← h]; exact hF136
  · rw [← h]; exact hF137
  · rw [← h]; exact hF139
  · rw [← h]; exact hF140
  · rw [← h]; exact hF141
  · rw [← h]; exact hF142
  · rw [← h]; exact hF143
  · rw [← h]; exact hF144
  · rw [← h]; exact hF145
  · rw [← h]; exact hF146
  · rw [← h]; exact hF147
  · rw [← h]; exact hF150
  · rw [← h]; exact hF151
  · rw [← h]; exact hF152
  · rw [← h]; exact hF153
  · rw [← h]; exact hF154
  · cases h
theorem hMixed : Try.prog.follows .mixedOrders = true := by kernel_rfl
theorem ok_iIn : ∀ (H : Heap) (a b c : Int), QC fnOf 136 [.int .i64 a, .int .i64 b, .int .i64 c] H (.bool (inB a b c)) := iIn_ok rfl
theorem ok_sIn : ∀ (H : Heap) (a b c : Int), QC fnOf 86 [.int .i64 a, .int .i64 b, .int .i64 c] H (.bool (inB a b c)) := sIn_ok rfl
theorem ok_iSet : ∀ (H : Heap) (a : Int), QC fnOf 116 [.int .i64 a] H (.bool (inB a 0 7)) := iSet_ok rfl ok_iIn
theorem ok_iHost : ∀ (H : Heap) (a : Int), QC fnOf 89 [.int .i64 a] H (.bool (inB a 0 2)) := iHost_ok rfl ok_iIn
theorem ok_iNum : ∀ (H : Heap) (a : Int), QC fnOf 119 [.int .i64 a] H (.bool (inB a 0 9)) := iNum_ok rfl ok_iIn
theorem ok_sAll : ∀ H, QC fnOf 102 [] H (.int .i64 7) := sAll_ok rfl
theorem ok_sSet : ∀ (H : Heap) (a : Int), QC fnOf 68 [.int .i64 a] H (.bool (inB a 0 7)) := sSet_ok rfl ok_sIn ok_sAll
theorem ok_iLabelOk : LabOk fnOf 65 := iLabelOk_ok rfl ok_iSet
theorem ok_sLabelOk : LabOk fnOf 25 := sLabelOk_ok rfl ok_sSet
theorem ok_iVar : VarOk fnOf 143 := iVar_ok rfl ok_iIn
theorem ok_sVar : VarOk fnOf 145 := sVar_ok rfl ok_sIn
theorem ok_iVal : ValOk fnOf 144 := iVal_ok rfl ok_iNum ok_iVar
theorem ok_sVal : ValOk fnOf 146 := sVal_ok rfl ok_sIn ok_sVar
theorem ok_sSteps : ∀ n, StepsOk fnOf 61 n := fun n => (sSteps_all rfl rfl ok_sIn ok_sVar ok_sVal n).1
theorem ok_iSteps : ∀ n, StepsOk fnOf 109 n := iSteps_all rfl ok_iVar ok_iVal ok_iHost
theorem ok_sCount : ∀ n, CntOk fnOf 62 n := cnt_all (fun _ h => sCount_ok rfl h) (sCount_z rfl)
theorem ok_iSize : ∀ n, CntOk fnOf 74 n := cnt_all (fun _ h => iSize_ok rfl h) (iSize_z rfl)
theorem ok_sProg : ProgOk fnOf 19 := sProg_ok rfl ok_sLabelOk ok_sSteps ok_sCount
theorem ok_iProg : ProgOk fnOf 54 := iProg_ok rfl (con_ok rfl (idx_ok rfl (p1_ok rfl ok_iLabelOk))) ok_iSteps ok_iSize
theorem ok_sHas : HasOk fnOf 135 := sHas_ok rfl
theorem ok_sWit : WitOk fnOf 153 := sWithin_ok rfl ok_sHas
theorem ok_sBoth : BothOk fnOf 141 := sBoth_ok rfl ok_sHas
theorem ok_sLBoth : LBothOk fnOf 105 := sLBoth_ok rfl ok_sLabelOk ok_sBoth
theorem ok_sFlows : FlowsOk fnOf 147 := sFlows_ok rfl ok_sLabelOk ok_sWit
theorem ok_sAny : ∀ H, QC fnOf 52 [] H (.agg #[.int .i64 7, .int .i64 7]) := sAny_ok rfl ok_sAll
theorem ok_sFine : FineOk fnOf 115 := sFine_ok rfl (sValL_ok rfl ok_sAny ok_sLBoth) ok_sLBoth ok_sFlows ok_sBoth ok_sHas
theorem ok_sAllSteps : ∀ n, AllOk fnOf 103 n := sAllSteps_all rfl
theorem ok_sAt : ∀ n, AtOk fnOf 140 n := sAt_all rfl ok_sLBoth
theorem ok_sTypeAt : TypeAtOk fnOf 104 := sTypeAt_ok rfl ok_sProg ok_sAny ok_sAt
theorem ok_sWhy : WhyOk fnOf 64 := sWhy_ok rfl ok_sProg ok_sAllSteps ok_sTypeAt ok_sFine
theorem ok_sCopy : ∀ n, CopyOk fnOf 51 n := sCopy_all rfl
theorem ok_sWithout : ∀ n, WoOk fnOf 139 n := sWithout_all rfl ok_sCount
theorem ok_drProg {H0 : Heap} {rb : Nat} {bv : Value} {code : List Int} (hc : RdC H0 rb bv code) : DrawS fnOf H0 rb bv 85 [] 40000 (ProgQ 3) := drProg_ok rfl rfl rfl rfl rfl ok_sProg hc
theorem ok_drFine {H0 : Heap} {rb : Nat} {bv : Value} {code : List Int} (hc : RdC H0 rb bv code) : DrawS fnOf H0 rb bv 100 [] 40000 (ProgQ 3) := drFine_ok rfl hc (ok_drProg hc) ok_sWhy ok_sWithout
theorem ok_drAny {H0 : Heap} {rb : Nat} {bv : Value} {code : List Int} (hc : RdC H0 rb bv code) : DrawS fnOf H0 rb bv 49 [] 90000 ProgR := drAny_ok rfl rfl hc (ok_drProg hc) (ok_drFine hc) (drBent_ok rfl rfl ok_sCopy hc)
theorem ok_iHas : HasOk fnOf 114 := iHas_ok rfl ok_iHost
theorem ok_iNums : NumsOk fnOf 69 := iNums_ok rfl ok_iNum ok_iProg
theorem ok_do : ∀ n, DoOk fnOf 71 n := do_all rfl rfl rfl rfl
theorem ok_iRunOf : RunOk fnOf 26 := iRunOf_ok rfl ok_iNums rfl ok_do rfl
theorem ok_lcInts : IntsOk fnOf 40 := lcInts_ok rfl
theorem ok_sNums : NumsOk fnOf 151 := sNums_ok rfl ok_sIn ok_sProg
theorem ok_sDo : ∀ n, DoSOk fnOf 152 n := sDo_all rfl rfl
theorem ok_sRunOf : RunOk fnOf 130 := sRunOf_ok rfl ok_sNums ok_sDo
theorem ok_sBits : BitsOk fnOf 128 := sBits_ok rfl
theorem ok_iBits : BitsOwn fnOf 137 := iBits_ok rfl
theorem ok_sSameV : SameV fnOf 129 := sSameV_ok rfl
theorem ok_l12Ints : IntsOk fnOf 131 := lcInts_ok rfl
theorem ok_l12Writes : PairsOk fnOf 133 := lcWrites_ok rfl
theorem ok_sRunTo : ToldOk fnOf 132 := sRunTo_ok rfl
theorem ok_sRunSets : SetsOk fnOf 134 := sRunSets_ok rfl ok_sIn
theorem ok_iRunTo : ToldOk fnOf 42 := iRunTo_ok rfl
theorem ok_sKnows : VarsOk fnOf 88 true := sKnows_ok rfl ok_sProg ok_sHas
theorem ok_each : EachOk fnOf 93 := each_ok rfl ok_iProg ok_iHas
theorem ok_iKnows : VarsOk fnOf 41 true := iKnows_ok rfl rfl ok_each
theorem ok_eqI : IntsOk fnOf 92 := eqI_ok rfl
theorem ok_sFind12 : FindG fnOf 87 := sFind12_ok rfl ok_sBits ok_sSameV ok_sRunOf ok_sRunTo ok_l12Ints ok_sRunSets ok_l12Writes
theorem ok_sLeakOf : LeakOk fnOf 38 true := sLeakOf_ok rfl ok_sProg ok_sIn ok_sKnows ok_sFind12
theorem ok_iPair : PairG fnOf 90 := iPair_ok rfl ok_iBits ok_iRunOf
theorem ok_iLeakOf : LeakOwn fnOf 39 true := iLeakOf_ok rfl ok_iProg ok_iHost ok_iKnows ok_iPair rfl ok_iRunTo ok_eqI
theorem ok_drLeak : DrawLeak fnOf 37 := drLeak_ok rfl rfl rfl ok_drProg ok_drAny ok_sLeakOf
theorem ok_lawLA : LawB2 fnOf 11 := lawLA_ok rfl ok_drLeak ok_sLeakOf ok_iLeakOf ok_lcInts ok_sProg ok_iKnows ok_iRunOf ok_iRunTo
end Go.Proofs.YtkmghcglmjehcaaI
end
section
/- Laws of lists of bytes, called in the model. -/
set_option linter.unusedVariables false
set_option linter.unusedSimpArgs false
namespace Go.Proofs.YtkmghcglmjehcaaI
open Go Go.RowKit
theorem Good.byte {w : World} {n : Int} (h : (Lit.int .u8 n).wf = true) : Good Co.byte w [.int .u8 n] := fun H m s =>
  ⟨n, [], m, [.int .u8 n], by simpa using s, sub_refl m, ⟨rfl, by simpa [Lit.wf, IntKind.min, IntKind.max, IntKind.signed, IntKind.bits] using h⟩, All2.cons (.inl rfl) All2.nil⟩
theorem good_5 {T : Type} {enc : TypeId × Value → T} {w : World} {spare : Nat → Bool} {held : Bool} {n : Nat} {cs : List Value} {x : DataW T × List MemPlace} (h : DataW.trod enc Try.prog w 0 spare held n 5 cs = some x) : Good Co.byte w cs := by
  obtain ⟨m, rfl, _, hw⟩ := DataW.trod_int Try.underlying5 h
  exact Good.byte hw
theorem good_22 {T : Type} {enc : TypeId × Value → T} {w : World} {spare : Nat → Bool} {held : Bool} {n : Nat} {cs : List Value} {x : DataW T × List MemPlace} (h : DataW.trod enc Try.prog w 0 spare held n 22 cs = some x) : Good (Co.sl Co.byte) w cs :=
  Good.sl Try.underlying22 (by kernel_rfl) (by decide) h fun _ _ _ _ h => good_5 h
theorem lawB2_calls {n : Nat} (hl : LawB2 fnOf n) {W : World} {a b : Option Addr} {l c l' c' : Nat} (g0 : Good (Co.sl Co.byte) W [.slice a l c]) (g1 : Good (Co.sl Co.byte) W [.slice b l' c']) :
    Calls Try.prog n #[.slice a l c, .slice b l' c'] W fun e w' => e = .returned (.bool true) ∧ Below W.heap.size W w' := by
  obtain ⟨ts, L, m, cs0, s, q, r, e⟩ := g0 [] (fun _ => none) (SL.none _)
  rw [List.nil_append] at s r
  obtain ⟨ts', L2, m2, cs1, s2, q2, r2, e2⟩ := g1 L m s
  obtain ⟨u, rfl, hu⟩ := r
  obtain ⟨u', rfl, hu'⟩ := r2
  exact law_core hF hMixed s2 (vals := [u, u']) (All2.cons (VR.one_mk (e.mono fun _ _ _ h => VR1.mono q2 h)) (All2.cons (VR.one_mk e2) All2.nil)) (hl _ u u' ts ts' (hu.mono (vw_app 0 L L2)) hu')
end Go.Proofs.YtkmghcglmjehcaaI
end
