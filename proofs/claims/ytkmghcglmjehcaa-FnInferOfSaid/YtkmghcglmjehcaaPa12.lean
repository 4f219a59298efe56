/- Texts of this proof, merged: U9, U12, GL40, BL40. -/
import Derived.Test.YtkmghcglmjehcaaPa11
import Derived.Test.YtkmghcglmjehcaaRows
section
/- A label, drawn. -/
set_option linter.unusedVariables false
set_option linter.unusedSimpArgs false
namespace Go.Proofs.YtkmghcglmjehcaaI
open Go Go.RowKit
def c_drOdd : IFn := ⟨1, 25, [.cell true 2 2],
 .seq (.reg none [
    ⟨(some 2), none, .new [(.int .i64 0), (.int .i64 0)]⟩])
 (.seq (.reg none [
    ⟨(some 4), none, .mov (.t 0)⟩,
    ⟨(some 5), none, .call .n (.f 118) [(.t 4)]⟩,
    ⟨(some 3), none, .new [(.int .i64 0), (.int .i64 0)]⟩,
    ⟨none, none, .store 2 (.t 3) (.t 5)⟩])
 (.seq (.seq (.reg none [
     ⟨(some 6), none, .mov (.t 0)⟩,
     ⟨(some 7), none, .call .n (.f 50) [(.t 6), (.c (.int .i64 12))]⟩])
  (.block 0 (.seq (.reg none [
      ⟨(some 9), none, .bin .eql (.t 7) (.c (.int .i64 0))⟩,
      ⟨(some 8), none, .mov (.t 9)⟩])
   (.cond (.t 8) (.reg none [
      ⟨(some 10), none, .lit 1 3 2 [(.int .i64 0), (.int .i64 0)] [(0, 1, (.c (.int .i64 (-1)))), (1, 1, (.c (.int .i64 8)))]⟩,
      ⟨(some 11), none, .mov (.t 0)⟩,
      ⟨(some 12), none, .call .n (.f 50) [(.t 11), (.c (.int .i64 2))]⟩,
      ⟨(some 13), none, .iad 1 (.t 10) (.t 12)⟩,
      ⟨(some 14), none, .load false 1 (.t 13)⟩,
      ⟨(some 15), none, .fad 0 (.t 3)⟩,
      ⟨none, none, .store 1 (.t 15) (.t 14)⟩]) (.seq (.reg none [
       ⟨(some 17), none, .bin .eql (.t 7) (.c (.int .i64 1))⟩,
       ⟨(some 16), none, .mov (.t 17)⟩])
    (.cond (.t 16) (.reg none [
       ⟨(some 18), none, .lit 1 3 2 [(.int .i64 0), (.int .i64 0)] [(0, 1, (.c (.int .i64 (-1)))), (1, 1, (.c (.int .i64 8)))]⟩,
       ⟨(some 19), none, .mov (.t 0)⟩,
       ⟨(some 20), none, .call .n (.f 50) [(.t 19), (.c (.int .i64 2))]⟩,
       ⟨(some 21), none, .iad 1 (.t 18) (.t 20)⟩,
       ⟨(some 22), none, .load false 1 (.t 21)⟩,
       ⟨(some 23), none, .fad 1 (.t 3)⟩,
       ⟨none, none, .store 1 (.t 23) (.t 22)⟩]) (.skip)))))))
 (.seq (.reg none [
    ⟨(some 24), none, .load true 2 (.t 3)⟩,
    ⟨none, none, .store 2 (.t 2) (.t 24)⟩])
 (.ret))))⟩
def c_drLabT : IFn := ⟨1, 6, [.cell true 2 2],
 .seq (.reg none [
    ⟨(some 2), none, .new [(.int .i64 0), (.int .i64 0)]⟩])
 (.seq (.reg none [
    ⟨(some 3), none, .mov (.t 0)⟩,
    ⟨(some 4), none, .call .n (.f 48) [(.t 3)]⟩,
    ⟨(some 5), none, .call .n (.f 67) [(.t 4)]⟩,
    ⟨none, none, .store 2 (.t 2) (.t 5)⟩])
 (.ret))⟩
theorem tk2 {a0 a1 : Int} {i : Nat} (hi : i < 2) : List.take 1 (List.drop i [Value.int .i64 a0, .int .i64 a1]) = [.int .i64 ([a0, a1].getD i 0)] := by
  have : i = 0 ∨ i = 1 := by omega
  rcases this with rfl | rfl <;> rfl
def LabQ (H H' : Heap) (v : Value) : Prop := ∃ a b : Int, v = .agg #[.int .i64 a, .int .i64 b] ∧ RgI a ∧ RgI b
theorem drOdd_ok {F : Nat → Option IFn} {f : Nat} (hf : F f = some c_drOdd) (hpk : F 50 = some c_pick) (hlb : F 118 = some c_drLabel) {H0 : Heap} {rb : Nat} {bv : Value} {code : List Int} (hc : RdC H0 rb bv code) : DrawS F H0 rb bv f [] 10 LabQ := by
  refine DrawS.mk hf rfl fun H p lo hs hp hp2 hlo => ?_
  have hl := hs.lt
  refine seq_reg ?_
  simp only [go_sem, binC]
  refine wpc_gen fun H1 hH1 => ?_
  have hs1 : St H0 rb bv p H1 := hH1 ▸ hs.appN hc _
  have ht1 : AgX [rb] H H1 := hH1 ▸ AgX.app [rb] _ _
  have hb1 : H1[H.length]? = some ⟨[.int .i64 0, .int .i64 0], 0, 0, false, true⟩ := hH1 ▸ get_new0 _ _
  have hn1 : H1.length = H.length + 1 := by rw [hH1, List.length_append]; rfl
  clear hH1
  refine seq_reg ?_
  simp only [go_sem, binC]
  obtain ⟨G, hG⟩ := drLabel_ok hlb hpk hc hs1 hp (by omega) hlo
  refine op_callN (by simp only [go_sem, binC]; exact hG) ?_
  generalize hH2 : H1.set rb (rBlk bv (p + 2)) ++ G = H2
  have hs2 : St H0 rb bv (p + 2) H2 := hH2 ▸ (hs1.set hc).appN hc _
  have x2 : AgX [rb] H1 H2 := hH2 ▸ (AgX.set H1 rb _).appN _
  clear hH2 hG
  have hn2 := x2.1
  have hk := labK_bd code p
  have hT := labT_bd code (p + 1)
  generalize labK code p = a0 at *
  generalize labT code (p + 1) = b0 at *
  simp only [go_sem, binC]
  refine ⟨by omega, ?_⟩
  refine wpc_gen fun H3 hH3 => ?_
  have hs3 : St H0 rb bv (p + 2) H3 := hH3 ▸ hs2.appN hc _
  have x3 : AgX [] H2 H3 := hH3 ▸ AgX.app [] _ _
  have hb3 : H3[H2.length]? = some ⟨[.int .i64 a0, .int .i64 b0], 0, 0, false, true⟩ := hH3 ▸ get_new0 _ _
  clear hH3
  have x13 : AgX [rb] H1 H3 := x2.trans x3 (fun _ h _ => h) (fun _ h _ => by cases h)
  refine seq_assoc (seq_reg ?_)
  simp only [go_sem, binC]
  refine op_draw (n := 12) hpk hc hs3 (by omega) (by omega) hlo (by simp only [go_sem, binC]) (by simp only [go_sem, binC]) fun H4 hl4 x4 hs4 => ?_
  have hn3 := x3.1
  have hb4 := x4.get hb3 (by simp; omega)
  have x14 := x13.tr x4
  have hfin : ∀ (e : Env) (Hc : Heap) (q : Int) (a b : Int), St H0 rb bv q Hc → (p ≤ q ∧ q ≤ p + 10) → AgX [rb] H1 Hc → Hc[H2.length]? = some ⟨[.int .i64 a, .int .i64 b], 0, 0, false, true⟩ → RgI a → RgI b → e 2 = ptr H.length 0 → e 3 = ptr H2.length 0 → wpc F lo (.seq (.reg none [
    ⟨(some 24), none, .load true 2 (.t 3)⟩,
    ⟨none, none, .store 2 (.t 2) (.t 24)⟩]) .ret) e Hc (fin [.cell true 2 2] fun v H' => ∃ p', AgX [rb] H H' ∧ St H0 rb bv p' H' ∧ (p ≤ p' ∧ p' ≤ p + 10) ∧ LabQ H H' v) := by
    intro e Hc q a b hsc hq hx hbc ra rb' e2 e3
    have hb1c := hx.get hb1 (by simp; omega)
    have hb1l := (List.getElem?_eq_some_iff.1 hb1c).1
    refine seq_reg ?_
    simp only [go_sem, binC, e2, e3, gc_of hbc, inBlk_some, hb1c]
    refine ⟨by omega, ?_⟩
    refine wpc_ret ⟨Or.inr rfl, .agg #[.int .i64 a, .int .i64 b], ?_, q, ?_, ?_, hq, a, b, rfl, ra, rb'⟩
    · simp [resV, res1, putE_get, ptr, gc_set hb1l, inBlk_some, valOf, e2]
    · exact (ht1.tr hx).setN (Nat.le_refl _) _
    · exact hsc.setN hc (by omega) _
  have rA : RgI a0 := by unfold RgI; omega
  have rB : RgI b0 := by unfold RgI; omega
  have r8 : ∀ x : Int, 0 ≤ x → x < 2 → RgI ([-1, 8].getD x.toNat 0) := fun x h1 h2 => by
    have : x = 0 ∨ x = 1 := by omega
    rcases this with rfl | rfl <;> (unfold RgI; decide)
  generalize pickV code (p + 2) 12 = pk
  simp only [go_sem, binC]
  refine seq_block ?_
  refine seq_reg ?_
  by_cases c0 : pk = 0
  · simp only [go_sem, binC, beq_t c0]
    refine wpc_cond (t := true) rfl ?_
    simp only [go_sem, binC]
    refine wpc_reg ?_
    simp only [go_sem, binC]
    refine op_draw (n := 2) hpk hc (hs4.appN hc _) (by omega) (by omega) hlo (by simp only [go_sem, binC]) (by simp only [go_sem, binC]) fun H5 hl5 x5 hs5 => ?_
    have hbd := pickV_bd code (p + 2 + 1) (n := 2) (by omega)
    generalize pickV code (p + 2 + 1) 2 = k2 at hbd
    have hlit := x5.get (get_new0 H4 [_]) (by simp; omega)
    have hb5 := x5.get (show (H4 ++ [_])[H2.length]? = some _ by rw [List.getElem?_append_left (List.getElem?_eq_some_iff.1 hb4).1]; exact hb4) (by simp; omega)
    rw [List.length_append] at hl5
    simp only [go_sem, binC]
    refine ⟨⟨by omega, by omega⟩, ?_⟩
    simp only [go_sem, binC, Nat.mul_one, Nat.zero_add, gc_of hlit, inBlk_some, tk2 (i := k2.toNat) (by omega), show k2.toNat + 1 ≤ 2 by omega, hb5]
    refine ⟨by omega, ?_⟩
    simp only [go_sem, binC, out_n, thenX_n]
    have hb5l := (List.getElem?_eq_some_iff.1 hb5).1
    exact hfin _ _ (p + 2 + 1 + 1) _ b0 (hs5.setN hc (by omega) _) (by omega) (((x14.appN _).tr x5).trans (AgX.set H5 H2.length _) (fun _ h _ => h) (fun b hb hlt => by simp only [List.mem_singleton] at hb; omega)) (List.getElem?_set_self hb5l) (r8 k2 hbd.1 hbd.2) rB (by simp only [go_sem, binC]) (by simp only [go_sem, binC])
  simp only [go_sem, binC, beq_f c0]
  refine wpc_cond (t := false) rfl ?_
  simp only [go_sem, binC]
  refine seq_reg ?_
  by_cases c1 : pk = 1
  · simp only [go_sem, binC, beq_t c1]
    refine wpc_cond (t := true) rfl ?_
    simp only [go_sem, binC]
    refine wpc_reg ?_
    simp only [go_sem, binC]
    refine op_draw (n := 2) hpk hc (hs4.appN hc _) (by omega) (by omega) hlo (by simp only [go_sem, binC]) (by simp only [go_sem, binC]) fun H5 hl5 x5 hs5 => ?_
    have hbd := pickV_bd code (p + 2 + 1) (n := 2) (by omega)
    generalize pickV code (p + 2 + 1) 2 = k2 at hbd
    have hlit := x5.get (get_new0 H4 [_]) (by simp; omega)
    have hb5 := x5.get (show (H4 ++ [_])[H2.length]? = some _ by rw [List.getElem?_append_left (List.getElem?_eq_some_iff.1 hb4).1]; exact hb4) (by simp; omega)
    rw [List.length_append] at hl5
    simp only [go_sem, binC]
    refine ⟨⟨by omega, by omega⟩, ?_⟩
    simp only [go_sem, binC, Nat.mul_one, Nat.zero_add, gc_of hlit, inBlk_some, tk2 (i := k2.toNat) (by omega), show k2.toNat + 1 ≤ 2 by omega, hb5]
    refine ⟨by omega, ?_⟩
    simp only [go_sem, binC, out_n, thenX_n]
    have hb5l := (List.getElem?_eq_some_iff.1 hb5).1
    exact hfin _ _ (p + 2 + 1 + 1) a0 _ (hs5.setN hc (by omega) _) (by omega) (((x14.appN _).tr x5).trans (AgX.set H5 H2.length _) (fun _ h _ => h) (fun b hb hlt => by simp only [List.mem_singleton] at hb; omega)) (List.getElem?_set_self hb5l) rA (r8 k2 hbd.1 hbd.2) (by simp only [go_sem, binC]) (by simp only [go_sem, binC])
  simp only [go_sem, binC, beq_f c1]
  refine wpc_cond (t := false) rfl ?_
  simp only [go_sem, binC]
  refine wpc_skip ?_
  simp only [go_sem, binC, out_n, thenX_n]
  exact hfin _ H4 (p + 2 + 1) a0 b0 hs4 (by omega) x14 hb4 rA rB (by simp only [go_sem, binC]) (by simp only [go_sem, binC])
def DrawLab (F : Nat → Option IFn) (f : Nat) : Prop := ∀ (H : Heap) (v : Value) (code : List Int), SlR Co.byte (vw 0 H) v code → ∃ a b : Int, QC F f [v] H (.agg #[.int .i64 a, .int .i64 b]) ∧ RgI a ∧ RgI b
theorem drLabT_ok {F : Nat → Option IFn} {f : Nat} (hf : F f = some c_drLabT) (hop : F 48 = some c_l6Open) (god : ∀ {H0 : Heap} {rb : Nat} {bv : Value} {code : List Int}, RdC H0 rb bv code → DrawS F H0 rb bv 67 [] 10 LabQ) : DrawLab F f := by
  intro H v code hv
  suffices h : ∃ w, QC F f [v] H w ∧ LabQ [] [] w by
    obtain ⟨w, h1, a, b, rfl, h2⟩ := h
    exact ⟨a, b, h1, h2⟩
  refine QC.mkE hf rfl ?_
  refine seq_reg ?_
  simp only [go_sem, binC]
  refine wpc_gen fun H1 hH1 => ?_
  have ht1 : AgX [] H H1 := hH1 ▸ AgX.app [] _ _
  have hb1 : H1[H.length]? = some ⟨[.int .i64 0, .int .i64 0], 0, 0, false, true⟩ := hH1 ▸ get_new0 _ _
  have hn1 : H1.length = H.length + 1 := by rw [hH1, List.length_append]; rfl
  clear hH1
  refine seq_reg ?_
  simp only [go_sem, binC]
  obtain ⟨bv, code', k2, hc, hs2⟩ := l6Open_ok hop (hv.mono (agx_sub ht1)) H.length ht1.1
  refine op_callN (by simp only [go_sem, binC]; exact k2) ?_
  simp only [go_sem, binC]
  obtain ⟨v3, H3, p3, k3, x3, s3, c3, a, b, rfl, ra, rb⟩ := god hc _ 0 H.length hs2 (by omega) (by omega) (by omega)
  refine op_callN (by simp only [go_sem, binC]; exact k3) ?_
  have hb3 : H3[H.length]? = some ⟨[.int .i64 0, .int .i64 0], 0, 0, false, true⟩ := x3.get (by rw [List.getElem?_append_left (by omega)]; exact hb1) (by simp; omega)
  have hb3l := (List.getElem?_eq_some_iff.1 hb3).1
  simp only [go_sem, binC, hb3]
  refine wpc_ret ⟨Or.inr rfl, .agg #[.int .i64 a, .int .i64 b], ?_, ⟨a, b, rfl, ra, rb⟩, rfl⟩
  simp [resV, res1, putE_get, ptr, gc_set hb3l, inBlk_some, valOf]
end Go.Proofs.YtkmghcglmjehcaaI
end
section
/- The laws FnInferMore, FnInferMost on the ideal machine. -/
set_option linter.unusedVariables false
set_option linter.unusedSimpArgs false
namespace Go.Proofs.YtkmghcglmjehcaaI
open Go Go.RowKit
attribute [local irreducible] infL
def c_lawIM : IFn := ⟨1, 97, [.t 2],
 .seq (.reg none [
    ⟨(some 2), none, .mov (.c (.bool false))⟩])
 (.seq (.seq (.reg none [
     ⟨(some 14), none, .mov (.t 0)⟩,
     ⟨(some 15), none, .len (.t 14)⟩,
     ⟨(some 16), none, .bin .gtr (.t 15) (.c (.int .i64 1048576))⟩])
  (.cond (.t 16) (.seq (.reg none [
      ⟨(some 2), none, .mov (.c (.bool true))⟩])
   (.ret)) (.skip)))
 (.seq (.reg none [
    ⟨(some 18), none, .mov (.t 0)⟩,
    ⟨(some 19), none, .call .k (.f 15) [(.t 18)]⟩,
    ⟨(some 17), none, .mov (.t 19)⟩,
    ⟨(some 20), none, .ext (.t 17) 0⟩,
    ⟨(some 21), none, .ext (.t 17) 1⟩,
    ⟨(some 3), none, .new [(.slice none 0 0), (.slice none 0 0)]⟩,
    ⟨none, none, .store 2 (.t 3) (.t 20)⟩,
    ⟨(some 4), none, .mov (.t 21)⟩])
 (.seq (.reg none [
    ⟨(some 23), none, .load true 2 (.t 3)⟩,
    ⟨(some 24), none, .mov (.t 4)⟩,
    ⟨(some 25), none, .call .k (.f 16) [(.t 23), (.t 24)]⟩,
    ⟨(some 22), none, .mov (.t 25)⟩,
    ⟨(some 26), none, .ext (.t 22) 0⟩,
    ⟨(some 27), none, .ext (.t 22) 1⟩,
    ⟨(some 5), none, .new [(.slice none 0 0), (.slice none 0 0)]⟩,
    ⟨none, none, .store 2 (.t 5) (.t 26)⟩,
    ⟨(some 6), none, .mov (.t 27)⟩])
 (.seq (.reg none [
    ⟨(some 29), none, .load true 2 (.t 3)⟩,
    ⟨(some 30), none, .mov (.t 4)⟩,
    ⟨(some 31), none, .call .k (.f 17) [(.t 29), (.t 30)]⟩,
    ⟨(some 28), none, .mov (.t 31)⟩,
    ⟨(some 32), none, .ext (.t 28) 0⟩,
    ⟨(some 33), none, .ext (.t 28) 1⟩,
    ⟨(some 7), none, .new [(.slice none 0 0), (.slice none 0 0)]⟩,
    ⟨none, none, .store 2 (.t 7) (.t 32)⟩,
    ⟨(some 8), none, .mov (.t 33)⟩])
 (.seq (.seq (.reg none [
     ⟨(some 34), none, .mov (.t 8)⟩,
     ⟨(some 35), none, .mov (.t 6)⟩,
     ⟨(some 36), none, .beq true (.t 34) (.t 35)⟩,
     ⟨(some 37), none, .mov (.t 36)⟩,
     ⟨(some 38), (some (37, false)), .load true 2 (.t 7)⟩,
     ⟨(some 39), (some (37, false)), .load true 2 (.t 5)⟩,
     ⟨(some 40), (some (37, false)), .call .q (.f 18) [(.t 38), (.t 39)]⟩,
     ⟨(some 41), (some (37, false)), .un .not (.t 40)⟩,
     ⟨(some 42), none, .pick (.t 37) (.c (.bool true)) (.t 41)⟩,
     ⟨(some 43), none, .mov (.t 42)⟩,
     ⟨(some 44), (some (43, false)), .load true 2 (.t 3)⟩,
     ⟨(some 45), (some (43, false)), .call .q (.f 19) [(.t 44)]⟩,
     ⟨(some 46), (some (43, false)), .un .not (.t 45)⟩,
     ⟨(some 47), none, .pick (.t 43) (.c (.bool true)) (.t 46)⟩,
     ⟨(some 48), none, .mov (.t 47)⟩,
     ⟨(some 49), (some (48, false)), .mov (.t 4)⟩,
     ⟨(some 50), (some (48, false)), .len (.t 49)⟩,
     ⟨(some 51), (some (48, false)), .fad 0 (.t 3)⟩,
     ⟨(some 52), (some (48, false)), .load false 1 (.t 51)⟩,
     ⟨(some 53), (some (48, false)), .len (.t 52)⟩,
     ⟨(some 54), (some (48, false)), .bin .neq (.t 50) (.t 53)⟩,
     ⟨(some 55), none, .pick (.t 48) (.c (.bool true)) (.t 54)⟩])
  (.cond (.t 55) (.seq (.reg none [
      ⟨(some 56), none, .mov (.t 8)⟩,
      ⟨(some 57), none, .mov (.t 6)⟩,
      ⟨(some 58), none, .beq false (.t 56) (.t 57)⟩,
      ⟨(some 59), none, .mov (.t 58)⟩,
      ⟨(some 60), (some (59, true)), .load true 2 (.t 7)⟩,
      ⟨(some 61), (some (59, true)), .load true 2 (.t 5)⟩,
      ⟨(some 62), (some (59, true)), .call .q (.f 18) [(.t 60), (.t 61)]⟩,
      ⟨(some 63), none, .pick (.t 59) (.t 62) (.c (.bool false))⟩,
      ⟨(some 2), none, .mov (.t 63)⟩])
   (.ret)) (.skip)))
 (.seq (.reg none [
    ⟨(some 64), none, .lit 1 4 0 [] []⟩,
    ⟨(some 9), none, .mov (.t 64)⟩])
 (.seq (.seq (.reg none [
     ⟨(some 10), none, .mov (.c (.int .i64 0))⟩])
  (.block 0 (.loop (.seq (.seq (.reg none [
        ⟨(some 65), none, .mov (.t 10)⟩,
        ⟨(some 66), none, .mov (.t 4)⟩,
        ⟨(some 67), none, .len (.t 66)⟩,
        ⟨(some 68), none, .bin .lss (.t 65) (.t 67)⟩])
     (.cond (.t 68) (.skip) (.exit 0)))
    (.seq (.block 1 (.reg none [
        ⟨(some 71), none, .mov (.t 9)⟩,
        ⟨(some 72), none, .lit 1 4 1 [(.bool false)] [(0, 1, (.c (.bool true)))]⟩,
        ⟨(some 73), none, .app 1 4 1 false (.t 71) (.t 72)⟩,
        ⟨(some 9), none, .mov (.t 73)⟩]))
    (.reg none [
      ⟨(some 69), none, .mov (.t 10)⟩,
      ⟨(some 70), none, .bin .add (.t 69) (.c (.int .i64 1))⟩,
      ⟨(some 10), none, .mov (.t 70)⟩]))))))
 (.seq (.reg none [
    ⟨(some 75), none, .load true 2 (.t 3)⟩,
    ⟨(some 76), none, .mov (.t 9)⟩,
    ⟨(some 77), none, .call .k (.f 17) [(.t 75), (.t 76)]⟩,
    ⟨(some 74), none, .mov (.t 77)⟩,
    ⟨(some 78), none, .ext (.t 74) 0⟩,
    ⟨(some 79), none, .ext (.t 74) 1⟩,
    ⟨(some 11), none, .new [(.slice none 0 0), (.slice none 0 0)]⟩,
    ⟨none, none, .store 2 (.t 11) (.t 78)⟩,
    ⟨(some 12), none, .mov (.t 79)⟩])
 (.seq (.seq (.reg none [
     ⟨(some 13), none, .mov (.c (.int .i64 0))⟩])
  (.block 2 (.loop (.seq (.seq (.reg none [
        ⟨(some 80), none, .mov (.t 13)⟩,
        ⟨(some 81), none, .mov (.t 4)⟩,
        ⟨(some 82), none, .len (.t 81)⟩,
        ⟨(some 83), none, .bin .lss (.t 80) (.t 82)⟩,
        ⟨(some 84), none, .mov (.t 83)⟩,
        ⟨(some 85), (some (84, true)), .mov (.t 12)⟩,
        ⟨(some 86), none, .pick (.t 84) (.t 85) (.c (.bool false))⟩])
     (.cond (.t 86) (.skip) (.exit 2)))
    (.seq (.block 3 (.seq (.reg none [
         ⟨(some 89), none, .fad 0 (.t 11)⟩,
         ⟨(some 90), none, .load false 1 (.t 89)⟩,
         ⟨(some 91), none, .mov (.t 13)⟩,
         ⟨(some 92), none, .iad 2 (.t 90) (.t 91)⟩,
         ⟨(some 93), none, .load true 2 (.t 92)⟩,
         ⟨(some 94), none, .build [(.int .i64 0), (.int .i64 0)] [(0, 1, (.c (.int .i64 7))), (1, 1, (.c (.int .i64 7)))]⟩,
         ⟨(some 95), none, .eqs true 2 (.t 93) (.t 94)⟩])
      (.cond (.t 95) (.seq (.reg none [
          ⟨(some 2), none, .mov (.c (.bool false))⟩])
       (.ret)) (.skip))))
    (.reg none [
      ⟨(some 87), none, .mov (.t 13)⟩,
      ⟨(some 88), none, .bin .add (.t 87) (.c (.int .i64 1))⟩,
      ⟨(some 13), none, .mov (.t 88)⟩]))))))
 (.seq (.reg none [
    ⟨(some 96), none, .mov (.t 12)⟩,
    ⟨(some 2), none, .mov (.t 96)⟩])
 (.ret)))))))))))⟩
set_option maxHeartbeats 4000000 in
theorem lawIM_ok {F : Nat → Option IFn} {f : Nat} (hf : F f = some c_lawIM) (gd : DrawInfer F 15) (gsp : InferOk F 16) (gim : InferOk F 17) (glp : SamePOk F 18) (gps : ProgOk F 19) : LawB F f := by
  intro H v code hv
  obtain ⟨_, av, rfl, _⟩ := id hv
  refine QC.mk hf rfl ?_
  refine seq_reg ?_
  simp only [go_sem, binC]
  refine seq_assoc (seq_reg ?_)
  simp only [go_sem, binC]
  by_cases hbig : 1048576 < (code.length : Int)
  · refine seq_cond (t := true) (by simp only [go_sem, binC]; rw [decide_eq_true hbig]) ?_
    simp only [go_sem, binC]
    refine seq_assoc (seq_reg ?_)
    simp only [go_sem, binC]
    exact seq_ret ⟨Or.inr rfl, .bool true, by simp only [go_sem, binC], rfl, rfl⟩
  refine seq_cond (t := false) (by simp only [go_sem, binC]; rw [decide_eq_false hbig]) ?_
  simp only [go_sem, binC]
  refine seq_skip (seq_reg ?_)
  simp only [go_sem, binC]
  obtain ⟨d, lv, sv, fv, ls, l, free, H1, k1, x1, r1, r2, hsm, r3, hfn⟩ := gd H _ code hv
  refine op_callK (by simp only [go_sem, binC]; exact k1) ?_
  obtain ⟨hlsn, la, rfl, _⟩ := id r1
  have osv : one sv = true := by obtain ⟨_, a, rfl, _⟩ := r2; rfl
  obtain ⟨_, fa, rfl, _⟩ := id r3
  have hn1 := x1.1
  simp only [go_sem, binC, osv]
  refine ⟨by omega, ?_⟩
  refine wpc_gen fun Ha hHa => ?_
  have xa : AgX [] H1 Ha := hHa ▸ AgX.app [] _ _
  have hpa : Ha[H1.length]? = some ⟨[.slice la ls.length ls.length, sv], 0, 0, false, true⟩ := hHa ▸ get_new0 _ _
  clear hHa k1
  have hna := xa.1
  refine seq_reg ?_
  simp only [go_sem, binC, gc_of hpa, inBlk_some, osv]
  obtain ⟨wl, ws, H2, k2, x2, w1, w2⟩ := gsp Ha d _ sv _ ls l free (r1.mono (agx_sub xa)) (r2.mono (agx_sub xa)) hsm (r3.mono (agx_sub xa))
  refine op_callK (by simp only [go_sem, binC]; exact k2) ?_
  have owl : one wl = true := by obtain ⟨_, a, rfl, _⟩ := w1; rfl
  have ows : one ws = true := by obtain ⟨_, a, rfl, _⟩ := w2; rfl
  have hn2 := x2.1
  simp only [go_sem, binC, owl, ows]
  refine ⟨by omega, ?_⟩
  refine wpc_gen fun Hb hHb => ?_
  have xb : AgX [] H2 Hb := hHb ▸ AgX.app [] _ _
  have hwb : Hb[H2.length]? = some ⟨[wl, ws], 0, 0, false, true⟩ := hHb ▸ get_new0 _ _
  clear hHb k2
  have hnb := xb.1
  have xab := x2.tr xb
  have hpb := xab.get hpa (by simp)
  have x1b := xa.tr xab
  refine seq_reg ?_
  simp only [go_sem, binC, gc_of hpb, inBlk_some, osv]
  obtain ⟨xl, xs, H3, k3, x3, y1, y2⟩ := gim Hb d _ sv _ ls l free (r1.mono (agx_sub x1b)) (r2.mono (agx_sub x1b)) hsm (r3.mono (agx_sub x1b))
  refine op_callK (by simp only [go_sem, binC]; exact k3) ?_
  obtain ⟨_, xa_, rfl, _⟩ := id y1
  have oxs : one xs = true := by obtain ⟨_, a, rfl, _⟩ := y2; rfl
  have hn3 := x3.1
  simp only [go_sem, binC, oxs]
  refine ⟨by omega, ?_⟩
  refine wpc_gen fun Hc hHc => ?_
  have xc : AgX [] H3 Hc := hHc ▸ AgX.app [] _ _
  have hxc : Hc[H3.length]? = some ⟨[.slice xa_ (inferO d (ls, l) free).1.length (inferO d (ls, l) free).1.length, xs], 0, 0, false, true⟩ := hHc ▸ get_new0 _ _
  clear hHc k3
  have hnc := xc.1
  have xbc := x3.tr xc
  have hpc := xbc.get hpb (by simp)
  have hwc := xbc.get hwb (by simp)
  have x1c := x1b.tr xbc
  have r1c := r1.mono (agx_sub x1c)
  have r2c := r2.mono (agx_sub x1c)
  have r3c := r3.mono (agx_sub x1c)
  have y1c := y1.mono (agx_sub xc)
  have y2c := y2.mono (agx_sub xc)
  have w1c := w1.mono (agx_sub (xb.tr xbc))
  have w2c := w2.mono (agx_sub (xb.tr xbc))
  have hsmO : (Co.prog d).sm ((inferO d (ls, l) free).1, (inferO d (ls, l) free).2) := by
    unfold inferO
    cases hN : inferV d (ls, l) free with
    | none => exact ⟨⟨by simp, fun _ h => by cases h⟩, ⟨by simp, fun _ h => by cases h⟩⟩
    | some r =>
      obtain ⟨q1, _, _, q4⟩ := inferV_some hN
      exact sm_ls hsm (by rw [q4]; exact infL_len q1)
  have hsame : QC F 18 [.agg #[.slice xa_ (inferO d (ls, l) free).1.length (inferO d (ls, l) free).1.length, xs], .agg #[wl, ws]] Hc (.bool true) := glp Hc d _ _ _ _ _ _ y1c y2c w1c w2c hsmO
  refine seq_assoc (seq_reg ?_)
  generalize hbs : (inferV d (ls, l) free).isSome = bs
  simp only [go_sem, binC, beq_self_eq_true, bne_self_eq_false, Bool.not_true, gc_of hxc, gc_of hwc, inBlk_some, oxs, owl, ows]
  refine op_callQ (by simp only [go_sem, binC]; exact hsame) ?_
  simp only [go_sem, binC, Bool.not_true, gc_of hpc, inBlk_some, osv]
  refine op_callQ (by simp only [go_sem, binC]; exact gps Hc d _ (ls, l) (prog_rd r1c r2c) hsm) ?_
  cases hP : progB d (ls, l) with
  | false =>
    simp only [go_sem, binC]
    refine seq_cond (t := true) rfl ?_
    simp only [go_sem, binC]
    refine seq_assoc (seq_reg ?_)
    simp only [go_sem, binC, beq_self_eq_true, gc_of hxc, gc_of hwc, inBlk_some, oxs, owl, ows]
    refine op_callQ (by simp only [go_sem, binC]; exact hsame) ?_
    simp only [go_sem, binC]
    exact seq_ret ⟨Or.inr rfl, .bool true, by simp only [go_sem, binC], rfl, rfl⟩
  | true =>
  have hls4 := progB_le4 hP
  simp only [go_sem, binC, gc_of hpc, inBlk_some]
  by_cases hfl : free.length = ls.length
  case neg =>
    simp only [go_sem, binC, bne_t (show ¬ ((free.length : Int) = ls.length) by omega)]
    refine seq_cond (t := true) rfl ?_
    simp only [go_sem, binC]
    refine seq_assoc (seq_reg ?_)
    simp only [go_sem, binC, beq_self_eq_true, gc_of hxc, gc_of hwc, inBlk_some, oxs, owl, ows]
    refine op_callQ (by simp only [go_sem, binC]; exact hsame) ?_
    simp only [go_sem, binC]
    exact seq_ret ⟨Or.inr rfl, .bool true, by simp only [go_sem, binC], rfl, rfl⟩
  simp only [go_sem, binC, bne_f (show ((free.length : Int) = ls.length) by omega)]
  refine seq_cond (t := false) rfl ?_
  simp only [go_sem, binC]
  refine seq_skip (seq_reg ?_)
  simp only [go_sem, binC]
  refine wpc_gen fun Hd hHd => ?_
  have xd : AgX [] Hc Hd := hHd ▸ AgX.app [] _ _
  have od : OwnL Co.bool 1 4 Hc.length [] Hd Hc.length true [] := hHd ▸ OwnG.nil (Nat.le_refl _)
  clear hHd
  have h1c : H.length ≤ Hc.length := by omega
  refine seq_assoc (seq_reg ?_)
  simp only [go_sem, binC]
  refine seq_block (wpc_loop ?_)
  suffices hh : ∀ (k i : Nat) (e : Env) (He : Heap) (b : Nat) (so : Bool) (all : List Bool), i + k = free.length → all = List.replicate i true → AgX [] Hc He → OwnL Co.bool 1 4 Hc.length [] He b so all → e 3 = ptr H1.length 0 → e 4 = .slice fa free.length free.length → e 9 = sli b 0 all.length → e 10 = .int .i64 i → Go.Proofs.YtkmghcglmjehcaaI.W F H.length _ e He _ from
    hh free.length 0 _ Hd Hc.length true [] (by omega) rfl xd od (by simp only [go_sem, binC]) (by simp only [go_sem, binC]) (by (simp only [go_sem, binC]) <;> rfl) (by (simp only [go_sem, binC]) <;> rfl)
  intro k
  induction k with
  | zero =>
    intro i e He b so all hi hall hxe hoe e3 e4 e9 e10
    have hal : all.length = ls.length := by rw [hall, List.length_replicate]; omega
    have x1e := x1c.tr hxe
    have hpe := hxe.get hpc (by simp)
    have hfe : SlR Co.bool (vw 0 He) (sli b 0 all.length) all := (hoe.slR rfl (by simp)).mono (vwl0 _ _ _)
    have hne := hxe.1
    refine lp_step ?_
    refine seq_assoc (seq_reg ?_)
    simp only [go_sem, binC, e4, e10]
    refine seq_cond (t := false) (by simp only [go_sem, binC]; rw [decide_eq_false (by omega)]) ?_
    simp only [go_sem, binC]
    refine seq_exit ?_
    simp only [go_sem, binC, thenX_e, out_e, thenX_n]
    refine seq_reg ?_
    simp only [go_sem, binC, e3, e9, gc_of hpe, inBlk_some, osv]
    obtain ⟨zl, zs, H4, k4, x4, z1, z2⟩ := gim He d _ sv _ ls l all (r1.mono (agx_sub x1e)) (r2.mono (agx_sub x1e)) hsm hfe
    have hN2 := inferV_more (free := all) hP hal (fun i hi => by
      rw [hall] at hi ⊢
      rw [List.length_replicate] at hi
      simp [List.getD, hi])
    have hO2 : inferO d (ls, l) all = (List.replicate ls.length (7, 7), l) := by unfold inferO; rw [hN2]
    rw [hN2] at k4
    rw [hO2] at z1 z2
    simp only at z1 z2
    refine op_callK (by simp only [go_sem, binC]; exact k4) ?_
    obtain ⟨_, za, rfl, _⟩ := id z1
    have ozs : one zs = true := by obtain ⟨_, a, rfl, _⟩ := z2; rfl
    have hn4 := x4.1
    simp only [go_sem, binC, ozs, Option.isSome_some]
    refine ⟨by omega, ?_⟩
    refine wpc_gen fun Hg hHg => ?_
    have xg : AgX [] H4 Hg := hHg ▸ AgX.app [] _ _
    have hzg : Hg[H4.length]? = some ⟨[.slice za (List.replicate ls.length ((7, 7) : Int × Int)).length (List.replicate ls.length ((7, 7) : Int × Int)).length, zs], 0, 0, false, true⟩ := hHg ▸ get_new0 _ _
    clear hHg k4
    have z1g := z1.mono (agx_sub xg)
    refine seq_assoc (seq_reg ?_)
    simp only [go_sem, binC]
    refine seq_block (wpc_loop ?_)
    suffices h : ∀ (k i : Nat) (e : Env), i + k = free.length → e 4 = .slice fa free.length free.length → e 11 = ptr H4.length 0 → e 12 = .bool true → e 13 = .int .i64 i → Go.Proofs.YtkmghcglmjehcaaI.W F H.length _ e Hg _ from
      h free.length 0 _ (by omega) (by simp only [go_sem, binC, e4]) (by simp only [go_sem, binC]) (by simp only [go_sem, binC]) (by (simp only [go_sem, binC]) <;> rfl)
    clear e3 e4 e9 e10
    intro k
    induction k with
    | zero =>
      intro i e hi e4 e11 e12 e13
      refine lp_step ?_
      refine seq_assoc (seq_reg ?_)
      simp only [go_sem, binC, e4, e13]
      rw [decide_eq_false (by omega)]
      simp only [go_sem, binC]
      refine seq_cond (t := false) rfl ?_
      simp only [go_sem, binC]
      refine seq_exit ?_
      simp only [go_sem, binC, thenX_e, out_e, thenX_n]
      refine seq_reg ?_
      simp only [go_sem, binC, e12]
      exact wpc_ret ⟨Or.inr rfl, .bool true, by simp only [go_sem, binC], rfl, rfl⟩
    | succ k ih =>
      intro i e hi e4 e11 e12 e13
      have hif : i < ls.length := by omega
      have hw1 : IntKind.i64.wrap ((i : Int) + 1) = ((i + 1 : Nat) : Int) := by rw [wrap_id (by omega) (by omega)]; omega
      obtain ⟨b1, o1, h1, g1⟩ := gcP z1g (show i < (List.replicate ls.length ((7, 7) : Int × Int)).length by rw [List.length_replicate]; exact hif)
      rw [List.getElem_replicate] at g1
      simp only [Value.slice.injEq, and_true] at h1
      subst h1
      refine lp_step ?_
      refine seq_assoc (seq_reg ?_)
      simp only [go_sem, binC, e4, e13]
      rw [decide_eq_true (by omega)]
      simp only [go_sem, binC, e12]
      refine seq_cond (t := true) rfl ?_
      simp only [go_sem, binC]
      refine seq_skip (seq_block (seq_reg ?_))
      simp only [go_sem, binC, e11, e13, gc_of hzg, inBlk_some]
      refine ⟨⟨by omega, by rw [List.length_replicate]; omega⟩, ?_⟩
      simp only [go_sem, binC, Int.toNat_natCast, g1, eqsV2, decide_true, Bool.not_true]
      refine wpc_cond (t := false) rfl ?_
      simp only [go_sem, binC]
      refine wpc_skip ?_
      simp only [go_sem, binC, out_n, thenX_n]
      refine wpc_reg ?_
      simp only [go_sem, binC, e13, hw1]
      simp only [go_sem, binC, thenX_n]
      exact ih (i + 1) _ (by omega) (by simp only [go_sem, binC, e4]) (by simp only [go_sem, binC, e11]) (by simp only [go_sem, binC, e12]) (by simp only [go_sem, binC])
  | succ k ih =>
    intro i e He b so all hi hall hxe hoe e3 e4 e9 e10
    have hw1 : IntKind.i64.wrap ((i : Int) + 1) = ((i + 1 : Nat) : Int) := by rw [wrap_id (by omega) (by omega)]; omega
    have hal : all.length = i := by rw [hall, List.length_replicate]
    have hob := hoe.1
    refine lp_step ?_
    refine seq_assoc (seq_reg ?_)
    simp only [go_sem, binC, e4, e10]
    refine seq_cond (t := true) (by simp only [go_sem, binC]; rw [decide_eq_true (by omega)]) ?_
    simp only [go_sem, binC]
    refine seq_skip (seq_block (wpc_reg ?_))
    simp only [go_sem, binC, e9]
    refine op_app_own (a := true) hoe (by simp only [go_sem, binC, e9]) (by simp only [go_sem, binC]) h1c rfl (by first | rfl | exact ⟨rfl⟩) (by omega) (by omega) (fun b' hb => by cases hb) fun H7 hx7 ho7 => ?_
    simp only [go_sem, binC]
    simp only [go_sem, binC, out_n, thenX_n]
    refine wpc_reg ?_
    simp only [go_sem, binC, e10, hw1]
    simp only [go_sem, binC, thenX_n]
    refine ih (i + 1) _ H7 _ _ _ (by omega) ?_ (hxe.trans hx7 (fun _ h _ => h) (fun b' hb hlt => by simp only [List.mem_singleton] at hb; omega)) ho7 (by simp only [go_sem, binC, e3]) (by simp only [go_sem, binC, e4]) (by (simp only [go_sem, binC]) <;> (rw [List.length_append]; rfl)) (by simp only [go_sem, binC])
    rw [hall, List.replicate_succ']
/-- Some labels, with another at what is free. -/
def withL (o : Int × Int) (ls : List (Int × Int)) (free : List Bool) : List (Int × Int) := (List.range ls.length).map fun i => if free.getD i false = true then o else ls.getD i (0, 0)
theorem withL_len (o : Int × Int) (ls : List (Int × Int)) (free : List Bool) : (withL o ls free).length = ls.length := by simp [withL]
theorem withL_get {o : Int × Int} {ls : List (Int × Int)} {free : List Bool} {i : Nat} (hi : i < ls.length) : (withL o ls free).getD i (0, 0) = if free.getD i false = true then o else ls.getD i (0, 0) := by
  simp [withL, List.getD, hi]
theorem withL_none (o : Int × Int) (ls : List (Int × Int)) : withL o ls [] = ls := List.ext_getElem (withL_len _ _ _) fun i h1 h2 => by
  have := withL_get (o := o) (free := []) h2
  simpa [List.getD, h1, h2] using this
theorem withL_step {o : Int × Int} {ls : List (Int × Int)} {free : List Bool} {v : Nat} (hv : v < free.length) (hl : free.length = ls.length) : withL o ls (free.take (v + 1)) = if free.getD v false = true then (withL o ls (free.take v)).set v o else withL o ls (free.take v) := by
  have e0 : ∀ i, i < ls.length → (free.take v).getD i false = if i < v then free.getD i false else false := fun i hi => by
    by_cases h : i < v
    · rw [if_pos h]; simp [List.getD, h]
    · rw [if_neg h]; simp [List.getD, List.getElem?_take, h]
  have e1 : ∀ i, i < ls.length → (free.take (v + 1)).getD i false = if i < v + 1 then free.getD i false else false := fun i hi => by
    by_cases h : i < v + 1
    · rw [if_pos h]; simp [List.getD, h]
    · rw [if_neg h]; simp [List.getD, List.getElem?_take, h]
  refine List.ext_getElem (by split <;> simp [withL_len]) fun i h1 h2 => ?_
  rw [withL_len] at h1
  have a1 := withL_get (o := o) (free := free.take (v + 1)) h1
  have a0 := withL_get (o := o) (free := free.take v) h1
  rw [e1 i h1] at a1
  rw [e0 i h1] at a0
  have b1 : (withL o ls (free.take (v + 1)))[i]'(by rw [withL_len]; exact h1) = (withL o ls (free.take (v + 1))).getD i (0, 0) := by simp [List.getD, withL_len, h1]
  have b0 : (withL o ls (free.take v))[i]'(by rw [withL_len]; exact h1) = (withL o ls (free.take v)).getD i (0, 0) := by simp [List.getD, withL_len, h1]
  rw [b1, a1]
  by_cases hf : free.getD v false = true
  · simp only [hf, if_true, List.getElem_set]
    by_cases hiv : v = i
    · subst hiv
      rw [List.getD_eq_getElem?_getD] at hf
      simp [hf]
    · rw [if_neg hiv, b0, a0]
      by_cases h : i < v
      · simp [h, show i < v + 1 by omega]
      · simp [h, show ¬ i < v + 1 by omega]
  · simp only [hf, Bool.false_eq_true, if_false]
    rw [b0, a0]
    by_cases hiv : v = i
    · subst hiv
      rw [List.getD_eq_getElem?_getD] at hf
      simp [hf]
    · by_cases h : i < v
      · simp [h, show i < v + 1 by omega]
      · simp [h, show ¬ i < v + 1 by omega]
def c_lawIS : IFn := ⟨2, 124, [.t 4],
 .seq (.reg none [
    ⟨(some 4), none, .mov (.c (.bool false))⟩])
 (.seq (.seq (.reg none [
     ⟨(some 15), none, .mov (.t 0)⟩,
     ⟨(some 16), none, .len (.t 15)⟩,
     ⟨(some 17), none, .bin .gtr (.t 16) (.c (.int .i64 1048576))⟩,
     ⟨(some 18), none, .mov (.t 17)⟩,
     ⟨(some 19), (some (18, false)), .mov (.t 1)⟩,
     ⟨(some 20), (some (18, false)), .len (.t 19)⟩,
     ⟨(some 21), (some (18, false)), .bin .gtr (.t 20) (.c (.int .i64 1048576))⟩,
     ⟨(some 22), none, .pick (.t 18) (.c (.bool true)) (.t 21)⟩])
  (.cond (.t 22) (.seq (.reg none [
      ⟨(some 4), none, .mov (.c (.bool true))⟩])
   (.ret)) (.skip)))
 (.seq (.reg none [
    ⟨(some 24), none, .mov (.t 0)⟩,
    ⟨(some 25), none, .call .k (.f 15) [(.t 24)]⟩,
    ⟨(some 23), none, .mov (.t 25)⟩,
    ⟨(some 26), none, .ext (.t 23) 0⟩,
    ⟨(some 27), none, .ext (.t 23) 1⟩,
    ⟨(some 5), none, .new [(.slice none 0 0), (.slice none 0 0)]⟩,
    ⟨none, none, .store 2 (.t 5) (.t 26)⟩,
    ⟨(some 6), none, .mov (.t 27)⟩])
 (.seq (.reg none [
    ⟨(some 29), none, .load true 2 (.t 5)⟩,
    ⟨(some 30), none, .mov (.t 6)⟩,
    ⟨(some 31), none, .call .k (.f 16) [(.t 29), (.t 30)]⟩,
    ⟨(some 28), none, .mov (.t 31)⟩,
    ⟨(some 32), none, .ext (.t 28) 0⟩,
    ⟨(some 33), none, .ext (.t 28) 1⟩,
    ⟨(some 7), none, .new [(.slice none 0 0), (.slice none 0 0)]⟩,
    ⟨none, none, .store 2 (.t 7) (.t 32)⟩,
    ⟨(some 8), none, .mov (.t 33)⟩])
 (.seq (.reg none [
    ⟨(some 35), none, .load true 2 (.t 5)⟩,
    ⟨(some 36), none, .mov (.t 6)⟩,
    ⟨(some 37), none, .call .k (.f 17) [(.t 35), (.t 36)]⟩,
    ⟨(some 34), none, .mov (.t 37)⟩,
    ⟨(some 38), none, .ext (.t 34) 0⟩,
    ⟨(some 39), none, .ext (.t 34) 1⟩,
    ⟨(some 9), none, .new [(.slice none 0 0), (.slice none 0 0)]⟩,
    ⟨none, none, .store 2 (.t 9) (.t 38)⟩,
    ⟨(some 10), none, .mov (.t 39)⟩])
 (.seq (.seq (.reg none [
     ⟨(some 40), none, .mov (.t 10)⟩,
     ⟨(some 41), none, .mov (.t 8)⟩,
     ⟨(some 42), none, .beq true (.t 40) (.t 41)⟩,
     ⟨(some 43), none, .mov (.t 42)⟩,
     ⟨(some 44), (some (43, false)), .load true 2 (.t 9)⟩,
     ⟨(some 45), (some (43, false)), .load true 2 (.t 7)⟩,
     ⟨(some 46), (some (43, false)), .call .q (.f 18) [(.t 44), (.t 45)]⟩,
     ⟨(some 47), (some (43, false)), .un .not (.t 46)⟩,
     ⟨(some 48), none, .pick (.t 43) (.c (.bool true)) (.t 47)⟩,
     ⟨(some 49), none, .mov (.t 48)⟩,
     ⟨(some 50), (some (49, false)), .load true 2 (.t 5)⟩,
     ⟨(some 51), (some (49, false)), .call .q (.f 19) [(.t 50)]⟩,
     ⟨(some 52), (some (49, false)), .un .not (.t 51)⟩,
     ⟨(some 53), none, .pick (.t 49) (.c (.bool true)) (.t 52)⟩,
     ⟨(some 54), none, .mov (.t 53)⟩,
     ⟨(some 55), (some (54, false)), .mov (.t 6)⟩,
     ⟨(some 56), (some (54, false)), .len (.t 55)⟩,
     ⟨(some 57), (some (54, false)), .fad 0 (.t 5)⟩,
     ⟨(some 58), (some (54, false)), .load false 1 (.t 57)⟩,
     ⟨(some 59), (some (54, false)), .len (.t 58)⟩,
     ⟨(some 60), (some (54, false)), .bin .neq (.t 56) (.t 59)⟩,
     ⟨(some 61), none, .pick (.t 54) (.c (.bool true)) (.t 60)⟩])
  (.cond (.t 61) (.seq (.reg none [
      ⟨(some 62), none, .mov (.t 10)⟩,
      ⟨(some 63), none, .mov (.t 8)⟩,
      ⟨(some 64), none, .beq false (.t 62) (.t 63)⟩,
      ⟨(some 65), none, .mov (.t 64)⟩,
      ⟨(some 66), (some (65, true)), .load true 2 (.t 9)⟩,
      ⟨(some 67), (some (65, true)), .load true 2 (.t 7)⟩,
      ⟨(some 68), (some (65, true)), .call .q (.f 18) [(.t 66), (.t 67)]⟩,
      ⟨(some 69), none, .pick (.t 65) (.t 68) (.c (.bool false))⟩,
      ⟨(some 4), none, .mov (.t 69)⟩])
   (.ret)) (.skip)))
 (.seq (.reg none [
    ⟨(some 70), none, .mov (.t 1)⟩,
    ⟨(some 71), none, .call .q (.f 24) [(.t 70)]⟩,
    ⟨(some 11), none, .new [(.int .i64 0), (.int .i64 0)]⟩,
    ⟨none, none, .store 2 (.t 11) (.t 71)⟩])
 (.seq (.reg (some 8) [
    ⟨(some 72), none, .lit 2 35 0 [] []⟩,
    ⟨(some 73), none, .fad 0 (.t 5)⟩,
    ⟨(some 74), none, .load false 1 (.t 73)⟩,
    ⟨(some 75), none, .app 2 35 16 false (.t 72) (.t 74)⟩,
    ⟨(some 76), none, .fad 1 (.t 5)⟩,
    ⟨(some 77), none, .load false 1 (.t 76)⟩,
    ⟨(some 78), none, .build [(.slice none 0 0), (.slice none 0 0)] [(0, 1, (.t 75)), (1, 1, (.t 77))]⟩,
    ⟨(some 12), none, .new [(.slice none 0 0), (.slice none 0 0)]⟩,
    ⟨none, none, .store 2 (.t 12) (.t 78)⟩])
 (.seq (.seq (.reg none [
     ⟨(some 13), none, .mov (.c (.int .i64 0))⟩])
  (.block 0 (.loop (.seq (.seq (.reg none [
        ⟨(some 79), none, .mov (.t 13)⟩,
        ⟨(some 80), none, .mov (.t 6)⟩,
        ⟨(some 81), none, .len (.t 80)⟩,
        ⟨(some 82), none, .bin .lss (.t 79) (.t 81)⟩])
     (.cond (.t 82) (.skip) (.exit 0)))
    (.seq (.block 1 (.seq (.reg none [
         ⟨(some 85), none, .mov (.t 6)⟩,
         ⟨(some 86), none, .mov (.t 13)⟩,
         ⟨(some 87), none, .iad 1 (.t 85) (.t 86)⟩,
         ⟨(some 88), none, .load false 1 (.t 87)⟩])
      (.cond (.t 88) (.reg none [
         ⟨(some 89), none, .fad 0 (.t 12)⟩,
         ⟨(some 90), none, .load false 1 (.t 89)⟩,
         ⟨(some 91), none, .mov (.t 13)⟩,
         ⟨(some 92), none, .load true 2 (.t 11)⟩,
         ⟨(some 93), none, .iad 2 (.t 90) (.t 91)⟩,
         ⟨none, none, .store 2 (.t 93) (.t 92)⟩]) (.skip))))
    (.reg none [
      ⟨(some 83), none, .mov (.t 13)⟩,
      ⟨(some 84), none, .bin .add (.t 83) (.c (.int .i64 1))⟩,
      ⟨(some 13), none, .mov (.t 84)⟩]))))))
 (.seq (.seq (.reg none [
     ⟨(some 94), none, .load true 2 (.t 11)⟩,
     ⟨(some 95), none, .call .q (.f 25) [(.t 94)]⟩,
     ⟨(some 96), none, .un .not (.t 95)⟩,
     ⟨(some 97), none, .mov (.t 96)⟩,
     ⟨(some 98), (some (97, false)), .load true 2 (.t 12)⟩,
     ⟨(some 99), (some (97, false)), .call .q (.f 20) [(.t 98)]⟩,
     ⟨(some 100), (some (97, false)), .un .not (.t 99)⟩,
     ⟨(some 101), none, .pick (.t 97) (.c (.bool true)) (.t 100)⟩])
  (.cond (.t 101) (.seq (.reg none [
      ⟨(some 4), none, .mov (.c (.bool true))⟩])
   (.ret)) (.skip)))
 (.seq (.seq (.reg none [
     ⟨(some 14), none, .mov (.c (.int .i64 0))⟩])
  (.block 2 (.loop (.seq (.seq (.reg none [
        ⟨(some 102), none, .mov (.t 14)⟩,
        ⟨(some 103), none, .mov (.t 6)⟩,
        ⟨(some 104), none, .len (.t 103)⟩,
        ⟨(some 105), none, .bin .lss (.t 102) (.t 104)⟩])
     (.cond (.t 105) (.skip) (.exit 2)))
    (.seq (.block 3 (.seq (.reg (some 12) [
         ⟨(some 108), none, .mov (.t 10)⟩,
         ⟨(some 109), none, .mov (.t 108)⟩,
         ⟨(some 110), (some (109, true)), .fad 0 (.t 9)⟩,
         ⟨(some 111), (some (109, true)), .load false 1 (.t 110)⟩,
         ⟨(some 112), (some (109, true)), .mov (.t 14)⟩,
         ⟨(some 113), (some (109, true)), .iad 2 (.t 111) (.t 112)⟩,
         ⟨(some 114), (some (109, true)), .load true 2 (.t 113)⟩,
         ⟨(some 115), (some (109, true)), .fad 0 (.t 12)⟩,
         ⟨(some 116), (some (109, true)), .load false 1 (.t 115)⟩,
         ⟨(some 117), (some (109, true)), .mov (.t 14)⟩,
         ⟨(some 118), (some (109, true)), .iad 2 (.t 116) (.t 117)⟩,
         ⟨(some 119), (some (109, true)), .load true 2 (.t 118)⟩,
         ⟨(some 120), (some (109, true)), .call .q (.f 23) [(.t 114), (.t 119)]⟩,
         ⟨(some 121), (some (109, true)), .un .not (.t 120)⟩,
         ⟨(some 122), none, .pick (.t 109) (.t 121) (.c (.bool false))⟩])
      (.cond (.t 122) (.seq (.reg none [
          ⟨(some 4), none, .mov (.c (.bool false))⟩])
       (.ret)) (.skip))))
    (.reg none [
      ⟨(some 106), none, .mov (.t 14)⟩,
      ⟨(some 107), none, .bin .add (.t 106) (.c (.int .i64 1))⟩,
      ⟨(some 14), none, .mov (.t 107)⟩]))))))
 (.seq (.reg none [
    ⟨(some 123), none, .mov (.t 10)⟩,
    ⟨(some 4), none, .mov (.t 123)⟩])
 (.ret))))))))))))⟩
set_option maxHeartbeats 4000000 in
theorem lawIS_ok {F : Nat → Option IFn} {f : Nat} (hf : F f = some c_lawIS) (gd : DrawInfer F 15) (gsp : InferOk F 16) (gim : InferOk F 17) (glp : SamePOk F 18) (gps : ProgOk F 19) (gdl : DrawLab F 24) (glo : LabOk F 25) (gty : TypeP F 20) (gfl : FlowsI F 23) : LawB2 F f := by
  intro H v v2 code more hv hv2
  obtain ⟨_, av, rfl, _⟩ := id hv
  obtain ⟨_, av2, rfl, _⟩ := id hv2
  refine QC.mk hf rfl ?_
  refine seq_reg ?_
  simp only [go_sem, binC]
  refine seq_assoc (seq_reg ?_)
  simp only [go_sem, binC]
  by_cases hbig : 1048576 < (code.length : Int)
  · simp only [go_sem, binC, decide_eq_true hbig]
    refine seq_cond (t := true) rfl ?_
    simp only [go_sem, binC]
    refine seq_assoc (seq_reg ?_)
    simp only [go_sem, binC]
    exact seq_ret ⟨Or.inr rfl, .bool true, by simp only [go_sem, binC], rfl, rfl⟩
  simp only [go_sem, binC, decide_eq_false hbig]
  by_cases hbig2 : 1048576 < (more.length : Int)
  · refine seq_cond (t := true) (by simp only [go_sem, binC]; rw [decide_eq_true hbig2]) ?_
    simp only [go_sem, binC]
    refine seq_assoc (seq_reg ?_)
    simp only [go_sem, binC]
    exact seq_ret ⟨Or.inr rfl, .bool true, by simp only [go_sem, binC], rfl, rfl⟩
  refine seq_cond (t := false) (by simp only [go_sem, binC]; rw [decide_eq_false hbig2]) ?_
  simp only [go_sem, binC]
  refine seq_skip (seq_reg ?_)
  simp only [go_sem, binC]
  obtain ⟨d, lv, sv, fv, ls, l, free, H1, k1, x1, r1, r2, hsm, r3, hfn⟩ := gd H _ code hv
  refine op_callK (by simp only [go_sem, binC]; exact k1) ?_
  obtain ⟨hlsn, la, rfl, _⟩ := id r1
  have osv : one sv = true := by obtain ⟨_, a, rfl, _⟩ := r2; rfl
  obtain ⟨_, fa, rfl, _⟩ := id r3
  have hn1 := x1.1
  simp only [go_sem, binC, osv]
  refine ⟨by omega, ?_⟩
  refine wpc_gen fun Ha hHa => ?_
  have xa : AgX [] H1 Ha := hHa ▸ AgX.app [] _ _
  have hpa : Ha[H1.length]? = some ⟨[.slice la ls.length ls.length, sv], 0, 0, false, true⟩ := hHa ▸ get_new0 _ _
  clear hHa k1
  have hna := xa.1
  refine seq_reg ?_
  simp only [go_sem, binC, gc_of hpa, inBlk_some, osv]
  obtain ⟨wl, ws, H2, k2, x2, w1, w2⟩ := gsp Ha d _ sv _ ls l free (r1.mono (agx_sub xa)) (r2.mono (agx_sub xa)) hsm (r3.mono (agx_sub xa))
  refine op_callK (by simp only [go_sem, binC]; exact k2) ?_
  have owl : one wl = true := by obtain ⟨_, a, rfl, _⟩ := w1; rfl
  have ows : one ws = true := by obtain ⟨_, a, rfl, _⟩ := w2; rfl
  have hn2 := x2.1
  simp only [go_sem, binC, owl, ows]
  refine ⟨by omega, ?_⟩
  refine wpc_gen fun Hb hHb => ?_
  have xb : AgX [] H2 Hb := hHb ▸ AgX.app [] _ _
  have hwb : Hb[H2.length]? = some ⟨[wl, ws], 0, 0, false, true⟩ := hHb ▸ get_new0 _ _
  clear hHb k2
  have hnb := xb.1
  have xab := x2.tr xb
  have hpb := xab.get hpa (by simp)
  have x1b := xa.tr xab
  refine seq_reg ?_
  simp only [go_sem, binC, gc_of hpb, inBlk_some, osv]
  obtain ⟨xl, xs, H3, k3, x3, y1, y2⟩ := gim Hb d _ sv _ ls l free (r1.mono (agx_sub x1b)) (r2.mono (agx_sub x1b)) hsm (r3.mono (agx_sub x1b))
  refine op_callK (by simp only [go_sem, binC]; exact k3) ?_
  obtain ⟨_, xa_, rfl, _⟩ := id y1
  have oxs : one xs = true := by obtain ⟨_, a, rfl, _⟩ := y2; rfl
  have hn3 := x3.1
  simp only [go_sem, binC, oxs]
  refine ⟨by omega, ?_⟩
  refine wpc_gen fun Hc hHc => ?_
  have xc : AgX [] H3 Hc := hHc ▸ AgX.app [] _ _
  have hxc : Hc[H3.length]? = some ⟨[.slice xa_ (inferO d (ls, l) free).1.length (inferO d (ls, l) free).1.length, xs], 0, 0, false, true⟩ := hHc ▸ get_new0 _ _
  clear hHc k3
  have hnc := xc.1
  have xbc := x3.tr xc
  have hpc := xbc.get hpb (by simp)
  have hwc := xbc.get hwb (by simp)
  have x1c := x1b.tr xbc
  have r1c := r1.mono (agx_sub x1c)
  have r2c := r2.mono (agx_sub x1c)
  have r3c := r3.mono (agx_sub x1c)
  have y1c := y1.mono (agx_sub xc)
  have y2c := y2.mono (agx_sub xc)
  have w1c := w1.mono (agx_sub (xb.tr xbc))
  have w2c := w2.mono (agx_sub (xb.tr xbc))
  have hsmO : (Co.prog d).sm ((inferO d (ls, l) free).1, (inferO d (ls, l) free).2) := by
    unfold inferO
    cases hN : inferV d (ls, l) free with
    | none => exact ⟨⟨by simp, fun _ h => by cases h⟩, ⟨by simp, fun _ h => by cases h⟩⟩
    | some r =>
      obtain ⟨q1, _, _, q4⟩ := inferV_some hN
      exact sm_ls hsm (by rw [q4]; exact infL_len q1)
  have hsame : QC F 18 [.agg #[.slice xa_ (inferO d (ls, l) free).1.length (inferO d (ls, l) free).1.length, xs], .agg #[wl, ws]] Hc (.bool true) := glp Hc d _ _ _ _ _ _ y1c y2c w1c w2c hsmO
  refine seq_assoc (seq_reg ?_)
  generalize hbs : (inferV d (ls, l) free).isSome = bs
  simp only [go_sem, binC, beq_self_eq_true, bne_self_eq_false, Bool.not_true, gc_of hxc, gc_of hwc, inBlk_some, oxs, owl, ows]
  refine op_callQ (by simp only [go_sem, binC]; exact hsame) ?_
  simp only [go_sem, binC, Bool.not_true, gc_of hpc, inBlk_some, osv]
  refine op_callQ (by simp only [go_sem, binC]; exact gps Hc d _ (ls, l) (prog_rd r1c r2c) hsm) ?_
  cases hP : progB d (ls, l) with
  | false =>
    simp only [go_sem, binC]
    refine seq_cond (t := true) rfl ?_
    simp only [go_sem, binC]
    refine seq_assoc (seq_reg ?_)
    simp only [go_sem, binC, beq_self_eq_true, gc_of hxc, gc_of hwc, inBlk_some, oxs, owl, ows]
    refine op_callQ (by simp only [go_sem, binC]; exact hsame) ?_
    simp only [go_sem, binC]
    exact seq_ret ⟨Or.inr rfl, .bool true, by simp only [go_sem, binC], rfl, rfl⟩
  | true =>
  have hls4 := progB_le4 hP
  simp only [go_sem, binC, gc_of hpc, inBlk_some]
  by_cases hfl : free.length = ls.length
  case neg =>
    simp only [go_sem, binC, bne_t (show ¬ ((free.length : Int) = ls.length) by omega)]
    refine seq_cond (t := true) rfl ?_
    simp only [go_sem, binC]
    refine seq_assoc (seq_reg ?_)
    simp only [go_sem, binC, beq_self_eq_true, gc_of hxc, gc_of hwc, inBlk_some, oxs, owl, ows]
    refine op_callQ (by simp only [go_sem, binC]; exact hsame) ?_
    simp only [go_sem, binC]
    exact seq_ret ⟨Or.inr rfl, .bool true, by simp only [go_sem, binC], rfl, rfl⟩
  simp only [go_sem, binC, bne_f (show ((free.length : Int) = ls.length) by omega)]
  refine seq_cond (t := false) rfl ?_
  simp only [go_sem, binC]
  refine seq_skip (seq_reg ?_)
  simp only [go_sem, binC]
  have hv2c : SlR Co.byte (vw 0 Hc) (.slice av2 more.length more.length) more := hv2.mono (agx_sub (x1.tr x1c))
  obtain ⟨oa, ob, k5, roa, rob⟩ := gdl Hc _ more hv2c
  refine op_callQ (by simp only [go_sem, binC]; exact k5) ?_
  simp only [go_sem, binC]
  refine ⟨by omega, ?_⟩
  refine wpc_gen fun Hd hHd => ?_
  have xd : AgX [] Hc Hd := hHd ▸ AgX.app [] _ _
  have hod : Hd[Hc.length]? = some ⟨[.int .i64 oa, .int .i64 ob], 0, 0, false, true⟩ := hHd ▸ get_new0 _ _
  clear hHd
  have hpd := xd.get hpc (by simp)
  have hnd := xd.1
  obtain ⟨_, sa, hsv_, _⟩ := id r2
  subst hsv_
  refine seq_regD ?_
  simp only [go_sem, binC, gc_of hpd, inBlk_some, osv]
  generalize hHe : Hd ++ [(⟨[], 2, 35, true, true⟩ : Blk)] = He
  have xe : AgX [] Hd He := hHe ▸ AgX.app [] _ _
  have hbe : He[Hd.length]? = some ⟨[], 2, 35, true, true⟩ := hHe ▸ get_new0 _ _
  have hle_ : He.length = Hd.length + 1 := by rw [← hHe, List.length_append]; rfl
  clear hHe
  have hpe := xe.get hpd (by simp)
  have r1e := r1c.mono (agx_sub (xd.tr xe))
  have happ : ∀ (e : Env) (K : Value → Heap → Prop), e 72 = sli Hd.length 0 0 → e 74 = .slice la ls.length ls.length → (∀ b' L, Hd.length ≤ b' → (He ++ L)[b']? = some ⟨ls.flatMap fp, 2, 35, true, true⟩ → K (sli b' 0 ls.length) (He ++ L)) → wpOp F (Hd.length + 1) (.app 2 35 16 false (.t 72) (.t 74)) e He K := by
    intro e K e22 e24 k
    by_cases hl0 : ls = []
    · subst hl0
      refine op_app_zero _ _ _ _ _ (by (simp only [go_sem, binC, e22]) <;> rfl) (by (simp only [go_sem, binC, e24]) <;> rfl) ?_
      have := k Hd.length [] (Nat.le_refl _)
      rw [List.append_nil] at this
      exact this hbe
    · obtain ⟨b, o, hbo, hg⟩ := sl_p2s r1e hl0
      have hne : ls.length ≠ 0 := fun h => hl0 (List.eq_nil_of_length_eq_zero h)
      exact op_app_lit (by (simp only [go_sem, binC, e22]) <;> rfl) (by simp only [go_sem, binC, e24]; exact hbo) hne hg hbe (by omega) (by omega) (by omega) (k _ _ (by omega) (get_new0 _ _))
  simp only [go_sem, binC, gc_of hpe, inBlk_some, osv]
  refine happ _ _ (by simp only [go_sem, binC]) (by simp only [go_sem, binC]) fun bl L hbl0 hbl => ?_
  generalize hHg : He ++ L = Hg at *
  have xg : AgX [] He Hg := hHg ▸ AgX.app [] _ _
  clear hHg happ
  have hpg := xg.get hpe (by simp)
  have hng := xg.1
  simp only [go_sem, binC, gc_of hpg, inBlk_some, osv]
  refine ⟨by omega, ?_⟩
  refine wpc_genH fun Hh hHh => ?_
  have xh : AgX [] Hg Hh := hHh ▸ AgX.app [] _ _
  have hqh : Hh[Hg.length]? = some ⟨[sli bl 0 ls.length, .slice sa l.length l.length], 0, 0, false, true⟩ := hHh ▸ get_new0 _ _
  clear hHh
  have xdh := (xe.tr xg).tr xh
  have xch := xd.tr xdh
  have hblg := (List.getElem?_eq_some_iff.1 hbl).1
  have hblh := xh.get hbl (by simp)
  have hoh := xdh.get hod (by simp)
  have hxh := xch.get hxc (by simp)
  have hodl := (List.getElem?_eq_some_iff.1 hod).1
  have hxcl := (List.getElem?_eq_some_iff.1 hxc).1
  have hlsr := p2_rg r1c
  refine seq_assoc (seq_reg ?_)
  simp only [go_sem, binC]
  refine seq_block (wpc_loop ?_)
  suffices hh : ∀ (k i : Nat) (e : Env) (Hi : Heap) (cur : List (Int × Int)), i + k = free.length → cur = withL (oa, ob) ls (free.take i) → AgX [bl] Hh Hi → Hi[bl]? = some ⟨cur.flatMap fp, 2, 35, true, true⟩ → e 6 = .slice fa free.length free.length → e 9 = ptr H3.length 0 → e 10 = .bool bs → e 11 = ptr Hc.length 0 → e 12 = ptr Hg.length 0 → e 13 = .int .i64 i → Go.Proofs.YtkmghcglmjehcaaI.W F H.length _ e Hi _ from
    hh free.length 0 _ Hh ls (by omega) (by rw [List.take_zero, withL_none]) (AgX.refl _ _) hblh (by simp only [go_sem, binC]) (by simp only [go_sem, binC]) (by simp only [go_sem, binC]) (by simp only [go_sem, binC]) (by simp only [go_sem, binC]) (by (simp only [go_sem, binC]) <;> rfl)
  intro k
  induction k with
  | zero =>
    intro i e Hi cur hi hcur hxi hbi e6 e9 e10 e11 e12 e13
    rw [List.take_of_length_le (by omega)] at hcur
    have hcl : cur.length = ls.length := by rw [hcur, withL_len]
    have hoi := hxi.get hoh (by simp; omega)
    have hqi := hxi.get hqh (by simp; omega)
    have hxi' := hxi.get hxh (by simp; omega)
    have xci : AgX [] Hc Hi := xch.trans hxi (fun _ h _ => h) (fun b hb hlt => by simp only [List.mem_singleton] at hb; omega)
    refine lp_step ?_
    refine seq_assoc (seq_reg ?_)
    simp only [go_sem, binC, e6, e13]
    refine seq_cond (t := false) (by simp only [go_sem, binC]; rw [decide_eq_false (by omega)]) ?_
    simp only [go_sem, binC]
    refine seq_exit ?_
    simp only [go_sem, binC, thenX_e, out_e, thenX_n]
    have hcrg : ∀ p ∈ cur, RgI p.1 ∧ RgI p.2 := fun p hp => by
      rw [hcur] at hp
      unfold withL at hp
      obtain ⟨j, hj, rfl⟩ := List.mem_map.1 hp
      split
      · exact ⟨roa, rob⟩
      · have hjl := List.mem_range.1 hj
        have := hlsr _ (List.getElem_mem hjl)
        simpa [List.getD, hjl] using this
    have hcsl := blk_slP hbi hcrg (by omega)
    rw [hcl] at hcsl
    refine seq_assoc (seq_reg ?_)
    simp only [go_sem, binC, e11, gc_of hoi, inBlk_some]
    refine op_callQ (by simp only [go_sem, binC]; exact glo Hi _ (oa, ob) (p2_mk (a := (oa, ob)) roa rob)) ?_
    cases hlo : labB (oa, ob) with
    | false =>
      simp only [go_sem, binC]
      refine seq_cond (t := true) rfl ?_
      simp only [go_sem, binC]
      refine seq_assoc (seq_reg ?_)
      simp only [go_sem, binC]
      exact seq_ret ⟨Or.inr rfl, .bool true, by simp only [go_sem, binC], rfl, rfl⟩
    | true =>
    simp only [go_sem, binC, e12, gc_of hqi, inBlk_some, osv]
    refine op_callQ (by simp only [go_sem, binC]; exact gty Hi d _ _ cur l hcsl (r2c.mono (agx_sub xci)) (sm_ls hsm hcl)) ?_
    cases hT : typeP d (cur, l) with
    | false =>
      simp only [go_sem, binC]
      refine seq_cond (t := true) rfl ?_
      simp only [go_sem, binC]
      refine seq_assoc (seq_reg ?_)
      simp only [go_sem, binC]
      exact seq_ret ⟨Or.inr rfl, .bool true, by simp only [go_sem, binC], rfl, rfl⟩
    | true =>
    obtain ⟨r, hN, hle⟩ := inferV_above (free := free) hP hfl hcl (fun j hj h0 => by
      rw [hcur, withL_get hj, h0]
      simp) hT
    have hrl : r.length = ls.length := by rw [← hle.1, hcl]
    rw [hN] at hbs
    simp only [Option.isSome_some] at hbs
    subst hbs
    have hO : inferO d (ls, l) free = (r, l) := by unfold inferO; rw [hN]
    rw [hO] at y1c hxi'
    simp only at y1c hxi'
    rw [hrl] at y1c hxi'
    have y1i := y1c.mono (agx_sub xci)
    simp only [go_sem, binC]
    refine seq_cond (t := false) rfl ?_
    simp only [go_sem, binC]
    refine seq_skip (seq_assoc (seq_reg ?_))
    simp only [go_sem, binC]
    refine seq_block (wpc_loop ?_)
    suffices h : ∀ (k i : Nat) (e : Env), i + k = free.length → e 6 = .slice fa free.length free.length → e 9 = ptr H3.length 0 → e 10 = .bool true → e 12 = ptr Hg.length 0 → e 14 = .int .i64 i → Go.Proofs.YtkmghcglmjehcaaI.W F H.length _ e Hi _ from
      h free.length 0 _ (by omega) (by simp only [go_sem, binC, e6]) (by simp only [go_sem, binC, e9]) (by simp only [go_sem, binC, e10]) (by simp only [go_sem, binC, e12]) (by (simp only [go_sem, binC]) <;> rfl)
    clear e6 e9 e10 e11 e12 e13
    intro k
    induction k with
    | zero =>
      intro i e hi e6 e9 e10 e12 e14
      refine lp_step ?_
      refine seq_assoc (seq_reg ?_)
      simp only [go_sem, binC, e6, e14]
      refine seq_cond (t := false) (by simp only [go_sem, binC]; rw [decide_eq_false (by omega)]) ?_
      simp only [go_sem, binC]
      refine seq_exit ?_
      simp only [go_sem, binC, thenX_e, out_e, thenX_n]
      refine seq_reg ?_
      simp only [go_sem, binC, e10]
      exact wpc_ret ⟨Or.inr rfl, .bool true, by simp only [go_sem, binC], rfl, rfl⟩
    | succ k ih =>
      intro i e hi e6 e9 e10 e12 e14
      have hil : i < ls.length := by omega
      have hir : i < r.length := by omega
      have hic : i < cur.length := by omega
      have hw1 : IntKind.i64.wrap ((i : Int) + 1) = ((i + 1 : Nat) : Int) := by rw [wrap_id (by omega) (by omega)]; omega
      obtain ⟨b1, o1, h1, g1⟩ := gcP y1i hir
      simp only [hrl, Value.slice.injEq, and_true] at h1
      subst h1
      have g2 := lab_put hbi hic
      have hlei : Le (cur.getD i (0, 0)) r[i] := by
        have := hle.2 i
        rwa [show r.getD i (0, 0) = r[i] by simp [List.getD, hir]] at this
      have hfb : flowsB r[i] (cur.getD i (0, 0)) = true := flows_le.2 hlei
      refine lp_step ?_
      refine seq_assoc (seq_reg ?_)
      simp only [go_sem, binC, e6, e14]
      refine seq_cond (t := true) (by simp only [go_sem, binC]; rw [decide_eq_true (by omega)]) ?_
      simp only [go_sem, binC]
      refine seq_skip (seq_block (seq_regD ?_))
      simp only [go_sem, binC, e9, e10, e12, e14, gc_of hxi', gc_of hqi, inBlk_some]
      refine ⟨⟨by omega, by omega⟩, ?_⟩
      simp only [go_sem, binC, Int.toNat_natCast, g1, e12, e14, gc_of hqi, inBlk_some, sli]
      refine ⟨⟨by omega, by omega⟩, ?_⟩
      simp only [go_sem, binC, Int.toNat_natCast, Nat.zero_add, g2]
      refine op_callQ (by simp only [go_sem, binC]; exact gfl Hi _ _ hlei.lb hlei.la) ?_
      rw [hfb]
      simp only [go_sem, binC]
      refine wpc_cond (t := false) rfl ?_
      simp only [go_sem, binC]
      refine wpc_skip ?_
      simp only [go_sem, binC, out_n, thenX_n]
      refine wpc_reg ?_
      simp only [go_sem, binC, e14, hw1]
      simp only [go_sem, binC, thenX_n]
      exact ih (i + 1) _ (by omega) (by simp only [go_sem, binC, e6]) (by simp only [go_sem, binC, e9]) (by simp only [go_sem, binC, e10]) (by simp only [go_sem, binC, e12]) (by simp only [go_sem, binC])
  | succ k ih =>
    intro i e Hi cur hi hcur hxi hbi e6 e9 e10 e11 e12 e13
    have hif : i < free.length := by omega
    have hw1 : IntKind.i64.wrap ((i : Int) + 1) = ((i + 1 : Nat) : Int) := by rw [wrap_id (by omega) (by omega)]; omega
    have hcl : cur.length = ls.length := by rw [hcur, withL_len]
    have hoi := hxi.get hoh (by simp; omega)
    have hqi := hxi.get hqh (by simp; omega)
    have xci : AgX [] Hc Hi := xch.trans hxi (fun _ h _ => h) (fun b hb hlt => by simp only [List.mem_singleton] at hb; omega)
    obtain ⟨fb, fo, hfw, hgf⟩ := gcB (r3c.mono (agx_sub xci)) hif
    simp only [Value.slice.injEq, and_true] at hfw
    subst hfw
    have hbil := (List.getElem?_eq_some_iff.1 hbi).1
    have hstep := withL_step (o := (oa, ob)) (ls := ls) hif hfl
    rw [← hcur] at hstep
    refine lp_step ?_
    refine seq_assoc (seq_reg ?_)
    simp only [go_sem, binC, e6, e13]
    refine seq_cond (t := true) (by simp only [go_sem, binC]; rw [decide_eq_true (by omega)]) ?_
    simp only [go_sem, binC]
    refine seq_skip (seq_block (seq_reg ?_))
    simp only [go_sem, binC, e6, e13]
    refine ⟨⟨by omega, by omega⟩, ?_⟩
    simp only [go_sem, binC, Int.toNat_natCast, Nat.mul_one, hgf]
    by_cases hfr : free[i] = true
    · rw [show free.getD i false = true by simpa [List.getD, hif] using hfr, if_pos rfl] at hstep
      refine wpc_cond (t := true) (by simp only [go_sem, binC, hfr]) ?_
      simp only [go_sem, binC]
      refine wpc_reg ?_
      simp only [go_sem, binC, e11, e12, e13, gc_of hqi, gc_of hoi, inBlk_some, osv, sli]
      refine ⟨⟨by omega, by omega⟩, ?_⟩
      have hfl8 := flat_len (fl := fp) (w := 2) (fun _ => rfl) cur
      simp only [go_sem, binC, Int.toNat_natCast, Nat.zero_add, hbi]
      refine ⟨⟨by omega, by omega⟩, ?_⟩
      rw [show ((cur.flatMap fp).set (i * 2) (.int .i64 oa)).set (i * 2 + 1) (.int .i64 ob) = (cur.set i (oa, ob)).flatMap fp from flat_set _ _ (oa, ob) (by omega)]
      simp only [go_sem, binC, out_n, thenX_n]
      refine wpc_reg ?_
      simp only [go_sem, binC, e13, hw1]
      simp only [go_sem, binC, thenX_n]
      exact ih (i + 1) _ _ (cur.set i (oa, ob)) (by omega) hstep.symm (hxi.trans (AgX.set Hi bl _) (fun _ h _ => h) (fun _ h _ => h)) (List.getElem?_set_self hbil) (by simp only [go_sem, binC, e6]) (by simp only [go_sem, binC, e9]) (by simp only [go_sem, binC, e10]) (by simp only [go_sem, binC, e11]) (by simp only [go_sem, binC, e12]) (by simp only [go_sem, binC])
    · have hfr' : free[i] = false := by simpa using hfr
      rw [if_neg (show ¬ free.getD i false = true by rw [List.getD_eq_getElem?_getD, List.getElem?_eq_getElem hif, Option.getD_some, hfr']; decide)] at hstep
      refine wpc_cond (t := false) (by simp only [go_sem, binC, hfr']) ?_
      simp only [go_sem, binC]
      refine wpc_skip ?_
      simp only [go_sem, binC, out_n, thenX_n]
      refine wpc_reg ?_
      simp only [go_sem, binC, e13, hw1]
      simp only [go_sem, binC, thenX_n]
      exact ih (i + 1) _ Hi cur (by omega) hstep.symm hxi hbi (by simp only [go_sem, binC, e6]) (by simp only [go_sem, binC, e9]) (by simp only [go_sem, binC, e10]) (by simp only [go_sem, binC, e11]) (by simp only [go_sem, binC, e12]) (by simp only [go_sem, binC])
end Go.Proofs.YtkmghcglmjehcaaI
end
section
/- The functions that laws of Infer reach, as ideal functions. -/
set_option linter.unusedVariables false
set_option linter.unusedSimpArgs false
namespace Go.Proofs.YtkmghcglmjehcaaI
open Go Go.RowKit
def fnOf : Nat → Option IFn
  | 3 => some (c_lawIM)
  | 4 => some (c_lawIN)
  | 5 => some (c_lawIO)
  | 6 => some (c_lawIT)
  | 7 => some (c_lawIA)
  | 8 => some (c_lawIS)
  | 15 => some (c_drInfer)
  | 16 => some (c_sInferOf)
  | 17 => some (c_iInferOf)
  | 18 => some (c_lcProg)
  | 19 => some (c_sProg)
  | 20 => some (c_iTypeOk)
  | 21 => some (c_lcSteps)
  | 22 => some (c_sTypeOk)
  | 23 => some (c_iLabFlows)
  | 24 => some (c_drLabT)
  | 25 => some (c_sLabelOk)
  | 48 => some (c_l6Open)
  | 49 => some (c_drAny)
  | 50 => some (c_pick)
  | 51 => some (c_sCopy)
  | 52 => some (c_sAny)
  | 53 => some (c_sNeed)
  | 54 => some (c_iProg)
  | 55 => some (c_pclone)
  | 56 => some (c_iEvery)
  | 57 => some (c_iAt)
  | 58 => some (c_iAll)
  | 59 => some (c_iBoth)
  | 60 => some (c_iSource)
  | 61 => some (c_sSteps)
  | 62 => some (c_sCount)
  | 63 => some (c_iWhy0)
  | 64 => some (c_sWhy)
  | 65 => some (c_iLabelOk)
  | 66 => some (c_iFlows)
  | 67 => some (c_drOdd)
  | 68 => some (c_sSet)
  | 74 => some (c_iSize)
  | 85 => some (c_drProg)
  | 86 => some (c_sIn)
  | 89 => some (c_iHost)
  | 100 => some (c_drFine)
  | 101 => some (c_drBent)
  | 102 => some (c_sAll)
  | 103 => some (c_sAllSteps)
  | 104 => some (c_sTypeAt)
  | 105 => some (c_sLBoth)
  | 106 => some (c_sValL)
  | 107 => some (c_con)
  | 108 => some (c_p1)
  | 109 => some (c_iSteps)
  | 110 => some (c_cloneSteps)
  | 111 => some (c_iLabels)
  | 112 => some (c_vars)
  | 113 => some (c_sStep)
  | 114 => some (c_iHas)
  | 115 => some (c_sFine)
  | 116 => some (c_iSet)
  | 117 => some (c_iWithin)
  | 118 => some (c_drLabel)
  | 119 => some (c_iNum)
  | 127 => some (c_drSteps)
  | 135 => some (c_sHas)
  | 136 => some (c_iIn)
  | 139 => some (c_sWithout)
  | 140 => some (c_sAt)
  | 141 => some (c_sBoth)
  | 142 => some (c_idx)
  | 143 => some (c_iVar)
  | 144 => some (c_iVal)
  | 145 => some (c_sVar)
  | 146 => some (c_sVal)
  | 147 => some (c_sFlows)
  | 150 => some (c_drVal)
  | 153 => some (c_sWithin)
  | _ => none
def cmOf (f : Nat) : CM := ⟨fun g => if [3, 4, 5, 6, 7, 8, 18, 19, 20, 21, 22, 23, 24, 25, 52, 53, 54, 56, 59, 60, 61, 62, 63, 64, 65, 66, 68, 74, 86, 89, 102, 105, 106, 107, 108, 109, 113, 114, 115, 116, 117, 119, 135, 136, 141, 142, 143, 144, 145, 146, 147, 153].contains g then .q else if [48, 49, 50, 67, 85, 100, 101, 111, 118, 127, 140, 150].contains g then .n else .k, if [48, 49, 50, 67, 85, 100, 101, 111, 118, 127, 140, 150].contains f then .n else .q, [110].contains f⟩
theorem hF3 : cFn Try.prog cmOf 3 = some (c_lawIM) := by kernel_rfl
theorem hF4 : cFn Try.prog cmOf 4 = some (c_lawIN) := by kernel_rfl
theorem hF5 : cFn Try.prog cmOf 5 = some (c_lawIO) := by kernel_rfl
theorem hF6 : cFn Try.prog cmOf 6 = some (c_lawIT) := by kernel_rfl
theorem hF7 : cFn Try.prog cmOf 7 = some (c_lawIA) := by kernel_rfl
theorem hF8 : cFn Try.prog cmOf 8 = some (c_lawIS) := by kernel_rfl
theorem hF15 : cFn Try.prog cmOf 15 = some (c_drInfer) := by kernel_rfl
theorem hF16 : cFn Try.prog cmOf 16 = some (c_sInferOf) := by kernel_rfl
theorem hF17 : cFn Try.prog cmOf 17 = some (c_iInferOf) := by kernel_rfl
theorem hF18 : cFn Try.prog cmOf 18 = some (c_lcProg) := by kernel_rfl
theorem hF19 : cFn Try.prog cmOf 19 = some (c_sProg) := by kernel_rfl
theorem hF20 : cFn Try.prog cmOf 20 = some (c_iTypeOk) := by kernel_rfl
theorem hF21 : cFn Try.prog cmOf 21 = some (c_lcSteps) := by kernel_rfl
theorem hF22 : cFn Try.prog cmOf 22 = some (c_sTypeOk) := by kernel_rfl
theorem hF23 : cFn Try.prog cmOf 23 = some (c_iLabFlows) := by kernel_rfl
theorem hF24 : cFn Try.prog cmOf 24 = some (c_drLabT) := by kernel_rfl
theorem hF25 : cFn Try.prog cmOf 25 = some (c_sLabelOk) := by kernel_rfl
theorem hF48 : cFn Try.prog cmOf 48 = some (c_l6Open) := by kernel_rfl
theorem hF49 : cFn Try.prog cmOf 49 = some (c_drAny) := by kernel_rfl
theorem hF50 : cFn Try.prog cmOf 50 = some (c_pick) := by kernel_rfl
theorem hF51 : cFn Try.prog cmOf 51 = some (c_sCopy) := by kernel_rfl
theorem hF52 : cFn Try.prog cmOf 52 = some (c_sAny) := by kernel_rfl
theorem hF53 : cFn Try.prog cmOf 53 = some (c_sNeed) := by kernel_rfl
theorem hF54 : cFn Try.prog cmOf 54 = some (c_iProg) := by kernel_rfl
theorem hF55 : cFn Try.prog cmOf 55 = some (c_pclone) := by kernel_rfl
theorem hF56 : cFn Try.prog cmOf 56 = some (c_iEvery) := by kernel_rfl
theorem hF57 : cFn Try.prog cmOf 57 = some (c_iAt) := by kernel_rfl
theorem hF58 : cFn Try.prog cmOf 58 = some (c_iAll) := by kernel_rfl
theorem hF59 : cFn Try.prog cmOf 59 = some (c_iBoth) := by kernel_rfl
theorem hF60 : cFn Try.prog cmOf 60 = some (c_iSource) := by kernel_rfl
theorem hF61 : cFn Try.prog cmOf 61 = some (c_sSteps) := by kernel_rfl
theorem hF62 : cFn Try.prog cmOf 62 = some (c_sCount) := by kernel_rfl
theorem hF63 : cFn Try.prog cmOf 63 = some (c_iWhy0) := by kernel_rfl
theorem hF64 : cFn Try.prog cmOf 64 = some (c_sWhy) := by kernel_rfl
theorem hF65 : cFn Try.prog cmOf 65 = some (c_iLabelOk) := by kernel_rfl
theorem hF66 : cFn Try.prog cmOf 66 = some (c_iFlows) := by kernel_rfl
theorem hF67 : cFn Try.prog cmOf 67 = some (c_drOdd) := by kernel_rfl
theorem hF68 : cFn Try.prog cmOf 68 = some (c_sSet) := by kernel_rfl
theorem hF74 : cFn Try.prog cmOf 74 = some (c_iSize) := by kernel_rfl
theorem hF85 : cFn Try.prog cmOf 85 = some (c_drProg) := by kernel_rfl
theorem hF86 : cFn Try.prog cmOf 86 = some (c_sIn) := by kernel_rfl
theorem hF89 : cFn Try.prog cmOf 89 = some (c_iHost) := by kernel_rfl
theorem hF100 : cFn Try.prog cmOf 100 = some (c_drFine) := by kernel_rfl
theorem hF101 : cFn Try.prog cmOf 101 = some (c_drBent) := by kernel_rfl
theorem hF102 : cFn Try.prog cmOf 102 = some (c_sAll) := by kernel_rfl
theorem hF103 : cFn Try.prog cmOf 103 = some (c_sAllSteps) := by kernel_rfl
theorem hF104 : cFn Try.prog cmOf 104 = some (c_sTypeAt) := by kernel_rfl
theorem hF105 : cFn Try.prog cmOf 105 = some (c_sLBoth) := by kernel_rfl
theorem hF106 : cFn Try.prog cmOf 106 = some (c_sValL) := by kernel_rfl
theorem hF107 : cFn Try.prog cmOf 107 = some (c_con) := by kernel_rfl
theorem hF108 : cFn Try.prog cmOf 108 = some (c_p1) := by kernel_rfl
theorem hF109 : cFn Try.prog cmOf 109 = some (c_iSteps) := by kernel_rfl
theorem hF110 : cFn Try.prog cmOf 110 = some (c_cloneSteps) := by kernel_rfl
theorem hF111 : cFn Try.prog cmOf 111 = some (c_iLabels) := by kernel_rfl
theorem hF112 : cFn Try.prog cmOf 112 = some (c_vars) := by kernel_rfl
theorem hF113 : cFn Try.prog cmOf 113 = some (c_sStep) := by kernel_rfl
theorem hF114 : cFn Try.prog cmOf 114 = some (c_iHas) := by kernel_rfl
theorem hF115 : cFn Try.prog cmOf 115 = some (c_sFine) := by kernel_rfl
theorem hF116 : cFn Try.prog cmOf 116 = some (c_iSet) := by kernel_rfl
theorem hF117 : cFn Try.prog cmOf 117 = some (c_iWithin) := by kernel_rfl
theorem hF118 : cFn Try.prog cmOf 118 = some (c_drLabel) := by kernel_rfl
theorem hF119 : cFn Try.prog cmOf 119 = some (c_iNum) := by kernel_rfl
theorem hF127 : cFn Try.prog cmOf 127 = some (c_drSteps) := by kernel_rfl
theorem hF135 : cFn Try.prog cmOf 135 = some (c_sHas) := by kernel_rfl
theorem hF136 : cFn Try.prog cmOf 136 = some (c_iIn) := by kernel_rfl
theorem hF139 : cFn Try.prog cmOf 139 = some (c_sWithout) := by kernel_rfl
theorem hF140 : cFn Try.prog cmOf 140 = some (c_sAt) := by kernel_rfl
theorem hF141 : cFn Try.prog cmOf 141 = some (c_sBoth) := by kernel_rfl
theorem hF142 : cFn Try.prog cmOf 142 = some (c_idx) := by kernel_rfl
theorem hF143 : cFn Try.prog cmOf 143 = some (c_iVar) := by kernel_rfl
theorem hF144 : cFn Try.prog cmOf 144 = some (c_iVal) := by kernel_rfl
theorem hF145 : cFn Try.prog cmOf 145 = some (c_sVar) := by kernel_rfl
theorem hF146 : cFn Try.prog cmOf 146 = some (c_sVal) := by kernel_rfl
theorem hF147 : cFn Try.prog cmOf 147 = some (c_sFlows) := by kernel_rfl
theorem hF150 : cFn Try.prog cmOf 150 = some (c_drVal) := by kernel_rfl
theorem hF153 : cFn Try.prog cmOf 153 = some (c_sWithin) := by kernel_rfl
theorem hF (g : Nat) (fn : IFn) (h : fnOf g = some fn) : cFn Try.prog cmOf g = some fn := by
  unfold fnOf at h
  split at h
  · rw [← h]; exact hF3
  · rw [← h]; exact hF4
  · rw [← h]; exact hF5
  · rw [← h]; exact hF6
  · rw [← h]; exact hF7
  · rw [← h]; exact hF8
  · rw [← h]; exact hF15
  · rw [← h]; exact hF16
  · rw [← h]; exact hF17
  · rw [← h]; exact hF18
  · rw [← h]; exact hF19
  · rw [← h]; exact hF20
  · rw [← h]; exact hF21
  · rw [← h]; exact hF22
  · rw [← h]; exact hF23
  · rw [← h]; exact hF24
  · rw [← h]; exact hF25
  · rw [← h]; exact hF48
  · rw [← h]; exact hF49
  · rw [← h]; exact hF50
  · rw [← h]; exact hF51
  · rw [← h]; exact hF52
  · rw [← h]; exact hF53
  · rw [← h]; exact hF54
  · rw [← h]; exact hF55
  · rw [← h]; exact hF56
  · rw [← h]; exact hF57
  · rw [← h]; exact hF58
  · rw [← h]; exact hF59
  · rw [← h]; exact hF60
  · rw [← h]; exact hF61
  · rw [← h]; exact hF62
  · rw [← h]; exact hF63
  · rw [← h]; exact hF64
  · rw [← h]; exact hF65
  · rw [← h]; exact hF66
  · rw [← h]; exact hF67
  · rw [← h]; exact hF68
  · rw [← h]; exact hF74
  · rw [← h]; exact hF85
  · rw [← h]; exact hF86
  · rw [← h]; exact hF89
  · rw [← h]; exact hF100
  · rw [← h]; exact hF101
  · rw [← h]; exact hF102
  · rw [← h]; exact hF103
  · rw [← h]; exact hF104
  · rw [← h]; exact hF105
  · rw [← h]; exact hF106
  · rw [← h]; exact hF107
  · rw [← h]; exact hF108
  · rw [← h]; exact hF109
  · rw [← h]; exact hF110
  · rw [← h]; exact hF111
  · rw [← h]; exact hF112
  · rw [← h]; exact hF113
  · rw [← h]; exact hF114
  · rw [← h]; exact hF115
  · rw [← h]; exact hF116
  · rw [← h]; exact hF117
  · rw [← h]; exact hF118
  · rw [← h]; exact hF119
  · rw [← h]; exact hF127
  · rw [← h]; exact hF135
  · rw [← h]; exact hF136
  · rw [← h]; exact hF139
  · rw [← h]; exact hF140
  · rw [← h]; exact hF141
  · rw [← h]; exact hF142
  · rw [← h]; exact hF143
  · rw [← h]; exact hF144
  · rw [← h]; exact hF145
  · rw [← h]; exact hF146
  · rw [← h]; exact hF147
  · rw [← h]; exact hF150
  · rw [← h]; exact hF153
  · cases h
theorem hMixed : Try.prog.follows .mixedOrders = true := by kernel_rfl
theorem ok_iIn : ∀ (H : Heap) (a b c : Int), QC fnOf 136 [.int .i64 a, .int .i64 b, .int .i64 c] H (.bool (inB a b c)) := iIn_ok rfl
theorem ok_sIn : ∀ (H : Heap) (a b c : Int), QC fnOf 86 [.int .i64 a, .int .i64 b, .int .i64 c] H (.bool (inB a b c)) := sIn_ok rfl
theorem ok_iSet : ∀ (H : Heap) (a : Int), QC fnOf 116 [.int .i64 a] H (.bool (inB a 0 7)) := iSet_ok rfl ok_iIn
theorem ok_iHost : ∀ (H : Heap) (a : Int), QC fnOf 89 [.int .i64 a] H (.bool (inB a 0 2)) := iHost_ok rfl ok_iIn
theorem ok_iNum : ∀ (H : Heap) (a : Int), QC fnOf 119 [.int .i64 a] H (.bool (inB a 0 9)) := iNum_ok rfl ok_iIn
theorem ok_sAll : ∀ H, QC fnOf 102 [] H (.int .i64 7) := sAll_ok rfl
theorem ok_sSet : ∀ (H : Heap) (a : Int), QC fnOf 68 [.int .i64 a] H (.bool (inB a 0 7)) := sSet_ok rfl ok_sIn ok_sAll
theorem ok_iLabelOk : LabOk fnOf 65 := iLabelOk_ok rfl ok_iSet
theorem ok_sLabelOk : LabOk fnOf 25 := sLabelOk_ok rfl ok_sSet
theorem ok_iVar : VarOk fnOf 143 := iVar_ok rfl ok_iIn
theorem ok_sVar : VarOk fnOf 145 := sVar_ok rfl ok_sIn
theorem ok_iVal : ValOk fnOf 144 := iVal_ok rfl ok_iNum ok_iVar
theorem ok_sVal : ValOk fnOf 146 := sVal_ok rfl ok_sIn ok_sVar
theorem ok_sSteps : ∀ n, StepsOk fnOf 61 n := fun n => (sSteps_all rfl rfl ok_sIn ok_sVar ok_sVal n).1
theorem ok_iSteps : ∀ n, StepsOk fnOf 109 n := iSteps_all rfl ok_iVar ok_iVal ok_iHost
theorem ok_sCount : ∀ n, CntOk fnOf 62 n := cnt_all (fun _ h => sCount_ok rfl h) (sCount_z rfl)
theorem ok_iSize : ∀ n, CntOk fnOf 74 n := cnt_all (fun _ h => iSize_ok rfl h) (iSize_z rfl)
theorem ok_sProg : ProgOk fnOf 19 := sProg_ok rfl ok_sLabelOk ok_sSteps ok_sCount
theorem ok_iProg : ProgOk fnOf 54 := iProg_ok rfl (con_ok rfl (idx_ok rfl (p1_ok rfl ok_iLabelOk))) ok_iSteps ok_iSize
theorem ok_sHas : HasOk fnOf 135 := sHas_ok rfl
theorem ok_sWit : WitOk fnOf 153 := sWithin_ok rfl ok_sHas
theorem ok_sBoth : BothOk fnOf 141 := sBoth_ok rfl ok_sHas
theorem ok_sLBoth : LBothOk fnOf 105 := sLBoth_ok rfl ok_sLabelOk ok_sBoth
theorem ok_sFlows : FlowsOk fnOf 147 := sFlows_ok rfl ok_sLabelOk ok_sWit
theorem ok_sAny : ∀ H, QC fnOf 52 [] H (.agg #[.int .i64 7, .int .i64 7]) := sAny_ok rfl ok_sAll
theorem ok_sFine : FineOk fnOf 115 := sFine_ok rfl (sValL_ok rfl ok_sAny ok_sLBoth) ok_sLBoth ok_sFlows ok_sBoth ok_sHas
theorem ok_sAllSteps : ∀ n, AllOk fnOf 103 n := sAllSteps_all rfl
theorem ok_sAt : ∀ n, AtOk fnOf 140 n := sAt_all rfl ok_sLBoth
theorem ok_sTypeAt : TypeAtOk fnOf 104 := sTypeAt_ok rfl ok_sProg ok_sAny ok_sAt
theorem ok_sWhy : WhyOk fnOf 64 := sWhy_ok rfl ok_sProg ok_sAllSteps ok_sTypeAt ok_sFine
theorem ok_sCopy : ∀ n, CopyOk fnOf 51 n := sCopy_all rfl
theorem ok_sWithout : ∀ n, WoOk fnOf 139 n := sWithout_all rfl ok_sCount
theorem ok_drProg {H0 : Heap} {rb : Nat} {bv : Value} {code : List Int} (hc : RdC H0 rb bv code) : DrawS fnOf H0 rb bv 85 [] 40000 (ProgQ 3) := drProg_ok rfl rfl rfl rfl rfl ok_sProg hc
theorem ok_drFine {H0 : Heap} {rb : Nat} {bv : Value} {code : List Int} (hc : RdC H0 rb bv code) : DrawS fnOf H0 rb bv 100 [] 40000 (ProgQ 3) := drFine_ok rfl hc (ok_drProg hc) ok_sWhy ok_sWithout
theorem ok_drAny {H0 : Heap} {rb : Nat} {bv : Value} {code : List Int} (hc : RdC H0 rb bv code) : DrawS fnOf H0 rb bv 49 [] 90000 ProgR := drAny_ok rfl rfl hc (ok_drProg hc) (ok_drFine hc) (drBent_ok rfl rfl ok_sCopy hc)
theorem ok_iHas : HasOk fnOf 114 := iHas_ok rfl ok_iHost
theorem ok_iWit : WitOk fnOf 117 := iWithin_ok rfl
theorem ok_iBoth : ILBoth fnOf 59 := iBoth_ok rfl
theorem ok_iAt : AtP fnOf 57 := iAt_ok rfl (iLabels_all rfl ok_iBoth) (iEvery_ok rfl)
theorem ok_iWhy0 : WhyI fnOf 63 := iWhy0_ok rfl ok_iAt (iAll_all rfl) (iSource_ok rfl rfl ok_iBoth) (iFlows_ok rfl ok_iWit) ok_iHas
theorem ok_iTypeOk : TypeP fnOf 20 := iTypeOk_ok rfl ok_iProg ok_iWhy0
theorem ok_iSource : ISource fnOf 60 := iSource_ok rfl rfl ok_iBoth
theorem ok_iFlows : IFlows fnOf 66 := iFlows_ok rfl ok_iWit
theorem ok_pclone : PCloneOk fnOf 55 := pclone_ok rfl (cloneSteps_all rfl)
theorem ok_lcSteps : ∀ n, SameSOk fnOf 21 n := lcSteps_all rfl
theorem ok_lcProg : SamePOk fnOf 18 := lcProg_ok rfl ok_lcSteps
theorem ok_sWhyV : WhyV fnOf 64 := sWhyV_ok rfl ok_sProg ok_sAllSteps ok_sTypeAt ok_sFine
theorem ok_sTypeOk : TypeP fnOf 22 := sTypeOk_ok rfl ok_sWhyV ok_sProg
theorem ok_sCopyE : ∀ n, CopyE fnOf 51 n := sCopyE_all rfl
theorem ok_sNeed : NeedOk fnOf 53 := sNeed_ok rfl ok_sAllSteps ok_sTypeAt ok_sLBoth (sValL_ok rfl ok_sAny ok_sLBoth)
theorem ok_sInferOf : InferOk fnOf 16 := sInferOf_ok rfl ok_sProg ok_sCopyE ok_sAny ok_sNeed ok_sTypeOk
theorem ok_iInferOf : InferOk fnOf 17 := iInferOf_ok rfl ok_iProg ok_pclone (iEvery_ok rfl) ok_iAt (iAll_all rfl) ok_iSource ok_iBoth ok_iTypeOk
theorem ok_drInfer : DrawInfer fnOf 15 := drInfer_ok rfl rfl rfl ok_drAny
theorem ok_drOdd {H0 : Heap} {rb : Nat} {bv : Value} {code : List Int} (hc : RdC H0 rb bv code) : DrawS fnOf H0 rb bv 67 [] 10 LabQ := drOdd_ok rfl rfl rfl hc
theorem ok_drLabT : DrawLab fnOf 24 := drLabT_ok rfl rfl ok_drOdd
theorem ok_iLabFlows : FlowsI fnOf 23 := iLabFlows_ok rfl ok_iLabelOk ok_iFlows
theorem ok_lawIO : LawB fnOf 5 := lawIO_ok rfl ok_drInfer ok_sInferOf ok_iInferOf ok_lcProg ok_iTypeOk ok_lcSteps
theorem ok_lawIT : LawB fnOf 6 := lawIT_ok rfl ok_drInfer ok_sInferOf ok_iInferOf ok_lcProg 
theorem ok_lawIN : LawB fnOf 4 := lawIN_ok rfl ok_drInfer ok_sInferOf ok_iInferOf ok_lcProg ok_sProg ok_iTypeOk
theorem ok_lawIA : LawB fnOf 7 := lawIA_ok rfl ok_drInfer ok_sInferOf ok_iInferOf ok_lcProg ok_sTypeOk ok_iLabFlows
theorem ok_lawIM : LawB fnOf 3 := lawIM_ok rfl ok_drInfer ok_sInferOf ok_iInferOf ok_lcProg ok_sProg
theorem ok_lawIS : LawB2 fnOf 8 := lawIS_ok rfl ok_drInfer ok_sInferOf ok_iInferOf ok_lcProg ok_sProg ok_drLabT ok_sLabelOk ok_iTypeOk ok_iLabFlows
end Go.Proofs.YtkmghcglmjehcaaI
end
section
/- Laws of lists of bytes, called in the model. -/
set_option linter.unusedVariables false
set_option linter.unusedSimpArgs false
namespace Go.Proofs.YtkmghcglmjehcaaI
open Go Go.RowKit
theorem Good.byte {w : World} {n : Int} (h : (Lit.int .u8 n).wf = true) : Good Co.byte w [.int .u8 n] := fun H m s =>
  ⟨n, [], m, [.int .u8 n], by simpa using s, sub_refl m, ⟨rfl, by simpa [Lit.wf, IntKind.min, IntKind.max, IntKind.signed, IntKind.bits] using h⟩, All2.cons (.inl rfl) All2.nil⟩
theorem good_5 {T : Type} {enc : TypeId × Value → T} {w : World} {spare : Nat → Bool} {held : Bool} {n : Nat} {cs : List Value} {x : DataW T × List MemPlace} (h : DataW.trod enc Try.prog w 0 spare held n 5 cs = some x) : Good Co.byte w cs := by
  obtain ⟨m, rfl, _, hw⟩ := DataW.trod_int Try.underlying5 h
  exact Good.byte hw
theorem good_22 {T : Type} {enc : TypeId × Value → T} {w : World} {spare : Nat → Bool} {held : Bool} {n : Nat} {cs : List Value} {x : DataW T × List MemPlace} (h : DataW.trod enc Try.prog w 0 spare held n 22 cs = some x) : Good (Co.sl Co.byte) w cs :=
  Good.sl Try.underlying22 (by kernel_rfl) (by decide) h fun _ _ _ _ h => good_5 h
theorem lawB_calls {n : Nat} (hl : LawB fnOf n) {W : World} {a : Option Addr} {l c : Nat} (g0 : Good (Co.sl Co.byte) W [.slice a l c]) :
    Calls Try.prog n #[.slice a l c] W fun e w' => e = .returned (.bool true) ∧ Below W.heap.size W w' := by
  obtain ⟨ts, L2, m2, cs1, s2, q2, r2, e2⟩ := g0 [] (fun _ => none) (SL.none _)
  obtain ⟨u, rfl, hu⟩ := r2
  exact law_core hF hMixed s2 (vals := [u]) (All2.cons (VR.one_mk e2) All2.nil) (hl _ u ts hu)
theorem lawB2_calls {n : Nat} (hl : LawB2 fnOf n) {W : World} {a b : Option Addr} {l c l' c' : Nat} (g0 : Good (Co.sl Co.byte) W [.slice a l c]) (g1 : Good (Co.sl Co.byte) W [.slice b l' c']) :
    Calls Try.prog n #[.slice a l c, .slice b l' c'] W fun e w' => e = .returned (.bool true) ∧ Below W.heap.size W w' := by
  obtain ⟨ts, L, m, cs0, s, q, r, e⟩ := g0 [] (fun _ => none) (SL.none _)
  rw [List.nil_append] at s r
  obtain ⟨ts', L2, m2, cs1, s2, q2, r2, e2⟩ := g1 L m s
  obtain ⟨u, rfl, hu⟩ := r
  obtain ⟨u', rfl, hu'⟩ := r2
  exact law_core hF hMixed s2 (vals := [u, u']) (All2.cons (VR.one_mk (e.mono fun _ _ _ h => VR1.mono q2 h)) (All2.cons (VR.one_mk e2) All2.nil)) (hl _ u u' ts ts' (hu.mono (vw_app 0 L L2)) hu')
end Go.Proofs.YtkmghcglmjehcaaI
end
