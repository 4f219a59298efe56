/- Texts of this proof, merged: W0, X0, X1, X2. -/
import Derived.Test.YtmakdcbpohlacaaXk9
section
/- What comes of a program (the reference); numbers, and what was set, compared. -/
set_option linter.unusedVariables false
set_option linter.unusedSimpArgs false
namespace Go.Proofs.YtmakdcbpohlacaaI
open Go Go.RowKit
def c_sNum : IFn := ⟨2, 43, [.t 4],
 .seq (.reg none [
    ⟨(some 2), none, .box (.t 0)⟩,
    ⟨(some 4), none, .mov (.c (.int .i64 0))⟩])
 (.seq (.seq (.reg none [
     ⟨(some 5), none, .fad 0 (.t 2)⟩,
     ⟨(some 6), none, .load false 1 (.t 5)⟩])
  (.block 0 (.seq (.reg none [
      ⟨(some 8), none, .bin .eql (.t 6) (.c (.int .i64 1))⟩,
      ⟨(some 7), none, .mov (.t 8)⟩])
   (.cond (.t 7) (.seq (.reg none [
       ⟨(some 9), none, .fad 1 (.t 2)⟩,
       ⟨(some 10), none, .load false 1 (.t 9)⟩,
       ⟨(some 4), none, .mov (.t 10)⟩])
    (.ret)) (.seq (.reg none [
       ⟨(some 12), none, .bin .eql (.t 6) (.c (.int .i64 2))⟩,
       ⟨(some 11), none, .mov (.t 12)⟩])
    (.cond (.t 11) (.seq (.reg none [
        ⟨(some 13), none, .mov (.t 1)⟩,
        ⟨(some 14), none, .fad 1 (.t 2)⟩,
        ⟨(some 15), none, .load false 1 (.t 14)⟩,
        ⟨(some 16), none, .iad 1 (.t 13) (.t 15)⟩,
        ⟨(some 17), none, .load false 1 (.t 16)⟩,
        ⟨(some 4), none, .mov (.t 17)⟩])
     (.ret)) (.seq (.reg none [
        ⟨(some 19), none, .bin .eql (.t 6) (.c (.int .i64 3))⟩,
        ⟨(some 18), none, .mov (.t 19)⟩])
     (.cond (.t 18) (.seq (.reg (some 10) [
         ⟨(some 20), none, .mov (.t 1)⟩,
         ⟨(some 21), none, .fad 1 (.t 2)⟩,
         ⟨(some 22), none, .load false 1 (.t 21)⟩,
         ⟨(some 23), none, .iad 1 (.t 20) (.t 22)⟩,
         ⟨(some 24), none, .load false 1 (.t 23)⟩,
         ⟨(some 25), none, .mov (.t 1)⟩,
         ⟨(some 26), none, .fad 2 (.t 2)⟩,
         ⟨(some 27), none, .load false 1 (.t 26)⟩,
         ⟨(some 28), none, .iad 1 (.t 25) (.t 27)⟩,
         ⟨(some 29), none, .load false 1 (.t 28)⟩,
         ⟨(some 30), none, .bin .add (.t 24) (.t 29)⟩,
         ⟨(some 31), none, .bin .rem (.t 30) (.c (.int .i64 10))⟩,
         ⟨(some 4), none, .mov (.t 31)⟩])
      (.ret)) (.skip)))))))))
 (.seq (.seq (.reg (some 10) [
     ⟨(some 32), none, .mov (.t 1)⟩,
     ⟨(some 33), none, .fad 1 (.t 2)⟩,
     ⟨(some 34), none, .load false 1 (.t 33)⟩,
     ⟨(some 35), none, .iad 1 (.t 32) (.t 34)⟩,
     ⟨(some 36), none, .load false 1 (.t 35)⟩,
     ⟨(some 37), none, .mov (.t 1)⟩,
     ⟨(some 38), none, .fad 2 (.t 2)⟩,
     ⟨(some 39), none, .load false 1 (.t 38)⟩,
     ⟨(some 40), none, .iad 1 (.t 37) (.t 39)⟩,
     ⟨(some 41), none, .load false 1 (.t 40)⟩,
     ⟨(some 42), none, .bin .eql (.t 36) (.t 41)⟩])
  (.cond (.t 42) (.seq (.reg none [
      ⟨(some 4), none, .mov (.c (.int .i64 1))⟩])
   (.ret)) (.skip)))
 (.seq (.reg none [
    ⟨(some 4), none, .mov (.c (.int .i64 0))⟩])
 (.ret))))⟩
def c_sDo : IFn := ⟨2, 74, [.cell true 3 4],
 .seq (.reg none [
    ⟨(some 3), none, .box (.t 1)⟩,
    ⟨(some 4), none, .new [(.slice none 0 0), (.slice none 0 0), (.slice none 0 0)]⟩])
 (.seq (.seq (.reg none [
     ⟨(some 5), none, .mov (.c (.int .i64 0))⟩])
  (.block 0 (.loop (.seq (.seq (.reg none [
        ⟨(some 8), none, .mov (.t 5)⟩,
        ⟨(some 9), none, .mov (.t 0)⟩,
        ⟨(some 10), none, .len (.t 9)⟩,
        ⟨(some 11), none, .bin .lss (.t 8) (.t 10)⟩])
     (.cond (.t 11) (.skip) (.exit 0)))
    (.seq (.block 1 (.seq (.reg none [
         ⟨(some 14), none, .mov (.t 0)⟩,
         ⟨(some 15), none, .mov (.t 5)⟩,
         ⟨(some 16), none, .iad 8 (.t 14) (.t 15)⟩,
         ⟨(some 17), none, .load true 8 (.t 16)⟩,
         ⟨(some 6), none, .new [(.int .i64 0), (.int .i64 0), (.int .i64 0), (.int .i64 0), (.int .i64 0), (.int .i64 0), (.slice none 0 0), (.slice none 0 0)]⟩,
         ⟨none, none, .store 8 (.t 6) (.t 17)⟩])
      (.seq (.reg none [
         ⟨(some 18), none, .fad 0 (.t 6)⟩,
         ⟨(some 19), none, .load false 1 (.t 18)⟩])
      (.block 2 (.seq (.reg none [
          ⟨(some 36), none, .bin .eql (.t 19) (.c (.int .i64 1))⟩,
          ⟨(some 35), none, .mov (.t 36)⟩])
       (.cond (.t 35) (.seq (.reg none [
           ⟨(some 37), none, .fad 2 (.t 6)⟩,
           ⟨(some 38), none, .load true 3 (.t 37)⟩,
           ⟨(some 39), none, .fad 0 (.t 3)⟩,
           ⟨(some 40), none, .load false 1 (.t 39)⟩,
           ⟨(some 41), none, .call .q (.f 87) [(.t 38), (.t 40)]⟩,
           ⟨(some 7), none, .mov (.t 41)⟩])
        (.seq (.reg none [
           ⟨(some 42), none, .fad 0 (.t 3)⟩,
           ⟨(some 43), none, .load false 1 (.t 42)⟩,
           ⟨(some 44), none, .fad 1 (.t 6)⟩,
           ⟨(some 45), none, .load false 1 (.t 44)⟩,
           ⟨(some 46), none, .mov (.t 7)⟩,
           ⟨(some 47), none, .iad 1 (.t 43) (.t 45)⟩,
           ⟨none, none, .store 1 (.t 47) (.t 46)⟩])
        (.reg none [
          ⟨(some 48), none, .fad 1 (.t 3)⟩,
          ⟨(some 49), none, .load false 1 (.t 48)⟩,
          ⟨(some 50), none, .fad 1 (.t 6)⟩,
          ⟨(some 51), none, .load false 1 (.t 50)⟩,
          ⟨(some 52), none, .mov (.t 7)⟩,
          ⟨(some 53), none, .build [(.int .i64 0), (.int .i64 0)] [(0, 1, (.t 51)), (1, 1, (.t 52))]⟩,
          ⟨(some 54), none, .lit 2 109 1 [(.int .i64 0), (.int .i64 0)] [(0, 2, (.t 53))]⟩,
          ⟨(some 55), none, .app 2 109 16 false (.t 49) (.t 54)⟩,
          ⟨(some 56), none, .fad 1 (.t 3)⟩,
          ⟨none, none, .store 1 (.t 56) (.t 55)⟩]))) (.seq (.reg none [
           ⟨(some 58), none, .bin .eql (.t 19) (.c (.int .i64 3))⟩,
           ⟨(some 57), none, .mov (.t 58)⟩])
        (.cond (.t 57) (.reg (some 12) [
           ⟨(some 59), none, .fad 2 (.t 3)⟩,
           ⟨(some 60), none, .load false 1 (.t 59)⟩,
           ⟨(some 61), none, .fad 5 (.t 6)⟩,
           ⟨(some 62), none, .load false 1 (.t 61)⟩,
           ⟨(some 63), none, .fad 0 (.t 3)⟩,
           ⟨(some 64), none, .load false 1 (.t 63)⟩,
           ⟨(some 65), none, .fad 1 (.t 6)⟩,
           ⟨(some 66), none, .load false 1 (.t 65)⟩,
           ⟨(some 67), none, .iad 1 (.t 64) (.t 66)⟩,
           ⟨(some 68), none, .load false 1 (.t 67)⟩,
           ⟨(some 69), none, .build [(.int .i64 0), (.int .i64 0)] [(0, 1, (.t 62)), (1, 1, (.t 68))]⟩,
           ⟨(some 70), none, .lit 2 81 1 [(.int .i64 0), (.int .i64 0)] [(0, 2, (.t 69))]⟩,
           ⟨(some 71), none, .app 2 81 16 false (.t 60) (.t 70)⟩,
           ⟨(some 72), none, .fad 2 (.t 3)⟩,
           ⟨none, none, .store 1 (.t 72) (.t 71)⟩]) (.seq (.reg none [
            ⟨(some 20), none, .fad 0 (.t 3)⟩,
            ⟨(some 21), none, .load false 1 (.t 20)⟩,
            ⟨(some 22), none, .fad 1 (.t 6)⟩,
            ⟨(some 23), none, .load false 1 (.t 22)⟩,
            ⟨(some 24), none, .iad 1 (.t 21) (.t 23)⟩,
            ⟨(some 25), none, .load false 1 (.t 24)⟩,
            ⟨(some 26), none, .bin .neq (.t 25) (.c (.int .i64 0))⟩])
         (.cond (.t 26) (.reg none [
            ⟨(some 27), none, .fad 6 (.t 6)⟩,
            ⟨(some 28), none, .load false 1 (.t 27)⟩,
            ⟨(some 29), none, .load true 3 (.t 3)⟩,
            ⟨(some 30), none, .call .n (.f 50) [(.t 28), (.t 29)]⟩,
            ⟨none, none, .store 3 (.t 3) (.t 30)⟩]) (.reg none [
            ⟨(some 31), none, .fad 7 (.t 6)⟩,
            ⟨(some 32), none, .load false 1 (.t 31)⟩,
            ⟨(some 33), none, .load true 3 (.t 3)⟩,
            ⟨(some 34), none, .call .n (.f 50) [(.t 32), (.t 33)]⟩,
            ⟨none, none, .store 3 (.t 3) (.t 34)⟩])))))))))))
    (.reg none [
      ⟨(some 12), none, .mov (.t 5)⟩,
      ⟨(some 13), none, .bin .add (.t 12) (.c (.int .i64 1))⟩,
      ⟨(some 5), none, .mov (.t 13)⟩]))))))
 (.seq (.reg none [
    ⟨(some 73), none, .load true 3 (.t 3)⟩,
    ⟨none, none, .store 3 (.t 4) (.t 73)⟩])
 (.ret)))⟩
theorem sNum_ok {F : Nat → Option IFn} {f : Nat} (hf : F f = some c_sNum) : ∀ (H : Heap) (k a b : Int) (w : Value) (xs : List Int), SlR Co.int (vw 0 H) w xs → (∀ x ∈ xs, 0 ≤ x ∧ x ≤ 9) → valB xs.length (k, a, b) = true → QC F f [.agg #[.int .i64 k, .int .i64 a, .int .i64 b], w] H (.int .i64 (valN xs (k, a, b))) := by
  intro H k a b w xs hw hx hv
  obtain ⟨_, wa, rfl, _⟩ := id hw
  have hS : ∀ L, Sub (vw 0 H) (vw 0 (H ++ L)) := fun L => vw_app 0 H L
  refine QC.mk hf rfl ?_
  refine seq_reg ?_
  simp only [go_sem, binC]
  refine seq_assoc (seq_reg ?_)
  simp only [go_sem, binC]
  refine seq_block (seq_reg ?_)
  simp only [go_sem, binC]
  unfold valB at hv
  by_cases h1 : k = 1
  · simp only [go_sem, binC, beq_t h1]
    refine wpc_cond (t := true) rfl ?_
    simp only [go_sem, binC]
    refine seq_reg ?_
    simp only [go_sem, binC]
    refine wpc_ret ?_
    simp only [go_sem, binC, out_r, thenX_r]
    refine ⟨Or.inr rfl, _, (by (simp only [go_sem, binC]) <;> rfl), ?_, rfl⟩
    simp [valN, h1]
  rw [if_neg h1] at hv
  simp only [go_sem, binC, beq_f h1]
  refine wpc_cond (t := false) rfl ?_
  simp only [go_sem, binC]
  refine seq_reg ?_
  simp only [go_sem, binC]
  by_cases h2 : k = 2
  · rw [if_pos h2] at hv
    simp only [Bool.and_eq_true, varB, inB_iff'] at hv
    have hal : a.toNat < xs.length := by omega
    obtain ⟨wb, wo, hwv, _⟩ := gcI0 hw hal
    simp only [Value.slice.injEq, and_true] at hwv
    subst hwv
    have g0 := fun L => (gcI2 (hw.mono (hS L)) hal)
    simp only [go_sem, binC, beq_t h2]
    refine wpc_cond (t := true) rfl ?_
    simp only [go_sem, binC]
    refine seq_reg ?_
    simp only [go_sem, binC]
    refine ⟨⟨by omega, by omega⟩, ?_⟩
    simp only [go_sem, binC, Nat.mul_one, g0]
    refine wpc_ret ?_
    simp only [go_sem, binC, out_r, thenX_r]
    refine ⟨Or.inr rfl, _, (by (simp only [go_sem, binC]) <;> rfl), ?_, rfl⟩
    simp [valN, h2, List.getD, List.getElem?_eq_getElem hal]
  rw [if_neg h2] at hv
  simp only [go_sem, binC, beq_f h2]
  refine wpc_cond (t := false) rfl ?_
  simp only [go_sem, binC]
  refine seq_reg ?_
  simp only [go_sem, binC]
  have h34 : k = 3 ∨ k = 4 := by
    by_cases h : k = 3 ∨ k = 4
    · exact h
    · simp [h] at hv
  rw [if_pos h34] at hv
  simp only [Bool.and_eq_true, varB, inB_iff'] at hv
  have hal : a.toNat < xs.length := by omega
  have hbl : b.toNat < xs.length := by omega
  obtain ⟨wb, wo, hwv, _⟩ := gcI0 hw hal
  simp only [Value.slice.injEq, and_true] at hwv
  subst hwv
  have g0 := fun L => (gcI2 (hw.mono (hS L)) hal)
  have g1 := fun L => (gcI2 (hw.mono (hS L)) hbl)
  have x0 := hx xs[a.toNat] (List.getElem_mem _)
  have x1 := hx xs[b.toNat] (List.getElem_mem _)
  have e0 : xs.getD a.toNat 0 = xs[a.toNat] := by simp [List.getD, List.getElem?_eq_getElem hal]
  have e1 : xs.getD b.toNat 0 = xs[b.toNat] := by simp [List.getD, List.getElem?_eq_getElem hbl]
  by_cases h3 : k = 3
  · simp only [go_sem, binC, beq_t h3]
    refine wpc_cond (t := true) rfl ?_
    simp only [go_sem, binC]
    refine seq_regD ?_
    simp only [go_sem, binC]
    refine ⟨⟨by omega, by omega⟩, ?_⟩
    simp only [go_sem, binC, Nat.mul_one, g0]
    refine ⟨⟨by omega, by omega⟩, ?_⟩
    simp only [go_sem, binC, Nat.mul_one, g1]
    rw [wrap_id (x := xs[a.toNat] + xs[b.toNat]) (by omega) (by omega)]
    refine rem10_rule ?_
    refine wpc_ret ?_
    simp only [go_sem, binC, out_r, thenX_r]
    refine ⟨Or.inr rfl, _, (by (simp only [go_sem, binC]) <;> rfl), ?_, rfl⟩
    rw [Int.tmod_eq_emod_of_nonneg (by omega)]
    simp only [valN, h3, e0, e1, if_true]
    rfl
  simp only [go_sem, binC, beq_f h3]
  refine wpc_cond (t := false) rfl ?_
  simp only [go_sem, binC]
  refine wpc_skip ?_
  simp only [go_sem, binC, out_n, thenX_n]
  refine seq_assoc (seq_regD ?_)
  simp only [go_sem, binC]
  refine ⟨⟨by omega, by omega⟩, ?_⟩
  simp only [go_sem, binC, Nat.mul_one, g0]
  refine ⟨⟨by omega, by omega⟩, ?_⟩
  simp only [go_sem, binC, Nat.mul_one, g1]
  by_cases h4 : xs[a.toNat] = xs[b.toNat]
  · refine seq_cond (t := true) (by simp only [go_sem, binC]; rw [beq_t h4]) ?_
    simp only [go_sem, binC]
    refine seq_assoc (seq_reg ?_)
    simp only [go_sem, binC]
    refine seq_ret ⟨Or.inr rfl, .int .i64 1, (by (simp only [go_sem, binC]) <;> rfl), ?_, rfl⟩
    simp only [valN, h1, h2, h3, e0, e1, if_false, if_pos h4]
  · refine seq_cond (t := false) (by simp only [go_sem, binC]; rw [beq_f h4]) ?_
    simp only [go_sem, binC]
    refine seq_skip (seq_reg ?_)
    simp only [go_sem, binC]
    refine wpc_ret ⟨Or.inr rfl, .int .i64 0, (by (simp only [go_sem, binC]) <;> rfl), ?_, rfl⟩
    simp only [valN, h1, h2, h3, e0, e1, if_false, if_neg h4]
/-- Boxes stay. -/
def Bx (H H' : Heap) : Prop := H.length ≤ H'.length ∧ ∀ (b : Nat) (cs : List Value), H[b]? = some ⟨cs, 0, 0, false, true⟩ → H'[b]? = some ⟨cs, 0, 0, false, true⟩
theorem Bx.refl (H : Heap) : Bx H H := ⟨Nat.le_refl _, fun _ _ h => h⟩
theorem Bx.tr {H H1 H2 : Heap} (h : Bx H H1) (h' : Bx H1 H2) : Bx H H2 := ⟨Nat.le_trans h.1 h'.1, fun b cs k => h'.2 b cs (h.2 b cs k)⟩
theorem AgX.bx {xs : List Nat} {H H' : Heap} (h : AgX xs H H') (hx : ∀ b, b ∈ xs → ∀ cs, H[b]? ≠ some ⟨cs, 0, 0, false, true⟩) : Bx H H' := ⟨h.1, fun b cs k => h.get k fun hb => hx b hb cs k⟩
theorem Bx.setN {H H' : Heap} (h : Bx H H') {b : Nat} (hb : H.length ≤ b) (k : Blk) : Bx H (H'.set b k) := by
  refine ⟨by rw [List.length_set]; exact h.1, fun b' cs h1 => ?_⟩
  have := (List.getElem?_eq_some_iff.1 h1).1
  rw [List.getElem?_set_ne (by omega)]
  exact h.2 b' cs h1
theorem NumV.keep' {lo : Nat} {H H' : Heap} {v : Value} {l : List Int} {xs : List Nat} (h : NumV lo H v l) (hx : AgX xs H H') (hn : ∀ b, lo ≤ b → v = sli b 0 l.length → H[b]? = some ⟨ints l, 1, 3, true, true⟩ → b ∉ xs) : NumV lo H' v l := by
  rcases h with h | ⟨b, h1, h2, h3, h4⟩
  · exact .inl h
  · exact .inr ⟨b, h1, h2, h3, hx.get h4 (hn b h1 h2 h4)⟩
/-- What comes of a program, told by value. -/
structure RunV (Hb : Heap) (r : RunS) (M : Nat) (H : Heap) (nv wv sv : Value) : Prop where
  ag : AgX [] Hb H
  n : NumV Hb.length H nv r.1
  w : GLi fp 2 109 Hb.length H wv r.2.1
  s : GLi fp 2 81 Hb.length H sv r.2.2
  rg : ∀ x ∈ r.1, 0 ≤ x ∧ x ≤ 9
  pr : ∀ p, p ∈ r.2.1 ∨ p ∈ r.2.2 → RgI p.1 ∧ RgI p.2
  sm : r.2.1.length + r.2.2.length ≤ M
  ln : r.1.length ≤ 1000
theorem RunI.v {Hb : Heap} {rb : Nat} {r : RunS} {M : Nat} {H : Heap} (h : RunI Hb rb r M H) : ∃ nv wv sv, H[rb]? = some ⟨[nv, wv, sv], 0, 0, false, true⟩ ∧ RunV Hb r M H nv wv sv := by
  obtain ⟨nv, wv, sv, h1, h2, h3, h4⟩ := h.ex
  exact ⟨nv, wv, sv, h1, h.ag, h2, h3, h4, h.rg, h.pr, h.sm, h.ln⟩
theorem RunV.box {Hb : Heap} {rb : Nat} {r : RunS} {M : Nat} {H : Heap} {nv wv sv : Value} (h : RunV Hb r M H nv wv sv) (hb : H[rb]? = some ⟨[nv, wv, sv], 0, 0, false, true⟩) (hl : Hb.length ≤ rb) : RunI Hb rb r M H := ⟨h.ag, hl, ⟨nv, wv, sv, hb, h.n, h.w, h.s⟩, h.rg, h.pr, h.sm, h.ln⟩
theorem RunV.box' {Hb : Heap} {rb : Nat} {r : RunS} {M : Nat} {H : Heap} {nv wv sv : Value} {cs : List Value} (h : RunV Hb r M H nv wv sv) (hb : H[rb]? = some ⟨cs, 0, 0, false, true⟩) (hl : Hb.length ≤ rb) : RunI Hb rb r M (H.set rb ⟨[nv, wv, sv], 0, 0, false, true⟩) := by
  have hbl := (List.getElem?_eq_some_iff.1 hb).1
  have hx : AgX [rb] H (H.set rb ⟨[nv, wv, sv], 0, 0, false, true⟩) := AgX.set _ _ _
  refine RunV.box ⟨h.ag.setN hl _, h.n.keep' hx (fun b _ _ q h => ?_), h.w.keep hx (fun b so _ _ q h => ?_), h.s.keep hx (fun b so _ _ q h => ?_), h.rg, h.pr, h.sm, h.ln⟩ (List.getElem?_set_self hbl) hl
  all_goals (simp only [List.mem_singleton] at h; subst h; rw [hb] at q; simp at q)
def DoSOk (F : Nat → Option IFn) (f n : Nat) : Prop := ∀ (Hb H : Heap) (lo M : Nat) (r : RunS) (nv wv sv v : Value) (l : List (TStep n)) (d : Int), lo ≤ Hb.length → RunV Hb r M H nv wv sv → SlR (Co.step n) (vw 0 Hb) v l → l.all (stepB r.1.length n d) = true → M + (allL n l).length ≤ 1000 →
  ∃ nv' wv' sv' H', NC F lo f [v, .agg #[nv, wv, sv]] H (.agg #[nv', wv', sv']) H' ∧ RunV Hb (runL n l r) (M + (allL n l).length) H' nv' wv' sv' ∧ Bx H H'
set_option maxHeartbeats 4000000 in
set_option maxRecDepth 20000 in
theorem sDo_ok {F : Nat → Option IFn} {f n : Nat} (hf : F f = some c_sDo) (hnu : F 87 = some c_sNum) (ih : ∀ m, n = m + 1 → DoSOk F 50 m) : DoSOk F f n := by
  intro Hb H lo M r nv0 wv0 sv0 v l d hlo hR hv hall hM
  suffices h : ∃ w H', NC F lo f [v, .agg #[nv0, wv0, sv0]] H w H' ∧ (∃ nv' wv' sv', w = .agg #[nv', wv', sv'] ∧ RunV Hb (runL n l r) (M + (allL n l).length) H' nv' wv' sv' ∧ Bx H H') by
    obtain ⟨w, H', h1, nv', wv', sv', rfl, h2⟩ := h
    exact ⟨nv', wv', sv', H', h1, h2⟩
  have hv0 := hv
  obtain ⟨h0, av, rfl, _⟩ := hv
  have o1 := hR.n.one
  have o2 := hR.w.one
  have o3 := hR.s.one
  have hHb := hR.ag.1
  refine NC.mk hf rfl ?_
  refine seq_reg ?_
  simp only [go_sem, binC, o1, o2, o3]
  refine wpc_gen fun H1 hH1 => ?_
  have hx1 : AgX [] H H1 := hH1 ▸ AgX.app [] _ _
  have hb3 : H1[H.length]? = some ⟨[nv0, wv0, sv0], 0, 0, false, true⟩ := hH1 ▸ get_new0 _ _
  have hb4 : H1[H.length + 1]? = some ⟨[nilS, nilS, nilS], 0, 0, false, true⟩ := hH1 ▸ get_new _ _ 1
  clear hH1
  have hR1 : RunI Hb H.length r M H1 := by
    refine RunV.box ⟨hR.ag.tr hx1, ?_, hR.w.keep hx1 (fun _ _ _ _ _ => by simp), hR.s.keep hx1 (fun _ _ _ _ _ => by simp), hR.rg, hR.pr, hR.sm, hR.ln⟩ hb3 hHb
    exact hR.n.keep hx1 (fun _ _ _ => by simp)
  have hB1 : Bx H H1 := hx1.bx (fun _ h => by cases h)
  refine seq_assoc (seq_reg ?_)
  simp only [go_sem, binC]
  refine seq_block (wpc_loop ?_)
  suffices h : ∀ (k i : Nat) (e : Env) (Hc : Heap) (rc : RunS) (Mc : Nat), i + k = l.length → RunI Hb H.length rc Mc Hc → Bx H Hc → Hc[H.length + 1]? = some ⟨[nilS, nilS, nilS], 0, 0, false, true⟩ → rc.1.length = r.1.length → runL n (l.drop i) rc = runL n l r → Mc + (allL n (l.drop i)).length = M + (allL n l).length →
      e 0 = .slice av l.length l.length → e 3 = ptr H.length 0 → e 4 = ptr (H.length + 1) 0 → e 5 = .int .i64 i → W F lo _ e Hc _ from
    h l.length 0 _ H1 r M (by omega) hR1 hB1 hb4 rfl rfl rfl (by simp only [go_sem, binC]) (by (simp only [go_sem, binC]) <;> rfl) (by (simp only [go_sem, binC]) <;> rfl) (by (simp only [go_sem, binC]) <;> rfl)
  intro k
  induction k with
  | zero =>
    intro i e Hc rc Mc hi hRc hBc hb4c hlen hrun hcnt e0 e3 e4 e5
    refine lp_step ?_
    refine seq_assoc (seq_reg ?_)
    simp only [go_sem, binC, e0, e5]
    refine seq_cond (t := false) (by simp only [go_sem, binC]; rw [decide_eq_false (by omega)]) ?_
    simp only [go_sem, binC]
    refine seq_exit ?_
    simp only [go_sem, binC, thenX_e, out_e, thenX_n]
    have hd : l.drop i = [] := List.drop_of_length_le (by omega)
    rw [hd] at hrun hcnt
    have hrun' : rc = runL n l r := hrun
    have hcnt' : Mc = M + (allL n l).length := by simpa [allL] using hcnt
    obtain ⟨nv, wv, sv, hbox, hV⟩ := hRc.v
    have p1 := hV.n.one
    have p2 := hV.w.one
    have p3 := hV.s.one
    have hb4l := (List.getElem?_eq_some_iff.1 hb4c).1
    refine seq_reg ?_
    simp only [go_sem, binC, e3, e4, gc_of hbox, inBlk_some, p1, p2, p3, hb4c]
    refine ⟨by omega, ?_⟩
    have hxs : AgX [H.length + 1] Hc (Hc.set (H.length + 1) ⟨[nv, wv, sv], 0, 0, false, true⟩) := AgX.set _ _ _
    refine wpc_ret ⟨Or.inr rfl, .agg #[nv, wv, sv], ?_, nv, wv, sv, rfl, ?_, hBc.setN (by omega) _⟩
    · simp [resV, resL, res1, putE_get, e4, ptr, gc_set hb4l, inBlk_some, valOf]
    · rw [hrun'] at hV
      rw [← hcnt']
      refine ⟨hV.ag.setN (by omega) _, hV.n.keep' hxs (fun b _ _ h1 h2 => ?_), hV.w.keep hxs (fun b so _ _ q h => ?_), hV.s.keep hxs (fun b so _ _ q h => ?_), hV.rg, hV.pr, hV.sm, hV.ln⟩
      · simp only [List.mem_singleton] at h2; subst h2; rw [hb4c] at h1; simp at h1
      · simp only [List.mem_singleton] at h; subst h; rw [hb4c] at q; simp at q
      · simp only [List.mem_singleton] at h; subst h; rw [hb4c] at q; simp at q
  | succ k ihk =>
    intro i e Hc rc Mc hi hRc hBc hb4c hlen hrun hcnt e0 e3 e4 e5
    have hil : i < l.length := by omega
    cases n with
    | zero => exact (l[i]).elim
    | succ n =>
    obtain ⟨vb, vo, kd, vr, va, vbb, vc, ho, tv, ev, tl, el, hav, hs, rg, otv, oev, hgc, htl, hel⟩ := step_at hv0 hil
    simp only [Value.slice.injEq, and_true] at hav
    subst hav
    have hst1 : stepB r.1.length (n + 1) d (kd, vr, (va, vbb, vc), ho, tl, el) = true := by rw [← hs]; exact List.all_eq_true.1 hall _ (List.getElem_mem hil)
    obtain ⟨hvr, hk1, hk2, hk3, hkn⟩ := stepB_f hst1
    have hagc := hRc.ag
    have hHl := hagc.1
    have hg8 := hgc Hc (agx_sub hagc)
    rw [List.drop_eq_getElem_cons hil] at hrun hcnt
    have hcnt2 : Mc + (1 + ((allL n tl).length + (allL n el).length) + (allL (n + 1) (l.drop (i + 1))).length) = M + (allL (n + 1) l).length := by
      have hc2 : (allL (n + 1) (l[i] :: l.drop (i + 1))).length = (allT (n + 1) l[i]).length + (allL (n + 1) (l.drop (i + 1))).length := by unfold allL; rw [List.map_cons, List.flatten_cons, List.length_append]
      rw [hc2, hs, allT_succ, List.length_cons, List.length_append] at hcnt
      omega
    have hw1 : IntKind.i64.wrap ((i : Int) + 1) = ((i + 1 : Nat) : Int) := by rw [wrap_id (by omega) (by omega)]; omega
    have hHHc := hBc.1
    refine lp_step ?_
    refine seq_assoc (seq_reg ?_)
    simp only [go_sem, binC, e0, e5]
    refine seq_cond (t := true) (by simp only [go_sem, binC]; rw [decide_eq_true (by omega)]) ?_
    simp only [go_sem, binC]
    refine seq_skip (seq_block (seq_reg ?_))
    simp only [go_sem, binC, e0, e5]
    refine ⟨⟨by omega, by omega⟩, ?_⟩
    simp only [go_sem, binC, Int.toNat_natCast, hg8, otv, oev]
    refine ⟨by omega, ?_⟩
    refine wpc_gen fun H1 hH1 => ?_
    have hx1 : AgX [] Hc H1 := hH1 ▸ AgX.app [] _ _
    have hbx : H1[Hc.length]? = some ⟨[.int .i64 kd, .int .i64 vr, .int .i64 va, .int .i64 vbb, .int .i64 vc, .int .i64 ho, tv, ev], 0, 0, false, true⟩ := hH1 ▸ get_new0 _ _
    have hl1 : H1.length = Hc.length + 1 := by rw [hH1, List.length_append]; rfl
    clear hH1
    have hR1 := hRc.keep hx1
    have hB1 : Bx H H1 := hBc.tr (hx1.bx (fun _ h => by cases h))
    have hb41 := hx1.get hb4c (by simp)
    refine seq_reg ?_
    simp only [go_sem, binC, gc_of hbx, inBlk_some]
    refine wpc_genK fun KK hKK => ?_
    have hnext : ∀ (e' : Env) (H' : Heap) (r' : RunS) (M' : Nat), RunI Hb H.length r' M' H' → Bx H H' → H'[H.length + 1]? = some ⟨[nilS, nilS, nilS], 0, 0, false, true⟩ → r'.1.length = r.1.length → r' = runT (n + 1) l[i] rc → M' = Mc + (1 + ((allL n tl).length + (allL n el).length)) → e' 0 = .slice (some ⟨vb, vo, none⟩) l.length l.length → e' 3 = ptr H.length 0 → e' 4 = ptr (H.length + 1) 0 → e' 5 = .int .i64 i → KK .n e' H' := by
      intro e' H' r' M' hR' hB' hb4' hlen' hr' hM' e0' e3' e4' e5'
      rw [hKK]
      simp only [go_sem, binC, out_n, thenX_n]
      refine wpc_reg ?_
      simp only [go_sem, binC, e5', hw1]
      simp only [go_sem, binC, thenX_n]
      refine ihk (i + 1) _ H' r' M' (by omega) hR' hB' hb4' hlen' ?_ (by omega) (by simp only [go_sem, binC, e0']) (by simp only [go_sem, binC, e3']) (by simp only [go_sem, binC, e4']) (by simp only [go_sem, binC])
      rw [hr', ← hrun]; rfl
    clear hKK
    refine wpc_block (seq_reg ?_)
    simp only [go_sem, binC]
    by_cases h1 : kd = 1
    · subst h1
      have hvb := hk1 rfl
      rw [← hlen] at hvb
      obtain ⟨rfl, rfl⟩ := hkn (by decide)
      rw [hs, runT_set] at hnext
      obtain ⟨nv, wv, sv, hbox, hV⟩ := hR1.v
      have hn := hV.n
      rcases hn with ⟨_, _, hn0⟩ | ⟨nb, hnb, rfl, hne, hnc⟩
      · rw [← hlen, hn0] at hvr; simp at hvr; omega
      have sI := hV.n.slI (fun x hx => by have := hV.rg x hx; unfold RgI; omega) hV.ln
      refine wpc_cond (t := true) rfl ?_
      simp only [go_sem, binC]
      refine seq_reg ?_
      simp only [go_sem, binC, e3, gc_of hbx, gc_of hbox, inBlk_some]
      refine op_callQ (by simp only [go_sem, binC]; exact sNum_ok hnu H1 va vbb vc _ _ sI hV.rg hvb) ?_
      simp only [go_sem, binC]
      generalize hx : valN rc.1 (va, vbb, vc) = x at hnext
      have hxr : 0 ≤ x ∧ x ≤ 9 := hx ▸ valN_rg hvb hV.rg
      have hnr : H.length ≠ nb := fun h => by rw [h, hnc] at hbox; simp at hbox
      have hnl := (List.getElem?_eq_some_iff.1 hnc).1
      have hsm := hV.sm
      have hln := hV.ln
      refine seq_reg ?_
      simp only [go_sem, binC, e3, gc_of hbx, gc_of hbox, inBlk_some]
      refine ⟨⟨by omega, by omega⟩, ?_⟩
      simp only [go_sem, binC, hnc, Nat.mul_one, Nat.zero_add]
      refine ⟨⟨by omega, by simp [ints]; omega⟩, ?_⟩
      rw [ints_set]
      have hx2 : AgX [nb] H1 (H1.set nb ⟨ints (rc.1.set vr.toNat x), 1, 3, true, true⟩) := AgX.set _ _ _
      refine wpc_genH fun H2 hH2 => ?_
      rw [← hH2] at hx2
      have hbox2 := hx2.get hbox (by simpa using hnr)
      have hnc2 : H2[nb]? = some ⟨ints (rc.1.set vr.toNat x), 1, 3, true, true⟩ := by rw [hH2]; exact List.getElem?_set_self hnl
      have hbx2 := hx2.get hbx (fun h => by simp only [List.mem_singleton] at h; rw [h, hnc] at hbx; simp at hbx)
      have hB2 : Bx H H2 := hB1.tr (hx2.bx (fun b h cs q => by simp only [List.mem_singleton] at h; rw [h, hnc] at q; simp at q))
      have hb42 := hx2.get hb41 (fun h => by simp only [List.mem_singleton] at h; rw [h, hnc] at hb41; simp at hb41)
      have hw2 : GLi fp 2 109 Hb.length H2 wv rc.2.1 := hV.w.keep hx2 (fun b so _ _ q h => by simp only [List.mem_singleton] at h; subst h; rw [hnc] at q; simp at q)
      have hs2 : GLi fp 2 81 Hb.length H2 sv rc.2.2 := hV.s.keep hx2 (fun b so _ _ q h => by simp only [List.mem_singleton] at h; subst h; rw [hnc] at q; simp at q)
      have hag2 : AgX [] Hb H2 := hV.ag.trans hx2 (fun _ h _ => h) (fun b h1 h2 => by simp only [List.mem_singleton] at h1; omega)
      have hl2 : H2.length = H1.length := by rw [hH2, List.length_set]
      clear hH2
      refine wpc_reg ?_
      simp only [go_sem, binC, e3, gc_of hbox2, gc_of hbx2, inBlk_some]
      refine op_app_fl (fl := fp) (a := (vr, x)) (lo := Hb.length) (fun _ => rfl) hw2 (by simp only [go_sem, binC]) (by (simp only [go_sem, binC]) <;> rfl) hlo (by omega) (by omega) (by omega) fun H3 w3 hx3 hw3 => ?_
      have hblk := hw2.blk
      have hbox3 := hx3.get hbox2 (fun h => by obtain ⟨_, cs, so, q⟩ := hblk _ h; rw [hbox2] at q; simp at q)
      have hnc3 := hx3.get hnc2 (fun h => by obtain ⟨_, cs, so, q⟩ := hblk _ h; rw [hnc2] at q; simp at q)
      have hs3 : GLi fp 2 81 Hb.length H3 sv rc.2.2 := hs2.keep hx3 (fun b so _ _ q h => by obtain ⟨_, cs, so, q2⟩ := hblk _ h; rw [q2] at q; simp at q)
      have hag3 : AgX [] Hb H3 := hag2.trans hx3 (fun _ h _ => h) (fun b h1 h2 => by have := hblk b h1; omega)
      have hB3 : Bx H H3 := hB2.tr (hx3.bx (fun b h cs q => by obtain ⟨_, cs, so, q2⟩ := hblk _ h; rw [q2] at q; simp at q))
      have hb43 := hx3.get hb42 (fun h => by obtain ⟨_, cs, so, q2⟩ := hblk _ h; rw [hb42] at q2; simp at q2)
      obtain ⟨b3, so3, _, hw3e, _, _⟩ := (id hw3).resolve_left (by simp)
      subst hw3e
      have hl3 := hx3.1
      simp only [go_sem, binC, e3, gc_of hbox3, hbox3, inBlk_some]
      refine ⟨by omega, ?_⟩
      simp only [go_sem, binC, out_n]
      refine hnext _ _ _ (Mc + 1) (hR1.put (r' := (rc.1.set vr.toNat x, rc.2.1 ++ [(vr, x)], rc.2.2)) hag3 (by omega) (.inr ⟨nb, hnb, by rw [List.length_set], by simpa using hne, hnc3⟩) hw3 hs3 ⟨_, hbox3⟩ (fun y hy => ?_) (fun p hp => ?_) (by show (rc.2.1 ++ [(vr, x)]).length + rc.2.2.length ≤ Mc + 1; rw [List.length_append, List.length_singleton]; omega) (by show (rc.1.set vr.toNat x).length ≤ 1000; rw [List.length_set]; exact hV.ln)) (hB3.setN (Nat.le_refl _) _) (by rw [List.getElem?_set_ne (by omega)]; exact hb43) (by show (rc.1.set vr.toNat x).length = _; rw [List.length_set]; exact hlen) rfl (by simp [allL]) (by simp only [go_sem, binC, e0]) (by simp only [go_sem, binC, e3]) (by simp only [go_sem, binC, e4]) (by simp only [go_sem, binC, e5])
      · rcases List.mem_or_eq_of_mem_set hy with h | rfl
        · exact hV.rg y h
        · exact hxr
      · simp only [List.mem_append, List.mem_singleton] at hp
        rcases hp with (h | rfl) | h
        · exact hV.pr p (.inl h)
        · exact ⟨by unfold RgI; omega, by unfold RgI; omega⟩
        · exact hV.pr p (.inr h)
    simp only [go_sem, binC, beq_f h1]
    refine wpc_cond (t := false) rfl ?_
    simp only [go_sem, binC]
    refine seq_reg ?_
    simp only [go_sem, binC]
    obtain ⟨nv, wv, sv, hbox, hV⟩ := hR1.v
    have hn := hV.n
    rcases hn with ⟨_, _, hn0⟩ | ⟨nb, hnb, rfl, hne, hnc⟩
    · rw [← hlen, hn0] at hvr; simp at hvr; omega
    have hgn := gc_ints hnc (i := vr.toNat) (by omega)
    by_cases h2 : kd = 2
    · subst h2
      obtain ⟨ht1, he1⟩ := hk2 rfl
      rw [← hlen] at ht1 he1
      rw [hs, runT_if] at hnext
      have h23 : ((2 : Int) == 3) = false := rfl
      have ow := hV.w.one
      have os := hV.s.one
      simp only [go_sem, binC, h23]
      refine wpc_cond (t := false) rfl ?_
      simp only [go_sem, binC]
      refine seq_reg ?_
      simp only [go_sem, binC, e3, gc_of hbx, gc_of hbox, inBlk_some]
      refine ⟨⟨by omega, by omega⟩, ?_⟩
      simp only [go_sem, binC, Nat.mul_one, Nat.zero_add, hgn]
      have hfin : ∀ (H4 : Heap) (nv4 wv4 sv4 : Value) (r4 : RunS) (M4 : Nat), RunV Hb r4 M4 H4 nv4 wv4 sv4 → Bx H1 H4 → M4 ≤ Mc + (1 + ((allL n tl).length + (allL n el).length)) → H4[H.length]? = some ⟨[sli nb 0 rc.1.length, wv, sv], 0, 0, false, true⟩ ∧ Bx H (H4.set H.length ⟨[nv4, wv4, sv4], 0, 0, false, true⟩) ∧ (H4.set H.length ⟨[nv4, wv4, sv4], 0, 0, false, true⟩)[H.length + 1]? = some ⟨[nilS, nilS, nilS], 0, 0, false, true⟩ ∧ RunI Hb H.length r4 (Mc + (1 + ((allL n tl).length + (allL n el).length))) (H4.set H.length ⟨[nv4, wv4, sv4], 0, 0, false, true⟩) := by
        intro H4 nv4 wv4 sv4 r4 M4 hV4 hB4 hM4
        have hbox4 := hB4.2 _ _ hbox
        have hb44 := hB4.2 _ _ hb41
        have hbl4 := (List.getElem?_eq_some_iff.1 hbox4).1
        refine ⟨hbox4, (hB1.tr hB4).setN (Nat.le_refl _) _, by rw [List.getElem?_set_ne (by omega)]; exact hb44, ?_⟩
        exact (hV4.box' hbox4 hHb).mono hM4
      by_cases hz : rc.1.getD vr.toNat 0 = 0
      · have hz2 : (rc.1.getD vr.toNat 0 != 0) = false := by rw [hz]; rfl
        simp only [go_sem, binC, hz2]
        refine wpc_cond (t := false) rfl ?_
        simp only [go_sem, binC]
        refine wpc_reg ?_
        simp only [go_sem, binC, e3, gc_of hbx, gc_of hbox, inBlk_some, ow, os]
        obtain ⟨nv4, wv4, sv4, H4, k4, hV4, hB4⟩ := ih n rfl Hb H1 lo Mc rc _ wv sv ev el (d - 1) hlo hV hel he1 (by omega)
        refine op_callN (by simp only [go_sem, binC]; exact k4) ?_
        obtain ⟨hb4x, q1, q2, q3⟩ := hfin H4 _ _ _ _ _ hV4 hB4 (by omega)
        have p1 := hV4.n.one
        have p2 := hV4.w.one
        have p3 := hV4.s.one
        simp only [go_sem, binC, e3, hb4x, p1, p2, p3]
        refine ⟨by omega, ?_⟩
        simp only [go_sem, binC, out_n]
        rw [if_pos hz] at hnext
        exact hnext _ _ _ _ q3 q1 q2 (by rw [runL_len he1]; exact hlen) rfl rfl (by simp only [go_sem, binC, e0]) (by simp only [go_sem, binC, e3]) (by simp only [go_sem, binC, e4]) (by simp only [go_sem, binC, e5])
      · have hz2 : (rc.1.getD vr.toNat 0 != 0) = true := by simpa using hz
        simp only [go_sem, binC, hz2]
        refine wpc_cond (t := true) rfl ?_
        simp only [go_sem, binC]
        refine wpc_reg ?_
        simp only [go_sem, binC, e3, gc_of hbx, gc_of hbox, inBlk_some, ow, os]
        obtain ⟨nv4, wv4, sv4, H4, k4, hV4, hB4⟩ := ih n rfl Hb H1 lo Mc rc _ wv sv tv tl (d - 1) hlo hV htl ht1 (by omega)
        refine op_callN (by simp only [go_sem, binC]; exact k4) ?_
        obtain ⟨hb4x, q1, q2, q3⟩ := hfin H4 _ _ _ _ _ hV4 hB4 (by omega)
        have p1 := hV4.n.one
        have p2 := hV4.w.one
        have p3 := hV4.s.one
        simp only [go_sem, binC, e3, hb4x, p1, p2, p3]
        refine ⟨by omega, ?_⟩
        simp only [go_sem, binC, out_n]
        rw [if_neg hz] at hnext
        exact hnext _ _ _ _ q3 q1 q2 (by rw [runL_len ht1]; exact hlen) rfl rfl (by simp only [go_sem, binC, e0]) (by simp only [go_sem, binC, e3]) (by simp only [go_sem, binC, e4]) (by simp only [go_sem, binC, e5])
    have h3 : kd = 3 := (hk3 h1 h2).1
    obtain ⟨rfl, rfl⟩ := hkn h2
    rw [hs, runT_tell h1 h2] at hnext
    have hsm := hV.sm
    have hrbl := (List.getElem?_eq_some_iff.1 hbox).1
    simp only [go_sem, binC, beq_t h3]
    refine wpc_cond (t := true) rfl ?_
    simp only [go_sem, binC]
    refine wpc_regD ?_
    simp only [go_sem, binC, e3, gc_of hbx, gc_of hbox, inBlk_some]
    refine ⟨⟨by omega, by omega⟩, ?_⟩
    simp only [go_sem, binC, Nat.mul_one, Nat.zero_add, hgn]
    refine op_app_fl (fl := fp) (a := (ho, rc.1.getD vr.toNat 0)) (lo := Hb.length) (fun _ => rfl) hV.s (by simp only [go_sem, binC]) (by (simp only [go_sem, binC]) <;> rfl) hlo (by omega) (by omega) (by omega) fun H2 w2 hx2 hw2 => ?_
    have hblk := hV.s.blk
    have hbox2 := hx2.get hbox (fun h => by obtain ⟨_, cs, so, q⟩ := hblk _ h; rw [hbox] at q; simp at q)
    have hnc2 := hx2.get hnc (fun h => by obtain ⟨_, cs, so, q⟩ := hblk _ h; rw [hnc] at q; simp at q)
    have hb42 := hx2.get hb41 (fun h => by obtain ⟨_, cs, so, q⟩ := hblk _ h; rw [hb41] at q; simp at q)
    have hww : GLi fp 2 109 Hb.length H2 wv rc.2.1 := hV.w.keep hx2 (fun b so _ _ q h => by obtain ⟨_, cs, so, q2⟩ := hblk _ h; rw [q2] at q; simp at q)
    have hag2 : AgX [] Hb H2 := hR1.ag.trans hx2 (fun _ h _ => h) (fun b h1 h2 => by have := hblk b h1; omega)
    have hB2 : Bx H H2 := hB1.tr (hx2.bx (fun b h cs q => by obtain ⟨_, cs, so, q2⟩ := hblk _ h; rw [q2] at q; simp at q))
    obtain ⟨b2, so2, _, hw2e, _, _⟩ := (id hw2).resolve_left (by simp)
    subst hw2e
    have hl2 := hx2.1
    simp only [go_sem, binC, e3, gc_of hbox2, hbox2, inBlk_some]
    refine ⟨by omega, ?_⟩
    simp only [go_sem, binC, out_n]
    refine hnext _ _ _ (Mc + 1) (hR1.put (r' := (rc.1, rc.2.1, rc.2.2 ++ [(ho, rc.1.getD vr.toNat 0)])) hag2 (by omega) (.inr ⟨nb, hnb, rfl, hne, hnc2⟩) hww hw2 ⟨_, hbox2⟩ hV.rg (fun p hp => ?_) (by show rc.2.1.length + (rc.2.2 ++ [_]).length ≤ Mc + 1; rw [List.length_append, List.length_singleton]; omega) hV.ln) (hB2.setN (Nat.le_refl _) _) (by rw [List.getElem?_set_ne (by omega)]; exact hb42) hlen rfl (by simp [allL]) (by simp only [go_sem, binC, e0]) (by simp only [go_sem, binC, e3]) (by simp only [go_sem, binC, e4]) (by simp only [go_sem, binC, e5])
    simp only [List.mem_append, List.mem_singleton] at hp
    rcases hp with h | h | rfl
    · exact hV.pr p (.inl h)
    · exact hV.pr p (.inr h)
    · exact ⟨rg.2.2.2.2.2, by have := getD_rg hV.rg vr.toNat; unfold RgI; omega⟩
theorem sDo_all {F : Nat → Option IFn} (hf : F 50 = some c_sDo) (hnu : F 87 = some c_sNum) : ∀ n, DoSOk F 50 n
  | 0 => sDo_ok hf hnu fun m h => by cases h
  | n + 1 => sDo_ok hf hnu fun m h => by cases h; exact sDo_all hf hnu n
def c_sRunOf : IFn := ⟨2, 18, [.cell true 3 4, .t 5],
 .seq (.reg none [
    ⟨(some 2), none, .box (.t 0)⟩,
    ⟨(some 4), none, .new [(.slice none 0 0), (.slice none 0 0), (.slice none 0 0)]⟩,
    ⟨(some 5), none, .mov (.c (.bool false))⟩])
 (.seq (.seq (.reg none [
     ⟨(some 6), none, .load true 2 (.t 2)⟩,
     ⟨(some 7), none, .mov (.t 1)⟩,
     ⟨(some 8), none, .call .q (.f 49) [(.t 6), (.t 7)]⟩,
     ⟨(some 9), none, .un .not (.t 8)⟩])
  (.cond (.t 9) (.seq (.reg none [
      ⟨(some 10), none, .build [(.slice none 0 0), (.slice none 0 0), (.slice none 0 0)] []⟩,
      ⟨none, none, .store 3 (.t 4) (.t 10)⟩,
      ⟨(some 5), none, .mov (.c (.bool false))⟩])
   (.ret)) (.skip)))
 (.seq (.reg (some 6) [
    ⟨(some 11), none, .fad 1 (.t 2)⟩,
    ⟨(some 12), none, .load false 1 (.t 11)⟩,
    ⟨(some 13), none, .lit 1 3 0 [] []⟩,
    ⟨(some 14), none, .mov (.t 1)⟩,
    ⟨(some 15), none, .app 1 3 8 false (.t 13) (.t 14)⟩,
    ⟨(some 16), none, .build [(.slice none 0 0), (.slice none 0 0), (.slice none 0 0)] [(0, 1, (.t 15))]⟩,
    ⟨(some 17), none, .call .n (.f 50) [(.t 12), (.t 16)]⟩,
    ⟨none, none, .store 3 (.t 4) (.t 17)⟩,
    ⟨(some 5), none, .mov (.c (.bool true))⟩])
 (.ret)))⟩
theorem op_app_nums {F : Nat → Option IFn} {lo lo0 : Nat} {e : Env} {H : Heap} {K : Value → Heap → Prop} {x y : Opd} {b : Nat} {so : Bool} {v : Value} {l : List Int} (hx : x.ev e = .slice (some ⟨b, 0, none⟩) 0 0) (hy : y.ev e = v) (hv : SlR Co.int (vw 0 H) v l) (hk : H[b]? = some ⟨[], 1, 3, true, so⟩) (hlt : b < lo) (hl : l.length ≤ 1048576) (h0 : lo0 ≤ H.length)
    (k : ∀ w L, NumV lo0 (H ++ L) w l → K w (H ++ L)) : wpOp F lo (.app 1 3 8 false x y) e H K := by
  by_cases hl0 : l = []
  · obtain ⟨_, a, rfl, _⟩ := hv
    subst hl0
    refine op_app_zero _ _ _ _ _ hx hy ?_
    have := k (.slice (some ⟨b, 0, none⟩) 0 0) []
    rw [List.append_nil] at this
    exact this (.inl ⟨_, rfl, rfl⟩)
  · obtain ⟨b', o', rfl, hg⟩ := sl_ints hv hl0
    have hne : l.length ≠ 0 := fun h => hl0 (List.eq_nil_of_length_eq_zero h)
    exact op_app_lit hx hy hne hg hk hlt (by omega) (by omega) (k _ _ (.inr ⟨H.length, h0, rfl, hl0, get_new0 _ _⟩))
theorem sRunOf_ok {F : Nat → Option IFn} {f : Nat} (hf : F f = some c_sRunOf) (gn : NumsOk F 49) (gdo : ∀ n, DoSOk F 50 n) : RunOk F f := by
  intro H n lv sv w ls l nums r1 r2 hsm r3
  suffices h : ∃ v H', KC F f [.agg #[lv, sv], w] H v H' ∧ (∃ nv wv tv, v = .tuple #[.agg #[nv, wv, tv], .bool (numsB n (ls, l) nums)] ∧ AgX [] H H' ∧
      SlR Co.int (vw 0 H') nv (runOf n (ls, l) nums).1 ∧ SlR Co.p2 (vw 0 H') wv (runOf n (ls, l) nums).2.1 ∧ SlR Co.p2 (vw 0 H') tv (runOf n (ls, l) nums).2.2) by
    obtain ⟨_, H', h1, nv, wv, tv, rfl, h2⟩ := h
    exact ⟨nv, wv, tv, H', h1, h2⟩
  have olv : one lv = true := by obtain ⟨_, a, rfl, _⟩ := r1; rfl
  have osv : one sv = true := by obtain ⟨_, a, rfl, _⟩ := r2; rfl
  refine KC.mk hf rfl ?_
  refine seq_reg ?_
  simp only [go_sem, binC, olv, osv]
  refine wpc_gen fun H1 hH1 => ?_
  have hx1 : AgX [] H H1 := hH1 ▸ AgX.app [] _ _
  have hb2 : H1[H.length]? = some ⟨[lv, sv], 0, 0, false, true⟩ := hH1 ▸ get_new0 _ _
  have hb4 : H1[H.length + 1]? = some ⟨[nilS, nilS, nilS], 0, 0, false, true⟩ := hH1 ▸ get_new _ _ 1
  clear hH1
  have r1' := r1.mono (agx_sub hx1)
  have r2' := r2.mono (agx_sub hx1)
  have r3' := r3.mono (agx_sub hx1)
  have hb4l := (List.getElem?_eq_some_iff.1 hb4).1
  refine seq_assoc (seq_reg ?_)
  simp only [go_sem, binC, gc_of hb2, inBlk_some, olv, osv]
  refine op_callB (by simp only [go_sem, binC]; exact gn H1 n _ _ _ ls l nums r1' r2' hsm r3') (fun hB => ?_) (fun hB => ?_)
  rotate_left
  · simp only [go_sem, binC]
    refine seq_cond (t := true) rfl ?_
    simp only [go_sem, binC]
    refine seq_assoc (seq_reg ?_)
    simp only [go_sem, binC, hb4]
    have hr : runOf n (ls, l) nums = ([], [], []) := if_neg (by rw [hB]; simp)
    refine seq_ret ⟨Or.inr rfl, .tuple #[.agg #[nilS, nilS, nilS], .bool false], ?_, nilS, nilS, nilS, by rw [hB], hx1.setN (by omega) _, ?_, ?_, ?_⟩
    · simp [resV, resL, res1, putE_get, notT, ptr, gc_set hb4l, inBlk_some, valOf]
    all_goals (rw [hr]; exact ⟨by simp, none, rfl, .inl rfl⟩)
  have hB2 := hB
  simp only [numsB, Bool.and_eq_true, decide_eq_true_eq, List.all_eq_true] at hB2
  obtain ⟨⟨hP, hln⟩, hall⟩ := hB2
  have hrun : runOf n (ls, l) nums = runL n l (nums, [], []) := if_pos hB
  have hcnt := progB_cnt hP hsm
  have hst : l.all (stepB ls.length n 3) = true := by
    simp only [progB, Bool.and_eq_true] at hP; exact hP.1.2
  have hls : ls.length ≤ 4 := by
    simp only [progB, Bool.and_eq_true, decide_eq_true_eq] at hP; have := hP.1.1.1; omega
  simp only at hln hcnt
  have rg : ∀ x ∈ nums, 0 ≤ x ∧ x ≤ 9 := fun x hx => inB_iff'.1 (hall x hx)
  simp only [go_sem, binC]
  refine seq_cond (t := false) rfl ?_
  simp only [go_sem, binC]
  refine seq_skip (seq_regD ?_)
  simp only [go_sem, binC, gc_of hb2, inBlk_some]
  have hxl : AgX [] H1 (H1 ++ [⟨[], 1, 3, true, true⟩]) := AgX.app [] _ _
  refine op_app_nums (b := H1.length) (lo0 := H1.length) (by (simp only [go_sem, binC]) <;> rfl) (by simp only [go_sem, binC]) (r3'.mono (agx_sub hxl)) (get_new0 _ _) (by omega) (by omega) (by rw [List.length_append]; omega) fun nv L q1 => ?_
  have on := q1.one
  obtain ⟨na, rfl⟩ := q1.shape
  simp only [go_sem, binC]
  have hx2 : AgX [] H1 (H1 ++ [⟨[], 1, 3, true, true⟩] ++ L) := hxl.tr (AgX.app [] _ _)
  simp only [List.append_assoc, List.cons_append, List.nil_append] at hx2 q1 ⊢
  generalize H1 ++ ⟨[], 1, 3, true, true⟩ :: L = H2 at hx2 q1 ⊢
  have hV : RunV H1 (nums, [], []) 0 H2 (.slice na nums.length nums.length) nilS nilS := ⟨hx2, q1, .inl ⟨rfl, rfl⟩, .inl ⟨rfl, rfl⟩, rg, (fun p hp => by simp at hp), Nat.le_refl _, (show nums.length ≤ 1000 by omega)⟩
  obtain ⟨nv3, wv3, sv3, H3, k3, hV3, hB3⟩ := gdo n H1 H2 H.length 0 (nums, [], []) _ _ _ sv l 3 hx1.1 hV r2' (by show l.all (stepB nums.length n 3) = true; rw [hln]; exact hst) (by omega)
  refine op_callN (by simp only [go_sem, binC]; exact k3) ?_
  have o1 := hV3.n.one
  have o2 := hV3.w.one
  have o3 := hV3.s.one
  have hb43 := hV3.ag.get hb4 (by simp)
  have hb43l := (List.getElem?_eq_some_iff.1 hb43).1
  simp only [go_sem, binC, hb43, o1, o2, o3]
  have hxs : AgX [H.length + 1] H3 (H3.set (H.length + 1) ⟨[nv3, wv3, sv3], 0, 0, false, true⟩) := AgX.set _ _ _
  have hn4 := hV3.n.keep' hxs (fun b _ _ h1 h2 => by simp only [List.mem_singleton] at h2; subst h2; rw [hb43] at h1; simp at h1)
  have hw4 := hV3.w.keep hxs (fun b so _ _ q h => by simp only [List.mem_singleton] at h; subst h; rw [hb43] at q; simp at q)
  have hs4 := hV3.s.keep hxs (fun b so _ _ q h => by simp only [List.mem_singleton] at h; subst h; rw [hb43] at q; simp at q)
  have hsm3 := hV3.sm
  refine wpc_ret ⟨Or.inr rfl, .tuple #[.agg #[nv3, wv3, sv3], .bool true], ?_, nv3, wv3, sv3, by rw [hB], (hx1.tr hV3.ag).setN (by omega) _, ?_, ?_, ?_⟩
  · simp [resV, resL, res1, putE_get, notT, ptr, gc_set hb43l, inBlk_some, valOf]
  · rw [hrun]; exact hn4.slI (fun x hx => by have := hV3.rg x hx; unfold RgI; omega) hV3.ln
  · rw [hrun]; exact hw4.slP (es := 2) (fun p hp => hV3.pr p (.inl hp)) (by omega)
  · rw [hrun]; exact hs4.slP (es := 2) (fun p hp => hV3.pr p (.inr hp)) (by omega)
end Go.Proofs.YtmakdcbpohlacaaI
end
section
/- Heads of regions that append to what they have made themselves. -/
set_option linter.unusedVariables false
set_option linter.unusedSimpArgs false
namespace Go.Proofs.YtmakdcbpohlacaaI
open Go Go.RowKit
section
variable {α : Type} {A : Co α} {fl : α → List Value} {es et : Nat} {H : Heap} {p d : Nat} {r : List IOper} {e : Env} {S : List (Nat × Blk)} {Q : Env → Heap → Prop}
/-- A head ends so that Q holds. -/
def Wh (p : Nat) (l : List IOper) (e : Env) (H : Heap) (S : List (Nat × Blk)) (Q : Env → Heap → Prop) : Prop := ∃ em Hm, heads p l e H S em Hm ∧ Q em Hm
theorem Wh.step {dd : Option Nat} {o : IOp} {v : Value} {S' : List (Nat × Blk)} {H' : Heap} (hs : headS o e H S S' v H') (k : Wh p r (putE e dd v) H' S' Q) : Wh (p + 1) (⟨dd, none, o⟩ :: r) e H S Q := by
  obtain ⟨em, Hm, h1, h2⟩ := k
  exact ⟨em, Hm, ⟨rfl, v, S', H', hs, h1⟩, h2⟩
theorem heads_plain {dd : Option Nat} {o : IOp} {v : Value} {L : List Blk} (h : iop H.length o e H = some (v, H ++ L)) (k : Wh p r (putE e dd v) (H ++ L) S Q) : Wh (p + 1) (⟨dd, none, o⟩ :: r) e H S Q := Wh.step (.inl ⟨rfl, ⟨L, rfl⟩, h⟩) k
theorem heads_pure {dd : Option Nat} {o : IOp} {v : Value} (h : iop H.length o e H = some (v, H)) (k : Wh p r (putE e dd v) H S Q) : Wh (p + 1) (⟨dd, none, o⟩ :: r) e H S Q := Wh.step (.inl ⟨rfl, ⟨[], by rw [List.append_nil]⟩, h⟩) k
theorem flat_at (hw : ∀ a, (fl a).length = es) (l : List α) {i : Nat} (hi : i < l.length) : ((l.flatMap fl).drop (i * es)).take es = fl l[i] := by
  have : l.flatMap fl = (l.take i).flatMap fl ++ (fl l[i] ++ (l.drop (i + 1)).flatMap fl) := by
    conv => lhs; rw [← List.take_append_drop i l, List.drop_eq_getElem_cons hi]
    rw [List.flatMap_append, List.flatMap_cons]
  rw [this]
  have hlt : ((l.take i).flatMap fl).length = i * es := by rw [flat_len hw, List.length_take, Nat.min_eq_left (by omega)]
  rw [List.drop_append, List.drop_of_length_le (by omega), hlt, Nat.sub_self, List.nil_append, List.drop_zero, List.take_append_of_le_length (by rw [hw]; omega), List.take_of_length_le (by rw [hw]; omega)]
theorem blk_slF {b : Nat} {ap so : Bool} {l : List α} (hA : A.w = es) (hw : ∀ a, (fl a).length = es) (h : H[b]? = some ⟨l.flatMap fl, es, et, ap, so⟩) (hr : ∀ a ∈ l, A.rd (vw 0 H) (fl a) a) (hl : l.length ≤ 9223372036854775807) : SlR A (vw 0 H) (sli b 0 l.length) l := by
  by_cases h0 : l = []
  · subst h0; exact ⟨by simp, _, rfl, .inl rfl⟩
  · have hfl := flat_len hw l
    refine ⟨hl, _, rfl, .inr ⟨b, 0, rfl, fun i hi => ⟨fl l[i], ?_, hr _ (List.getElem_mem hi)⟩⟩⟩
    have hi2 : i * es + es ≤ l.length * es := by rw [← Nat.succ_mul]; exact Nat.mul_le_mul_right _ hi
    unfold rng vw
    rw [if_pos (Nat.zero_le _), h, hA]
    simp only [Option.map_some, Nat.zero_add]
    rw [if_pos (by omega), flat_at hw l hi]
/-- The cells of a list of flat elements. -/
theorem sl_flat (hA : A.w = es) (hw : ∀ a, (fl a).length = es) (hes : es ≠ 0) (hfl : ∀ {V : Vw} {cs : List Value} {a : α}, A.rd V cs a → cs = fl a) {v : Value} {l : List α} (h : SlR A (vw 0 H) v l) (hl : l ≠ []) : ∃ b o, v = .slice (some ⟨b, o, none⟩) l.length l.length ∧ getCells H b o (l.length * es) = some (l.flatMap fl) ∧ b < H.length ∧ ∀ a ∈ l, A.rd (vw 0 H) (fl a) a := by
  obtain ⟨b, o, ys, h1, h2, h3, h4⟩ := sl_cells hA h hl
  have hrd : ∀ a ∈ l, A.rd (vw 0 H) (fl a) a := fun a ha => by
    obtain ⟨i, hi, rfl⟩ := List.getElem_of_mem ha
    have := h4 i hi
    rwa [hfl this] at this
  have hys : ys = l.flatMap fl := by
    refine List.ext_getElem (by rw [h3, flat_len hw]) fun j hj hj' => ?_
    have hjl : j < l.length * es := by omega
    have hi : j / es < l.length := Nat.div_lt_of_lt_mul (by rw [Nat.mul_comm]; exact hjl)
    have hj2 : j / es * es + j % es = j := by rw [Nat.mul_comm]; exact Nat.div_add_mod j es
    have hm : j % es < es := Nat.mod_lt _ (Nat.pos_of_ne_zero hes)
    have e1 := hfl (h4 _ hi)
    have e2 := flat_at hw l hi
    have e3 : ((ys.drop (j / es * es)).take es)[j % es]? = (((l.flatMap fl).drop (j / es * es)).take es)[j % es]? := by rw [e1, e2]
    rw [List.getElem?_take, List.getElem?_take, if_pos hm, if_pos hm, List.getElem?_drop, List.getElem?_drop, hj2, List.getElem?_eq_getElem hj, List.getElem?_eq_getElem hj', Option.some.injEq] at e3
    exact e3
  refine ⟨b, o, h1, by rw [h2, hys], ?_, hrd⟩
  unfold getCells at h2
  cases hx : H[b]? with
  | none => rw [hx] at h2; cases h2
  | some k => exact (List.getElem?_eq_some_iff.1 hx).1
/-- What an append to a literal has made, to be appended to once. -/
def TmpL (A : Co α) (fl : α → List Value) (es et lo : Nat) (H : Heap) (S : List (Nat × Blk)) (v : Value) (l : List α) : Prop := l.length ≤ 1048576 ∧ (∀ a ∈ l, A.rd (vw 0 H) (fl a) a) ∧
  ((l = [] ∧ ∃ b, v = sli b 0 0 ∧ H[b]? = some ⟨[], es, et, true, true⟩) ∨ (∃ b kb, l ≠ [] ∧ v = sli b 0 l.length ∧ lo ≤ b ∧ (b, kb) ∈ S ∧ kb = ⟨l.flatMap fl, es, et, true, true⟩ ∧ H[b]? = some (sealB kb)))
theorem heads_appA {lo bytes b tx ty : Nat} {l : List α} (hA : A.w = es) (hw : ∀ a, (fl a).length = es) (hes : es ≠ 0) (hfl : ∀ {V : Vw} {cs : List Value} {a : α}, A.rd V cs a → cs = fl a) (hsc : ∀ a, (fl a).all scal1 = true)
    (hx : e tx = sli b 0 0) (hb : H[b]? = some ⟨[], es, et, true, true⟩) (hy : SlR A (vw 0 H) (e ty) l) (hl : l.length ≤ 1048576) (hby : bytes ≤ 1048576) (hlo : lo ≤ H.length)
    (k : ∀ S' L v, TmpL A fl es et lo (H ++ L) S' v l → Wh p r (putE e (some d) v) (H ++ L) S' Q) : Wh (p + 1) (⟨some d, none, .app es et bytes false (.t tx) (.t ty)⟩ :: r) e H S Q := by
  have hbl := (List.getElem?_eq_some_iff.1 hb).1
  by_cases h0 : l = []
  · subst h0
    obtain ⟨_, a, ha, _⟩ := hy
    have hk := k S [] (sli b 0 0) ⟨by simp, (fun a ha => by cases ha), .inl ⟨rfl, b, rfl, by rw [List.append_nil]; exact hb⟩⟩
    rw [List.append_nil] at hk
    refine heads_pure ?_ hk
    simp only [iop, Opd.ev, hx, ha, sli, List.length_nil]
    rfl
  · obtain ⟨b2, o2, hv, hg, hb2, hrd⟩ := sl_flat hA hw hes hfl hy h0
    have hne : l.length ≠ 0 := fun h => h0 (List.eq_nil_of_length_eq_zero h)
    have hbytes : l.length * bytes ≤ 1048576 * 1048576 := Nat.mul_le_mul hl hby
    refine Wh.step (v := sli H.length 0 l.length) (S' := (H.length, ⟨l.flatMap fl, es, et, true, true⟩) :: S) (H' := H ++ [sealB ⟨l.flatMap fl, es, et, true, true⟩]) (.inr (.inl ⟨⟨l.flatMap fl, es, et, true, true⟩, rfl, rfl, rfl, ?_, ?_, l.length, hne, rfl⟩)) ?_
    · rw [List.all_eq_true]
      intro v hvm
      obtain ⟨a, _, ha⟩ := List.mem_flatMap.1 hvm
      exact List.all_eq_true.1 (hsc a) v ha
    · simp only [iop, Opd.ev, hx, hv, sli, if_neg hne, hg, hb]
      rw [if_neg (by omega), if_pos (by refine ⟨by trivial, by trivial, by trivial, by trivial, by trivial, by trivial, ?_, ?_⟩ <;> omega)]
    · refine k _ [_] _ ⟨hl, fun a ha => A.mono (agx_sub (AgX.app [] H _)) (hrd a ha), .inr ⟨H.length, _, h0, rfl, hlo, List.mem_cons_self, rfl, ?_⟩⟩
      simp
end
theorem wpc_head {F : Nat → Option IFn} {lo p : Nat} {l : List IOper} {e : Env} {H : Heap} {K : X → Env → Heap → Prop} (h : Wh p l e H [] fun em Hm => wpo F lo (l.drop p) em Hm (K .n)) : wpc F lo (.reg (some p) l) e H K := by
  obtain ⟨em, Hm, h1, h2⟩ := h
  exact wpc_regA h1 h2
theorem seq_head {F : Nat → Option IFn} {lo p : Nat} {l : List IOper} {b : ICode} {e : Env} {H : Heap} {K : X → Env → Heap → Prop} (h : Wh p l e H [] fun em Hm => wpo F lo (l.drop p) em Hm fun e1 H1 => wpc F lo b e1 H1 K) : wpc F lo (.seq (.reg (some p) l) b) e H K := wpc_seq (wpc_head h)
theorem Wh.end {Q : Env → Heap → Prop} {l : List IOper} {e : Env} {H : Heap} {S : List (Nat × Blk)} (h : Q e H) : Wh 0 l e H S Q := ⟨e, H, ⟨rfl, rfl⟩, h⟩
end Go.Proofs.YtmakdcbpohlacaaI
end
section
/- A program and numbers drawn, runs compared; runs cut in two. -/
set_option linter.unusedVariables false
set_option linter.unusedSimpArgs false
namespace Go.Proofs.YtmakdcbpohlacaaI
open Go Go.RowKit
def c_drNums : IFn := ⟨2, 43, [.t 4],
 .seq (.reg none [
    ⟨(some 3), none, .box (.t 1)⟩,
    ⟨(some 4), none, .mov (.c (.slice none 0 0))⟩])
 (.seq (.reg none [
    ⟨(some 7), none, .lit 1 3 0 [] []⟩,
    ⟨(some 5), none, .mov (.t 7)⟩])
 (.seq (.seq (.reg none [
     ⟨(some 6), none, .mov (.c (.int .i64 0))⟩])
  (.block 0 (.loop (.seq (.seq (.reg none [
        ⟨(some 8), none, .mov (.t 6)⟩,
        ⟨(some 9), none, .fad 0 (.t 3)⟩,
        ⟨(some 10), none, .load false 1 (.t 9)⟩,
        ⟨(some 11), none, .len (.t 10)⟩,
        ⟨(some 12), none, .bin .lss (.t 8) (.t 11)⟩])
     (.cond (.t 12) (.skip) (.exit 0)))
    (.seq (.block 1 (.reg none [
        ⟨(some 15), none, .mov (.t 5)⟩,
        ⟨(some 16), none, .lit 1 3 6 [(.int .i64 0), (.int .i64 0), (.int .i64 0), (.int .i64 0), (.int .i64 0), (.int .i64 0)] [(0, 1, (.c (.int .i64 0))), (1, 1, (.c (.int .i64 0))), (2, 1, (.c (.int .i64 1))), (3, 1, (.c (.int .i64 2))), (4, 1, (.c (.int .i64 5))), (5, 1, (.c (.int .i64 9)))]⟩,
        ⟨(some 17), none, .mov (.t 0)⟩,
        ⟨(some 18), none, .call .n (.f 105) [(.t 17), (.c (.int .i64 6))]⟩,
        ⟨(some 19), none, .iad 1 (.t 16) (.t 18)⟩,
        ⟨(some 20), none, .load false 1 (.t 19)⟩,
        ⟨(some 21), none, .lit 1 3 1 [(.int .i64 0)] [(0, 1, (.t 20))]⟩,
        ⟨(some 22), none, .app 1 3 8 true (.t 15) (.t 21)⟩,
        ⟨(some 5), none, .mov (.t 22)⟩]))
    (.reg none [
      ⟨(some 13), none, .mov (.t 6)⟩,
      ⟨(some 14), none, .bin .add (.t 13) (.c (.int .i64 1))⟩,
      ⟨(some 6), none, .mov (.t 14)⟩]))))))
 (.seq (.seq (.reg none [
     ⟨(some 23), none, .mov (.t 0)⟩,
     ⟨(some 24), none, .call .n (.f 105) [(.t 23), (.c (.int .i64 20))]⟩])
  (.block 2 (.seq (.reg none [
      ⟨(some 26), none, .bin .eql (.t 24) (.c (.int .i64 0))⟩,
      ⟨(some 25), none, .mov (.t 26)⟩])
   (.cond (.t 25) (.seq (.reg none [
       ⟨(some 27), none, .mov (.t 5)⟩,
       ⟨(some 28), none, .lit 1 3 1 [(.int .i64 0)] [(0, 1, (.c (.int .i64 0)))]⟩,
       ⟨(some 29), none, .app 1 3 8 true (.t 27) (.t 28)⟩,
       ⟨(some 4), none, .mov (.t 29)⟩])
    (.ret)) (.seq (.reg none [
       ⟨(some 31), none, .bin .eql (.t 24) (.c (.int .i64 1))⟩,
       ⟨(some 30), none, .mov (.t 31)⟩])
    (.cond (.t 30) (.seq (.reg none [
        ⟨(some 32), none, .mov (.t 5)⟩,
        ⟨(some 33), none, .len (.t 32)⟩,
        ⟨(some 34), none, .bin .gtr (.t 33) (.c (.int .i64 0))⟩])
     (.cond (.t 34) (.reg none [
        ⟨(some 35), none, .mov (.t 5)⟩,
        ⟨(some 36), none, .lit 1 3 2 [(.int .i64 0), (.int .i64 0)] [(0, 1, (.c (.int .i64 (-1)))), (1, 1, (.c (.int .i64 10)))]⟩,
        ⟨(some 37), none, .mov (.t 0)⟩,
        ⟨(some 38), none, .call .n (.f 105) [(.t 37), (.c (.int .i64 2))]⟩,
        ⟨(some 39), none, .iad 1 (.t 36) (.t 38)⟩,
        ⟨(some 40), none, .load false 1 (.t 39)⟩,
        ⟨(some 41), none, .iad 1 (.t 35) (.c (.int .i64 0))⟩,
        ⟨none, none, .store 1 (.t 41) (.t 40)⟩]) (.skip))) (.skip)))))))
 (.seq (.reg none [
    ⟨(some 42), none, .mov (.t 5)⟩,
    ⟨(some 4), none, .mov (.t 42)⟩])
 (.ret)))))⟩
theorem op_app_kill {F : Nat → Option IFn} {lo0 es et bytes : Nat} {x y : Opd} {e : Env} {H : Heap} {cs ys : List Value} {b n : Nat} {K : Value → Heap → Prop} (hk : H[b]? = some ⟨cs, es, et, true, true⟩) (hn : cs.length = n * es) (hx : x.ev e = sli b 0 n) (hy : y.ev e = sli H.length 0 1) (hlo : lo0 ≤ b) (hyl : ys.length = es) (hl : n < 1048576) (hb : bytes ≤ 1048576)
    (k : ∀ H', AgX [b] H H' → H'[H.length + 1]? = some ⟨cs ++ ys, es, et, true, true⟩ → K (sli (H.length + 1) 0 (n + 1)) H') : wpOp F lo0 (.app es et bytes true x y) e (H ++ [⟨ys, es, et, true, true⟩]) K := by
  have hbl := (List.getElem?_eq_some_iff.1 hk).1
  have hbytes : (n + 1) * bytes ≤ 1048576 * 1048576 := Nat.mul_le_mul (by omega) hb
  refine op_app _ _ _ _ _ (b := ⟨b, 0, none⟩) (n := n) (c := n) (a := ⟨H.length, 0, none⟩) (m := 1) (c' := 1) (ys := ys) (kb := ⟨cs, es, et, true, true⟩) hx hy (by omega) ?_ ?_ ⟨hlo, rfl, rfl, rfl, rfl, hn, by omega, by omega⟩ ?_
  · unfold getCells
    rw [get_new0]
    simp only [List.getElem?_cons_zero, Nat.one_mul, Nat.zero_add]
    rw [if_pos (by omega), List.drop_zero, List.take_of_length_le (by omega)]
  · show (H ++ [_])[b]? = _
    rw [List.getElem?_append_left hbl]; exact hk
  · have hset : (H ++ ([⟨ys, es, et, true, true⟩] : Heap)).set b ⟨[], es, et, false, true && n == 0⟩ = H.set b ⟨[], es, et, false, true && n == 0⟩ ++ [⟨ys, es, et, true, true⟩] := List.set_append_left _ _ hbl
    simp only [if_true, Bool.or_true, Bool.and_true, List.length_append, List.length_cons, List.length_nil, Nat.zero_add]
    rw [hset, List.append_assoc]
    have hag : AgX [b] H (H.set b ⟨[], es, et, false, true && n == 0⟩ ++ ([⟨ys, es, et, true, true⟩] ++ [⟨cs ++ ys, es, et, true, true⟩])) := (AgX.set H b _).trans (AgX.app [] _ _) (fun b h _ => h) (fun b h _ => by cases h)
    refine k _ hag ?_
    have : H.length + 1 = (H.set b ⟨[], es, et, false, true && n == 0⟩).length + 1 := by rw [List.length_set]
    rw [this, get_new]
    rfl
theorem pk6 (k : Nat) : RgI (([0, 0, 1, 2, 5, 9] : List Int).getD k 0) := by
  have : k = 0 ∨ k = 1 ∨ k = 2 ∨ k = 3 ∨ k = 4 ∨ k = 5 ∨ 6 ≤ k := by omega
  rcases this with rfl | rfl | rfl | rfl | rfl | rfl | h
  all_goals first | (simp [RgI]; done) | (rw [List.getD_eq_getElem?_getD, List.getElem?_eq_none (by simpa using h)]; simp [RgI])
theorem tk2 {a0 a1 : Int} {i : Nat} (hi : i < 2) : List.take 1 (List.drop i [Value.int .i64 a0, .int .i64 a1]) = [.int .i64 ([a0, a1].getD i 0)] := by
  have : i = 0 ∨ i = 1 := by omega
  rcases this with rfl | rfl <;> rfl
def NumsQ (k : Nat) (H H' : Heap) (v : Value) : Prop := ∃ nums : List Int, SlR Co.int (vwl H.length [] H') v nums ∧ nums.length ≤ k + 1
theorem drNums_ok {F : Nat → Option IFn} {f : Nat} (hf : F f = some c_drNums) (hpk : F 105 = some c_pick) {H0 : Heap} {rb : Nat} {bv : Value} {code : List Int} (hc : RdC H0 rb bv code) {H : Heap} {p : Int} {lo : Nat} {lv sv : Value} {ls : List (Int × Int)} {V : Vw} (hs : St H0 rb bv p H) (hp : 0 ≤ p) (hp2 : p + 1100 ≤ 1000000) (hlo : lo ≤ rb) (hlv : SlR Co.p2 V lv ls) (hls : ls.length ≤ 1000) (osv : one sv = true) :
    ∃ v H' p', NC F lo f [ptr rb 0, .agg #[lv, sv]] H v H' ∧ (AgX [rb] H H' ∧ St H0 rb bv p' H' ∧ (p ≤ p' ∧ p' ≤ p + 1100) ∧ NumsQ ls.length H H' v) := by
  suffices h : ∃ v H', NC F lo f [ptr rb 0, .agg #[lv, sv]] H v H' ∧ (∃ p', AgX [rb] H H' ∧ St H0 rb bv p' H' ∧ (p ≤ p' ∧ p' ≤ p + 1100) ∧ NumsQ ls.length H H' v) by
    obtain ⟨v, H', h1, p', h2⟩ := h
    exact ⟨v, H', p', h1, h2⟩
  obtain ⟨_, la, rfl, _⟩ := hlv
  refine NC.mk hf rfl ?_
  have hl := hs.lt
  have hc0 := hc.low
  refine seq_reg ?_
  simp only [go_sem, binC, osv]
  refine seq_reg ?_
  simp only [go_sem, binC]
  refine wpc_gen fun H1 hH1 => ?_
  have hs1 : St H0 rb bv p H1 := hH1 ▸ hs.appN hc _
  have ht1 : AgX [rb] H H1 := hH1 ▸ AgX.app [rb] _ _
  have hb3 : H1[H.length]? = some ⟨[.slice la ls.length ls.length, sv], 0, 0, false, true⟩ := hH1 ▸ get_new0 _ _
  have hb1 : H1[H.length + 1]? = some ⟨ints [], 1, 3, true, true⟩ := hH1 ▸ get_new _ _ 1
  clear hH1
  refine seq_assoc (seq_reg ?_)
  simp only [go_sem, binC]
  refine seq_block (wpc_loop ?_)
  suffices h : ∀ (k i : Nat) (e : Env) (Hc : Heap) (b : Nat) (l : List Int), i + k = ls.length → l.length = i → St H0 rb bv (p + i) Hc → AgX [rb] H Hc → Hc[H.length]? = some ⟨[.slice la ls.length ls.length, sv], 0, 0, false, true⟩ → H.length + 1 ≤ b → Hc[b]? = some ⟨ints l, 1, 3, true, true⟩ → (∀ x ∈ l, RgI x) → e 0 = ptr rb 0 → e 3 = ptr H.length 0 → e 5 = sli b 0 l.length → e 6 = .int .i64 i → W F lo _ e Hc _ from
    h ls.length 0 _ H1 (H.length + 1) [] (by omega) rfl (by simpa using hs1) ht1 hb3 (Nat.le_refl _) hb1 (fun x h => by cases h) (by simp only [go_sem, binC]) (by simp only [go_sem, binC]) (by (simp only [go_sem, binC]) <;> rfl) (by (simp only [go_sem, binC]) <;> rfl)
  intro k
  induction k with
  | zero =>
    intro i e Hc b l hik hli hsc htc hb3c hb hbk hr e0 e3 e5 e6
    have hlc := htc.1
    have hbl := (List.getElem?_eq_some_iff.1 hbk).1
    refine lp_step ?_
    refine seq_assoc (seq_reg ?_)
    simp only [go_sem, binC, e3, e6, gc_of hb3c, inBlk_some]
    refine seq_cond (t := false) (by simp only [go_sem, binC]; rw [decide_eq_false (by omega)]) ?_
    simp only [go_sem, binC]
    refine seq_exit ?_
    simp only [go_sem, binC, thenX_e, out_e, thenX_n]
    refine seq_assoc (seq_reg ?_)
    simp only [go_sem, binC, e0]
    refine op_draw (n := 20) hpk hc hsc (by omega) (by omega) hlo (by simp only [go_sem, binC, e0]) (by simp only [go_sem, binC]) fun H2 hl2 hx2 hs2 => ?_
    simp only [go_sem, binC]
    have hbk2 := hx2.get hbk (by simp; omega)
    have ht2 := htc.tr hx2
    refine seq_block ?_
    refine seq_reg ?_
    by_cases h0 : pickV code (p + i) 20 = 0
    · simp only [go_sem, binC, beq_t h0]
      refine wpc_cond (t := true) rfl ?_
      simp only [go_sem, binC]
      refine seq_reg ?_
      simp only [go_sem, binC, e5]
      refine op_app_kill (cs := ints l) (n := l.length) hbk2 (by simp [ints]) (by simp only [go_sem, binC, e5]) (by (simp only [go_sem, binC]) <;> rfl) (by omega) rfl (by omega) (by omega) fun H4 hx4 hbk4 => ?_
      simp only [go_sem, binC]
      refine wpc_ret ?_
      simp only [go_sem, binC, out_r, thenX_r]
      have hx4' : AgX [rb] H H4 := ht2.trans hx4 (fun _ h _ => h) (fun b' h1 h2 => by simp only [List.mem_singleton] at h1; omega)
      have hil : ints l ++ [Value.int .i64 0] = ints (l ++ [0]) := by simp [ints]
      rw [hil] at hbk4
      have hlen : (l ++ [0]).length = l.length + 1 := by simp
      refine ⟨Or.inr rfl, _, (by (simp only [go_sem, binC]) <;> rfl), p + i + 1, hx4', hs2.mono hc hx4 (fun b' h1 => by simp only [List.mem_singleton] at h1; omega), by omega, l ++ [0], ?_, by omega⟩
      have := ints_sl (o := 0) (lo := H.length) (xs := []) hbk4 (by omega) (by simp) (fun x hx => by
        simp only [List.mem_append, List.mem_singleton] at hx
        rcases hx with h | rfl
        · exact hr x h
        · unfold RgI; omega) (Nat.zero_le _) (by omega)
      rw [List.drop_zero, hlen] at this
      exact this
    simp only [go_sem, binC, beq_f h0]
    refine wpc_cond (t := false) rfl ?_
    simp only [go_sem, binC]
    refine seq_reg ?_
    by_cases h1 : pickV code (p + i) 20 = 1
    · simp only [go_sem, binC, beq_t h1]
      refine wpc_cond (t := true) rfl ?_
      simp only [go_sem, binC]
      refine seq_reg ?_
      simp only [go_sem, binC, e5]
      by_cases h2 : 0 < (l.length : Int)
      · simp only [go_sem, binC, decide_eq_true h2]
        refine wpc_cond (t := true) rfl ?_
        simp only [go_sem, binC]
        refine wpc_reg ?_
        simp only [go_sem, binC, e0, e5]
        have hs3 := hs2.appN hc ([⟨[.int .i64 (-1), .int .i64 10], 1, 3, true, true⟩] : Heap)
        refine op_draw (n := 2) hpk hc hs3 (by omega) (by omega) hlo (by simp only [go_sem, binC, e0]) (by simp only [go_sem, binC]) fun H4 hl4 hx4 hs4 => ?_
        have hbd := pickV_bd code (p + i + 1) (n := 2) (by omega)
        have hlit : H4[H2.length]? = some ⟨[.int .i64 (-1), .int .i64 10], 1, 3, true, true⟩ := hx4.get (get_new0 _ _) (by simp; omega)
        have hbk4 : H4[b]? = some ⟨ints l, 1, 3, true, true⟩ := hx4.get (by rw [List.getElem?_append_left (List.getElem?_eq_some_iff.1 hbk2).1]; exact hbk2) (by simp; omega)
        have hg4 : getCells H4 H2.length (pickV code (p + i + 1) 2).toNat 1 = some [.int .i64 ([-1, 10].getD (pickV code (p + i + 1) 2).toNat 0)] := by
          rw [gc_of hlit, inBlk_some]
          simp only [List.length_cons, List.length_nil]
          rw [if_pos (by omega), tk2 (by omega)]
        simp only [go_sem, binC]
        refine ⟨⟨by omega, by omega⟩, ?_⟩
        simp only [go_sem, binC, Nat.mul_one, hg4, e5]
        refine ⟨by omega, ?_⟩
        simp only [go_sem, binC, hbk4]
        have hil : (ints l).length = l.length := by simp [ints]
        refine ⟨⟨by omega, by omega⟩, ?_⟩
        simp only [go_sem, binC, out_n, thenX_n]
        refine seq_reg ?_
        simp only [go_sem, binC, e5]
        have hv : RgI (([-1, 10] : List Int).getD (pickV code (p + i + 1) 2).toNat 0) := by
          have : (pickV code (p + i + 1) 2).toNat = 0 ∨ (pickV code (p + i + 1) 2).toNat = 1 := by omega
          rcases this with h | h <;> rw [h] <;> simp [RgI]
        generalize ([-1, 10] : List Int).getD (pickV code (p + i + 1) 2).toNat 0 = nv at hv
        obtain ⟨a0, l', rfl⟩ : ∃ a0 l', l = a0 :: l' := by
          cases l with
          | nil => simp at h2
          | cons a0 l' => exact ⟨_, _, rfl⟩
        have ht4 : AgX [rb] H H4 := (ht2.appN _).tr hx4
        have hb4l := (List.getElem?_eq_some_iff.1 hbk4).1
        refine wpc_ret ⟨Or.inr rfl, _, (by (simp only [go_sem, binC]) <;> rfl), p + i + 1 + 1, ht4.setN (by omega) _, hs4.setN hc (b := b) (by omega) _, by omega, nv :: l', ?_, by simp at hli ⊢; omega⟩
        have := ints_sl (o := 0) (lo := H.length) (xs := []) (l := nv :: l') (H := H4.set b ⟨ints (nv :: l'), 1, 3, true, true⟩) (List.getElem?_set_self hb4l) (by omega) (by simp) (fun x hx => by
          simp only [List.mem_cons] at hx
          rcases hx with rfl | hx
          · exact hv
          · exact hr _ (by simp [hx])) (Nat.zero_le _) (by simp at hli ⊢; omega)
        exact this
      · simp only [go_sem, binC, decide_eq_false h2]
        refine wpc_cond (t := false) rfl ?_
        simp only [go_sem, binC]
        refine wpc_skip ?_
        simp only [go_sem, binC, out_n, thenX_n]
        refine seq_reg ?_
        simp only [go_sem, binC, e5]
        exact wpc_ret ⟨Or.inr rfl, _, (by (simp only [go_sem, binC]) <;> rfl), p + i + 1, ht2, hs2, by omega, l, ints_sl (o := 0) (xs := []) hbk2 (by omega) (by simp) hr (Nat.zero_le _) (by omega), by omega⟩
    · simp only [go_sem, binC, beq_f h1]
      refine wpc_cond (t := false) rfl ?_
      simp only [go_sem, binC]
      refine wpc_skip ?_
      simp only [go_sem, binC, out_n, thenX_n]
      refine seq_reg ?_
      simp only [go_sem, binC, e5]
      exact wpc_ret ⟨Or.inr rfl, _, (by (simp only [go_sem, binC]) <;> rfl), p + i + 1, ht2, hs2, by omega, l, ints_sl (o := 0) (xs := []) hbk2 (by omega) (by simp) hr (Nat.zero_le _) (by omega), by omega⟩
  | succ k ih =>
    intro i e Hc b l hik hli hsc htc hb3c hb hbk hr e0 e3 e5 e6
    have hlc := htc.1
    have hbl := (List.getElem?_eq_some_iff.1 hbk).1
    have hw1 : IntKind.i64.wrap ((i : Int) + 1) = ((i + 1 : Nat) : Int) := by rw [wrap_id (by omega) (by omega)]; omega
    refine lp_step ?_
    refine seq_assoc (seq_reg ?_)
    simp only [go_sem, binC, e3, e6, gc_of hb3c, inBlk_some]
    refine seq_cond (t := true) (by simp only [go_sem, binC]; rw [decide_eq_true (by omega)]) ?_
    simp only [go_sem, binC]
    refine seq_skip (seq_block (wpc_reg ?_))
    simp only [go_sem, binC, e0, e5]
    have hs3 := hsc.appN hc ([⟨[.int .i64 0, .int .i64 0, .int .i64 1, .int .i64 2, .int .i64 5, .int .i64 9], 1, 3, true, true⟩] : Heap)
    refine op_draw (n := 6) hpk hc hs3 (by omega) (by omega) hlo (by simp only [go_sem, binC, e0]) (by simp only [go_sem, binC]) fun H4 hl4 hx4 hs4 => ?_
    have hbd := pickV_bd code (p + i) (n := 6) (by omega)
    have hlit : H4[Hc.length]? = some ⟨[.int .i64 0, .int .i64 0, .int .i64 1, .int .i64 2, .int .i64 5, .int .i64 9], 1, 3, true, true⟩ := hx4.get (get_new0 _ _) (by simp; omega)
    have happ : ∀ (L : Heap) (b' : Nat) (kk : Blk), Hc[b']? = some kk → (Hc ++ L)[b']? = some kk := fun L b' kk h => by rw [List.getElem?_append_left (List.getElem?_eq_some_iff.1 h).1]; exact h
    have hbk4 := hx4.get (happ _ _ _ hbk) (by simp; omega)
    have hb34 := hx4.get (happ _ _ _ hb3c) (by simp; omega)
    have hg4 : getCells H4 Hc.length (pickV code (p + i) 6).toNat 1 = some [.int .i64 ([0, 0, 1, 2, 5, 9].getD (pickV code (p + i) 6).toNat 0)] := by
      rw [gc_of hlit, inBlk_some]
      simp only [List.length_cons, List.length_nil]
      rw [if_pos (by omega), tk6 (by omega)]
    simp only [go_sem, binC]
    refine ⟨⟨by omega, by omega⟩, ?_⟩
    simp only [go_sem, binC, Nat.mul_one, hg4, e5]
    have hv := pk6 (pickV code (p + i) 6).toNat
    generalize ([0, 0, 1, 2, 5, 9] : List Int).getD (pickV code (p + i) 6).toNat 0 = nv at hv
    refine op_app_kill (cs := ints l) (n := l.length) hbk4 (by simp [ints]) (by simp only [go_sem, binC, e5]) (by (simp only [go_sem, binC]) <;> rfl) (by omega) rfl (by omega) (by omega) fun H5 hx5 hbk5 => ?_
    simp only [go_sem, binC, out_n, thenX_n]
    refine wpc_reg ?_
    simp only [go_sem, binC, e6, hw1]
    simp only [go_sem, binC, thenX_n]
    have hil : ints l ++ [Value.int .i64 nv] = ints (l ++ [nv]) := by simp [ints]
    rw [hil] at hbk5
    have hlen : (l ++ [nv]).length = l.length + 1 := by simp
    have ht5 : AgX [rb] H H5 := ((htc.appN _).tr hx4).trans hx5 (fun _ h _ => h) (fun b' h1 h2 => by simp only [List.mem_singleton] at h1; omega)
    have hl4' := hx4.1
    rw [List.length_append] at hl4'
    refine ih (i + 1) _ H5 (H4.length + 1) (l ++ [nv]) (by omega) (by omega) ?_ ht5 (hx5.get hb34 (by simp; omega)) (by omega) hbk5 (fun x hx => by
      simp only [List.mem_append, List.mem_singleton] at hx
      rcases hx with h | rfl
      · exact hr x h
      · exact hv) (by simp only [go_sem, binC, e0]) (by simp only [go_sem, binC, e3]) (by (simp only [go_sem, binC, hlen]) <;> rfl) (by simp only [go_sem, binC])
    have := hs4.mono hc hx5 (fun b' h1 => by simp only [List.mem_singleton] at h1; omega)
    rw [show p + ((i + 1 : Nat) : Int) = p + i + 1 by omega]
    exact this
def c_drNumsOk : IFn := ⟨1, 14, [.cell true 2 2, .t 3],
 .seq (.reg none [
    ⟨(some 2), none, .new [(.slice none 0 0), (.slice none 0 0)]⟩,
    ⟨(some 3), none, .mov (.c (.slice none 0 0))⟩])
 (.seq (.reg none [
    ⟨(some 6), none, .mov (.t 0)⟩,
    ⟨(some 7), none, .call .n (.f 83) [(.t 6)]⟩,
    ⟨(some 4), none, .mov (.t 7)⟩])
 (.seq (.reg none [
    ⟨(some 8), none, .mov (.t 4)⟩,
    ⟨(some 9), none, .call .n (.f 84) [(.t 8)]⟩,
    ⟨(some 5), none, .new [(.slice none 0 0), (.slice none 0 0)]⟩,
    ⟨none, none, .store 2 (.t 5) (.t 9)⟩])
 (.seq (.reg (some 4) [
    ⟨(some 10), none, .load true 2 (.t 5)⟩,
    ⟨(some 11), none, .mov (.t 4)⟩,
    ⟨(some 12), none, .load true 2 (.t 5)⟩,
    ⟨(some 13), none, .call .n (.f 85) [(.t 11), (.t 12)]⟩,
    ⟨none, none, .store 2 (.t 2) (.t 10)⟩,
    ⟨(some 3), none, .mov (.t 13)⟩])
 (.ret))))⟩
def c_drRunOf : IFn := ⟨1, 8, [.cell true 2 2, .t 3],
 .seq (.reg none [
    ⟨(some 2), none, .new [(.slice none 0 0), (.slice none 0 0)]⟩,
    ⟨(some 3), none, .mov (.c (.slice none 0 0))⟩])
 (.seq (.reg none [
    ⟨(some 4), none, .mov (.t 0)⟩,
    ⟨(some 5), none, .call .k (.f 48) [(.t 4)]⟩,
    ⟨(some 6), none, .ext (.t 5) 0⟩,
    ⟨(some 7), none, .ext (.t 5) 1⟩,
    ⟨none, none, .store 2 (.t 2) (.t 6)⟩,
    ⟨(some 3), none, .mov (.t 7)⟩])
 (.ret))⟩
/-- A code opened: a reader in a new block. -/
def DrawNumsOk (F : Nat → Option IFn) (f : Nat) : Prop := ∀ (H : Heap) (v : Value) (code : List Int), SlR Co.byte (vw 0 H) v code → ∃ (d : Nat) (lv sv nv : Value) (ls : List (Int × Int)) (l : List (TStep d)) (nums : List Int) (H' : Heap), KC F f [v] H (.tuple #[.agg #[lv, sv], nv]) H' ∧
  (AgX [] H H' ∧ SlR Co.p2 (vw 0 H') lv ls ∧ SlR (Co.step d) (vw 0 H') sv l ∧ (Co.prog d).sm (ls, l) ∧ SlR Co.int (vw 0 H') nv nums)
def DrawNumsV (F : Nat → Option IFn) (f : Nat) : Prop := ∀ (H : Heap) (v : Value) (code : List Int), SlR Co.byte (vw 0 H) v code → ∃ (d : Nat) (lv sv nv : Value) (ls : List (Int × Int)) (l : List (TStep d)) (nums : List Int) (H' : Heap), KC F f [v] H (.tuple #[.agg #[lv, sv], nv]) H' ∧
  (AgX [] H H' ∧ SlR Co.p2 (vwl H.length [] H') lv ls ∧ SlR (Co.step d) (vwl H.length [] H') sv l ∧ (Co.prog d).sm (ls, l) ∧ SlR Co.int (vwl H.length [] H') nv nums)
theorem drNumsV_ok {F : Nat → Option IFn} {f : Nat} (hf : F f = some c_drNumsOk) (hop : F 83 = some c_l6Open) (hpk : F 105 = some c_pick) (hnu : F 85 = some c_drNums) (gan : ∀ {H0 : Heap} {rb : Nat} {bv : Value} {code : List Int}, RdC H0 rb bv code → DrawS F H0 rb bv 84 [] 90000 ProgR) : DrawNumsV F f := by
  intro H v code hv
  suffices h : ∃ w H', KC F f [v] H w H' ∧ (∃ (d : Nat) (lv sv nv : Value) (ls : List (Int × Int)) (l : List (TStep d)) (nums : List Int), w = .tuple #[.agg #[lv, sv], nv] ∧ (AgX [] H H' ∧ SlR Co.p2 (vwl H.length [] H') lv ls ∧ SlR (Co.step d) (vwl H.length [] H') sv l ∧ (Co.prog d).sm (ls, l) ∧ SlR Co.int (vwl H.length [] H') nv nums)) by
    obtain ⟨w, H', h1, d, lv, sv, nv, ls, l, nums, rfl, h2⟩ := h
    exact ⟨d, lv, sv, nv, ls, l, nums, H', h1, h2⟩
  refine KC.mk hf rfl ?_
  refine seq_reg ?_
  simp only [go_sem, binC]
  refine wpc_gen fun H1 hH1 => ?_
  have ht1 : AgX [] H H1 := hH1 ▸ AgX.app [] _ _
  have hb1 : H1[H.length]? = some ⟨[nilS, nilS], 0, 0, false, true⟩ := hH1 ▸ get_new0 _ _
  have hn1 : H1.length = H.length + 1 := by rw [hH1, List.length_append]; rfl
  clear hH1
  refine seq_reg ?_
  simp only [go_sem, binC]
  obtain ⟨bv, code', k2, hc, hs2⟩ := l6Open_ok hop (hv.mono (agx_sub ht1)) H.length ht1.1
  refine op_callN (by simp only [go_sem, binC]; exact k2) ?_
  simp only [go_sem, binC]
  refine wpc_gen fun H2 hH2 => ?_
  rw [← hH2] at hs2
  have ht2 : AgX [] H H2 := hH2 ▸ ht1.appN _
  have hb2 : H2[H.length]? = some ⟨[nilS, nilS], 0, 0, false, true⟩ := by rw [hH2, List.getElem?_append_left (List.getElem?_eq_some_iff.1 hb1).1]; exact hb1
  have hn2 : H2.length = H1.length + 1 := by rw [hH2, List.length_append]; rfl
  clear hH2
  refine seq_reg ?_
  simp only [go_sem, binC]
  obtain ⟨v3, H3, p3, k3, x3, s3, c3, d, lv, sv, ls, l, rfl, r1, r2, r3, r4, r5⟩ := gan hc H2 0 H.length hs2 (by omega) (by omega) (by omega)
  refine op_callN (by simp only [go_sem, binC]; exact k3) ?_
  have olv : one lv = true := by obtain ⟨_, a, rfl, _⟩ := r1; rfl
  have osv : one sv = true := by obtain ⟨_, a, rfl, _⟩ := r2; rfl
  have hl3 := x3.1
  simp only [go_sem, binC, olv, osv]
  refine ⟨by omega, ?_⟩
  refine wpc_gen fun H4 hH4 => ?_
  have hs4 : St H1 H1.length bv p3 H4 := hH4 ▸ s3.appN hc _
  have ht4 : AgX [H1.length] H2 H4 := hH4 ▸ x3.appN _
  have hb4 : H4[H.length]? = some ⟨[nilS, nilS], 0, 0, false, true⟩ := ht4.get hb2 (by simp; omega)
  have hbx4 : H4[H3.length]? = some ⟨[lv, sv], 0, 0, false, true⟩ := hH4 ▸ get_new0 _ _
  have hn4 : H4.length = H3.length + 1 := by rw [hH4, List.length_append]; rfl
  have hvw4 : Sub (vwl H2.length [] H3) (vwl H2.length [H3.length] H4) := by subst hH4; exact vwl_sub (AgX.app [] _ _) (Nat.le_refl _) fun b' h1 h2 _ => ⟨by simp, by simp; omega⟩
  clear hH4
  obtain ⟨hl0, la, rfl, _⟩ := id r1
  obtain ⟨v5, H5, p5, k5, x5, s5, c5, nums, hns, hnl⟩ := drNums_ok hnu hpk hc (lo := H.length) hs4 (by omega) (by omega) (by omega) r1 (by omega) osv
  have hb5 := x5.get hb4 (by simp; omega)
  have hbx5 := x5.get hbx4 (by simp; omega)
  have hn5 := x5.1
  have hb5l := (List.getElem?_eq_some_iff.1 hb5).1
  have g4 : getCells H4 H3.length 0 2 = some [.slice la ls.length ls.length, sv] := by rw [gc_of hbx4]; rfl
  have g5 : getCells H5 H3.length 0 2 = some [.slice la ls.length ls.length, sv] := by rw [gc_of hbx5]; rfl
  refine wpc_genE fun e0 he => ?_
  have e2 : e0 2 = ptr H.length 0 := by rw [he]; simp only [go_sem, binC]
  have e4 : e0 4 = ptr H1.length 0 := by rw [he]; simp only [go_sem, binC]
  have e5 : e0 5 = ptr H3.length 0 := by rw [he]; simp only [go_sem, binC]
  clear he
  refine seq_regV (q := 3) (k := 0) (ea := putE (putE (putE e0 (some 10) (.agg #[.slice la ls.length ls.length, sv])) (some 11) (ptr H1.length 0)) (some 12) (.agg #[.slice la ls.length ls.length, sv])) rfl rfl rfl ?_
  refine op_callN (by simp only [go_sem, binC, e4]; exact k5) ?_
  refine ⟨frees_cons _ (iop_load (by simp only [go_sem, binC, e5]) g4) (iop_load (by simp only [go_sem, binC, e5]) g5) (frees_cons _ (by simp only [go_sem, binC, e4, iop]) (by simp only [go_sem, binC, e4, iop]) (frees_cons _ (iop_load (by simp only [go_sem, binC, e5]) g4) (iop_load (by simp only [go_sem, binC, e5]) g5) rfl)), _, rfl, ?_⟩
  simp only [go_sem, binC, e2, hb5, osv]
  have hvf : Sub (vwl H2.length [] H3) (vwl H.length [] (H5.set H.length ⟨[.slice la ls.length ls.length, sv], 0, 0, false, true⟩)) := (hvw4.trans (vwl_sub x5 (Nat.le_refl _) (xs' := []) fun b' h1 h2 _ => ⟨by simp; omega, by simp⟩) : Sub (vwl H2.length [] H3) (vwl H2.length [] H5)).trans (vwl_sub (AgX.set H5 H.length _) (show H.length ≤ H2.length by omega) (xs' := []) fun b' h1 h2 _ => ⟨by simp; omega, by simp⟩)
  have hvn : Sub (vwl H4.length [] H5) (vwl H.length [] (H5.set H.length ⟨[.slice la ls.length ls.length, sv], 0, 0, false, true⟩)) := vwl_sub (AgX.set H5 H.length _) (show H.length ≤ H4.length by omega) (xs' := []) fun b' h1 h2 h3 => ⟨by simp; omega, h3⟩
  refine wpc_ret ⟨Or.inr rfl, .tuple #[.agg #[.slice la ls.length ls.length, sv], v5], ?_, ?_⟩
  · obtain ⟨_, a5, rfl, _⟩ := hns
    simp [resV, resL, res1, putE_get, notT, e2, ptr, gc_set hb5l, inBlk_some, valOf]
  · refine ⟨d, _, sv, v5, ls, l, nums, rfl, ?_, r1.mono hvf, r2.mono hvf, r3, hns.mono hvn⟩
    exact (ht2.trans (ht4.tr x5) (fun _ h _ => h) (fun b h1 h2 => by simp at h1; omega)).setN (Nat.le_refl _) _
theorem drRunOf_ok {F : Nat → Option IFn} {f : Nat} (hf : F f = some c_drRunOf) (gd : DrawNumsV F 48) : DrawNumsOk F f := by
  intro H v code hv
  suffices h : ∃ w H', KC F f [v] H w H' ∧ (∃ (d : Nat) (lv sv nv : Value) (ls : List (Int × Int)) (l : List (TStep d)) (nums : List Int), w = .tuple #[.agg #[lv, sv], nv] ∧ (AgX [] H H' ∧ SlR Co.p2 (vw 0 H') lv ls ∧ SlR (Co.step d) (vw 0 H') sv l ∧ (Co.prog d).sm (ls, l) ∧ SlR Co.int (vw 0 H') nv nums)) by
    obtain ⟨w, H', h1, d, lv, sv, nv, ls, l, nums, rfl, h2⟩ := h
    exact ⟨d, lv, sv, nv, ls, l, nums, H', h1, h2⟩
  refine KC.mk hf rfl ?_
  refine seq_reg ?_
  simp only [go_sem, binC]
  refine wpc_gen fun H1 hH1 => ?_
  have hx1 : AgX [] H H1 := hH1 ▸ AgX.app [] _ _
  have hb1 : H1[H.length]? = some ⟨[nilS, nilS], 0, 0, false, true⟩ := hH1 ▸ get_new0 _ _
  have hn1 : H1.length = H.length + 1 := by rw [hH1, List.length_append]; rfl
  clear hH1
  refine seq_reg ?_
  simp only [go_sem, binC]
  obtain ⟨d, lv, sv, nv, ls, l, nums, H2, k2, hx2, r1, r2, r3, r4⟩ := gd H1 v code (hv.mono (agx_sub hx1))
  obtain ⟨_, la, rfl, _⟩ := id r1
  obtain ⟨_, sa, rfl, _⟩ := id r2
  obtain ⟨_, na, rfl, _⟩ := id r4
  have hb2 := hx2.get hb1 (by simp)
  have hb2l := (List.getElem?_eq_some_iff.1 hb2).1
  refine op_callK (by simp only [go_sem, binC]; exact k2) ?_
  simp only [go_sem, binC, hb2]
  have hvf : Sub (vwl H1.length [] H2) (vw 0 (H2.set H.length ⟨[.slice la ls.length ls.length, .slice sa l.length l.length], 0, 0, false, true⟩)) := (vwl_sub (AgX.set H2 H.length _) (Nat.le_refl _) (xs' := []) fun b' h1 h2 _ => ⟨by simp; omega, by simp⟩).trans (vwl0 _ _ _)
  refine wpc_ret ⟨Or.inr rfl, .tuple #[.agg #[.slice la ls.length ls.length, .slice sa l.length l.length], .slice na nums.length nums.length], ?_, d, _, _, _, ls, l, nums, rfl, (hx1.tr hx2).setN (Nat.le_refl _) _, r1.mono hvf, r2.mono hvf, r3, r4.mono hvf⟩
  simp [resV, resL, res1, putE_get, notT, ptr, gc_set hb2l, inBlk_some, valOf]
def c_lcWrites : IFn := ⟨2, 26, [.t 4],
 .seq (.reg none [
    ⟨(some 4), none, .mov (.c (.bool false))⟩])
 (.seq (.seq (.reg none [
     ⟨(some 6), none, .mov (.t 0)⟩,
     ⟨(some 7), none, .len (.t 6)⟩,
     ⟨(some 8), none, .mov (.t 1)⟩,
     ⟨(some 9), none, .len (.t 8)⟩,
     ⟨(some 10), none, .bin .neq (.t 7) (.t 9)⟩])
  (.cond (.t 10) (.seq (.reg none [
      ⟨(some 4), none, .mov (.c (.bool false))⟩])
   (.ret)) (.skip)))
 (.seq (.seq (.reg none [
     ⟨(some 5), none, .mov (.c (.int .i64 0))⟩])
  (.block 0 (.loop (.seq (.seq (.reg none [
        ⟨(some 11), none, .mov (.t 5)⟩,
        ⟨(some 12), none, .mov (.t 0)⟩,
        ⟨(some 13), none, .len (.t 12)⟩,
        ⟨(some 14), none, .bin .lss (.t 11) (.t 13)⟩])
     (.cond (.t 14) (.skip) (.exit 0)))
    (.seq (.block 1 (.seq (.reg (some 8) [
         ⟨(some 17), none, .mov (.t 0)⟩,
         ⟨(some 18), none, .mov (.t 5)⟩,
         ⟨(some 19), none, .iad 2 (.t 17) (.t 18)⟩,
         ⟨(some 20), none, .load true 2 (.t 19)⟩,
         ⟨(some 21), none, .mov (.t 1)⟩,
         ⟨(some 22), none, .mov (.t 5)⟩,
         ⟨(some 23), none, .iad 2 (.t 21) (.t 22)⟩,
         ⟨(some 24), none, .load true 2 (.t 23)⟩,
         ⟨(some 25), none, .eqs true 2 (.t 20) (.t 24)⟩])
      (.cond (.t 25) (.seq (.reg none [
          ⟨(some 4), none, .mov (.c (.bool false))⟩])
       (.ret)) (.skip))))
    (.reg none [
      ⟨(some 15), none, .mov (.t 5)⟩,
      ⟨(some 16), none, .bin .add (.t 15) (.c (.int .i64 1))⟩,
      ⟨(some 5), none, .mov (.t 16)⟩]))))))
 (.seq (.reg none [
    ⟨(some 4), none, .mov (.c (.bool true))⟩])
 (.ret))))⟩
def c_lcRun : IFn := ⟨2, 47, [.t 4],
 .seq (.reg none [
    ⟨(some 2), none, .box (.t 0)⟩,
    ⟨(some 3), none, .box (.t 1)⟩,
    ⟨(some 4), none, .mov (.c (.bool false))⟩])
 (.seq (.seq (.reg none [
     ⟨(some 6), none, .fad 0 (.t 2)⟩,
     ⟨(some 7), none, .load false 1 (.t 6)⟩,
     ⟨(some 8), none, .fad 0 (.t 3)⟩,
     ⟨(some 9), none, .load false 1 (.t 8)⟩,
     ⟨(some 10), none, .call .q (.f 55) [(.t 7), (.t 9)]⟩,
     ⟨(some 11), none, .un .not (.t 10)⟩,
     ⟨(some 12), none, .mov (.t 11)⟩,
     ⟨(some 13), (some (12, false)), .fad 1 (.t 2)⟩,
     ⟨(some 14), (some (12, false)), .load false 1 (.t 13)⟩,
     ⟨(some 15), (some (12, false)), .fad 1 (.t 3)⟩,
     ⟨(some 16), (some (12, false)), .load false 1 (.t 15)⟩,
     ⟨(some 17), (some (12, false)), .call .q (.f 56) [(.t 14), (.t 16)]⟩,
     ⟨(some 18), (some (12, false)), .un .not (.t 17)⟩,
     ⟨(some 19), none, .pick (.t 12) (.c (.bool true)) (.t 18)⟩,
     ⟨(some 20), none, .mov (.t 19)⟩,
     ⟨(some 21), (some (20, false)), .fad 2 (.t 2)⟩,
     ⟨(some 22), (some (20, false)), .load false 1 (.t 21)⟩,
     ⟨(some 23), (some (20, false)), .len (.t 22)⟩,
     ⟨(some 24), (some (20, false)), .fad 2 (.t 3)⟩,
     ⟨(some 25), (some (20, false)), .load false 1 (.t 24)⟩,
     ⟨(some 26), (some (20, false)), .len (.t 25)⟩,
     ⟨(some 27), (some (20, false)), .bin .neq (.t 23) (.t 26)⟩,
     ⟨(some 28), none, .pick (.t 20) (.c (.bool true)) (.t 27)⟩])
  (.cond (.t 28) (.seq (.reg none [
      ⟨(some 4), none, .mov (.c (.bool false))⟩])
   (.ret)) (.skip)))
 (.seq (.seq (.reg none [
     ⟨(some 5), none, .mov (.c (.int .i64 0))⟩])
  (.block 0 (.loop (.seq (.seq (.reg none [
        ⟨(some 29), none, .mov (.t 5)⟩,
        ⟨(some 30), none, .fad 2 (.t 2)⟩,
        ⟨(some 31), none, .load false 1 (.t 30)⟩,
        ⟨(some 32), none, .len (.t 31)⟩,
        ⟨(some 33), none, .bin .lss (.t 29) (.t 32)⟩])
     (.cond (.t 33) (.skip) (.exit 0)))
    (.seq (.block 1 (.seq (.reg (some 10) [
         ⟨(some 36), none, .fad 2 (.t 2)⟩,
         ⟨(some 37), none, .load false 1 (.t 36)⟩,
         ⟨(some 38), none, .mov (.t 5)⟩,
         ⟨(some 39), none, .iad 2 (.t 37) (.t 38)⟩,
         ⟨(some 40), none, .load true 2 (.t 39)⟩,
         ⟨(some 41), none, .fad 2 (.t 3)⟩,
         ⟨(some 42), none, .load false 1 (.t 41)⟩,
         ⟨(some 43), none, .mov (.t 5)⟩,
         ⟨(some 44), none, .iad 2 (.t 42) (.t 43)⟩,
         ⟨(some 45), none, .load true 2 (.t 44)⟩,
         ⟨(some 46), none, .eqs true 2 (.t 40) (.t 45)⟩])
      (.cond (.t 46) (.seq (.reg none [
          ⟨(some 4), none, .mov (.c (.bool false))⟩])
       (.ret)) (.skip))))
    (.reg none [
      ⟨(some 34), none, .mov (.t 5)⟩,
      ⟨(some 35), none, .bin .add (.t 34) (.c (.int .i64 1))⟩,
      ⟨(some 5), none, .mov (.t 35)⟩]))))))
 (.seq (.reg none [
    ⟨(some 4), none, .mov (.c (.bool true))⟩])
 (.ret))))⟩
theorem lcWrites_ok {F : Nat → Option IFn} {f : Nat} (hf : F f = some c_lcWrites) : PairsOk F f := by
  intro H v w l l' hv hw
  obtain ⟨h0, a, rfl, _⟩ := id hv
  obtain ⟨h0', a', rfl, _⟩ := id hw
  refine QC.mk hf rfl ?_
  refine seq_reg ?_
  simp only [go_sem, binC]
  by_cases hl : l.length = l'.length
  rotate_left
  · have hne : ((l.length : Int) != (l'.length : Int)) = true := by simp; omega
    refine seq_assoc (seq_reg ?_)
    simp only [go_sem, binC, hne]
    refine seq_cond (t := true) rfl ?_
    simp only [go_sem, binC]
    refine seq_assoc (seq_reg ?_)
    simp only [go_sem, binC]
    refine seq_ret ⟨Or.inr rfl, .bool false, by simp only [go_sem, binC], ?_, rfl⟩
    rw [decide_eq_false (fun h => hl (by rw [h]))]
  have hne : ((l.length : Int) != (l'.length : Int)) = false := by simp; omega
  refine seq_assoc (seq_reg ?_)
  simp only [go_sem, binC, hne]
  refine seq_cond (t := false) rfl ?_
  simp only [go_sem, binC]
  refine seq_skip (seq_assoc (seq_reg ?_))
  simp only [go_sem, binC]
  refine seq_block (wpc_loop ?_)
  suffices h : ∀ (k i : Nat) (e : Env), i + k = l.length → e 0 = .slice a l.length l.length → e 1 = .slice a' l'.length l'.length → e 5 = .int .i64 i → (l = l' ↔ l.drop i = l'.drop i) → W F H.length _ e _ _ from
    h l.length 0 _ (by omega) (by simp only [go_sem, binC]) (by simp only [go_sem, binC]) (by (simp only [go_sem, binC]) <;> rfl) (by simp)
  intro k
  induction k with
  | zero =>
    intro i e hi e0 e1 e5 heq
    refine lp_step ?_
    refine seq_assoc (seq_reg ?_)
    simp only [go_sem, binC, e0, e5]
    refine seq_cond (t := false) (by simp only [go_sem, binC]; rw [decide_eq_false (by omega)]) ?_
    simp only [go_sem, binC]
    refine seq_exit ?_
    simp only [go_sem, binC, thenX_e, out_e, thenX_n]
    refine seq_reg ?_
    simp only [go_sem, binC]
    refine wpc_ret ⟨Or.inr rfl, .bool true, by simp only [go_sem, binC], ?_, rfl⟩
    rw [decide_eq_true (heq.2 (by rw [List.drop_of_length_le (by omega), List.drop_of_length_le (by omega)]))]
  | succ k ih =>
    intro i e hi e0 e1 e5 heq
    have hil : i < l.length := by omega
    have hil' : i < l'.length := by omega
    obtain ⟨b, o, hv1, hg⟩ := gcP hv hil
    obtain ⟨b', o', hv2, hg'⟩ := gcP hw hil'
    simp only [Value.slice.injEq, and_true] at hv1 hv2
    subst hv1 hv2
    have hw1 : IntKind.i64.wrap ((i : Int) + 1) = ((i + 1 : Nat) : Int) := by rw [wrap_id (by omega) (by omega)]; omega
    rw [List.drop_eq_getElem_cons hil, List.drop_eq_getElem_cons hil', List.cons.injEq] at heq
    refine lp_step ?_
    refine seq_assoc (seq_reg ?_)
    simp only [go_sem, binC, e0, e5]
    refine seq_cond (t := true) (by simp only [go_sem, binC]; rw [decide_eq_true (by omega)]) ?_
    simp only [go_sem, binC]
    refine seq_skip (seq_block (seq_regD ?_))
    simp only [go_sem, binC, e0, e5]
    refine ⟨⟨by omega, by omega⟩, ?_⟩
    simp only [go_sem, binC, Int.toNat_natCast, hg, e1, e5]
    refine ⟨⟨by omega, by omega⟩, ?_⟩
    simp only [go_sem, binC, Int.toNat_natCast, hg', eqsV2]
    by_cases hq : l[i] = l'[i]
    · have hb : (!decide ((l[i].1, l[i].2) = (l'[i].1, l'[i].2))) = false := by simp [hq]
      simp only [go_sem, binC, hb]
      refine wpc_cond (t := false) (by (simp only [go_sem, binC]) <;> rfl) ?_
      simp only [go_sem, binC]
      refine wpc_skip ?_
      simp only [go_sem, binC, out_n, thenX_n]
      refine wpc_reg ?_
      simp only [go_sem, binC, e5, hw1]
      simp only [go_sem, binC, thenX_n]
      exact ih (i + 1) _ (by omega) (by simp only [go_sem, binC, e0]) (by simp only [go_sem, binC, e1]) (by simp only [go_sem, binC]) (by rw [heq]; exact ⟨fun h => h.2, fun h => ⟨hq, h⟩⟩)
    · have hb : (!decide ((l[i].1, l[i].2) = (l'[i].1, l'[i].2))) = true := by
        rw [decide_eq_false (fun h => hq (Prod.ext (by simpa using congrArg Prod.fst h) (by simpa using congrArg Prod.snd h)))]; rfl
      simp only [go_sem, binC, hb]
      refine wpc_cond (t := true) (by (simp only [go_sem, binC]) <;> rfl) ?_
      simp only [go_sem, binC]
      refine seq_reg ?_
      simp only [go_sem, binC]
      refine wpc_ret ?_
      simp only [go_sem, binC, out_r, thenX_r]
      refine ⟨Or.inr rfl, .bool false, by simp only [go_sem, binC], ?_, rfl⟩
      rw [decide_eq_false (fun h => hq (heq.1 h).1)]
def RunsOk (F : Nat → Option IFn) (f : Nat) : Prop := ∀ (H : Heap) (nv wv sv nv' wv' sv' : Value) (r r' : RunS), SlR Co.int (vw 0 H) nv r.1 → SlR Co.p2 (vw 0 H) wv r.2.1 → SlR Co.p2 (vw 0 H) sv r.2.2 → SlR Co.int (vw 0 H) nv' r'.1 → SlR Co.p2 (vw 0 H) wv' r'.2.1 → SlR Co.p2 (vw 0 H) sv' r'.2.2 → QC F f [.agg #[nv, wv, sv], .agg #[nv', wv', sv']] H (.bool (decide (r = r')))
theorem lcRun_ok {F : Nat → Option IFn} {f : Nat} (hf : F f = some c_lcRun) (gi : IntsOk F 55) (gw : PairsOk F 56) : RunsOk F f := by
  intro H nv wv sv nv' wv' sv' r r' h1 h2 h3 h1' h2' h3'
  obtain ⟨_, na, rfl, _⟩ := id h1
  obtain ⟨_, wa, rfl, _⟩ := id h2
  obtain ⟨_, sa, rfl, _⟩ := id h3
  obtain ⟨_, na', rfl, _⟩ := id h1'
  obtain ⟨_, wa', rfl, _⟩ := id h2'
  obtain ⟨_, sa', rfl, _⟩ := id h3'
  refine QC.mk hf rfl ?_
  refine seq_reg ?_
  simp only [go_sem, binC]
  refine wpc_gen fun H1 hH1 => ?_
  have hx1 : AgX [] H H1 := hH1 ▸ AgX.app [] _ _
  have hba : H1[H.length]? = some ⟨[.slice na r.1.length r.1.length, .slice wa r.2.1.length r.2.1.length, .slice sa r.2.2.length r.2.2.length], 0, 0, false, true⟩ := hH1 ▸ get_new0 _ _
  have hbb : H1[H.length + 1]? = some ⟨[.slice na' r'.1.length r'.1.length, .slice wa' r'.2.1.length r'.2.1.length, .slice sa' r'.2.2.length r'.2.2.length], 0, 0, false, true⟩ := hH1 ▸ get_new _ _ 1
  clear hH1
  have hS := agx_sub hx1
  replace h1 := h1.mono hS
  replace h2 := h2.mono hS
  replace h3 := h3.mono hS
  replace h1' := h1'.mono hS
  replace h2' := h2'.mono hS
  replace h3' := h3'.mono hS
  obtain ⟨rn, rw, rs⟩ := r
  obtain ⟨rn', rw', rs'⟩ := r'
  simp only at h1 h2 h3 h1' h2' h3' hba hbb
  have hno : ∀ e, rn ≠ rn' ∨ rw ≠ rw' ∨ rs.length ≠ rs'.length → e 4 = .bool false → fin [.t 4] (fun w' _ => w' = .bool (decide ((rn, rw, rs) = (rn', rw', rs'))) ∧ scal w' = true) .r e H1 := by
    intro e hne h4
    refine ⟨Or.inr rfl, .bool false, by simp only [resV, res1, h4], ?_, rfl⟩
    rw [decide_eq_false (fun h => by
      simp only [Prod.mk.injEq] at h
      obtain ⟨p1, p2, p3⟩ := h
      subst p1 p2 p3
      simp at hne)]
  refine seq_assoc (seq_reg ?_)
  simp only [go_sem, binC, gc_of hba, gc_of hbb, inBlk_some]
  refine op_callB (by simp only [go_sem, binC]; exact gi H1 _ _ _ _ h1 h1') (fun hb1 => ?_) (fun hb1 => ?_)
  rotate_left
  · simp only [go_sem, binC]
    refine seq_cond (t := true) rfl ?_
    simp only [go_sem, binC]
    refine seq_assoc (seq_reg ?_)
    simp only [go_sem, binC]
    exact seq_ret (hno _ (.inl (of_decide_eq_false hb1)) (by simp only [go_sem, binC]))
  simp only [go_sem, binC, gc_of hba, gc_of hbb, inBlk_some]
  refine op_callB (by simp only [go_sem, binC]; exact gw H1 _ _ _ _ h2 h2') (fun hb2 => ?_) (fun hb2 => ?_)
  rotate_left
  · simp only [go_sem, binC]
    refine seq_cond (t := true) rfl ?_
    simp only [go_sem, binC]
    refine seq_assoc (seq_reg ?_)
    simp only [go_sem, binC]
    exact seq_ret (hno _ (.inr (.inl (of_decide_eq_false hb2))) (by simp only [go_sem, binC]))
  replace hb1 := of_decide_eq_true hb1
  replace hb2 := of_decide_eq_true hb2
  by_cases hl : rs.length = rs'.length
  rotate_left
  · have hne : ((rs.length : Int) != (rs'.length : Int)) = true := by simp; omega
    simp only [go_sem, binC, gc_of hba, gc_of hbb, inBlk_some, hne]
    refine seq_cond (t := true) rfl ?_
    simp only [go_sem, binC]
    refine seq_assoc (seq_reg ?_)
    simp only [go_sem, binC]
    exact seq_ret (hno _ (.inr (.inr hl)) (by simp only [go_sem, binC]))
  have hne : ((rs.length : Int) != (rs'.length : Int)) = false := by simp; omega
  simp only [go_sem, binC, gc_of hba, gc_of hbb, inBlk_some, hne]
  refine seq_cond (t := false) rfl ?_
  simp only [go_sem, binC]
  refine seq_skip (seq_assoc (seq_reg ?_))
  simp only [go_sem, binC]
  refine seq_block (wpc_loop ?_)
  suffices h : ∀ (k i : Nat) (e : Env), i + k = rs.length → e 2 = ptr H.length 0 → e 3 = ptr (H.length + 1) 0 → e 5 = .int .i64 i → (rs = rs' ↔ rs.drop i = rs'.drop i) → W F H.length _ e _ _ from
    h rs.length 0 _ (by omega) (by (simp only [go_sem, binC]) <;> rfl) (by (simp only [go_sem, binC]) <;> rfl) (by (simp only [go_sem, binC]) <;> rfl) (by simp)
  intro k
  induction k with
  | zero =>
    intro i e hi e2 e3 e5 heq
    refine lp_step ?_
    refine seq_assoc (seq_reg ?_)
    simp only [go_sem, binC, e2, e5, gc_of hba, inBlk_some]
    refine seq_cond (t := false) (by simp only [go_sem, binC]; rw [decide_eq_false (by omega)]) ?_
    simp only [go_sem, binC]
    refine seq_exit ?_
    simp only [go_sem, binC, thenX_e, out_e, thenX_n]
    refine seq_reg ?_
    simp only [go_sem, binC]
    refine wpc_ret ⟨Or.inr rfl, .bool true, by simp only [go_sem, binC], ?_, rfl⟩
    rw [hb1, hb2, heq.2 (by rw [List.drop_of_length_le (by omega), List.drop_of_length_le (by omega)]), decide_eq_true rfl]
  | succ k ih =>
    intro i e hi e2 e3 e5 heq
    have hil : i < rs.length := by omega
    have hil' : i < rs'.length := by omega
    have hrl : rs.length ≤ 9223372036854775807 := h3.1
    obtain ⟨b, o, hv1, hg⟩ := gcP h3 hil
    obtain ⟨b', o', hv2, hg'⟩ := gcP h3' hil'
    simp only [Value.slice.injEq, and_true] at hv1 hv2
    subst hv1 hv2
    have hw1 : IntKind.i64.wrap ((i : Int) + 1) = ((i + 1 : Nat) : Int) := by rw [wrap_id (by omega) (by omega)]; omega
    rw [List.drop_eq_getElem_cons hil, List.drop_eq_getElem_cons hil', List.cons.injEq] at heq
    refine lp_step ?_
    refine seq_assoc (seq_reg ?_)
    simp only [go_sem, binC, e2, e5, gc_of hba, inBlk_some]
    refine seq_cond (t := true) (by simp only [go_sem, binC]; rw [decide_eq_true (by omega)]) ?_
    simp only [go_sem, binC]
    refine seq_skip (seq_block (seq_regD ?_))
    simp only [go_sem, binC, e2, e3, e5, gc_of hba, gc_of hbb, inBlk_some]
    refine ⟨⟨by omega, by omega⟩, ?_⟩
    simp only [go_sem, binC, Int.toNat_natCast, hg, e3, e5, gc_of hbb, inBlk_some]
    refine ⟨⟨by omega, by omega⟩, ?_⟩
    simp only [go_sem, binC, Int.toNat_natCast, hg', eqsV2]
    by_cases hq : rs[i] = rs'[i]
    · have hb : (!decide ((rs[i].1, rs[i].2) = (rs'[i].1, rs'[i].2))) = false := by simp [hq]
      simp only [go_sem, binC, hb]
      refine wpc_cond (t := false) (by (simp only [go_sem, binC]) <;> rfl) ?_
      simp only [go_sem, binC]
      refine wpc_skip ?_
      simp only [go_sem, binC, out_n, thenX_n]
      refine wpc_reg ?_
      simp only [go_sem, binC, e5, hw1]
      simp only [go_sem, binC, thenX_n]
      exact ih (i + 1) _ (by omega) (by simp only [go_sem, binC, e2]) (by simp only [go_sem, binC, e3]) (by simp only [go_sem, binC]) (by rw [heq]; exact ⟨fun h => h.2, fun h => ⟨hq, h⟩⟩)
    · have hb : (!decide ((rs[i].1, rs[i].2) = (rs'[i].1, rs'[i].2))) = true := by
        rw [decide_eq_false (fun h => hq (Prod.ext (by simpa using congrArg Prod.fst h) (by simpa using congrArg Prod.snd h)))]; rfl
      simp only [go_sem, binC, hb]
      refine wpc_cond (t := true) (by (simp only [go_sem, binC]) <;> rfl) ?_
      simp only [go_sem, binC]
      refine seq_reg ?_
      simp only [go_sem, binC]
      refine wpc_ret ?_
      simp only [go_sem, binC, out_r, thenX_r]
      refine ⟨Or.inr rfl, .bool false, by simp only [go_sem, binC], ?_, rfl⟩
      rw [decide_eq_false (fun h => hq (heq.1 (by simp only [Prod.mk.injEq] at h; exact h.2.2)).1)]
def sets (nums : List Int) (ws : List (Int × Int)) : List Int := ws.foldl (fun ns w => ns.set w.1.toNat w.2) nums
structure RunP (nums : List Int) (k : Nat) (r : RunS) (M : Nat) : Prop where
  len : r.1.length = k
  rg : ∀ x ∈ r.1, 0 ≤ x ∧ x ≤ 9
  wr : sets nums r.2.1 = r.1
  vr : ∀ w ∈ r.2.1, 0 ≤ w.1 ∧ w.1 < k
  sm : r.2.1.length + r.2.2.length ≤ M
theorem RunP.mono {nums : List Int} {k : Nat} {r : RunS} {M M' : Nat} (h : RunP nums k r M) (hM : M ≤ M') : RunP nums k r M' := ⟨h.len, h.rg, h.wr, h.vr, Nat.le_trans h.sm hM⟩
theorem runL_P0 {nums : List Int} {k : Nat} (n : Nat) (h : ∀ (s : TStep n) (r : RunS) (M : Nat) (d : Int), RunP nums k r M → stepB k n d s = true → RunP nums k (runT n s r) (M + (allT n s).length)) : ∀ (l : List (TStep n)) (r : RunS) (M : Nat) (d : Int), RunP nums k r M → l.all (stepB k n d) = true → RunP nums k (runL n l r) (M + (allL n l).length) := by
  intro l
  induction l with
  | nil =>
    intro r M d hr _
    exact hr
  | cons s l ih =>
    intro r M d hr hl
    rw [List.all_cons, Bool.and_eq_true] at hl
    have h1 := ih _ _ d (h s r M d hr hl.1) hl.2
    have h2 : (allL n (s :: l)).length = (allT n s).length + (allL n l).length := by unfold allL; rw [List.map_cons, List.flatten_cons, List.length_append]
    rw [h2, ← Nat.add_assoc]
    exact h1
theorem runT_P {nums : List Int} {k : Nat} : ∀ (n : Nat) (s : TStep n) (r : RunS) (M : Nat) (d : Int), RunP nums k r M → stepB k n d s = true → RunP nums k (runT n s r) (M + (allT n s).length)
  | 0, s, _, _, _, _, _ => s.elim
  | n + 1, (kd, vr, v, ho, th, el), r, M, d, hr, h => by
    obtain ⟨hvr, h1, h2, _⟩ := stepB_f h
    rw [allT_succ, List.length_cons, List.length_append]
    by_cases q1 : kd = 1
    · subst q1
      rw [runT_set]
      have hv := h1 rfl
      rw [← hr.len] at hv
      have hx := valN_rg hv hr.rg
      refine ⟨by rw [List.length_set]; exact hr.len, fun x hx' => ?_, ?_, fun w hw => ?_, ?_⟩
      · rcases List.mem_or_eq_of_mem_set hx' with h | rfl
        · exact hr.rg x h
        · exact hx
      · unfold sets
        rw [List.foldl_append]
        have := hr.wr
        unfold sets at this
        rw [this]
        rfl
      · simp only [List.mem_append, List.mem_singleton] at hw
        rcases hw with h | rfl
        · exact hr.vr w h
        · exact hvr
      · have := hr.sm
        simp only [List.length_append, List.length_singleton]
        omega
    by_cases q2 : kd = 2
    · obtain ⟨h3, h4⟩ := h2 q2
      subst q2
      rw [runT_if]
      split
      · exact (runL_P0 n (runT_P n) el r M (d - 1) hr h4).mono (by omega)
      · exact (runL_P0 n (runT_P n) th r M (d - 1) hr h3).mono (by omega)
    · rw [runT_tell q1 q2]
      have := hr.sm
      exact ⟨hr.len, hr.rg, hr.wr, hr.vr, by simp only [List.length_append, List.length_singleton]; omega⟩
theorem runOf_P {n : Nat} {ls : List (Int × Int)} {l : List (TStep n)} {nums : List Int} (h : numsB n (ls, l) nums = true) : RunP nums ls.length (runOf n (ls, l) nums) (allL n l).length ∧ numsB n (ls, l) (runOf n (ls, l) nums).1 = true := by
  have hB2 := h
  simp only [numsB, Bool.and_eq_true, decide_eq_true_eq, List.all_eq_true] at hB2
  obtain ⟨⟨hP, hln⟩, hall⟩ := hB2
  have hst : l.all (stepB ls.length n 3) = true := by
    simp only [progB, Bool.and_eq_true] at hP; exact hP.1.2
  have hrun : runOf n (ls, l) nums = runL n l (nums, [], []) := if_pos h
  have h0 : RunP nums ls.length (nums, [], []) 0 := ⟨hln, fun x hx => inB_iff'.1 (hall x hx), rfl, (fun w hw => by cases hw), Nat.le_refl _⟩
  have h1 := runL_P0 n (runT_P n) l _ 0 3 h0 hst
  rw [← hrun, Nat.zero_add] at h1
  refine ⟨h1, ?_⟩
  simp only [numsB, Bool.and_eq_true, decide_eq_true_eq, List.all_eq_true]
  exact ⟨⟨hP, h1.len⟩, fun x hx => inB_iff'.2 (h1.rg x hx)⟩
theorem run_bd {d : Nat} {ls : List (Int × Int)} {l : List (TStep d)} {nums : List Int} (hB : numsB d (ls, l) nums = true) (hsm : (Co.prog d).sm (ls, l)) : (runOf d (ls, l) nums).2.1.length ≤ 1000 ∧ (runOf d (ls, l) nums).2.2.length ≤ 1000 := by
  obtain ⟨P, _⟩ := runOf_P hB
  have hP : progB d (ls, l) = true := by
    have := hB
    simp only [numsB, Bool.and_eq_true] at this
    exact this.1.1
  have h1 := progB_cnt hP hsm
  simp only at h1
  have h2 := P.sm
  omega
/-- What has been set and told ahead stands ahead. -/
def shR (w t : List (Int × Int)) (r : RunS) : RunS := (r.1, w ++ r.2.1, t ++ r.2.2)
theorem runL_sh0 {w t : List (Int × Int)} (n : Nat) (h : ∀ (s : TStep n) (r : RunS), runT n s (shR w t r) = shR w t (runT n s r)) : ∀ (l : List (TStep n)) (r : RunS), runL n l (shR w t r) = shR w t (runL n l r) := by
  intro l
  induction l with
  | nil => intro r; rfl
  | cons s l ih =>
    intro r
    show runL n l (runT n s (shR w t r)) = shR w t (runL n l (runT n s r))
    rw [h, ih]
theorem runT_sh {w t : List (Int × Int)} : ∀ (n : Nat) (s : TStep n) (r : RunS), runT n s (shR w t r) = shR w t (runT n s r)
  | 0, s, _ => s.elim
  | n + 1, (kd, vr, v, ho, th, el), r => by
    by_cases q1 : kd = 1
    · subst q1
      rw [runT_set, runT_set]
      simp [shR]
    · by_cases q2 : kd = 2
      · subst q2
        rw [runT_if, runT_if]
        show (if r.1.getD vr.toNat 0 = 0 then _ else _) = _
        split
        · exact runL_sh0 n (runT_sh n) el r
        · exact runL_sh0 n (runT_sh n) th r
      · rw [runT_tell q1 q2, runT_tell q1 q2]
        simp [shR]
theorem runL_sh {w t : List (Int × Int)} {n : Nat} (l : List (TStep n)) (r : RunS) : runL n l (shR w t r) = shR w t (runL n l r) := runL_sh0 n (runT_sh n) l r
theorem runL_cut {n : Nat} (c : Nat) (l : List (TStep n)) (nums : List Int) : runL n l (nums, [], []) = shR (runL n (l.take c) (nums, [], [])).2.1 (runL n (l.take c) (nums, [], [])).2.2 (runL n (l.drop c) ((runL n (l.take c) (nums, [], [])).1, [], [])) := by
  have h1 : runL n l (nums, [], []) = runL n (l.drop c) (runL n (l.take c) (nums, [], [])) := by
    conv => lhs; rw [← List.take_append_drop c l]
    exact List.foldl_append
  rw [h1, ← runL_sh]
  simp [shR]
theorem numsB_sub {n : Nat} {ls : List (Int × Int)} {l l' : List (TStep n)} {nums : List Int} (h : numsB n (ls, l) nums = true) (hsm : (Co.prog n).sm (ls, l)) (h1 : ∀ s ∈ l', s ∈ l) (h2 : (allL n l').length ≤ (allL n l).length) : numsB n (ls, l') nums = true := by
  have hP : progB n (ls, l) = true := by
    have := h
    simp only [numsB, Bool.and_eq_true] at this
    exact this.1.1
  have h3 := progB_cnt hP hsm
  simp only at h3
  have hst : l.all (stepB ls.length n 3) = true := by
    simp only [progB, Bool.and_eq_true] at hP; exact hP.1.2
  refine numsB_new h ?_ (by rw [cntL_len]; omega) (by rw [cntL_len]; omega)
  rw [List.all_eq_true] at hst ⊢
  exact fun s hs => hst s (h1 s hs)
theorem allL_cut {n : Nat} (c : Nat) (l : List (TStep n)) : (allL n l).length = (allL n (l.take c)).length + (allL n (l.drop c)).length := by
  rw [← List.length_append]
  unfold allL
  rw [← List.flatten_append, ← List.map_append, List.take_append_drop]
theorem sm_sub {n : Nat} {ls : List (Int × Int)} {l l' : List (TStep n)} (hsm : (Co.prog n).sm (ls, l)) (h1 : ∀ s ∈ l', s ∈ l) (h2 : l'.length ≤ l.length) : (Co.prog n).sm (ls, l') := ⟨hsm.1, Nat.le_trans h2 hsm.2.1, fun s hs => hsm.2.2 s (h1 s hs)⟩
theorem sl_takeN {α : Type} {A : Co α} {V : Vw} {a : Option Addr} {l : List α} (h : SlR A V (.slice a l.length l.length) l) (c : Nat) : SlR A V (.slice (a.map fun a => ⟨a.block, a.off, none⟩) (l.take c).length (l.take c).length) (l.take c) := by
  obtain ⟨h0, a', e, h1⟩ := h
  simp only [Value.slice.injEq] at e
  obtain ⟨rfl, _⟩ := e
  refine ⟨by rw [List.length_take]; omega, _, rfl, ?_⟩
  rcases h1 with rfl | ⟨b, o, rfl, h1⟩
  · exact .inl (by simp)
  · refine .inr ⟨b, o, rfl, fun i hi => ?_⟩
    have hi' := hi
    rw [List.length_take] at hi'
    obtain ⟨cs, h2, h3⟩ := h1 i (by omega)
    exact ⟨cs, h2, by rw [List.getElem_take]; exact h3⟩
theorem sl_dropN {α : Type} {A : Co α} {V : Vw} {a : Option Addr} {l : List α} (h : SlR A V (.slice a l.length l.length) l) (c : Nat) : SlR A V (.slice (a.map fun a => ⟨a.block, a.off + c * A.w, none⟩) (l.drop c).length (l.drop c).length) (l.drop c) := by
  obtain ⟨h0, a', e, h1⟩ := h
  simp only [Value.slice.injEq] at e
  obtain ⟨rfl, _⟩ := e
  refine ⟨by rw [List.length_drop]; omega, _, rfl, ?_⟩
  rcases h1 with rfl | ⟨b, o, rfl, h1⟩
  · exact .inl (by simp)
  · refine .inr ⟨b, o + c * A.w, rfl, fun i hi => ?_⟩
    have hi' := hi
    rw [List.length_drop] at hi'
    obtain ⟨cs, h2, h3⟩ := h1 (c + i) (by omega)
    refine ⟨cs, ?_, by rw [List.getElem_drop]; exact h3⟩
    rw [show o + c * A.w + i * A.w = o + (c + i) * A.w by rw [Nat.add_mul]; omega]
    exact h2
section
variable {α : Type} {A : Co α} {fl : α → List Value} {es et : Nat} {H : Heap} {p d : Nat} {r : List IOper} {e : Env} {S : List (Nat × Blk)} {Q : Env → Heap → Prop}
theorem heads_appB0 {lo bytes tx ty : Nat} {l l3 : List α} (hA : A.w = es) (hw : ∀ a, (fl a).length = es) (hes : es ≠ 0) (hfl : ∀ {V : Vw} {cs : List Value} {a : α}, A.rd V cs a → cs = fl a) (hsc : ∀ a, (fl a).all scal1 = true)
    (hT : TmpL A fl es et lo H S (e tx) l) (htt : tx ≠ ty) (hy : SlR A (vw 0 H) (e ty) l3) (hd : l3 ≠ [] → ∀ b o n c b' n', e ty = .slice (some ⟨b, o, none⟩) n c → e tx = sli b' 0 n' → lo ≤ b' → b ≠ b') (hl : l3.length ≤ 1048576) (hby : bytes ≤ 1048576)
    (k : ∀ S' L v, SlR A (vw 0 (H ++ L)) v (l ++ l3) → Wh p r (putE e (some d) v) (H ++ L) S' Q) : Wh (p + 1) (⟨some d, none, .app es et bytes false (.t tx) (.t ty)⟩ :: r) e H S Q := by
  obtain ⟨hl0, hrd, hT⟩ := hT
  by_cases h3 : l3 = []
  · subst h3
    obtain ⟨_, a, ha, _⟩ := hy
    rw [List.append_nil] at k
    rcases hT with ⟨rfl, b, hx, hb⟩ | ⟨b, kb, hne, hx, hlo, hm, rfl, hb⟩
    · have hk := k S [] (sli b 0 0) ⟨by simp, _, rfl, .inl rfl⟩
      rw [List.append_nil] at hk
      refine heads_pure ?_ hk
      simp only [iop, Opd.ev, hx, ha, sli, List.length_nil]
      rfl
    · have hk := k S [] (sli b 0 l.length) (by rw [List.append_nil]; exact blk_slF hA hw hb hrd (by omega))
      rw [List.append_nil] at hk
      refine heads_pure ?_ hk
      simp only [iop, Opd.ev, hx, ha, sli, List.length_nil]
      rfl
  · obtain ⟨b2, o2, hv, hg, hb2, hrd3⟩ := sl_flat hA hw hes hfl hy h3
    have hne3 : l3.length ≠ 0 := fun h => h3 (List.eq_nil_of_length_eq_zero h)
    have hbytes : (l.length + l3.length) * bytes ≤ 2097152 * 1048576 := Nat.mul_le_mul (by omega) hby
    have hbytes3 : l3.length * bytes ≤ 1048576 * 1048576 := Nat.mul_le_mul hl hby
    have hnew : ∀ (ap so : Bool), SlR A (vw 0 (H ++ [⟨l.flatMap fl ++ l3.flatMap fl, es, et, ap, so⟩])) (sli H.length 0 (l.length + l3.length)) (l ++ l3) := fun ap so => by
      have := blk_slF (A := A) (fl := fl) (l := l ++ l3) (b := H.length) (H := H ++ [⟨l.flatMap fl ++ l3.flatMap fl, es, et, ap, so⟩]) hA hw (et := et) (ap := ap) (so := so) (by simp) (fun a ha => by
        rcases List.mem_append.1 ha with h | h
        · exact A.mono (agx_sub (AgX.app [] H _)) (hrd a h)
        · exact A.mono (agx_sub (AgX.app [] H _)) (hrd3 a h)) (by rw [List.length_append]; omega)
      rwa [List.length_append] at this
    rcases hT with ⟨rfl, b, hx, hb⟩ | ⟨b, kb, hne, hx, hlo, hm, rfl, hb⟩
    · have hbl := (List.getElem?_eq_some_iff.1 hb).1
      have hk := k S [⟨l3.flatMap fl, es, et, true, true⟩] (sli H.length 0 l3.length) (by simpa using hnew true true)
      refine heads_plain ?_ hk
      simp only [iop, Opd.ev, hx, hv, sli, if_neg hne3, hg, hb]
      rw [if_neg (by omega), if_pos (by refine ⟨by trivial, by trivial, by trivial, by trivial, by trivial, by trivial, ?_, ?_⟩ <;> omega)]
    · have hnel : l.length ≠ 0 := fun h => hne (List.eq_nil_of_length_eq_zero h)
      refine Wh.step (v := sli H.length 0 (l.length + l3.length)) (H' := H ++ [⟨l.flatMap fl ++ l3.flatMap fl, es, et, true, false⟩]) (.inr (.inr ⟨es, et, bytes, tx, ty, b, l.length, l3.length, ⟨b2, o2, none⟩, l3.length, _, l3.flatMap fl, rfl, htt, hx, hv, hnel, hne3, hes, hm, rfl, rfl, rfl, flat_len hw l, hd h3 _ _ _ _ _ _ hv hx hlo, hg, ?_, by omega, by omega, rfl, rfl⟩)) ?_
      · rw [List.all_eq_true]
        intro v hvm
        obtain ⟨a, _, ha⟩ := List.mem_flatMap.1 hvm
        exact List.all_eq_true.1 (hsc a) v ha
      · exact k _ [_] _ (hnew true false)
end
theorem sl_lt {α : Type} {A : Co α} {H : Heap} {l : List α} {b o n c : Nat} (h : SlR A (vw 0 H) (.slice (some ⟨b, o, none⟩) n c) l) (hl : l ≠ []) : b < H.length := by
  obtain ⟨_, a, e, h1⟩ := h
  simp only [Value.slice.injEq] at e
  obtain ⟨rfl, _⟩ := e
  obtain ⟨b', o', e2, h2⟩ := h1.resolve_left hl
  simp only [Option.some.injEq, Addr.mk.injEq, and_true] at e2
  obtain ⟨rfl, rfl⟩ := e2
  obtain ⟨cs, h3, _⟩ := h2 0 (List.length_pos_iff.2 hl)
  have h4 := rng_gc h3
  unfold getCells at h4
  cases hx : H[b]? with
  | none => rw [hx] at h4; cases h4
  | some k => exact (List.getElem?_eq_some_iff.1 hx).1
theorem p2_fl {V : Vw} {cs : List Value} {a : Int × Int} (h : Co.p2.rd V cs a) : cs = fp a := by
  obtain ⟨_, _, rfl, ⟨rfl, _⟩, ⟨rfl, _⟩⟩ := h
  rfl
theorem numsB_mix {n : Nat} {ls : List (Int × Int)} {l l' : List (TStep n)} {nums nums' : List Int} (h : numsB n (ls, l) nums = true) (h' : numsB n (ls, l') nums' = true) : numsB n (ls, l) nums' = true := by
  simp only [numsB, Bool.and_eq_true] at h h' ⊢
  exact ⟨⟨h.1.1, h'.1.2⟩, h'.2⟩
end Go.Proofs.YtmakdcbpohlacaaI
end
section
/- The law FnRunCut on the ideal machine. -/
set_option linter.unusedVariables false
set_option linter.unusedSimpArgs false
namespace Go.Proofs.YtmakdcbpohlacaaI
open Go Go.RowKit
def c_lawRC : IFn := ⟨2, 121, [.t 4],
 .seq (.reg none [
    ⟨(some 4), none, .mov (.c (.bool false))⟩])
 (.seq (.seq (.reg none [
     ⟨(some 17), none, .mov (.t 0)⟩,
     ⟨(some 18), none, .len (.t 17)⟩,
     ⟨(some 19), none, .bin .gtr (.t 18) (.c (.int .i64 1048576))⟩,
     ⟨(some 20), none, .mov (.t 19)⟩,
     ⟨(some 21), (some (20, false)), .mov (.t 1)⟩,
     ⟨(some 22), (some (20, false)), .len (.t 21)⟩,
     ⟨(some 23), (some (20, false)), .bin .gtr (.t 22) (.c (.int .i64 1048576))⟩,
     ⟨(some 24), none, .pick (.t 20) (.c (.bool true)) (.t 23)⟩])
  (.cond (.t 24) (.seq (.reg none [
      ⟨(some 4), none, .mov (.c (.bool true))⟩])
   (.ret)) (.skip)))
 (.seq (.reg none [
    ⟨(some 26), none, .mov (.t 0)⟩,
    ⟨(some 27), none, .call .k (.f 19) [(.t 26)]⟩,
    ⟨(some 25), none, .mov (.t 27)⟩,
    ⟨(some 28), none, .ext (.t 25) 0⟩,
    ⟨(some 29), none, .ext (.t 25) 1⟩,
    ⟨(some 5), none, .new [(.slice none 0 0), (.slice none 0 0)]⟩,
    ⟨none, none, .store 2 (.t 5) (.t 28)⟩,
    ⟨(some 6), none, .mov (.t 29)⟩])
 (.seq (.reg none [
    ⟨(some 31), none, .load true 2 (.t 5)⟩,
    ⟨(some 32), none, .mov (.t 6)⟩,
    ⟨(some 33), none, .call .k (.f 20) [(.t 31), (.t 32)]⟩,
    ⟨(some 30), none, .mov (.t 33)⟩,
    ⟨(some 34), none, .ext (.t 30) 0⟩,
    ⟨(some 35), none, .ext (.t 30) 1⟩,
    ⟨(some 7), none, .new [(.slice none 0 0), (.slice none 0 0), (.slice none 0 0)]⟩,
    ⟨none, none, .store 3 (.t 7) (.t 34)⟩,
    ⟨(some 8), none, .mov (.t 35)⟩])
 (.seq (.reg none [
    ⟨(some 37), none, .load true 2 (.t 5)⟩,
    ⟨(some 38), none, .mov (.t 6)⟩,
    ⟨(some 39), none, .call .k (.f 21) [(.t 37), (.t 38)]⟩,
    ⟨(some 36), none, .mov (.t 39)⟩,
    ⟨(some 40), none, .ext (.t 36) 0⟩,
    ⟨(some 41), none, .ext (.t 36) 1⟩,
    ⟨(some 9), none, .new [(.slice none 0 0), (.slice none 0 0), (.slice none 0 0)]⟩,
    ⟨none, none, .store 3 (.t 9) (.t 40)⟩,
    ⟨(some 10), none, .mov (.t 41)⟩])
 (.seq (.seq (.reg none [
     ⟨(some 42), none, .mov (.t 10)⟩,
     ⟨(some 43), none, .mov (.t 8)⟩,
     ⟨(some 44), none, .beq true (.t 42) (.t 43)⟩,
     ⟨(some 45), none, .mov (.t 44)⟩,
     ⟨(some 46), (some (45, false)), .load true 3 (.t 9)⟩,
     ⟨(some 47), (some (45, false)), .load true 3 (.t 7)⟩,
     ⟨(some 48), (some (45, false)), .call .q (.f 22) [(.t 46), (.t 47)]⟩,
     ⟨(some 49), (some (45, false)), .un .not (.t 48)⟩,
     ⟨(some 50), none, .pick (.t 45) (.c (.bool true)) (.t 49)⟩,
     ⟨(some 51), none, .mov (.t 50)⟩,
     ⟨(some 52), (some (51, false)), .mov (.t 10)⟩,
     ⟨(some 53), (some (51, false)), .un .not (.t 52)⟩,
     ⟨(some 54), none, .pick (.t 51) (.c (.bool true)) (.t 53)⟩])
  (.cond (.t 54) (.seq (.reg none [
      ⟨(some 55), none, .mov (.t 10)⟩,
      ⟨(some 56), none, .mov (.t 8)⟩,
      ⟨(some 57), none, .beq false (.t 55) (.t 56)⟩,
      ⟨(some 58), none, .mov (.t 57)⟩,
      ⟨(some 59), (some (58, true)), .load true 3 (.t 9)⟩,
      ⟨(some 60), (some (58, true)), .load true 3 (.t 7)⟩,
      ⟨(some 61), (some (58, true)), .call .q (.f 22) [(.t 59), (.t 60)]⟩,
      ⟨(some 62), none, .pick (.t 58) (.t 61) (.c (.bool false))⟩,
      ⟨(some 4), none, .mov (.t 62)⟩])
   (.ret)) (.skip)))
 (.seq (.reg none [
    ⟨(some 63), none, .mov (.t 1)⟩,
    ⟨(some 64), none, .len (.t 63)⟩,
    ⟨(some 65), none, .fad 1 (.t 5)⟩,
    ⟨(some 66), none, .load false 1 (.t 65)⟩,
    ⟨(some 67), none, .len (.t 66)⟩,
    ⟨(some 68), none, .bin .add (.t 67) (.c (.int .i64 1))⟩,
    ⟨(some 69), none, .bin .rem (.t 64) (.t 68)⟩,
    ⟨(some 11), none, .mov (.t 69)⟩])
 (.seq (.regW 13 [
    ⟨(some 71), none, .fad 0 (.t 5)⟩,
    ⟨(some 72), none, .load false 1 (.t 71)⟩,
    ⟨(some 73), none, .fad 1 (.t 5)⟩,
    ⟨(some 74), none, .load false 1 (.t 73)⟩,
    ⟨(some 75), none, .mov (.t 11)⟩,
    ⟨(some 76), none, .sub 8 (.t 74) none (some (.t 75))⟩,
    ⟨(some 77), none, .build [(.slice none 0 0), (.slice none 0 0)] [(0, 1, (.t 72)), (1, 1, (.t 76))]⟩,
    ⟨(some 78), none, .mov (.t 6)⟩,
    ⟨(some 79), none, .call .k (.f 21) [(.t 77), (.t 78)]⟩,
    ⟨(some 70), none, .mov (.t 79)⟩,
    ⟨(some 80), none, .ext (.t 70) 0⟩,
    ⟨(some 81), none, .ext (.t 70) 1⟩,
    ⟨(some 12), none, .new [(.slice none 0 0), (.slice none 0 0), (.slice none 0 0)]⟩,
    ⟨none, none, .store 3 (.t 12) (.t 80)⟩,
    ⟨(some 13), none, .mov (.t 81)⟩])
 (.seq (.regW 14 [
    ⟨(some 83), none, .fad 0 (.t 5)⟩,
    ⟨(some 84), none, .load false 1 (.t 83)⟩,
    ⟨(some 85), none, .fad 1 (.t 5)⟩,
    ⟨(some 86), none, .load false 1 (.t 85)⟩,
    ⟨(some 87), none, .mov (.t 11)⟩,
    ⟨(some 88), none, .sub 8 (.t 86) (some (.t 87)) none⟩,
    ⟨(some 89), none, .build [(.slice none 0 0), (.slice none 0 0)] [(0, 1, (.t 84)), (1, 1, (.t 88))]⟩,
    ⟨(some 90), none, .fad 0 (.t 12)⟩,
    ⟨(some 91), none, .load false 1 (.t 90)⟩,
    ⟨(some 92), none, .call .k (.f 21) [(.t 89), (.t 91)]⟩,
    ⟨(some 82), none, .mov (.t 92)⟩,
    ⟨(some 93), none, .ext (.t 82) 0⟩,
    ⟨(some 94), none, .ext (.t 82) 1⟩,
    ⟨(some 14), none, .new [(.slice none 0 0), (.slice none 0 0), (.slice none 0 0)]⟩,
    ⟨none, none, .store 3 (.t 14) (.t 93)⟩,
    ⟨(some 15), none, .mov (.t 94)⟩])
 (.seq (.reg (some 18) [
    ⟨(some 95), none, .fad 0 (.t 14)⟩,
    ⟨(some 96), none, .load false 1 (.t 95)⟩,
    ⟨(some 97), none, .lit 2 109 0 [] []⟩,
    ⟨(some 98), none, .fad 1 (.t 12)⟩,
    ⟨(some 99), none, .load false 1 (.t 98)⟩,
    ⟨(some 100), none, .app 2 109 16 false (.t 97) (.t 99)⟩,
    ⟨(some 101), none, .fad 1 (.t 14)⟩,
    ⟨(some 102), none, .load false 1 (.t 101)⟩,
    ⟨(some 103), none, .app 2 109 16 false (.t 100) (.t 102)⟩,
    ⟨(some 104), none, .lit 2 81 0 [] []⟩,
    ⟨(some 105), none, .fad 2 (.t 12)⟩,
    ⟨(some 106), none, .load false 1 (.t 105)⟩,
    ⟨(some 107), none, .app 2 81 16 false (.t 104) (.t 106)⟩,
    ⟨(some 108), none, .fad 2 (.t 14)⟩,
    ⟨(some 109), none, .load false 1 (.t 108)⟩,
    ⟨(some 110), none, .app 2 81 16 false (.t 107) (.t 109)⟩,
    ⟨(some 111), none, .build [(.slice none 0 0), (.slice none 0 0), (.slice none 0 0)] [(0, 1, (.t 96)), (1, 1, (.t 103)), (2, 1, (.t 110))]⟩,
    ⟨(some 16), none, .new [(.slice none 0 0), (.slice none 0 0), (.slice none 0 0)]⟩,
    ⟨none, none, .store 3 (.t 16) (.t 111)⟩])
 (.seq (.reg none [
    ⟨(some 112), none, .mov (.t 13)⟩,
    ⟨(some 113), none, .mov (.t 112)⟩,
    ⟨(some 114), (some (113, true)), .mov (.t 15)⟩,
    ⟨(some 115), none, .pick (.t 113) (.t 114) (.c (.bool false))⟩,
    ⟨(some 116), none, .mov (.t 115)⟩,
    ⟨(some 117), (some (116, true)), .load true 3 (.t 16)⟩,
    ⟨(some 118), (some (116, true)), .load true 3 (.t 9)⟩,
    ⟨(some 119), (some (116, true)), .call .q (.f 22) [(.t 117), (.t 118)]⟩,
    ⟨(some 120), none, .pick (.t 116) (.t 119) (.c (.bool false))⟩,
    ⟨(some 4), none, .mov (.t 120)⟩])
 (.ret)))))))))))⟩
set_option maxHeartbeats 4000000 in
theorem lawRC_ok {F : Nat → Option IFn} {f : Nat} (hf : F f = some c_lawRC) (gd : DrawNumsOk F 19) (gs : RunOk F 20) (gr : RunOk F 21) (glr : RunsOk F 22) : LawB2 F f := by
  intro H v w code more hv hw
  have hv0 := hv
  obtain ⟨h0, a, rfl, _⟩ := hv
  obtain ⟨hm0, am, rfl, _⟩ := hw
  refine QC.mk hf rfl ?_
  refine seq_reg ?_
  simp only [go_sem, binC]
  by_cases hbig : 1048576 < (code.length : Int)
  · refine seq_assoc (seq_reg ?_)
    simp only [go_sem, binC, decide_eq_true hbig]
    refine seq_cond (t := true) rfl ?_
    simp only [go_sem, binC]
    refine seq_assoc (seq_reg ?_)
    simp only [go_sem, binC]
    exact seq_ret ⟨Or.inr rfl, .bool true, by simp only [go_sem, binC], rfl, rfl⟩
  by_cases hbig2 : 1048576 < (more.length : Int)
  · refine seq_assoc (seq_reg ?_)
    simp only [go_sem, binC, decide_eq_false hbig, decide_eq_true hbig2]
    refine seq_cond (t := true) rfl ?_
    simp only [go_sem, binC]
    refine seq_assoc (seq_reg ?_)
    simp only [go_sem, binC]
    exact seq_ret ⟨Or.inr rfl, .bool true, by simp only [go_sem, binC], rfl, rfl⟩
  refine seq_assoc (seq_reg ?_)
  simp only [go_sem, binC, decide_eq_false hbig, decide_eq_false hbig2]
  refine seq_cond (t := false) rfl ?_
  simp only [go_sem, binC]
  refine seq_skip (seq_reg ?_)
  simp only [go_sem, binC]
  obtain ⟨d, lv, sv, nv, ls, l, nums, H1, k, hx, r1, r2, r3, r4⟩ := gd H _ code hv0
  have hl1 := hx.1
  have olv : one lv = true := by obtain ⟨_, a, rfl, _⟩ := r1; rfl
  have osv : one sv = true := by obtain ⟨_, a, rfl, _⟩ := r2; rfl
  refine op_callK (by simp only [go_sem, binC]; exact k) ?_
  simp only [go_sem, binC, olv, osv]
  refine ⟨by omega, ?_⟩
  refine wpc_gen fun H2 hH2 => ?_
  have hb : H2[H1.length]? = some ⟨[lv, sv], 0, 0, false, true⟩ := hH2 ▸ get_new0 _ _
  have hS : Sub (vw 0 H1) (vw 0 H2) := hH2 ▸ vw_app 0 H1 _
  have hl2 : H2.length = H1.length + 1 := by rw [hH2, List.length_append]; rfl
  replace r1 := r1.mono hS
  replace r2 := r2.mono hS
  replace r4 := r4.mono hS
  clear hH2 hS
  obtain ⟨hln, na0, hnv, _⟩ := id r4
  subst hnv
  obtain ⟨hlls, la0, hlv, _⟩ := id r1
  subst hlv
  obtain ⟨hlsv, sa0, hsv, _⟩ := id r2
  subst hsv
  refine seq_reg ?_
  simp only [go_sem, binC, gc_of hb, inBlk_some, osv]
  obtain ⟨nw, ww, tw, H3, k3, hx3, s1, s2, s3⟩ := gs H2 d _ _ _ ls l nums r1 r2 r3 r4
  obtain ⟨_, nwa, rfl, _⟩ := id s1
  obtain ⟨_, wwa, rfl, _⟩ := id s2
  obtain ⟨_, twa, rfl, _⟩ := id s3
  have hl3 := hx3.1
  refine op_callK (by simp only [go_sem, binC]; exact k3) ?_
  simp only [go_sem, binC]
  refine ⟨by omega, ?_⟩
  refine wpc_gen fun H4 hH4 => ?_
  have hx4 : AgX [] H3 H4 := hH4 ▸ AgX.app [] _ _
  have hbw : H4[H3.length]? = some ⟨[.slice nwa (runOf d (ls, l) nums).1.length (runOf d (ls, l) nums).1.length, .slice wwa (runOf d (ls, l) nums).2.1.length (runOf d (ls, l) nums).2.1.length, .slice twa (runOf d (ls, l) nums).2.2.length (runOf d (ls, l) nums).2.2.length], 0, 0, false, true⟩ := hH4 ▸ get_new0 _ _
  have hl4' : H4.length = H3.length + 1 := by rw [hH4, List.length_append]; rfl
  clear hH4
  have hx24 := hx3.tr hx4
  have hb4 := hx24.get hb (by simp)
  have hS4 := agx_sub hx24
  refine seq_reg ?_
  simp only [go_sem, binC, gc_of hb4, inBlk_some, osv]
  obtain ⟨nx, wx, tx, H5, k5, hx5, t1, t2, t3⟩ := gr H4 d _ _ _ ls l nums (r1.mono hS4) (r2.mono hS4) r3 (r4.mono hS4)
  obtain ⟨_, nxa, rfl, _⟩ := id t1
  obtain ⟨_, wxa, rfl, _⟩ := id t2
  obtain ⟨_, txa, rfl, _⟩ := id t3
  have hl5 := hx5.1
  refine op_callK (by simp only [go_sem, binC]; exact k5) ?_
  simp only [go_sem, binC]
  refine ⟨by omega, ?_⟩
  refine wpc_gen fun H6 hH6 => ?_
  have hx6 : AgX [] H5 H6 := hH6 ▸ AgX.app [] _ _
  have hbx : H6[H5.length]? = some ⟨[.slice nxa (runOf d (ls, l) nums).1.length (runOf d (ls, l) nums).1.length, .slice wxa (runOf d (ls, l) nums).2.1.length (runOf d (ls, l) nums).2.1.length, .slice txa (runOf d (ls, l) nums).2.2.length (runOf d (ls, l) nums).2.2.length], 0, 0, false, true⟩ := hH6 ▸ get_new0 _ _
  have hl6 : H6.length = H5.length + 1 := by rw [hH6, List.length_append]; rfl
  clear hH6
  have hx46 := hx5.tr hx6
  have hx26 := hx24.tr hx46
  have hb6 := hx46.get hb4 (by simp)
  have hbw6 := hx46.get hbw (by simp)
  replace r1 := r1.mono (agx_sub hx26)
  replace r2 := r2.mono (agx_sub hx26)
  replace r4 := r4.mono (agx_sub hx26)
  replace s1 := s1.mono (agx_sub (hx4.tr hx46))
  replace s2 := s2.mono (agx_sub (hx4.tr hx46))
  replace s3 := s3.mono (agx_sub (hx4.tr hx46))
  replace t1 := t1.mono (agx_sub hx6)
  replace t2 := t2.mono (agx_sub hx6)
  replace t3 := t3.mono (agx_sub hx6)
  have hEq := glr H6 _ _ _ _ _ _ _ _ t1 t2 t3 s1 s2 s3
  rw [decide_eq_true rfl] at hEq
  have hl2 := hx.1
  have hl24 := hx24.1
  clear k k3 k5
  cases hB : numsB d (ls, l) nums with
  | false =>
    refine seq_assoc (seq_reg ?_)
    simp only [go_sem, binC, hB, beq_self_eq_true, bne_self_eq_false, gc_of hbw6, gc_of hbx, inBlk_some]
    refine op_callQ (by simp only [go_sem, binC]; exact hEq) ?_
    simp only [go_sem, binC]
    refine seq_cond (t := true) rfl ?_
    simp only [go_sem, binC]
    refine seq_assoc (seq_reg ?_)
    simp only [go_sem, binC, hB, beq_self_eq_true, bne_self_eq_false, gc_of hbw6, gc_of hbx, inBlk_some]
    refine op_callQ (by simp only [go_sem, binC]; exact hEq) ?_
    simp only [go_sem, binC]
    exact seq_ret ⟨Or.inr rfl, .bool true, by simp only [go_sem, binC], rfl, rfl⟩
  | true =>
  obtain ⟨hnl, hl4, hrg⟩ := numsB_len hB
  refine seq_assoc (seq_reg ?_)
  simp only [go_sem, binC, hB, beq_self_eq_true, bne_self_eq_false, gc_of hbw6, gc_of hbx, inBlk_some]
  refine op_callQ (by simp only [go_sem, binC]; exact hEq) ?_
  simp only [go_sem, binC]
  refine seq_cond (t := false) rfl ?_
  simp only [go_sem, binC]
  clear hEq s1 s2 s3 hbw6
  have hll : l.length ≤ 1048576 := r3.2.1
  have hw : IntKind.i64.wrap ((l.length : Int) + 1) = ((l.length + 1 : Nat) : Int) := by rw [wrap_id (by omega) (by omega)]; omega
  have hv : binI .rem .i64 (more.length : Int) ((l.length + 1 : Nat) : Int) = some (.int .i64 ((more.length % (l.length + 1) : Nat) : Int)) := by rw [rem_eq (by omega), Int.tmod_eq_emod_of_nonneg (by omega)]; rfl
  refine seq_skip (seq_reg ?_)
  simp only [go_sem, binC, gc_of hb6, inBlk_some, hw, hv]
  have hcl := Nat.mod_lt more.length (show 0 < l.length + 1 by omega)
  generalize more.length % (l.length + 1) = c at hcl hv ⊢
  clear hv hw
  have hN1 : numsB d (ls, l.take c) nums = true := numsB_sub hB r3 (fun s h => List.mem_of_mem_take h) (by rw [allL_cut c l]; omega)
  have hm1 : (Co.prog d).sm (ls, l.take c) := sm_sub r3 (fun s h => List.mem_of_mem_take h) (by rw [List.length_take]; omega)
  have hm2 : (Co.prog d).sm (ls, l.drop c) := sm_sub r3 (fun s h => List.mem_of_mem_drop h) (by rw [List.length_drop]; omega)
  have hN2 : numsB d (ls, l.drop c) (runOf d (ls, l.take c) nums).1 = true := numsB_mix (numsB_sub hB r3 (fun s h => List.mem_of_mem_drop h) (by rw [allL_cut c l]; omega)) (runOf_P hN1).2
  have hbd1 := run_bd hN1 hm1
  have hbd2 := run_bd hN2 hm2
  have hcut : runOf d (ls, l) nums = ((runOf d (ls, l.drop c) (runOf d (ls, l.take c) nums).1).1, (runOf d (ls, l.take c) nums).2.1 ++ (runOf d (ls, l.drop c) (runOf d (ls, l.take c) nums).1).2.1, (runOf d (ls, l.take c) nums).2.2 ++ (runOf d (ls, l.drop c) (runOf d (ls, l.take c) nums).1).2.2) := by
    have e1 : runOf d (ls, l) nums = runL d l (nums, [], []) := if_pos hB
    have e2 : runOf d (ls, l.take c) nums = runL d (l.take c) (nums, [], []) := if_pos hN1
    have e3 : ∀ ns, numsB d (ls, l.drop c) ns = true → runOf d (ls, l.drop c) ns = runL d (l.drop c) (ns, [], []) := fun ns h => if_pos h
    rw [e3 _ hN2, e2, e1, runL_cut c l nums]
    rfl
  have hsub1 : ∀ e' : Env, e' 75 = .int .i64 (c : Int) → subV 8 (.slice sa0 l.length l.length) e' none (some (.t 75)) = some (.slice (sa0.map fun a => ⟨a.block, a.off, none⟩) (l.take c).length (l.take c).length) := fun e' h => by
    have : (c : Int) ≤ l.length := by omega
    simp [subV, subB, Opd.ev, h, this, Nat.min_eq_left (show c ≤ l.length by omega)]
  have hsub2 : ∀ e' : Env, e' 87 = .int .i64 (c : Int) → subV 8 (.slice sa0 l.length l.length) e' (some (.t 87)) none = some (.slice (sa0.map fun a => ⟨a.block, a.off + c * 8, none⟩) (l.drop c).length (l.drop c).length) := fun e' h => by
    have : (c : Int) ≤ l.length := by omega
    simp [subV, subB, Opd.ev, h, this]
  have rT : SlR (Co.step d) (vw 0 H6) (.slice (sa0.map fun a => ⟨a.block, a.off, none⟩) (l.take c).length (l.take c).length) (l.take c) := sl_takeN r2 c
  have rD : SlR (Co.step d) (vw 0 H6) (.slice (sa0.map fun a => ⟨a.block, a.off + c * 8, none⟩) (l.drop c).length (l.drop c).length) (l.drop c) := by
    have := sl_dropN r2 c
    rwa [show (Co.step d).w = 8 from step_w d] at this
  obtain ⟨np, wp, tp, Hp, kp, hxp, up1, up2, up3⟩ := gr H6 d _ _ _ ls (l.take c) nums r1 rT hm1 r4
  rw [hN1] at kp
  generalize hR1 : runOf d (ls, l.take c) nums = R1 at *
  obtain ⟨_, npa, rfl, _⟩ := id up1
  obtain ⟨_, wpa, rfl, _⟩ := id up2
  obtain ⟨_, tpa, rfl, _⟩ := id up3
  have hlp := hxp.1
  refine seq_regW ?_
  simp only [go_sem, binC, gc_of hb6, inBlk_some, hsub1]
  refine op_callK (by simp only [go_sem, binC]; exact kp) ?_
  simp only [go_sem, binC]
  refine ⟨by omega, ?_⟩
  refine wpc_gen fun H7 hh => ?_
  have hyp : AgX [] Hp H7 := hh ▸ AgX.app [] _ _
  have hbrp : H7[Hp.length]? = some ⟨[.slice npa R1.1.length R1.1.length, .slice wpa R1.2.1.length R1.2.1.length, .slice tpa R1.2.2.length R1.2.2.length], 0, 0, false, true⟩ := hh ▸ get_new0 _ _
  have hl7 : H7.length = Hp.length + 1 := by rw [hh, List.length_append]; rfl
  clear hh
  have hx67 := hxp.tr hyp
  obtain ⟨nq, wq, tq, Hq, kq, hxq, uq1, uq2, uq3⟩ := gr H7 d _ _ _ ls (l.drop c) R1.1 (r1.mono (agx_sub hx67)) (rD.mono (agx_sub hx67)) hm2 (up1.mono (agx_sub hyp))
  rw [hN2] at kq
  generalize hR2 : runOf d (ls, l.drop c) R1.1 = R2 at *
  obtain ⟨_, nqa, rfl, _⟩ := id uq1
  obtain ⟨_, wqa, rfl, _⟩ := id uq2
  obtain ⟨_, tqa, rfl, _⟩ := id uq3
  have hlq := hxq.1
  have hb7 := hx67.get hb6 (by simp)
  refine seq_regW ?_
  simp only [go_sem, binC, gc_of hb7, gc_of hbrp, inBlk_some, hsub2]
  refine op_callK (by simp only [go_sem, binC]; exact kq) ?_
  simp only [go_sem, binC]
  refine ⟨by omega, ?_⟩
  refine wpc_gen fun H8 hh => ?_
  have hyq : AgX [] Hq H8 := hh ▸ AgX.app [] _ _
  have hbrq : H8[Hq.length]? = some ⟨[.slice nqa R2.1.length R2.1.length, .slice wqa R2.2.1.length R2.2.1.length, .slice tqa R2.2.2.length R2.2.2.length], 0, 0, false, true⟩ := hh ▸ get_new0 _ _
  have hl8 : H8.length = Hq.length + 1 := by rw [hh, List.length_append]; rfl
  clear hh
  have hx78 := hxq.tr hyq
  replace hbrp := hx78.get hbrp (by simp)
  replace hbx := (hx67.tr hx78).get hbx (by simp)
  replace up2 := up2.mono (agx_sub (hyp.tr hx78))
  replace up3 := up3.mono (agx_sub (hyp.tr hx78))
  replace uq1 := uq1.mono (agx_sub hyq)
  replace uq2 := uq2.mono (agx_sub hyq)
  replace uq3 := uq3.mono (agx_sub hyq)
  replace t1 := t1.mono (agx_sub (hx67.tr hx78))
  replace t2 := t2.mono (agx_sub (hx67.tr hx78))
  replace t3 := t3.mono (agx_sub (hx67.tr hx78))
  obtain ⟨hbd11, hbd12⟩ := hbd1
  obtain ⟨hbd21, hbd22⟩ := hbd2
  refine wpc_genE fun e0 he => ?_
  have f9 : e0 9 = ptr H5.length 0 := by rw [he]; simp only [go_sem, binC]
  have f12 : e0 12 = ptr Hp.length 0 := by rw [he]; simp only [go_sem, binC]
  have f13 : e0 13 = .bool true := by rw [he]; simp only [go_sem, binC]
  have f14 : e0 14 = ptr Hq.length 0 := by rw [he]; simp only [go_sem, binC]
  have f15 : e0 15 = .bool true := by rw [he]; simp only [go_sem, binC]
  clear he
  refine seq_head ?_
  refine heads_pure (v := ptr Hq.length 0) (by simp [-List.append_assoc, iop, Opd.ev, putE_get, ptr, sli, inBlk_some, valOf, fillL, Value.cells, one, setL, nilS, f14]) ?_
  refine heads_pure (v := .slice nqa R2.1.length R2.1.length) (by simp [-List.append_assoc, iop, Opd.ev, putE_get, ptr, sli, inBlk_some, valOf, fillL, Value.cells, one, setL, nilS, gc_of hbrq]) ?_
  refine heads_plain (v := sli H8.length 0 0) (L := [⟨[], 2, 109, true, true⟩]) (by simp [-List.append_assoc, iop, Opd.ev, putE_get, ptr, sli, inBlk_some, valOf, fillL, Value.cells, one, setL, nilS]) ?_
  have hq11 : AgX [] H8 (H8 ++ ([⟨[], 2, 109, true, true⟩] : Heap)) := AgX.app [] _ _
  have hz11 := (AgX.refl [] H8).tr hq11
  refine heads_pure (v := ptr Hp.length 1) (by simp [-List.append_assoc, iop, Opd.ev, putE_get, ptr, sli, inBlk_some, valOf, fillL, Value.cells, one, setL, nilS, f12]) ?_
  refine heads_pure (v := .slice wpa R1.2.1.length R1.2.1.length) (by simp [-List.append_assoc, iop, Opd.ev, putE_get, ptr, sli, inBlk_some, valOf, fillL, Value.cells, one, setL, nilS, gc_of (hz11.get hbrp (by simp))]) ?_
  refine heads_appA (lo := H8.length) (A := Co.p2) (fl := fp) (l := R1.2.1) (b := H8.length) rfl (fun _ => rfl) (by omega) p2_fl (fun _ => rfl) (by simp [putE_get, sli]) (by simp) (by simp only [putE_get]; exact up2.mono (agx_sub hz11)) (by omega) (by omega) (by rw [List.length_append]; omega) fun S11 L11 v11 hT11 => ?_
  have hz12 := hz11.tr (AgX.app [] _ L11)
  refine heads_pure (v := ptr Hq.length 1) (by simp [-List.append_assoc, iop, Opd.ev, putE_get, ptr, sli, inBlk_some, valOf, fillL, Value.cells, one, setL, nilS, f14]) ?_
  refine heads_pure (v := .slice wqa R2.2.1.length R2.2.1.length) (by simp [-List.append_assoc, iop, Opd.ev, putE_get, ptr, sli, inBlk_some, valOf, fillL, Value.cells, one, setL, nilS, gc_of (hz12.get hbrq (by simp))]) ?_
  refine heads_appB0 (lo := H8.length) (A := Co.p2) (fl := fp) (l := R1.2.1) (l3 := R2.2.1) rfl (fun _ => rfl) (by omega) p2_fl (fun _ => rfl) (by simp only [putE_get]; exact hT11) (by omega) (by simp only [putE_get]; exact uq2.mono (agx_sub hz12)) (fun hne b o n c b' n' h1 h2 h3 => ?_) (by omega) (by omega) fun S12 L12 v12 hv12 => ?_
  · simp only [putE_get, Nat.reduceEqDiff, if_false, if_true, eq_self_iff_true, Value.slice.injEq] at h1
    obtain ⟨rfl, _⟩ := h1
    have h4 := sl_lt uq2 hne
    have h5 := (AgX.refl [] H8).1
    omega
  generalize hG : H8 ++ ([⟨[], 2, 109, true, true⟩] : Heap) ++ L11 ++ L12 = H9 at hv12 ⊢
  have hx89 : AgX [] H8 H9 := by rw [← hG]; exact hz12.tr (AgX.app [] _ _)
  have hGx : AgX [] H8 H9 := by rw [← hG]; simp only [List.append_assoc]; exact AgX.app [] _ _
  clear hG hT11 hz11 hz12 hq11
  obtain ⟨_, rw_a, rfl, _⟩ := id hv12
  have rw_ := hv12
  clear hv12
  refine heads_plain (v := sli H9.length 0 0) (L := [⟨[], 2, 81, true, true⟩]) (by simp [-List.append_assoc, iop, Opd.ev, putE_get, ptr, sli, inBlk_some, valOf, fillL, Value.cells, one, setL, nilS]) ?_
  have hq21 : AgX [] H9 (H9 ++ ([⟨[], 2, 81, true, true⟩] : Heap)) := AgX.app [] _ _
  have hz21 := hx89.tr hq21
  refine heads_pure (v := ptr Hp.length 2) (by simp [-List.append_assoc, iop, Opd.ev, putE_get, ptr, sli, inBlk_some, valOf, fillL, Value.cells, one, setL, nilS, f12]) ?_
  refine heads_pure (v := .slice tpa R1.2.2.length R1.2.2.length) (by simp [-List.append_assoc, iop, Opd.ev, putE_get, ptr, sli, inBlk_some, valOf, fillL, Value.cells, one, setL, nilS, gc_of (hz21.get hbrp (by simp))]) ?_
  refine heads_appA (lo := H9.length) (A := Co.p2) (fl := fp) (l := R1.2.2) (b := H9.length) rfl (fun _ => rfl) (by omega) p2_fl (fun _ => rfl) (by simp [putE_get, sli]) (by simp) (by simp only [putE_get]; exact up3.mono (agx_sub hz21)) (by omega) (by omega) (by rw [List.length_append]; omega) fun S21 L21 v21 hT21 => ?_
  have hz22 := hz21.tr (AgX.app [] _ L21)
  refine heads_pure (v := ptr Hq.length 2) (by simp [-List.append_assoc, iop, Opd.ev, putE_get, ptr, sli, inBlk_some, valOf, fillL, Value.cells, one, setL, nilS, f14]) ?_
  refine heads_pure (v := .slice tqa R2.2.2.length R2.2.2.length) (by simp [-List.append_assoc, iop, Opd.ev, putE_get, ptr, sli, inBlk_some, valOf, fillL, Value.cells, one, setL, nilS, gc_of (hz22.get hbrq (by simp))]) ?_
  refine heads_appB0 (lo := H9.length) (A := Co.p2) (fl := fp) (l := R1.2.2) (l3 := R2.2.2) rfl (fun _ => rfl) (by omega) p2_fl (fun _ => rfl) (by simp only [putE_get]; exact hT21) (by omega) (by simp only [putE_get]; exact uq3.mono (agx_sub hz22)) (fun hne b o n c b' n' h1 h2 h3 => ?_) (by omega) (by omega) fun S22 L22 v22 hv22 => ?_
  · simp only [putE_get, Nat.reduceEqDiff, if_false, if_true, eq_self_iff_true, Value.slice.injEq] at h1
    obtain ⟨rfl, _⟩ := h1
    have h4 := sl_lt uq3 hne
    have h5 := hx89.1
    omega
  generalize hG : H9 ++ ([⟨[], 2, 81, true, true⟩] : Heap) ++ L21 ++ L22 = H10 at hv22 ⊢
  have hx810 : AgX [] H8 H10 := by rw [← hG]; exact hz22.tr (AgX.app [] _ _)
  have hGx : AgX [] H9 H10 := by rw [← hG]; simp only [List.append_assoc]; exact AgX.app [] _ _
  clear hG hT21 hz21 hz22 hq21
  replace rw_ := rw_.mono (agx_sub hGx)
  obtain ⟨_, rs_a, rfl, _⟩ := id hv22
  have rs_ := hv22
  clear hv22
  refine heads_pure (v := .agg #[.slice nqa R2.1.length R2.1.length, .slice rw_a (R1.2.1 ++ R2.2.1).length (R1.2.1 ++ R2.2.1).length, .slice rs_a (R1.2.2 ++ R2.2.2).length (R1.2.2 ++ R2.2.2).length]) (by simp [-List.append_assoc, iop, Opd.ev, putE_get, ptr, sli, inBlk_some, valOf, fillL, Value.cells, one, setL, nilS]) ?_
  refine heads_plain (v := ptr H10.length 0) (L := [⟨[nilS, nilS, nilS], 0, 0, false, true⟩]) (by simp [-List.append_assoc, iop, Opd.ev, putE_get, ptr, sli, inBlk_some, valOf, fillL, Value.cells, one, setL, nilS]) ?_
  refine Wh.end ?_
  simp only [List.drop_succ_cons, List.drop_zero]
  have hl10 := hx810.1
  simp only [go_sem, binC]
  refine ⟨by omega, ?_⟩
  refine wpc_gen fun H11 hh => ?_
  have hx11 : AgX [] H10 H11 := hh ▸ AgX.app [] _ _
  have hb16 : H11[H10.length]? = some ⟨[.slice nqa R2.1.length R2.1.length, .slice rw_a (R1.2.1 ++ R2.2.1).length (R1.2.1 ++ R2.2.1).length, .slice rs_a (R1.2.2 ++ R2.2.2).length (R1.2.2 ++ R2.2.2).length], 0, 0, false, true⟩ := hh ▸ get_new0 _ _
  clear hh
  have hx811 := hx810.tr hx11
  replace hbx := hx811.get hbx (by simp)
  have hEq := glr H11 _ _ _ _ _ _ (R2.1, R1.2.1 ++ R2.2.1, R1.2.2 ++ R2.2.2) (runOf d (ls, l) nums) (uq1.mono (agx_sub hx811)) (rw_.mono (agx_sub hx11)) (rs_.mono (agx_sub hx11)) (t1.mono (agx_sub hx811)) (t2.mono (agx_sub hx811)) (t3.mono (agx_sub hx811))
  rw [decide_eq_true hcut.symm] at hEq
  refine seq_reg ?_
  simp only [go_sem, binC, f13, f15, f9, gc_of hb16, gc_of hbx, inBlk_some]
  refine op_callQ (by simp only [go_sem, binC]; exact hEq) ?_
  simp only [go_sem, binC]
  exact wpc_ret ⟨Or.inr rfl, .bool true, by simp only [go_sem, binC], rfl, rfl⟩
end Go.Proofs.YtmakdcbpohlacaaI
end
