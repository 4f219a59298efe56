/- Texts of this proof, merged: E11, E12, E13, E15, E16. -/
import Derived.Test.YtpaoppgbgjnkmaaC1
section
/- Steps are done (the reference). -/
set_option linter.unusedVariables false
set_option linter.unusedSimpArgs false
namespace Go.Proofs.YtpaoppgbgjnkmaaI
open Go Go.RowKit
def c_sNum : IFn := ⟨2, 43, [.t 4],
 .seq (.reg none [
    ⟨(some 2), none, .box (.t 0)⟩,
    ⟨(some 4), none, .mov (.c (.int .i64 0))⟩])
 (.seq (.seq (.reg none [
     ⟨(some 5), none, .fad 0 (.t 2)⟩,
     ⟨(some 6), none, .load false 1 (.t 5)⟩])
  (.block 0 (.seq (.reg none [
      ⟨(some 8), none, .bin .eql (.t 6) (.c (.int .i64 1))⟩,
      ⟨(some 7), none, .mov (.t 8)⟩])
   (.cond (.t 7) (.seq (.reg none [
       ⟨(some 9), none, .fad 1 (.t 2)⟩,
       ⟨(some 10), none, .load false 1 (.t 9)⟩,
       ⟨(some 4), none, .mov (.t 10)⟩])
    (.ret)) (.seq (.reg none [
       ⟨(some 12), none, .bin .eql (.t 6) (.c (.int .i64 2))⟩,
       ⟨(some 11), none, .mov (.t 12)⟩])
    (.cond (.t 11) (.seq (.reg none [
        ⟨(some 13), none, .mov (.t 1)⟩,
        ⟨(some 14), none, .fad 1 (.t 2)⟩,
        ⟨(some 15), none, .load false 1 (.t 14)⟩,
        ⟨(some 16), none, .iad 1 (.t 13) (.t 15)⟩,
        ⟨(some 17), none, .load false 1 (.t 16)⟩,
        ⟨(some 4), none, .mov (.t 17)⟩])
     (.ret)) (.seq (.reg none [
        ⟨(some 19), none, .bin .eql (.t 6) (.c (.int .i64 3))⟩,
        ⟨(some 18), none, .mov (.t 19)⟩])
     (.cond (.t 18) (.seq (.reg (some 10) [
         ⟨(some 20), none, .mov (.t 1)⟩,
         ⟨(some 21), none, .fad 1 (.t 2)⟩,
         ⟨(some 22), none, .load false 1 (.t 21)⟩,
         ⟨(some 23), none, .iad 1 (.t 20) (.t 22)⟩,
         ⟨(some 24), none, .load false 1 (.t 23)⟩,
         ⟨(some 25), none, .mov (.t 1)⟩,
         ⟨(some 26), none, .fad 2 (.t 2)⟩,
         ⟨(some 27), none, .load false 1 (.t 26)⟩,
         ⟨(some 28), none, .iad 1 (.t 25) (.t 27)⟩,
         ⟨(some 29), none, .load false 1 (.t 28)⟩,
         ⟨(some 30), none, .bin .add (.t 24) (.t 29)⟩,
         ⟨(some 31), none, .bin .rem (.t 30) (.c (.int .i64 10))⟩,
         ⟨(some 4), none, .mov (.t 31)⟩])
      (.ret)) (.skip)))))))))
 (.seq (.seq (.reg (some 10) [
     ⟨(some 32), none, .mov (.t 1)⟩,
     ⟨(some 33), none, .fad 1 (.t 2)⟩,
     ⟨(some 34), none, .load false 1 (.t 33)⟩,
     ⟨(some 35), none, .iad 1 (.t 32) (.t 34)⟩,
     ⟨(some 36), none, .load false 1 (.t 35)⟩,
     ⟨(some 37), none, .mov (.t 1)⟩,
     ⟨(some 38), none, .fad 2 (.t 2)⟩,
     ⟨(some 39), none, .load false 1 (.t 38)⟩,
     ⟨(some 40), none, .iad 1 (.t 37) (.t 39)⟩,
     ⟨(some 41), none, .load false 1 (.t 40)⟩,
     ⟨(some 42), none, .bin .eql (.t 36) (.t 41)⟩])
  (.cond (.t 42) (.seq (.reg none [
      ⟨(some 4), none, .mov (.c (.int .i64 1))⟩])
   (.ret)) (.skip)))
 (.seq (.reg none [
    ⟨(some 4), none, .mov (.c (.int .i64 0))⟩])
 (.ret))))⟩
def c_sDo : IFn := ⟨2, 74, [.cell true 3 4],
 .seq (.reg none [
    ⟨(some 3), none, .box (.t 1)⟩,
    ⟨(some 4), none, .new [(.slice none 0 0), (.slice none 0 0), (.slice none 0 0)]⟩])
 (.seq (.seq (.reg none [
     ⟨(some 5), none, .mov (.c (.int .i64 0))⟩])
  (.block 0 (.loop (.seq (.seq (.reg none [
        ⟨(some 8), none, .mov (.t 5)⟩,
        ⟨(some 9), none, .mov (.t 0)⟩,
        ⟨(some 10), none, .len (.t 9)⟩,
        ⟨(some 11), none, .bin .lss (.t 8) (.t 10)⟩])
     (.cond (.t 11) (.skip) (.exit 0)))
    (.seq (.block 1 (.seq (.reg none [
         ⟨(some 14), none, .mov (.t 0)⟩,
         ⟨(some 15), none, .mov (.t 5)⟩,
         ⟨(some 16), none, .iad 8 (.t 14) (.t 15)⟩,
         ⟨(some 17), none, .load true 8 (.t 16)⟩,
         ⟨(some 6), none, .new [(.int .i64 0), (.int .i64 0), (.int .i64 0), (.int .i64 0), (.int .i64 0), (.int .i64 0), (.slice none 0 0), (.slice none 0 0)]⟩,
         ⟨none, none, .store 8 (.t 6) (.t 17)⟩])
      (.seq (.reg none [
         ⟨(some 18), none, .fad 0 (.t 6)⟩,
         ⟨(some 19), none, .load false 1 (.t 18)⟩])
      (.block 2 (.seq (.reg none [
          ⟨(some 36), none, .bin .eql (.t 19) (.c (.int .i64 1))⟩,
          ⟨(some 35), none, .mov (.t 36)⟩])
       (.cond (.t 35) (.seq (.reg none [
           ⟨(some 37), none, .fad 2 (.t 6)⟩,
           ⟨(some 38), none, .load true 3 (.t 37)⟩,
           ⟨(some 39), none, .fad 0 (.t 3)⟩,
           ⟨(some 40), none, .load false 1 (.t 39)⟩,
           ⟨(some 41), none, .call .q (.f 85) [(.t 38), (.t 40)]⟩,
           ⟨(some 7), none, .mov (.t 41)⟩])
        (.seq (.reg none [
           ⟨(some 42), none, .fad 0 (.t 3)⟩,
           ⟨(some 43), none, .load false 1 (.t 42)⟩,
           ⟨(some 44), none, .fad 1 (.t 6)⟩,
           ⟨(some 45), none, .load false 1 (.t 44)⟩,
           ⟨(some 46), none, .mov (.t 7)⟩,
           ⟨(some 47), none, .iad 1 (.t 43) (.t 45)⟩,
           ⟨none, none, .store 1 (.t 47) (.t 46)⟩])
        (.reg none [
          ⟨(some 48), none, .fad 1 (.t 3)⟩,
          ⟨(some 49), none, .load false 1 (.t 48)⟩,
          ⟨(some 50), none, .fad 1 (.t 6)⟩,
          ⟨(some 51), none, .load false 1 (.t 50)⟩,
          ⟨(some 52), none, .mov (.t 7)⟩,
          ⟨(some 53), none, .build [(.int .i64 0), (.int .i64 0)] [(0, 1, (.t 51)), (1, 1, (.t 52))]⟩,
          ⟨(some 54), none, .lit 2 48 1 [(.int .i64 0), (.int .i64 0)] [(0, 2, (.t 53))]⟩,
          ⟨(some 55), none, .app 2 48 16 false (.t 49) (.t 54)⟩,
          ⟨(some 56), none, .fad 1 (.t 3)⟩,
          ⟨none, none, .store 1 (.t 56) (.t 55)⟩]))) (.seq (.reg none [
           ⟨(some 58), none, .bin .eql (.t 19) (.c (.int .i64 3))⟩,
           ⟨(some 57), none, .mov (.t 58)⟩])
        (.cond (.t 57) (.reg (some 12) [
           ⟨(some 59), none, .fad 2 (.t 3)⟩,
           ⟨(some 60), none, .load false 1 (.t 59)⟩,
           ⟨(some 61), none, .fad 5 (.t 6)⟩,
           ⟨(some 62), none, .load false 1 (.t 61)⟩,
           ⟨(some 63), none, .fad 0 (.t 3)⟩,
           ⟨(some 64), none, .load false 1 (.t 63)⟩,
           ⟨(some 65), none, .fad 1 (.t 6)⟩,
           ⟨(some 66), none, .load false 1 (.t 65)⟩,
           ⟨(some 67), none, .iad 1 (.t 64) (.t 66)⟩,
           ⟨(some 68), none, .load false 1 (.t 67)⟩,
           ⟨(some 69), none, .build [(.int .i64 0), (.int .i64 0)] [(0, 1, (.t 62)), (1, 1, (.t 68))]⟩,
           ⟨(some 70), none, .lit 2 79 1 [(.int .i64 0), (.int .i64 0)] [(0, 2, (.t 69))]⟩,
           ⟨(some 71), none, .app 2 79 16 false (.t 60) (.t 70)⟩,
           ⟨(some 72), none, .fad 2 (.t 3)⟩,
           ⟨none, none, .store 1 (.t 72) (.t 71)⟩]) (.seq (.reg none [
            ⟨(some 20), none, .fad 0 (.t 3)⟩,
            ⟨(some 21), none, .load false 1 (.t 20)⟩,
            ⟨(some 22), none, .fad 1 (.t 6)⟩,
            ⟨(some 23), none, .load false 1 (.t 22)⟩,
            ⟨(some 24), none, .iad 1 (.t 21) (.t 23)⟩,
            ⟨(some 25), none, .load false 1 (.t 24)⟩,
            ⟨(some 26), none, .bin .neq (.t 25) (.c (.int .i64 0))⟩])
         (.cond (.t 26) (.reg none [
            ⟨(some 27), none, .fad 6 (.t 6)⟩,
            ⟨(some 28), none, .load false 1 (.t 27)⟩,
            ⟨(some 29), none, .load true 3 (.t 3)⟩,
            ⟨(some 30), none, .call .n (.f 49) [(.t 28), (.t 29)]⟩,
            ⟨none, none, .store 3 (.t 3) (.t 30)⟩]) (.reg none [
            ⟨(some 31), none, .fad 7 (.t 6)⟩,
            ⟨(some 32), none, .load false 1 (.t 31)⟩,
            ⟨(some 33), none, .load true 3 (.t 3)⟩,
            ⟨(some 34), none, .call .n (.f 49) [(.t 32), (.t 33)]⟩,
            ⟨none, none, .store 3 (.t 3) (.t 34)⟩])))))))))))
    (.reg none [
      ⟨(some 12), none, .mov (.t 5)⟩,
      ⟨(some 13), none, .bin .add (.t 12) (.c (.int .i64 1))⟩,
      ⟨(some 5), none, .mov (.t 13)⟩]))))))
 (.seq (.reg none [
    ⟨(some 73), none, .load true 3 (.t 3)⟩,
    ⟨none, none, .store 3 (.t 4) (.t 73)⟩])
 (.ret)))⟩
theorem sNum_ok {F : Nat → Option IFn} {f : Nat} (hf : F f = some c_sNum) : ∀ (H : Heap) (k a b : Int) (w : Value) (xs : List Int), SlR Co.int (vw 0 H) w xs → (∀ x ∈ xs, 0 ≤ x ∧ x ≤ 9) → valB xs.length (k, a, b) = true → QC F f [.agg #[.int .i64 k, .int .i64 a, .int .i64 b], w] H (.int .i64 (valN xs (k, a, b))) := by
  intro H k a b w xs hw hx hv
  obtain ⟨_, wa, rfl, _⟩ := id hw
  have hS : ∀ L, Sub (vw 0 H) (vw 0 (H ++ L)) := fun L => vw_app 0 H L
  refine QC.mk hf rfl ?_
  refine seq_reg ?_
  simp only [go_sem, binC]
  refine seq_assoc (seq_reg ?_)
  simp only [go_sem, binC]
  refine seq_block (seq_reg ?_)
  simp only [go_sem, binC]
  unfold valB at hv
  by_cases h1 : k = 1
  · simp only [go_sem, binC, beq_t h1]
    refine wpc_cond (t := true) rfl ?_
    simp only [go_sem, binC]
    refine seq_reg ?_
    simp only [go_sem, binC]
    refine wpc_ret ?_
    simp only [go_sem, binC, out_r, thenX_r]
    refine ⟨Or.inr rfl, _, (by (simp only [go_sem, binC]) <;> rfl), ?_, rfl⟩
    simp [valN, h1]
  rw [if_neg h1] at hv
  simp only [go_sem, binC, beq_f h1]
  refine wpc_cond (t := false) rfl ?_
  simp only [go_sem, binC]
  refine seq_reg ?_
  simp only [go_sem, binC]
  by_cases h2 : k = 2
  · rw [if_pos h2] at hv
    simp only [Bool.and_eq_true, varB, inB_iff'] at hv
    have hal : a.toNat < xs.length := by omega
    obtain ⟨wb, wo, hwv, _⟩ := gcI0 hw hal
    simp only [Value.slice.injEq, and_true] at hwv
    subst hwv
    have g0 := fun L => (gcI2 (hw.mono (hS L)) hal)
    simp only [go_sem, binC, beq_t h2]
    refine wpc_cond (t := true) rfl ?_
    simp only [go_sem, binC]
    refine seq_reg ?_
    simp only [go_sem, binC]
    refine ⟨⟨by omega, by omega⟩, ?_⟩
    simp only [go_sem, binC, Nat.mul_one, g0]
    refine wpc_ret ?_
    simp only [go_sem, binC, out_r, thenX_r]
    refine ⟨Or.inr rfl, _, (by (simp only [go_sem, binC]) <;> rfl), ?_, rfl⟩
    simp [valN, h2, List.getD, List.getElem?_eq_getElem hal]
  rw [if_neg h2] at hv
  simp only [go_sem, binC, beq_f h2]
  refine wpc_cond (t := false) rfl ?_
  simp only [go_sem, binC]
  refine seq_reg ?_
  simp only [go_sem, binC]
  have h34 : k = 3 ∨ k = 4 := by
    by_cases h : k = 3 ∨ k = 4
    · exact h
    · simp [h] at hv
  rw [if_pos h34] at hv
  simp only [Bool.and_eq_true, varB, inB_iff'] at hv
  have hal : a.toNat < xs.length := by omega
  have hbl : b.toNat < xs.length := by omega
  obtain ⟨wb, wo, hwv, _⟩ := gcI0 hw hal
  simp only [Value.slice.injEq, and_true] at hwv
  subst hwv
  have g0 := fun L => (gcI2 (hw.mono (hS L)) hal)
  have g1 := fun L => (gcI2 (hw.mono (hS L)) hbl)
  have x0 := hx xs[a.toNat] (List.getElem_mem _)
  have x1 := hx xs[b.toNat] (List.getElem_mem _)
  have e0 : xs.getD a.toNat 0 = xs[a.toNat] := by simp [List.getD, List.getElem?_eq_getElem hal]
  have e1 : xs.getD b.toNat 0 = xs[b.toNat] := by simp [List.getD, List.getElem?_eq_getElem hbl]
  by_cases h3 : k = 3
  · simp only [go_sem, binC, beq_t h3]
    refine wpc_cond (t := true) rfl ?_
    simp only [go_sem, binC]
    refine seq_regD ?_
    simp only [go_sem, binC]
    refine ⟨⟨by omega, by omega⟩, ?_⟩
    simp only [go_sem, binC, Nat.mul_one, g0]
    refine ⟨⟨by omega, by omega⟩, ?_⟩
    simp only [go_sem, binC, Nat.mul_one, g1]
    rw [wrap_id (x := xs[a.toNat] + xs[b.toNat]) (by omega) (by omega)]
    refine rem10_rule ?_
    refine wpc_ret ?_
    simp only [go_sem, binC, out_r, thenX_r]
    refine ⟨Or.inr rfl, _, (by (simp only [go_sem, binC]) <;> rfl), ?_, rfl⟩
    rw [Int.tmod_eq_emod_of_nonneg (by omega)]
    simp only [valN, h3, e0, e1, if_true]
    rfl
  simp only [go_sem, binC, beq_f h3]
  refine wpc_cond (t := false) rfl ?_
  simp only [go_sem, binC]
  refine wpc_skip ?_
  simp only [go_sem, binC, out_n, thenX_n]
  refine seq_assoc (seq_regD ?_)
  simp only [go_sem, binC]
  refine ⟨⟨by omega, by omega⟩, ?_⟩
  simp only [go_sem, binC, Nat.mul_one, g0]
  refine ⟨⟨by omega, by omega⟩, ?_⟩
  simp only [go_sem, binC, Nat.mul_one, g1]
  by_cases h4 : xs[a.toNat] = xs[b.toNat]
  · refine seq_cond (t := true) (by simp only [go_sem, binC]; rw [beq_t h4]) ?_
    simp only [go_sem, binC]
    refine seq_assoc (seq_reg ?_)
    simp only [go_sem, binC]
    refine seq_ret ⟨Or.inr rfl, .int .i64 1, (by (simp only [go_sem, binC]) <;> rfl), ?_, rfl⟩
    simp only [valN, h1, h2, h3, e0, e1, if_false, if_pos h4]
  · refine seq_cond (t := false) (by simp only [go_sem, binC]; rw [beq_f h4]) ?_
    simp only [go_sem, binC]
    refine seq_skip (seq_reg ?_)
    simp only [go_sem, binC]
    refine wpc_ret ⟨Or.inr rfl, .int .i64 0, (by (simp only [go_sem, binC]) <;> rfl), ?_, rfl⟩
    simp only [valN, h1, h2, h3, e0, e1, if_false, if_neg h4]
/-- Boxes stay. -/
def Bx (H H' : Heap) : Prop := H.length ≤ H'.length ∧ ∀ (b : Nat) (cs : List Value), H[b]? = some ⟨cs, 0, 0, false, true⟩ → H'[b]? = some ⟨cs, 0, 0, false, true⟩
theorem Bx.refl (H : Heap) : Bx H H := ⟨Nat.le_refl _, fun _ _ h => h⟩
theorem Bx.tr {H H1 H2 : Heap} (h : Bx H H1) (h' : Bx H1 H2) : Bx H H2 := ⟨Nat.le_trans h.1 h'.1, fun b cs k => h'.2 b cs (h.2 b cs k)⟩
theorem AgX.bx {xs : List Nat} {H H' : Heap} (h : AgX xs H H') (hx : ∀ b, b ∈ xs → ∀ cs, H[b]? ≠ some ⟨cs, 0, 0, false, true⟩) : Bx H H' := ⟨h.1, fun b cs k => h.get k fun hb => hx b hb cs k⟩
theorem Bx.setN {H H' : Heap} (h : Bx H H') {b : Nat} (hb : H.length ≤ b) (k : Blk) : Bx H (H'.set b k) := by
  refine ⟨by rw [List.length_set]; exact h.1, fun b' cs h1 => ?_⟩
  have := (List.getElem?_eq_some_iff.1 h1).1
  rw [List.getElem?_set_ne (by omega)]
  exact h.2 b' cs h1
theorem NumV.keep' {lo : Nat} {H H' : Heap} {v : Value} {l : List Int} {xs : List Nat} (h : NumV lo H v l) (hx : AgX xs H H') (hn : ∀ b, lo ≤ b → v = sli b 0 l.length → H[b]? = some ⟨ints l, 1, 3, true, true⟩ → b ∉ xs) : NumV lo H' v l := by
  rcases h with h | ⟨b, h1, h2, h3, h4⟩
  · exact .inl h
  · exact .inr ⟨b, h1, h2, h3, hx.get h4 (hn b h1 h2 h4)⟩
/-- What comes of a program, told by value. -/
structure RunV (Hb : Heap) (r : RunS) (M : Nat) (H : Heap) (nv wv sv : Value) : Prop where
  ag : AgX [] Hb H
  n : NumV Hb.length H nv r.1
  w : GLi fp 2 48 Hb.length H wv r.2.1
  s : GLi fp 2 79 Hb.length H sv r.2.2
  rg : ∀ x ∈ r.1, 0 ≤ x ∧ x ≤ 9
  pr : ∀ p, p ∈ r.2.1 ∨ p ∈ r.2.2 → RgI p.1 ∧ RgI p.2
  sm : r.2.1.length + r.2.2.length ≤ M
  ln : r.1.length ≤ 1000
theorem RunI.v {Hb : Heap} {rb : Nat} {r : RunS} {M : Nat} {H : Heap} (h : RunI Hb rb r M H) : ∃ nv wv sv, H[rb]? = some ⟨[nv, wv, sv], 0, 0, false, true⟩ ∧ RunV Hb r M H nv wv sv := by
  obtain ⟨nv, wv, sv, h1, h2, h3, h4⟩ := h.ex
  exact ⟨nv, wv, sv, h1, h.ag, h2, h3, h4, h.rg, h.pr, h.sm, h.ln⟩
theorem RunV.box {Hb : Heap} {rb : Nat} {r : RunS} {M : Nat} {H : Heap} {nv wv sv : Value} (h : RunV Hb r M H nv wv sv) (hb : H[rb]? = some ⟨[nv, wv, sv], 0, 0, false, true⟩) (hl : Hb.length ≤ rb) : RunI Hb rb r M H := ⟨h.ag, hl, ⟨nv, wv, sv, hb, h.n, h.w, h.s⟩, h.rg, h.pr, h.sm, h.ln⟩
theorem RunV.box' {Hb : Heap} {rb : Nat} {r : RunS} {M : Nat} {H : Heap} {nv wv sv : Value} {cs : List Value} (h : RunV Hb r M H nv wv sv) (hb : H[rb]? = some ⟨cs, 0, 0, false, true⟩) (hl : Hb.length ≤ rb) : RunI Hb rb r M (H.set rb ⟨[nv, wv, sv], 0, 0, false, true⟩) := by
  have hbl := (List.getElem?_eq_some_iff.1 hb).1
  have hx : AgX [rb] H (H.set rb ⟨[nv, wv, sv], 0, 0, false, true⟩) := AgX.set _ _ _
  refine RunV.box ⟨h.ag.setN hl _, h.n.keep' hx (fun b _ _ q h => ?_), h.w.keep hx (fun b so _ _ q h => ?_), h.s.keep hx (fun b so _ _ q h => ?_), h.rg, h.pr, h.sm, h.ln⟩ (List.getElem?_set_self hbl) hl
  all_goals (simp only [List.mem_singleton] at h; subst h; rw [hb] at q; simp at q)
theorem GLi.blk {α : Type} {fl : α → List Value} {es et lo : Nat} {H : Heap} {v : Value} {l : List α} (h : GLi fl es et lo H v l) (b : Nat) (hb : b ∈ blkOf v) : lo ≤ b ∧ ∃ cs so, H[b]? = some ⟨cs, es, et, true, so⟩ := by
  rcases h with ⟨rfl, _⟩ | ⟨b', so, q1, rfl, q3, q4⟩
  · cases hb
  · simp only [blkOf, sli, List.mem_singleton] at hb
    subst hb
    exact ⟨q1, _, _, q4⟩
def DoSOk (F : Nat → Option IFn) (f n : Nat) : Prop := ∀ (Hb H : Heap) (lo M : Nat) (r : RunS) (nv wv sv v : Value) (l : List (TStep n)) (d : Int), lo ≤ Hb.length → RunV Hb r M H nv wv sv → SlR (Co.step n) (vw 0 Hb) v l → l.all (stepB r.1.length n d) = true → M + (allL n l).length ≤ 1000 →
  ∃ nv' wv' sv' H', NC F lo f [v, .agg #[nv, wv, sv]] H (.agg #[nv', wv', sv']) H' ∧ RunV Hb (runL n l r) (M + (allL n l).length) H' nv' wv' sv' ∧ Bx H H'
set_option maxHeartbeats 4000000 in
set_option maxRecDepth 20000 in
theorem sDo_ok {F : Nat → Option IFn} {f n : Nat} (hf : F f = some c_sDo) (hnu : F 85 = some c_sNum) (ih : ∀ m, n = m + 1 → DoSOk F 49 m) : DoSOk F f n := by
  intro Hb H lo M r nv0 wv0 sv0 v l d hlo hR hv hall hM
  suffices h : ∃ w H', NC F lo f [v, .agg #[nv0, wv0, sv0]] H w H' ∧ (∃ nv' wv' sv', w = .agg #[nv', wv', sv'] ∧ RunV Hb (runL n l r) (M + (allL n l).length) H' nv' wv' sv' ∧ Bx H H') by
    obtain ⟨w, H', h1, nv', wv', sv', rfl, h2⟩ := h
    exact ⟨nv', wv', sv', H', h1, h2⟩
  have hv0 := hv
  obtain ⟨h0, av, rfl, _⟩ := hv
  have o1 := hR.n.one
  have o2 := hR.w.one
  have o3 := hR.s.one
  have hHb := hR.ag.1
  refine NC.mk hf rfl ?_
  refine seq_reg ?_
  simp only [go_sem, binC, o1, o2, o3]
  refine wpc_gen fun H1 hH1 => ?_
  have hx1 : AgX [] H H1 := hH1 ▸ AgX.app [] _ _
  have hb3 : H1[H.length]? = some ⟨[nv0, wv0, sv0], 0, 0, false, true⟩ := hH1 ▸ get_new0 _ _
  have hb4 : H1[H.length + 1]? = some ⟨[nilS, nilS, nilS], 0, 0, false, true⟩ := hH1 ▸ get_new _ _ 1
  clear hH1
  have hR1 : RunI Hb H.length r M H1 := by
    refine RunV.box ⟨hR.ag.tr hx1, ?_, hR.w.keep hx1 (fun _ _ _ _ _ => by simp), hR.s.keep hx1 (fun _ _ _ _ _ => by simp), hR.rg, hR.pr, hR.sm, hR.ln⟩ hb3 hHb
    exact hR.n.keep hx1 (fun _ _ _ => by simp)
  have hB1 : Bx H H1 := hx1.bx (fun _ h => by cases h)
  refine seq_assoc (seq_reg ?_)
  simp only [go_sem, binC]
  refine seq_block (wpc_loop ?_)
  suffices h : ∀ (k i : Nat) (e : Env) (Hc : Heap) (rc : RunS) (Mc : Nat), i + k = l.length → RunI Hb H.length rc Mc Hc → Bx H Hc → Hc[H.length + 1]? = some ⟨[nilS, nilS, nilS], 0, 0, false, true⟩ → rc.1.length = r.1.length → runL n (l.drop i) rc = runL n l r → Mc + (allL n (l.drop i)).length = M + (allL n l).length →
      e 0 = .slice av l.length l.length → e 3 = ptr H.length 0 → e 4 = ptr (H.length + 1) 0 → e 5 = .int .i64 i → W F lo _ e Hc _ from
    h l.length 0 _ H1 r M (by omega) hR1 hB1 hb4 rfl rfl rfl (by simp only [go_sem, binC]) (by (simp only [go_sem, binC]) <;> rfl) (by (simp only [go_sem, binC]) <;> rfl) (by (simp only [go_sem, binC]) <;> rfl)
  intro k
  induction k with
  | zero =>
    intro i e Hc rc Mc hi hRc hBc hb4c hlen hrun hcnt e0 e3 e4 e5
    refine lp_step ?_
    refine seq_assoc (seq_reg ?_)
    simp only [go_sem, binC, e0, e5]
    refine seq_cond (t := false) (by simp only [go_sem, binC]; rw [decide_eq_false (by omega)]) ?_
    simp only [go_sem, binC]
    refine seq_exit ?_
    simp only [go_sem, binC, thenX_e, out_e, thenX_n]
    have hd : l.drop i = [] := List.drop_of_length_le (by omega)
    rw [hd] at hrun hcnt
    have hrun' : rc = runL n l r := hrun
    have hcnt' : Mc = M + (allL n l).length := by simpa [allL] using hcnt
    obtain ⟨nv, wv, sv, hbox, hV⟩ := hRc.v
    have p1 := hV.n.one
    have p2 := hV.w.one
    have p3 := hV.s.one
    have hb4l := (List.getElem?_eq_some_iff.1 hb4c).1
    refine seq_reg ?_
    simp only [go_sem, binC, e3, e4, gc_of hbox, inBlk_some, p1, p2, p3, hb4c]
    refine ⟨by omega, ?_⟩
    have hxs : AgX [H.length + 1] Hc (Hc.set (H.length + 1) ⟨[nv, wv, sv], 0, 0, false, true⟩) := AgX.set _ _ _
    refine wpc_ret ⟨Or.inr rfl, .agg #[nv, wv, sv], ?_, nv, wv, sv, rfl, ?_, hBc.setN (by omega) _⟩
    · simp [resV, resL, res1, putE_get, e4, ptr, gc_set hb4l, inBlk_some, valOf]
    · rw [hrun'] at hV
      rw [← hcnt']
      refine ⟨hV.ag.setN (by omega) _, hV.n.keep' hxs (fun b _ _ h1 h2 => ?_), hV.w.keep hxs (fun b so _ _ q h => ?_), hV.s.keep hxs (fun b so _ _ q h => ?_), hV.rg, hV.pr, hV.sm, hV.ln⟩
      · simp only [List.mem_singleton] at h2; subst h2; rw [hb4c] at h1; simp at h1
      · simp only [List.mem_singleton] at h; subst h; rw [hb4c] at q; simp at q
      · simp only [List.mem_singleton] at h; subst h; rw [hb4c] at q; simp at q
  | succ k ihk =>
    intro i e Hc rc Mc hi hRc hBc hb4c hlen hrun hcnt e0 e3 e4 e5
    have hil : i < l.length := by omega
    cases n with
    | zero => exact (l[i]).elim
    | succ n =>
    obtain ⟨vb, vo, kd, vr, va, vbb, vc, ho, tv, ev, tl, el, hav, hs, rg, otv, oev, hgc, htl, hel⟩ := step_at hv0 hil
    simp only [Value.slice.injEq, and_true] at hav
    subst hav
    have hst1 : stepB r.1.length (n + 1) d (kd, vr, (va, vbb, vc), ho, tl, el) = true := by rw [← hs]; exact List.all_eq_true.1 hall _ (List.getElem_mem hil)
    obtain ⟨hvr, hk1, hk2, hk3, hkn⟩ := stepB_f hst1
    have hagc := hRc.ag
    have hHl := hagc.1
    have hg8 := hgc Hc (agx_sub hagc)
    rw [List.drop_eq_getElem_cons hil] at hrun hcnt
    have hcnt2 : Mc + (1 + ((allL n tl).length + (allL n el).length) + (allL (n + 1) (l.drop (i + 1))).length) = M + (allL (n + 1) l).length := by
      have hc2 : (allL (n + 1) (l[i] :: l.drop (i + 1))).length = (allT (n + 1) l[i]).length + (allL (n + 1) (l.drop (i + 1))).length := by unfold allL; rw [List.map_cons, List.flatten_cons, List.length_append]
      rw [hc2, hs, allT_succ, List.length_cons, List.length_append] at hcnt
      omega
    have hw1 : IntKind.i64.wrap ((i : Int) + 1) = ((i + 1 : Nat) : Int) := by rw [wrap_id (by omega) (by omega)]; omega
    have hHHc := hBc.1
    refine lp_step ?_
    refine seq_assoc (seq_reg ?_)
    simp only [go_sem, binC, e0, e5]
    refine seq_cond (t := true) (by simp only [go_sem, binC]; rw [decide_eq_true (by omega)]) ?_
    simp only [go_sem, binC]
    refine seq_skip (seq_block (seq_reg ?_))
    simp only [go_sem, binC, e0, e5]
    refine ⟨⟨by omega, by omega⟩, ?_⟩
    simp only [go_sem, binC, Int.toNat_natCast, hg8, otv, oev]
    refine ⟨by omega, ?_⟩
    refine wpc_gen fun H1 hH1 => ?_
    have hx1 : AgX [] Hc H1 := hH1 ▸ AgX.app [] _ _
    have hbx : H1[Hc.length]? = some ⟨[.int .i64 kd, .int .i64 vr, .int .i64 va, .int .i64 vbb, .int .i64 vc, .int .i64 ho, tv, ev], 0, 0, false, true⟩ := hH1 ▸ get_new0 _ _
    have hl1 : H1.length = Hc.length + 1 := by rw [hH1, List.length_append]; rfl
    clear hH1
    have hR1 := hRc.keep hx1
    have hB1 : Bx H H1 := hBc.tr (hx1.bx (fun _ h => by cases h))
    have hb41 := hx1.get hb4c (by simp)
    refine seq_reg ?_
    simp only [go_sem, binC, gc_of hbx, inBlk_some]
    refine wpc_genK fun KK hKK => ?_
    have hnext : ∀ (e' : Env) (H' : Heap) (r' : RunS) (M' : Nat), RunI Hb H.length r' M' H' → Bx H H' → H'[H.length + 1]? = some ⟨[nilS, nilS, nilS], 0, 0, false, true⟩ → r'.1.length = r.1.length → r' = runT (n + 1) l[i] rc → M' = Mc + (1 + ((allL n tl).length + (allL n el).length)) → e' 0 = .slice (some ⟨vb, vo, none⟩) l.length l.length → e' 3 = ptr H.length 0 → e' 4 = ptr (H.length + 1) 0 → e' 5 = .int .i64 i → KK .n e' H' := by
      intro e' H' r' M' hR' hB' hb4' hlen' hr' hM' e0' e3' e4' e5'
      rw [hKK]
      simp only [go_sem, binC, out_n, thenX_n]
      refine wpc_reg ?_
      simp only [go_sem, binC, e5', hw1]
      simp only [go_sem, binC, thenX_n]
      refine ihk (i + 1) _ H' r' M' (by omega) hR' hB' hb4' hlen' ?_ (by omega) (by simp only [go_sem, binC, e0']) (by simp only [go_sem, binC, e3']) (by simp only [go_sem, binC, e4']) (by simp only [go_sem, binC])
      rw [hr', ← hrun]; rfl
    clear hKK
    refine wpc_block (seq_reg ?_)
    simp only [go_sem, binC]
    by_cases h1 : kd = 1
    · subst h1
      have hvb := hk1 rfl
      rw [← hlen] at hvb
      obtain ⟨rfl, rfl⟩ := hkn (by decide)
      rw [hs, runT_set] at hnext
      obtain ⟨nv, wv, sv, hbox, hV⟩ := hR1.v
      have hn := hV.n
      rcases hn with ⟨_, _, hn0⟩ | ⟨nb, hnb, rfl, hne, hnc⟩
      · rw [← hlen, hn0] at hvr; simp at hvr; omega
      have sI := hV.n.slI (fun x hx => by have := hV.rg x hx; unfold RgI; omega) hV.ln
      refine wpc_cond (t := true) rfl ?_
      simp only [go_sem, binC]
      refine seq_reg ?_
      simp only [go_sem, binC, e3, gc_of hbx, gc_of hbox, inBlk_some]
      refine op_callQ (by simp only [go_sem, binC]; exact sNum_ok hnu H1 va vbb vc _ _ sI hV.rg hvb) ?_
      simp only [go_sem, binC]
      generalize hx : valN rc.1 (va, vbb, vc) = x at hnext
      have hxr : 0 ≤ x ∧ x ≤ 9 := hx ▸ valN_rg hvb hV.rg
      have hnr : H.length ≠ nb := fun h => by rw [h, hnc] at hbox; simp at hbox
      have hnl := (List.getElem?_eq_some_iff.1 hnc).1
      have hsm := hV.sm
      have hln := hV.ln
      refine seq_reg ?_
      simp only [go_sem, binC, e3, gc_of hbx, gc_of hbox, inBlk_some]
      refine ⟨⟨by omega, by omega⟩, ?_⟩
      simp only [go_sem, binC, hnc, Nat.mul_one, Nat.zero_add]
      refine ⟨⟨by omega, by simp [ints]; omega⟩, ?_⟩
      rw [ints_set]
      have hx2 : AgX [nb] H1 (H1.set nb ⟨ints (rc.1.set vr.toNat x), 1, 3, true, true⟩) := AgX.set _ _ _
      refine wpc_genH fun H2 hH2 => ?_
      rw [← hH2] at hx2
      have hbox2 := hx2.get hbox (by simpa using hnr)
      have hnc2 : H2[nb]? = some ⟨ints (rc.1.set vr.toNat x), 1, 3, true, true⟩ := by rw [hH2]; exact List.getElem?_set_self hnl
      have hbx2 := hx2.get hbx (fun h => by simp only [List.mem_singleton] at h; rw [h, hnc] at hbx; simp at hbx)
      have hB2 : Bx H H2 := hB1.tr (hx2.bx (fun b h cs q => by simp only [List.mem_singleton] at h; rw [h, hnc] at q; simp at q))
      have hb42 := hx2.get hb41 (fun h => by simp only [List.mem_singleton] at h; rw [h, hnc] at hb41; simp at hb41)
      have hw2 : GLi fp 2 48 Hb.length H2 wv rc.2.1 := hV.w.keep hx2 (fun b so _ _ q h => by simp only [List.mem_singleton] at h; subst h; rw [hnc] at q; simp at q)
      have hs2 : GLi fp 2 79 Hb.length H2 sv rc.2.2 := hV.s.keep hx2 (fun b so _ _ q h => by simp only [List.mem_singleton] at h; subst h; rw [hnc] at q; simp at q)
      have hag2 : AgX [] Hb H2 := hV.ag.trans hx2 (fun _ h _ => h) (fun b h1 h2 => by simp only [List.mem_singleton] at h1; omega)
      have hl2 : H2.length = H1.length := by rw [hH2, List.length_set]
      clear hH2
      refine wpc_reg ?_
      simp only [go_sem, binC, e3, gc_of hbox2, gc_of hbx2, inBlk_some]
      refine op_app_fl (fl := fp) (a := (vr, x)) (lo := Hb.length) (fun _ => rfl) hw2 (by simp only [go_sem, binC]) (by (simp only [go_sem, binC]) <;> rfl) hlo (by omega) (by omega) (by omega) fun H3 w3 hx3 hw3 => ?_
      have hblk := hw2.blk
      have hbox3 := hx3.get hbox2 (fun h => by obtain ⟨_, cs, so, q⟩ := hblk _ h; rw [hbox2] at q; simp at q)
      have hnc3 := hx3.get hnc2 (fun h => by obtain ⟨_, cs, so, q⟩ := hblk _ h; rw [hnc2] at q; simp at q)
      have hs3 : GLi fp 2 79 Hb.length H3 sv rc.2.2 := hs2.keep hx3 (fun b so _ _ q h => by obtain ⟨_, cs, so, q2⟩ := hblk _ h; rw [q2] at q; simp at q)
      have hag3 : AgX [] Hb H3 := hag2.trans hx3 (fun _ h _ => h) (fun b h1 h2 => by have := hblk b h1; omega)
      have hB3 : Bx H H3 := hB2.tr (hx3.bx (fun b h cs q => by obtain ⟨_, cs, so, q2⟩ := hblk _ h; rw [q2] at q; simp at q))
      have hb43 := hx3.get hb42 (fun h => by obtain ⟨_, cs, so, q2⟩ := hblk _ h; rw [hb42] at q2; simp at q2)
      obtain ⟨b3, so3, _, hw3e, _, _⟩ := (id hw3).resolve_left (by simp)
      subst hw3e
      have hl3 := hx3.1
      simp only [go_sem, binC, e3, gc_of hbox3, hbox3, inBlk_some]
      refine ⟨by omega, ?_⟩
      simp only [go_sem, binC, out_n]
      refine hnext _ _ _ (Mc + 1) (hR1.put (r' := (rc.1.set vr.toNat x, rc.2.1 ++ [(vr, x)], rc.2.2)) hag3 (by omega) (.inr ⟨nb, hnb, by rw [List.length_set], by simpa using hne, hnc3⟩) hw3 hs3 ⟨_, hbox3⟩ (fun y hy => ?_) (fun p hp => ?_) (by show (rc.2.1 ++ [(vr, x)]).length + rc.2.2.length ≤ Mc + 1; rw [List.length_append, List.length_singleton]; omega) (by show (rc.1.set vr.toNat x).length ≤ 1000; rw [List.length_set]; exact hV.ln)) (hB3.setN (Nat.le_refl _) _) (by rw [List.getElem?_set_ne (by omega)]; exact hb43) (by show (rc.1.set vr.toNat x).length = _; rw [List.length_set]; exact hlen) rfl (by simp [allL]) (by simp only [go_sem, binC, e0]) (by simp only [go_sem, binC, e3]) (by simp only [go_sem, binC, e4]) (by simp only [go_sem, binC, e5])
      · rcases List.mem_or_eq_of_mem_set hy with h | rfl
        · exact hV.rg y h
        · exact hxr
      · simp only [List.mem_append, List.mem_singleton] at hp
        rcases hp with (h | rfl) | h
        · exact hV.pr p (.inl h)
        · exact ⟨by unfold RgI; omega, by unfold RgI; omega⟩
        · exact hV.pr p (.inr h)
    simp only [go_sem, binC, beq_f h1]
    refine wpc_cond (t := false) rfl ?_
    simp only [go_sem, binC]
    refine seq_reg ?_
    simp only [go_sem, binC]
    obtain ⟨nv, wv, sv, hbox, hV⟩ := hR1.v
    have hn := hV.n
    rcases hn with ⟨_, _, hn0⟩ | ⟨nb, hnb, rfl, hne, hnc⟩
    · rw [← hlen, hn0] at hvr; simp at hvr; omega
    have hgn := gc_ints hnc (i := vr.toNat) (by omega)
    by_cases h2 : kd = 2
    · subst h2
      obtain ⟨ht1, he1⟩ := hk2 rfl
      rw [← hlen] at ht1 he1
      rw [hs, runT_if] at hnext
      have h23 : ((2 : Int) == 3) = false := rfl
      have ow := hV.w.one
      have os := hV.s.one
      simp only [go_sem, binC, h23]
      refine wpc_cond (t := false) rfl ?_
      simp only [go_sem, binC]
      refine seq_reg ?_
      simp only [go_sem, binC, e3, gc_of hbx, gc_of hbox, inBlk_some]
      refine ⟨⟨by omega, by omega⟩, ?_⟩
      simp only [go_sem, binC, Nat.mul_one, Nat.zero_add, hgn]
      have hfin : ∀ (H4 : Heap) (nv4 wv4 sv4 : Value) (r4 : RunS) (M4 : Nat), RunV Hb r4 M4 H4 nv4 wv4 sv4 → Bx H1 H4 → M4 ≤ Mc + (1 + ((allL n tl).length + (allL n el).length)) → H4[H.length]? = some ⟨[sli nb 0 rc.1.length, wv, sv], 0, 0, false, true⟩ ∧ Bx H (H4.set H.length ⟨[nv4, wv4, sv4], 0, 0, false, true⟩) ∧ (H4.set H.length ⟨[nv4, wv4, sv4], 0, 0, false, true⟩)[H.length + 1]? = some ⟨[nilS, nilS, nilS], 0, 0, false, true⟩ ∧ RunI Hb H.length r4 (Mc + (1 + ((allL n tl).length + (allL n el).length))) (H4.set H.length ⟨[nv4, wv4, sv4], 0, 0, false, true⟩) := by
        intro H4 nv4 wv4 sv4 r4 M4 hV4 hB4 hM4
        have hbox4 := hB4.2 _ _ hbox
        have hb44 := hB4.2 _ _ hb41
        have hbl4 := (List.getElem?_eq_some_iff.1 hbox4).1
        refine ⟨hbox4, (hB1.tr hB4).setN (Nat.le_refl _) _, by rw [List.getElem?_set_ne (by omega)]; exact hb44, ?_⟩
        exact (hV4.box' hbox4 hHb).mono hM4
      by_cases hz : rc.1.getD vr.toNat 0 = 0
      · have hz2 : (rc.1.getD vr.toNat 0 != 0) = false := by rw [hz]; rfl
        simp only [go_sem, binC, hz2]
        refine wpc_cond (t := false) rfl ?_
        simp only [go_sem, binC]
        refine wpc_reg ?_
        simp only [go_sem, binC, e3, gc_of hbx, gc_of hbox, inBlk_some, ow, os]
        obtain ⟨nv4, wv4, sv4, H4, k4, hV4, hB4⟩ := ih n rfl Hb H1 lo Mc rc _ wv sv ev el (d - 1) hlo hV hel he1 (by omega)
        refine op_callN (by simp only [go_sem, binC]; exact k4) ?_
        obtain ⟨hb4x, q1, q2, q3⟩ := hfin H4 _ _ _ _ _ hV4 hB4 (by omega)
        have p1 := hV4.n.one
        have p2 := hV4.w.one
        have p3 := hV4.s.one
        simp only [go_sem, binC, e3, hb4x, p1, p2, p3]
        refine ⟨by omega, ?_⟩
        simp only [go_sem, binC, out_n]
        rw [if_pos hz] at hnext
        exact hnext _ _ _ _ q3 q1 q2 (by rw [runL_len he1]; exact hlen) rfl rfl (by simp only [go_sem, binC, e0]) (by simp only [go_sem, binC, e3]) (by simp only [go_sem, binC, e4]) (by simp only [go_sem, binC, e5])
      · have hz2 : (rc.1.getD vr.toNat 0 != 0) = true := by simpa using hz
        simp only [go_sem, binC, hz2]
        refine wpc_cond (t := true) rfl ?_
        simp only [go_sem, binC]
        refine wpc_reg ?_
        simp only [go_sem, binC, e3, gc_of hbx, gc_of hbox, inBlk_some, ow, os]
        obtain ⟨nv4, wv4, sv4, H4, k4, hV4, hB4⟩ := ih n rfl Hb H1 lo Mc rc _ wv sv tv tl (d - 1) hlo hV htl ht1 (by omega)
        refine op_callN (by simp only [go_sem, binC]; exact k4) ?_
        obtain ⟨hb4x, q1, q2, q3⟩ := hfin H4 _ _ _ _ _ hV4 hB4 (by omega)
        have p1 := hV4.n.one
        have p2 := hV4.w.one
        have p3 := hV4.s.one
        simp only [go_sem, binC, e3, hb4x, p1, p2, p3]
        refine ⟨by omega, ?_⟩
        simp only [go_sem, binC, out_n]
        rw [if_neg hz] at hnext
        exact hnext _ _ _ _ q3 q1 q2 (by rw [runL_len ht1]; exact hlen) rfl rfl (by simp only [go_sem, binC, e0]) (by simp only [go_sem, binC, e3]) (by simp only [go_sem, binC, e4]) (by simp only [go_sem, binC, e5])
    have h3 : kd = 3 := (hk3 h1 h2).1
    obtain ⟨rfl, rfl⟩ := hkn h2
    rw [hs, runT_tell h1 h2] at hnext
    have hsm := hV.sm
    have hrbl := (List.getElem?_eq_some_iff.1 hbox).1
    simp only [go_sem, binC, beq_t h3]
    refine wpc_cond (t := true) rfl ?_
    simp only [go_sem, binC]
    refine wpc_regD ?_
    simp only [go_sem, binC, e3, gc_of hbx, gc_of hbox, inBlk_some]
    refine ⟨⟨by omega, by omega⟩, ?_⟩
    simp only [go_sem, binC, Nat.mul_one, Nat.zero_add, hgn]
    refine op_app_fl (fl := fp) (a := (ho, rc.1.getD vr.toNat 0)) (lo := Hb.length) (fun _ => rfl) hV.s (by simp only [go_sem, binC]) (by (simp only [go_sem, binC]) <;> rfl) hlo (by omega) (by omega) (by omega) fun H2 w2 hx2 hw2 => ?_
    have hblk := hV.s.blk
    have hbox2 := hx2.get hbox (fun h => by obtain ⟨_, cs, so, q⟩ := hblk _ h; rw [hbox] at q; simp at q)
    have hnc2 := hx2.get hnc (fun h => by obtain ⟨_, cs, so, q⟩ := hblk _ h; rw [hnc] at q; simp at q)
    have hb42 := hx2.get hb41 (fun h => by obtain ⟨_, cs, so, q⟩ := hblk _ h; rw [hb41] at q; simp at q)
    have hww : GLi fp 2 48 Hb.length H2 wv rc.2.1 := hV.w.keep hx2 (fun b so _ _ q h => by obtain ⟨_, cs, so, q2⟩ := hblk _ h; rw [q2] at q; simp at q)
    have hag2 : AgX [] Hb H2 := hR1.ag.trans hx2 (fun _ h _ => h) (fun b h1 h2 => by have := hblk b h1; omega)
    have hB2 : Bx H H2 := hB1.tr (hx2.bx (fun b h cs q => by obtain ⟨_, cs, so, q2⟩ := hblk _ h; rw [q2] at q; simp at q))
    obtain ⟨b2, so2, _, hw2e, _, _⟩ := (id hw2).resolve_left (by simp)
    subst hw2e
    have hl2 := hx2.1
    simp only [go_sem, binC, e3, gc_of hbox2, hbox2, inBlk_some]
    refine ⟨by omega, ?_⟩
    simp only [go_sem, binC, out_n]
    refine hnext _ _ _ (Mc + 1) (hR1.put (r' := (rc.1, rc.2.1, rc.2.2 ++ [(ho, rc.1.getD vr.toNat 0)])) hag2 (by omega) (.inr ⟨nb, hnb, rfl, hne, hnc2⟩) hww hw2 ⟨_, hbox2⟩ hV.rg (fun p hp => ?_) (by show rc.2.1.length + (rc.2.2 ++ [_]).length ≤ Mc + 1; rw [List.length_append, List.length_singleton]; omega) hV.ln) (hB2.setN (Nat.le_refl _) _) (by rw [List.getElem?_set_ne (by omega)]; exact hb42) hlen rfl (by simp [allL]) (by simp only [go_sem, binC, e0]) (by simp only [go_sem, binC, e3]) (by simp only [go_sem, binC, e4]) (by simp only [go_sem, binC, e5])
    simp only [List.mem_append, List.mem_singleton] at hp
    rcases hp with h | h | rfl
    · exact hV.pr p (.inl h)
    · exact hV.pr p (.inr h)
    · exact ⟨rg.2.2.2.2.2, by have := getD_rg hV.rg vr.toNat; unfold RgI; omega⟩
theorem sDo_all {F : Nat → Option IFn} (hf : F 49 = some c_sDo) (hnu : F 85 = some c_sNum) : ∀ n, DoSOk F 49 n
  | 0 => sDo_ok hf hnu fun m h => by cases h
  | n + 1 => sDo_ok hf hnu fun m h => by cases h; exact sDo_all hf hnu n
end Go.Proofs.YtpaoppgbgjnkmaaI
end
section
/- What comes of a program (the reference); what comes compared. -/
set_option linter.unusedVariables false
set_option linter.unusedSimpArgs false
namespace Go.Proofs.YtpaoppgbgjnkmaaI
open Go Go.RowKit
def c_sRunOf : IFn := ⟨2, 18, [.cell true 3 4, .t 5],
 .seq (.reg none [
    ⟨(some 2), none, .box (.t 0)⟩,
    ⟨(some 4), none, .new [(.slice none 0 0), (.slice none 0 0), (.slice none 0 0)]⟩,
    ⟨(some 5), none, .mov (.c (.bool false))⟩])
 (.seq (.seq (.reg none [
     ⟨(some 6), none, .load true 2 (.t 2)⟩,
     ⟨(some 7), none, .mov (.t 1)⟩,
     ⟨(some 8), none, .call .q (.f 15) [(.t 6), (.t 7)]⟩,
     ⟨(some 9), none, .un .not (.t 8)⟩])
  (.cond (.t 9) (.seq (.reg none [
      ⟨(some 10), none, .build [(.slice none 0 0), (.slice none 0 0), (.slice none 0 0)] []⟩,
      ⟨none, none, .store 3 (.t 4) (.t 10)⟩,
      ⟨(some 5), none, .mov (.c (.bool false))⟩])
   (.ret)) (.skip)))
 (.seq (.reg (some 6) [
    ⟨(some 11), none, .fad 1 (.t 2)⟩,
    ⟨(some 12), none, .load false 1 (.t 11)⟩,
    ⟨(some 13), none, .lit 1 3 0 [] []⟩,
    ⟨(some 14), none, .mov (.t 1)⟩,
    ⟨(some 15), none, .app 1 3 8 false (.t 13) (.t 14)⟩,
    ⟨(some 16), none, .build [(.slice none 0 0), (.slice none 0 0), (.slice none 0 0)] [(0, 1, (.t 15))]⟩,
    ⟨(some 17), none, .call .n (.f 49) [(.t 12), (.t 16)]⟩,
    ⟨none, none, .store 3 (.t 4) (.t 17)⟩,
    ⟨(some 5), none, .mov (.c (.bool true))⟩])
 (.ret)))⟩
def c_lcWrites : IFn := ⟨2, 26, [.t 4],
 .seq (.reg none [
    ⟨(some 4), none, .mov (.c (.bool false))⟩])
 (.seq (.seq (.reg none [
     ⟨(some 6), none, .mov (.t 0)⟩,
     ⟨(some 7), none, .len (.t 6)⟩,
     ⟨(some 8), none, .mov (.t 1)⟩,
     ⟨(some 9), none, .len (.t 8)⟩,
     ⟨(some 10), none, .bin .neq (.t 7) (.t 9)⟩])
  (.cond (.t 10) (.seq (.reg none [
      ⟨(some 4), none, .mov (.c (.bool false))⟩])
   (.ret)) (.skip)))
 (.seq (.seq (.reg none [
     ⟨(some 5), none, .mov (.c (.int .i64 0))⟩])
  (.block 0 (.loop (.seq (.seq (.reg none [
        ⟨(some 11), none, .mov (.t 5)⟩,
        ⟨(some 12), none, .mov (.t 0)⟩,
        ⟨(some 13), none, .len (.t 12)⟩,
        ⟨(some 14), none, .bin .lss (.t 11) (.t 13)⟩])
     (.cond (.t 14) (.skip) (.exit 0)))
    (.seq (.block 1 (.seq (.reg (some 8) [
         ⟨(some 17), none, .mov (.t 0)⟩,
         ⟨(some 18), none, .mov (.t 5)⟩,
         ⟨(some 19), none, .iad 2 (.t 17) (.t 18)⟩,
         ⟨(some 20), none, .load true 2 (.t 19)⟩,
         ⟨(some 21), none, .mov (.t 1)⟩,
         ⟨(some 22), none, .mov (.t 5)⟩,
         ⟨(some 23), none, .iad 2 (.t 21) (.t 22)⟩,
         ⟨(some 24), none, .load true 2 (.t 23)⟩,
         ⟨(some 25), none, .eqs true 2 (.t 20) (.t 24)⟩])
      (.cond (.t 25) (.seq (.reg none [
          ⟨(some 4), none, .mov (.c (.bool false))⟩])
       (.ret)) (.skip))))
    (.reg none [
      ⟨(some 15), none, .mov (.t 5)⟩,
      ⟨(some 16), none, .bin .add (.t 15) (.c (.int .i64 1))⟩,
      ⟨(some 5), none, .mov (.t 16)⟩]))))))
 (.seq (.reg none [
    ⟨(some 4), none, .mov (.c (.bool true))⟩])
 (.ret))))⟩
def c_lcRun : IFn := ⟨2, 47, [.t 4],
 .seq (.reg none [
    ⟨(some 2), none, .box (.t 0)⟩,
    ⟨(some 3), none, .box (.t 1)⟩,
    ⟨(some 4), none, .mov (.c (.bool false))⟩])
 (.seq (.seq (.reg none [
     ⟨(some 6), none, .fad 0 (.t 2)⟩,
     ⟨(some 7), none, .load false 1 (.t 6)⟩,
     ⟨(some 8), none, .fad 0 (.t 3)⟩,
     ⟨(some 9), none, .load false 1 (.t 8)⟩,
     ⟨(some 10), none, .call .q (.f 16) [(.t 7), (.t 9)]⟩,
     ⟨(some 11), none, .un .not (.t 10)⟩,
     ⟨(some 12), none, .mov (.t 11)⟩,
     ⟨(some 13), (some (12, false)), .fad 1 (.t 2)⟩,
     ⟨(some 14), (some (12, false)), .load false 1 (.t 13)⟩,
     ⟨(some 15), (some (12, false)), .fad 1 (.t 3)⟩,
     ⟨(some 16), (some (12, false)), .load false 1 (.t 15)⟩,
     ⟨(some 17), (some (12, false)), .call .q (.f 36) [(.t 14), (.t 16)]⟩,
     ⟨(some 18), (some (12, false)), .un .not (.t 17)⟩,
     ⟨(some 19), none, .pick (.t 12) (.c (.bool true)) (.t 18)⟩,
     ⟨(some 20), none, .mov (.t 19)⟩,
     ⟨(some 21), (some (20, false)), .fad 2 (.t 2)⟩,
     ⟨(some 22), (some (20, false)), .load false 1 (.t 21)⟩,
     ⟨(some 23), (some (20, false)), .len (.t 22)⟩,
     ⟨(some 24), (some (20, false)), .fad 2 (.t 3)⟩,
     ⟨(some 25), (some (20, false)), .load false 1 (.t 24)⟩,
     ⟨(some 26), (some (20, false)), .len (.t 25)⟩,
     ⟨(some 27), (some (20, false)), .bin .neq (.t 23) (.t 26)⟩,
     ⟨(some 28), none, .pick (.t 20) (.c (.bool true)) (.t 27)⟩])
  (.cond (.t 28) (.seq (.reg none [
      ⟨(some 4), none, .mov (.c (.bool false))⟩])
   (.ret)) (.skip)))
 (.seq (.seq (.reg none [
     ⟨(some 5), none, .mov (.c (.int .i64 0))⟩])
  (.block 0 (.loop (.seq (.seq (.reg none [
        ⟨(some 29), none, .mov (.t 5)⟩,
        ⟨(some 30), none, .fad 2 (.t 2)⟩,
        ⟨(some 31), none, .load false 1 (.t 30)⟩,
        ⟨(some 32), none, .len (.t 31)⟩,
        ⟨(some 33), none, .bin .lss (.t 29) (.t 32)⟩])
     (.cond (.t 33) (.skip) (.exit 0)))
    (.seq (.block 1 (.seq (.reg (some 10) [
         ⟨(some 36), none, .fad 2 (.t 2)⟩,
         ⟨(some 37), none, .load false 1 (.t 36)⟩,
         ⟨(some 38), none, .mov (.t 5)⟩,
         ⟨(some 39), none, .iad 2 (.t 37) (.t 38)⟩,
         ⟨(some 40), none, .load true 2 (.t 39)⟩,
         ⟨(some 41), none, .fad 2 (.t 3)⟩,
         ⟨(some 42), none, .load false 1 (.t 41)⟩,
         ⟨(some 43), none, .mov (.t 5)⟩,
         ⟨(some 44), none, .iad 2 (.t 42) (.t 43)⟩,
         ⟨(some 45), none, .load true 2 (.t 44)⟩,
         ⟨(some 46), none, .eqs true 2 (.t 40) (.t 45)⟩])
      (.cond (.t 46) (.seq (.reg none [
          ⟨(some 4), none, .mov (.c (.bool false))⟩])
       (.ret)) (.skip))))
    (.reg none [
      ⟨(some 34), none, .mov (.t 5)⟩,
      ⟨(some 35), none, .bin .add (.t 34) (.c (.int .i64 1))⟩,
      ⟨(some 5), none, .mov (.t 35)⟩]))))))
 (.seq (.reg none [
    ⟨(some 4), none, .mov (.c (.bool true))⟩])
 (.ret))))⟩
theorem op_app_nums {F : Nat → Option IFn} {lo lo0 : Nat} {e : Env} {H : Heap} {K : Value → Heap → Prop} {x y : Opd} {b : Nat} {so : Bool} {v : Value} {l : List Int} (hx : x.ev e = .slice (some ⟨b, 0, none⟩) 0 0) (hy : y.ev e = v) (hv : SlR Co.int (vw 0 H) v l) (hk : H[b]? = some ⟨[], 1, 3, true, so⟩) (hlt : b < lo) (hl : l.length ≤ 1048576) (h0 : lo0 ≤ H.length)
    (k : ∀ w L, NumV lo0 (H ++ L) w l → K w (H ++ L)) : wpOp F lo (.app 1 3 8 false x y) e H K := by
  by_cases hl0 : l = []
  · obtain ⟨_, a, rfl, _⟩ := hv
    subst hl0
    refine op_app_zero _ _ _ _ _ hx hy ?_
    have := k (.slice (some ⟨b, 0, none⟩) 0 0) []
    rw [List.append_nil] at this
    exact this (.inl ⟨_, rfl, rfl⟩)
  · obtain ⟨b', o', rfl, hg⟩ := sl_ints hv hl0
    have hne : l.length ≠ 0 := fun h => hl0 (List.eq_nil_of_length_eq_zero h)
    exact op_app_lit hx hy hne hg hk hlt (by omega) (by omega) (k _ _ (.inr ⟨H.length, h0, rfl, hl0, get_new0 _ _⟩))
theorem op_app_numsN {F : Nat → Option IFn} {lo lo0 : Nat} {e : Env} {H : Heap} {K : Value → Heap → Prop} {x y : Opd} {b : Nat} {v : Value} {l : List Int} (hx : x.ev e = .slice (some ⟨b, 0, none⟩) 0 0) (hy : y.ev e = v) (hv : SlR Co.int (vw 0 H) v l) (hk : H[b]? = some ⟨[], 1, 3, true, true⟩) (hlt : lo ≤ b) (hl : l.length ≤ 1048576) (h0 : lo0 ≤ H.length)
    (k : ∀ w H', AgX [b] H H' → NumV lo0 H' w l → K w H') : wpOp F lo (.app 1 3 8 false x y) e H K := by
  by_cases hl0 : l = []
  · obtain ⟨_, a, rfl, _⟩ := hv
    subst hl0
    refine op_app_zero _ _ _ _ _ hx hy ?_
    exact k _ _ (AgX.refl _ _) (.inl ⟨_, rfl, rfl⟩)
  · obtain ⟨b', o', rfl, hg⟩ := sl_ints hv hl0
    have hne : l.length ≠ 0 := fun h => hl0 (List.eq_nil_of_length_eq_zero h)
    refine op_app _ _ _ _ _ (b := ⟨b, 0, none⟩) (n := 0) (c := 0) (a := ⟨b', o', none⟩) (kb := ⟨[], 1, 3, true, true⟩) hx hy hne hg hk ⟨hlt, rfl, rfl, rfl, rfl, rfl, by omega, by omega⟩ ?_
    rw [Nat.zero_add]
    have key : ∀ k k', (H.set b k ++ [k'])[H.length]? = some k' := fun k k' => by
      have := get_new0 (H.set b k) [k']
      rw [List.length_set] at this
      exact this
    refine k _ _ ((AgX.set H b _).trans (AgX.app [] _ _) (fun b h _ => h) (fun b h _ => by cases h)) (.inr ⟨H.length, h0, rfl, hl0, key _ _⟩)
theorem sRunOf_ok {F : Nat → Option IFn} {f : Nat} (hf : F f = some c_sRunOf) (gn : NumsOk F 15) (gdo : ∀ n, DoSOk F 49 n) : RunOk F f := by
  intro H n lv sv w ls l nums r1 r2 hsm r3
  suffices h : ∃ v H', KC F f [.agg #[lv, sv], w] H v H' ∧ (∃ nv wv tv, v = .tuple #[.agg #[nv, wv, tv], .bool (numsB n (ls, l) nums)] ∧ AgX [] H H' ∧
      SlR Co.int (vw 0 H') nv (runOf n (ls, l) nums).1 ∧ SlR Co.p2 (vw 0 H') wv (runOf n (ls, l) nums).2.1 ∧ SlR Co.p2 (vw 0 H') tv (runOf n (ls, l) nums).2.2) by
    obtain ⟨_, H', h1, nv, wv, tv, rfl, h2⟩ := h
    exact ⟨nv, wv, tv, H', h1, h2⟩
  have olv : one lv = true := by obtain ⟨_, a, rfl, _⟩ := r1; rfl
  have osv : one sv = true := by obtain ⟨_, a, rfl, _⟩ := r2; rfl
  refine KC.mk hf rfl ?_
  refine seq_reg ?_
  simp only [go_sem, binC, olv, osv]
  refine wpc_gen fun H1 hH1 => ?_
  have hx1 : AgX [] H H1 := hH1 ▸ AgX.app [] _ _
  have hb2 : H1[H.length]? = some ⟨[lv, sv], 0, 0, false, true⟩ := hH1 ▸ get_new0 _ _
  have hb4 : H1[H.length + 1]? = some ⟨[nilS, nilS, nilS], 0, 0, false, true⟩ := hH1 ▸ get_new _ _ 1
  clear hH1
  have r1' := r1.mono (agx_sub hx1)
  have r2' := r2.mono (agx_sub hx1)
  have r3' := r3.mono (agx_sub hx1)
  have hb4l := (List.getElem?_eq_some_iff.1 hb4).1
  refine seq_assoc (seq_reg ?_)
  simp only [go_sem, binC, gc_of hb2, inBlk_some, olv, osv]
  refine op_callB (by simp only [go_sem, binC]; exact gn H1 n _ _ _ ls l nums r1' r2' hsm r3') (fun hB => ?_) (fun hB => ?_)
  rotate_left
  · simp only [go_sem, binC]
    refine seq_cond (t := true) rfl ?_
    simp only [go_sem, binC]
    refine seq_assoc (seq_reg ?_)
    simp only [go_sem, binC, hb4]
    have hr : runOf n (ls, l) nums = ([], [], []) := if_neg (by rw [hB]; simp)
    refine seq_ret ⟨Or.inr rfl, .tuple #[.agg #[nilS, nilS, nilS], .bool false], ?_, nilS, nilS, nilS, by rw [hB], hx1.setN (by omega) _, ?_, ?_, ?_⟩
    · simp [resV, resL, res1, putE_get, notT, ptr, gc_set hb4l, inBlk_some, valOf]
    all_goals (rw [hr]; exact ⟨by simp, none, rfl, .inl rfl⟩)
  have hB2 := hB
  simp only [numsB, Bool.and_eq_true, decide_eq_true_eq, List.all_eq_true] at hB2
  obtain ⟨⟨hP, hln⟩, hall⟩ := hB2
  have hrun : runOf n (ls, l) nums = runL n l (nums, [], []) := if_pos hB
  have hcnt := progB_cnt hP hsm
  have hst : l.all (stepB ls.length n 3) = true := by
    simp only [progB, Bool.and_eq_true] at hP; exact hP.1.2
  have hls : ls.length ≤ 4 := by
    simp only [progB, Bool.and_eq_true, decide_eq_true_eq] at hP; have := hP.1.1.1; omega
  simp only at hln hcnt
  have rg : ∀ x ∈ nums, 0 ≤ x ∧ x ≤ 9 := fun x hx => inB_iff'.1 (hall x hx)
  simp only [go_sem, binC]
  refine seq_cond (t := false) rfl ?_
  simp only [go_sem, binC]
  refine seq_skip (seq_regD ?_)
  simp only [go_sem, binC, gc_of hb2, inBlk_some]
  have hxl : AgX [] H1 (H1 ++ [⟨[], 1, 3, true, true⟩]) := AgX.app [] _ _
  refine op_app_nums (b := H1.length) (lo0 := H1.length) (by (simp only [go_sem, binC]) <;> rfl) (by simp only [go_sem, binC]) (r3'.mono (agx_sub hxl)) (get_new0 _ _) (by omega) (by omega) (by rw [List.length_append]; omega) fun nv L q1 => ?_
  have on := q1.one
  obtain ⟨na, rfl⟩ := q1.shape
  simp only [go_sem, binC]
  have hx2 : AgX [] H1 (H1 ++ [⟨[], 1, 3, true, true⟩] ++ L) := hxl.tr (AgX.app [] _ _)
  simp only [List.append_assoc, List.cons_append, List.nil_append] at hx2 q1 ⊢
  generalize H1 ++ ⟨[], 1, 3, true, true⟩ :: L = H2 at hx2 q1 ⊢
  have hV : RunV H1 (nums, [], []) 0 H2 (.slice na nums.length nums.length) nilS nilS := ⟨hx2, q1, .inl ⟨rfl, rfl⟩, .inl ⟨rfl, rfl⟩, rg, (fun p hp => by simp at hp), Nat.le_refl _, (show nums.length ≤ 1000 by omega)⟩
  obtain ⟨nv3, wv3, sv3, H3, k3, hV3, hB3⟩ := gdo n H1 H2 H.length 0 (nums, [], []) _ _ _ sv l 3 hx1.1 hV r2' (by show l.all (stepB nums.length n 3) = true; rw [hln]; exact hst) (by omega)
  refine op_callN (by simp only [go_sem, binC]; exact k3) ?_
  have o1 := hV3.n.one
  have o2 := hV3.w.one
  have o3 := hV3.s.one
  have hb43 := hV3.ag.get hb4 (by simp)
  have hb43l := (List.getElem?_eq_some_iff.1 hb43).1
  simp only [go_sem, binC, hb43, o1, o2, o3]
  have hxs : AgX [H.length + 1] H3 (H3.set (H.length + 1) ⟨[nv3, wv3, sv3], 0, 0, false, true⟩) := AgX.set _ _ _
  have hn4 := hV3.n.keep' hxs (fun b _ _ h1 h2 => by simp only [List.mem_singleton] at h2; subst h2; rw [hb43] at h1; simp at h1)
  have hw4 := hV3.w.keep hxs (fun b so _ _ q h => by simp only [List.mem_singleton] at h; subst h; rw [hb43] at q; simp at q)
  have hs4 := hV3.s.keep hxs (fun b so _ _ q h => by simp only [List.mem_singleton] at h; subst h; rw [hb43] at q; simp at q)
  have hsm3 := hV3.sm
  refine wpc_ret ⟨Or.inr rfl, .tuple #[.agg #[nv3, wv3, sv3], .bool true], ?_, nv3, wv3, sv3, by rw [hB], (hx1.tr hV3.ag).setN (by omega) _, ?_, ?_, ?_⟩
  · simp [resV, resL, res1, putE_get, notT, ptr, gc_set hb43l, inBlk_some, valOf]
  · rw [hrun]; exact hn4.slI (fun x hx => by have := hV3.rg x hx; unfold RgI; omega) hV3.ln
  · rw [hrun]; exact hw4.slP (es := 2) (fun p hp => hV3.pr p (.inl hp)) (by omega)
  · rw [hrun]; exact hs4.slP (es := 2) (fun p hp => hV3.pr p (.inr hp)) (by omega)
theorem gcP {H : Heap} {v : Value} {l : List (Int × Int)} (h : SlR Co.p2 (vw 0 H) v l) {i : Nat} (hi : i < l.length) : ∃ b o, v = .slice (some ⟨b, o, none⟩) l.length l.length ∧ getCells H b (o + i * 2) 2 = some [.int .i64 l[i].1, .int .i64 l[i].2] := by
  obtain ⟨_, a, rfl, h2⟩ := h
  rcases h2 with h2 | ⟨b, o, rfl, h2⟩
  · rw [h2] at hi; simp at hi
  · obtain ⟨cs, h3, h4⟩ := h2 i hi
    have h5 := rng_gc h3
    rw [show Co.p2.w = 2 from rfl] at h5
    obtain ⟨_, _, rfl, ⟨rfl, _⟩, ⟨rfl, _⟩⟩ := h4
    exact ⟨b, o, rfl, h5⟩
def PairsOk (F : Nat → Option IFn) (f : Nat) : Prop := ∀ (H : Heap) (v w : Value) (l l' : List (Int × Int)), SlR Co.p2 (vw 0 H) v l → SlR Co.p2 (vw 0 H) w l' → QC F f [v, w] H (.bool (decide (l = l')))
theorem eqC2 (a b c d : Int) : eqCells [.int .i64 a, .int .i64 b] [.int .i64 c, .int .i64 d] = some (decide ((a, b) = (c, d))) := by
  simp only [eqCells, if_true, Option.map_some, Bool.and_true, Prod.mk.injEq]
  congr 1
  rw [Bool.eq_iff_iff]
  simp
theorem eqsV2 (a b c d : Int) : eqsV true 2 (.agg #[.int .i64 a, .int .i64 b]) (.agg #[.int .i64 c, .int .i64 d]) = some (.bool (!decide ((a, b) = (c, d)))) := by
  have h := eqC2 a b c d
  simp only [eqsV, List.length_cons, List.length_nil, h] 
  rfl
theorem lcWrites_ok {F : Nat → Option IFn} {f : Nat} (hf : F f = some c_lcWrites) : PairsOk F f := by
  intro H v w l l' hv hw
  obtain ⟨h0, a, rfl, _⟩ := id hv
  obtain ⟨h0', a', rfl, _⟩ := id hw
  refine QC.mk hf rfl ?_
  refine seq_reg ?_
  simp only [go_sem, binC]
  by_cases hl : l.length = l'.length
  rotate_left
  · have hne : ((l.length : Int) != (l'.length : Int)) = true := by simp; omega
    refine seq_assoc (seq_reg ?_)
    simp only [go_sem, binC, hne]
    refine seq_cond (t := true) rfl ?_
    simp only [go_sem, binC]
    refine seq_assoc (seq_reg ?_)
    simp only [go_sem, binC]
    refine seq_ret ⟨Or.inr rfl, .bool false, by simp only [go_sem, binC], ?_, rfl⟩
    rw [decide_eq_false (fun h => hl (by rw [h]))]
  have hne : ((l.length : Int) != (l'.length : Int)) = false := by simp; omega
  refine seq_assoc (seq_reg ?_)
  simp only [go_sem, binC, hne]
  refine seq_cond (t := false) rfl ?_
  simp only [go_sem, binC]
  refine seq_skip (seq_assoc (seq_reg ?_))
  simp only [go_sem, binC]
  refine seq_block (wpc_loop ?_)
  suffices h : ∀ (k i : Nat) (e : Env), i + k = l.length → e 0 = .slice a l.length l.length → e 1 = .slice a' l'.length l'.length → e 5 = .int .i64 i → (l = l' ↔ l.drop i = l'.drop i) → W F H.length _ e _ _ from
    h l.length 0 _ (by omega) (by simp only [go_sem, binC]) (by simp only [go_sem, binC]) (by (simp only [go_sem, binC]) <;> rfl) (by simp)
  intro k
  induction k with
  | zero =>
    intro i e hi e0 e1 e5 heq
    refine lp_step ?_
    refine seq_assoc (seq_reg ?_)
    simp only [go_sem, binC, e0, e5]
    refine seq_cond (t := false) (by simp only [go_sem, binC]; rw [decide_eq_false (by omega)]) ?_
    simp only [go_sem, binC]
    refine seq_exit ?_
    simp only [go_sem, binC, thenX_e, out_e, thenX_n]
    refine seq_reg ?_
    simp only [go_sem, binC]
    refine wpc_ret ⟨Or.inr rfl, .bool true, by simp only [go_sem, binC], ?_, rfl⟩
    rw [decide_eq_true (heq.2 (by rw [List.drop_of_length_le (by omega), List.drop_of_length_le (by omega)]))]
  | succ k ih =>
    intro i e hi e0 e1 e5 heq
    have hil : i < l.length := by omega
    have hil' : i < l'.length := by omega
    obtain ⟨b, o, hv1, hg⟩ := gcP hv hil
    obtain ⟨b', o', hv2, hg'⟩ := gcP hw hil'
    simp only [Value.slice.injEq, and_true] at hv1 hv2
    subst hv1 hv2
    have hw1 : IntKind.i64.wrap ((i : Int) + 1) = ((i + 1 : Nat) : Int) := by rw [wrap_id (by omega) (by omega)]; omega
    rw [List.drop_eq_getElem_cons hil, List.drop_eq_getElem_cons hil', List.cons.injEq] at heq
    refine lp_step ?_
    refine seq_assoc (seq_reg ?_)
    simp only [go_sem, binC, e0, e5]
    refine seq_cond (t := true) (by simp only [go_sem, binC]; rw [decide_eq_true (by omega)]) ?_
    simp only [go_sem, binC]
    refine seq_skip (seq_block (seq_regD ?_))
    simp only [go_sem, binC, e0, e5]
    refine ⟨⟨by omega, by omega⟩, ?_⟩
    simp only [go_sem, binC, Int.toNat_natCast, hg, e1, e5]
    refine ⟨⟨by omega, by omega⟩, ?_⟩
    simp only [go_sem, binC, Int.toNat_natCast, hg', eqsV2]
    by_cases hq : l[i] = l'[i]
    · have hb : (!decide ((l[i].1, l[i].2) = (l'[i].1, l'[i].2))) = false := by simp [hq]
      simp only [go_sem, binC, hb]
      refine wpc_cond (t := false) (by (simp only [go_sem, binC]) <;> rfl) ?_
      simp only [go_sem, binC]
      refine wpc_skip ?_
      simp only [go_sem, binC, out_n, thenX_n]
      refine wpc_reg ?_
      simp only [go_sem, binC, e5, hw1]
      simp only [go_sem, binC, thenX_n]
      exact ih (i + 1) _ (by omega) (by simp only [go_sem, binC, e0]) (by simp only [go_sem, binC, e1]) (by simp only [go_sem, binC]) (by rw [heq]; exact ⟨fun h => h.2, fun h => ⟨hq, h⟩⟩)
    · have hb : (!decide ((l[i].1, l[i].2) = (l'[i].1, l'[i].2))) = true := by
        rw [decide_eq_false (fun h => hq (Prod.ext (by simpa using congrArg Prod.fst h) (by simpa using congrArg Prod.snd h)))]; rfl
      simp only [go_sem, binC, hb]
      refine wpc_cond (t := true) (by (simp only [go_sem, binC]) <;> rfl) ?_
      simp only [go_sem, binC]
      refine seq_reg ?_
      simp only [go_sem, binC]
      refine wpc_ret ?_
      simp only [go_sem, binC, out_r, thenX_r]
      refine ⟨Or.inr rfl, .bool false, by simp only [go_sem, binC], ?_, rfl⟩
      rw [decide_eq_false (fun h => hq (heq.1 h).1)]
def RunsOk (F : Nat → Option IFn) (f : Nat) : Prop := ∀ (H : Heap) (nv wv sv nv' wv' sv' : Value) (r r' : RunS), SlR Co.int (vw 0 H) nv r.1 → SlR Co.p2 (vw 0 H) wv r.2.1 → SlR Co.p2 (vw 0 H) sv r.2.2 → SlR Co.int (vw 0 H) nv' r'.1 → SlR Co.p2 (vw 0 H) wv' r'.2.1 → SlR Co.p2 (vw 0 H) sv' r'.2.2 → QC F f [.agg #[nv, wv, sv], .agg #[nv', wv', sv']] H (.bool (decide (r = r')))
theorem lcRun_ok {F : Nat → Option IFn} {f : Nat} (hf : F f = some c_lcRun) (gi : IntsOk F 16) (gw : PairsOk F 36) : RunsOk F f := by
  intro H nv wv sv nv' wv' sv' r r' h1 h2 h3 h1' h2' h3'
  obtain ⟨_, na, rfl, _⟩ := id h1
  obtain ⟨_, wa, rfl, _⟩ := id h2
  obtain ⟨_, sa, rfl, _⟩ := id h3
  obtain ⟨_, na', rfl, _⟩ := id h1'
  obtain ⟨_, wa', rfl, _⟩ := id h2'
  obtain ⟨_, sa', rfl, _⟩ := id h3'
  refine QC.mk hf rfl ?_
  refine seq_reg ?_
  simp only [go_sem, binC]
  refine wpc_gen fun H1 hH1 => ?_
  have hx1 : AgX [] H H1 := hH1 ▸ AgX.app [] _ _
  have hba : H1[H.length]? = some ⟨[.slice na r.1.length r.1.length, .slice wa r.2.1.length r.2.1.length, .slice sa r.2.2.length r.2.2.length], 0, 0, false, true⟩ := hH1 ▸ get_new0 _ _
  have hbb : H1[H.length + 1]? = some ⟨[.slice na' r'.1.length r'.1.length, .slice wa' r'.2.1.length r'.2.1.length, .slice sa' r'.2.2.length r'.2.2.length], 0, 0, false, true⟩ := hH1 ▸ get_new _ _ 1
  clear hH1
  have hS := agx_sub hx1
  replace h1 := h1.mono hS
  replace h2 := h2.mono hS
  replace h3 := h3.mono hS
  replace h1' := h1'.mono hS
  replace h2' := h2'.mono hS
  replace h3' := h3'.mono hS
  obtain ⟨rn, rw, rs⟩ := r
  obtain ⟨rn', rw', rs'⟩ := r'
  simp only at h1 h2 h3 h1' h2' h3' hba hbb
  have hno : ∀ e, rn ≠ rn' ∨ rw ≠ rw' ∨ rs.length ≠ rs'.length → e 4 = .bool false → fin [.t 4] (fun w' _ => w' = .bool (decide ((rn, rw, rs) = (rn', rw', rs'))) ∧ scal w' = true) .r e H1 := by
    intro e hne h4
    refine ⟨Or.inr rfl, .bool false, by simp only [resV, res1, h4], ?_, rfl⟩
    rw [decide_eq_false (fun h => by
      simp only [Prod.mk.injEq] at h
      obtain ⟨p1, p2, p3⟩ := h
      subst p1 p2 p3
      simp at hne)]
  refine seq_assoc (seq_reg ?_)
  simp only [go_sem, binC, gc_of hba, gc_of hbb, inBlk_some]
  refine op_callB (by simp only [go_sem, binC]; exact gi H1 _ _ _ _ h1 h1') (fun hb1 => ?_) (fun hb1 => ?_)
  rotate_left
  · simp only [go_sem, binC]
    refine seq_cond (t := true) rfl ?_
    simp only [go_sem, binC]
    refine seq_assoc (seq_reg ?_)
    simp only [go_sem, binC]
    exact seq_ret (hno _ (.inl (of_decide_eq_false hb1)) (by simp only [go_sem, binC]))
  simp only [go_sem, binC, gc_of hba, gc_of hbb, inBlk_some]
  refine op_callB (by simp only [go_sem, binC]; exact gw H1 _ _ _ _ h2 h2') (fun hb2 => ?_) (fun hb2 => ?_)
  rotate_left
  · simp only [go_sem, binC]
    refine seq_cond (t := true) rfl ?_
    simp only [go_sem, binC]
    refine seq_assoc (seq_reg ?_)
    simp only [go_sem, binC]
    exact seq_ret (hno _ (.inr (.inl (of_decide_eq_false hb2))) (by simp only [go_sem, binC]))
  replace hb1 := of_decide_eq_true hb1
  replace hb2 := of_decide_eq_true hb2
  by_cases hl : rs.length = rs'.length
  rotate_left
  · have hne : ((rs.length : Int) != (rs'.length : Int)) = true := by simp; omega
    simp only [go_sem, binC, gc_of hba, gc_of hbb, inBlk_some, hne]
    refine seq_cond (t := true) rfl ?_
    simp only [go_sem, binC]
    refine seq_assoc (seq_reg ?_)
    simp only [go_sem, binC]
    exact seq_ret (hno _ (.inr (.inr hl)) (by simp only [go_sem, binC]))
  have hne : ((rs.length : Int) != (rs'.length : Int)) = false := by simp; omega
  simp only [go_sem, binC, gc_of hba, gc_of hbb, inBlk_some, hne]
  refine seq_cond (t := false) rfl ?_
  simp only [go_sem, binC]
  refine seq_skip (seq_assoc (seq_reg ?_))
  simp only [go_sem, binC]
  refine seq_block (wpc_loop ?_)
  suffices h : ∀ (k i : Nat) (e : Env), i + k = rs.length → e 2 = ptr H.length 0 → e 3 = ptr (H.length + 1) 0 → e 5 = .int .i64 i → (rs = rs' ↔ rs.drop i = rs'.drop i) → W F H.length _ e _ _ from
    h rs.length 0 _ (by omega) (by (simp only [go_sem, binC]) <;> rfl) (by (simp only [go_sem, binC]) <;> rfl) (by (simp only [go_sem, binC]) <;> rfl) (by simp)
  intro k
  induction k with
  | zero =>
    intro i e hi e2 e3 e5 heq
    refine lp_step ?_
    refine seq_assoc (seq_reg ?_)
    simp only [go_sem, binC, e2, e5, gc_of hba, inBlk_some]
    refine seq_cond (t := false) (by simp only [go_sem, binC]; rw [decide_eq_false (by omega)]) ?_
    simp only [go_sem, binC]
    refine seq_exit ?_
    simp only [go_sem, binC, thenX_e, out_e, thenX_n]
    refine seq_reg ?_
    simp only [go_sem, binC]
    refine wpc_ret ⟨Or.inr rfl, .bool true, by simp only [go_sem, binC], ?_, rfl⟩
    rw [hb1, hb2, heq.2 (by rw [List.drop_of_length_le (by omega), List.drop_of_length_le (by omega)]), decide_eq_true rfl]
  | succ k ih =>
    intro i e hi e2 e3 e5 heq
    have hil : i < rs.length := by omega
    have hil' : i < rs'.length := by omega
    have hrl : rs.length ≤ 9223372036854775807 := h3.1
    obtain ⟨b, o, hv1, hg⟩ := gcP h3 hil
    obtain ⟨b', o', hv2, hg'⟩ := gcP h3' hil'
    simp only [Value.slice.injEq, and_true] at hv1 hv2
    subst hv1 hv2
    have hw1 : IntKind.i64.wrap ((i : Int) + 1) = ((i + 1 : Nat) : Int) := by rw [wrap_id (by omega) (by omega)]; omega
    rw [List.drop_eq_getElem_cons hil, List.drop_eq_getElem_cons hil', List.cons.injEq] at heq
    refine lp_step ?_
    refine seq_assoc (seq_reg ?_)
    simp only [go_sem, binC, e2, e5, gc_of hba, inBlk_some]
    refine seq_cond (t := true) (by simp only [go_sem, binC]; rw [decide_eq_true (by omega)]) ?_
    simp only [go_sem, binC]
    refine seq_skip (seq_block (seq_regD ?_))
    simp only [go_sem, binC, e2, e3, e5, gc_of hba, gc_of hbb, inBlk_some]
    refine ⟨⟨by omega, by omega⟩, ?_⟩
    simp only [go_sem, binC, Int.toNat_natCast, hg, e3, e5, gc_of hbb, inBlk_some]
    refine ⟨⟨by omega, by omega⟩, ?_⟩
    simp only [go_sem, binC, Int.toNat_natCast, hg', eqsV2]
    by_cases hq : rs[i] = rs'[i]
    · have hb : (!decide ((rs[i].1, rs[i].2) = (rs'[i].1, rs'[i].2))) = false := by simp [hq]
      simp only [go_sem, binC, hb]
      refine wpc_cond (t := false) (by (simp only [go_sem, binC]) <;> rfl) ?_
      simp only [go_sem, binC]
      refine wpc_skip ?_
      simp only [go_sem, binC, out_n, thenX_n]
      refine wpc_reg ?_
      simp only [go_sem, binC, e5, hw1]
      simp only [go_sem, binC, thenX_n]
      exact ih (i + 1) _ (by omega) (by simp only [go_sem, binC, e2]) (by simp only [go_sem, binC, e3]) (by simp only [go_sem, binC]) (by rw [heq]; exact ⟨fun h => h.2, fun h => ⟨hq, h⟩⟩)
    · have hb : (!decide ((rs[i].1, rs[i].2) = (rs'[i].1, rs'[i].2))) = true := by
        rw [decide_eq_false (fun h => hq (Prod.ext (by simpa using congrArg Prod.fst h) (by simpa using congrArg Prod.snd h)))]; rfl
      simp only [go_sem, binC, hb]
      refine wpc_cond (t := true) (by (simp only [go_sem, binC]) <;> rfl) ?_
      simp only [go_sem, binC]
      refine seq_reg ?_
      simp only [go_sem, binC]
      refine wpc_ret ?_
      simp only [go_sem, binC, out_r, thenX_r]
      refine ⟨Or.inr rfl, .bool false, by simp only [go_sem, binC], ?_, rfl⟩
      rw [decide_eq_false (fun h => hq (heq.1 (by simp only [Prod.mk.injEq] at h; exact h.2.2)).1)]
end Go.Proofs.YtpaoppgbgjnkmaaI
end
section
/- What was set last; the law FnRunOf on the ideal machine. -/
set_option linter.unusedVariables false
set_option linter.unusedSimpArgs false
namespace Go.Proofs.YtpaoppgbgjnkmaaI
open Go Go.RowKit
def c_iProgSize : IFn := ⟨1, 9, [.t 2],
 .seq (.reg none [
    ⟨(some 1), none, .box (.t 0)⟩,
    ⟨(some 2), none, .mov (.c (.int .i64 0))⟩])
 (.seq (.seq (.reg none [
     ⟨(some 3), none, .load true 2 (.t 1)⟩,
     ⟨(some 4), none, .call .q (.f 44) [(.t 3)]⟩,
     ⟨(some 5), none, .un .not (.t 4)⟩])
  (.cond (.t 5) (.seq (.reg none [
      ⟨(some 2), none, .mov (.c (.int .i64 (-1)))⟩])
   (.ret)) (.skip)))
 (.seq (.reg none [
    ⟨(some 6), none, .fad 1 (.t 1)⟩,
    ⟨(some 7), none, .load false 1 (.t 6)⟩,
    ⟨(some 8), none, .call .q (.f 53) [(.t 7)]⟩,
    ⟨(some 2), none, .mov (.t 8)⟩])
 (.ret)))⟩
def sets (nums : List Int) (ws : List (Int × Int)) : List Int := ws.foldl (fun ns w => ns.set w.1.toNat w.2) nums
structure RunP (nums : List Int) (k : Nat) (r : RunS) (M : Nat) : Prop where
  len : r.1.length = k
  rg : ∀ x ∈ r.1, 0 ≤ x ∧ x ≤ 9
  wr : sets nums r.2.1 = r.1
  vr : ∀ w ∈ r.2.1, 0 ≤ w.1 ∧ w.1 < k
  sm : r.2.1.length + r.2.2.length ≤ M
theorem RunP.mono {nums : List Int} {k : Nat} {r : RunS} {M M' : Nat} (h : RunP nums k r M) (hM : M ≤ M') : RunP nums k r M' := ⟨h.len, h.rg, h.wr, h.vr, Nat.le_trans h.sm hM⟩
theorem runL_P0 {nums : List Int} {k : Nat} (n : Nat) (h : ∀ (s : TStep n) (r : RunS) (M : Nat) (d : Int), RunP nums k r M → stepB k n d s = true → RunP nums k (runT n s r) (M + (allT n s).length)) : ∀ (l : List (TStep n)) (r : RunS) (M : Nat) (d : Int), RunP nums k r M → l.all (stepB k n d) = true → RunP nums k (runL n l r) (M + (allL n l).length) := by
  intro l
  induction l with
  | nil =>
    intro r M d hr _
    exact hr
  | cons s l ih =>
    intro r M d hr hl
    rw [List.all_cons, Bool.and_eq_true] at hl
    have h1 := ih _ _ d (h s r M d hr hl.1) hl.2
    have h2 : (allL n (s :: l)).length = (allT n s).length + (allL n l).length := by unfold allL; rw [List.map_cons, List.flatten_cons, List.length_append]
    rw [h2, ← Nat.add_assoc]
    exact h1
theorem runT_P {nums : List Int} {k : Nat} : ∀ (n : Nat) (s : TStep n) (r : RunS) (M : Nat) (d : Int), RunP nums k r M → stepB k n d s = true → RunP nums k (runT n s r) (M + (allT n s).length)
  | 0, s, _, _, _, _, _ => s.elim
  | n + 1, (kd, vr, v, ho, th, el), r, M, d, hr, h => by
    obtain ⟨hvr, h1, h2, _⟩ := stepB_f h
    rw [allT_succ, List.length_cons, List.length_append]
    by_cases q1 : kd = 1
    · subst q1
      rw [runT_set]
      have hv := h1 rfl
      rw [← hr.len] at hv
      have hx := valN_rg hv hr.rg
      refine ⟨by rw [List.length_set]; exact hr.len, fun x hx' => ?_, ?_, fun w hw => ?_, ?_⟩
      · rcases List.mem_or_eq_of_mem_set hx' with h | rfl
        · exact hr.rg x h
        · exact hx
      · unfold sets
        rw [List.foldl_append]
        have := hr.wr
        unfold sets at this
        rw [this]
        rfl
      · simp only [List.mem_append, List.mem_singleton] at hw
        rcases hw with h | rfl
        · exact hr.vr w h
        · exact hvr
      · have := hr.sm
        simp only [List.length_append, List.length_singleton]
        omega
    by_cases q2 : kd = 2
    · obtain ⟨h3, h4⟩ := h2 q2
      subst q2
      rw [runT_if]
      split
      · exact (runL_P0 n (runT_P n) el r M (d - 1) hr h4).mono (by omega)
      · exact (runL_P0 n (runT_P n) th r M (d - 1) hr h3).mono (by omega)
    · rw [runT_tell q1 q2]
      have := hr.sm
      exact ⟨hr.len, hr.rg, hr.wr, hr.vr, by simp only [List.length_append, List.length_singleton]; omega⟩
theorem runOf_P {n : Nat} {ls : List (Int × Int)} {l : List (TStep n)} {nums : List Int} (h : numsB n (ls, l) nums = true) : RunP nums ls.length (runOf n (ls, l) nums) (allL n l).length ∧ numsB n (ls, l) (runOf n (ls, l) nums).1 = true := by
  have hB2 := h
  simp only [numsB, Bool.and_eq_true, decide_eq_true_eq, List.all_eq_true] at hB2
  obtain ⟨⟨hP, hln⟩, hall⟩ := hB2
  have hst : l.all (stepB ls.length n 3) = true := by
    simp only [progB, Bool.and_eq_true] at hP; exact hP.1.2
  have hrun : runOf n (ls, l) nums = runL n l (nums, [], []) := if_pos h
  have h0 : RunP nums ls.length (nums, [], []) 0 := ⟨hln, fun x hx => inB_iff'.1 (hall x hx), rfl, (fun w hw => by cases hw), Nat.le_refl _⟩
  have h1 := runL_P0 n (runT_P n) l _ 0 3 h0 hst
  rw [← hrun, Nat.zero_add] at h1
  refine ⟨h1, ?_⟩
  simp only [numsB, Bool.and_eq_true, decide_eq_true_eq, List.all_eq_true]
  exact ⟨⟨hP, h1.len⟩, fun x hx => inB_iff'.2 (h1.rg x hx)⟩
theorem sets_take {nums : List Int} {ws : List (Int × Int)} {i : Nat} (hi : i < ws.length) : sets nums (ws.take (i + 1)) = (sets nums (ws.take i)).set ws[i].1.toNat ws[i].2 := by
  unfold sets
  rw [List.take_add_one, List.getElem?_eq_getElem hi, List.foldl_append]
  rfl
theorem sets_len {nums : List Int} {ws : List (Int × Int)} : (sets nums ws).length = nums.length := by
  unfold sets
  induction ws generalizing nums with
  | nil => rfl
  | cons w ws ih => rw [List.foldl_cons, ih, List.length_set]
def SizeOk (F : Nat → Option IFn) (f : Nat) : Prop := ∀ (H : Heap) (n : Nat) (lv sv : Value) (ls : List (Int × Int)) (l : List (TStep n)), SlR Co.p2 (vw 0 H) lv ls → SlR (Co.step n) (vw 0 H) sv l → (Co.prog n).sm (ls, l) → progB n (ls, l) = true → QC F f [.agg #[lv, sv]] H (.int .i64 ((allL n l).length : Int))
theorem iProgSize_ok {F : Nat → Option IFn} {f : Nat} (hf : F f = some c_iProgSize) (gp : ProgOk F 44) (gc : ∀ n, CntOk F 53 n) : SizeOk F f := by
  intro H n lv sv ls l r1 r2 hsm hP
  have olv : one lv = true := by obtain ⟨_, a, rfl, _⟩ := r1; rfl
  have osv : one sv = true := by obtain ⟨_, a, rfl, _⟩ := r2; rfl
  refine QC.mk hf rfl ?_
  refine seq_reg ?_
  simp only [go_sem, binC, olv, osv]
  refine wpc_gen fun H1 hH1 => ?_
  have hx1 : AgX [] H H1 := hH1 ▸ AgX.app [] _ _
  have hb : H1[H.length]? = some ⟨[lv, sv], 0, 0, false, true⟩ := hH1 ▸ get_new0 _ _
  clear hH1
  have hS := agx_sub hx1
  refine seq_assoc (seq_reg ?_)
  simp only [go_sem, binC, gc_of hb, inBlk_some, olv, osv]
  refine op_callQ (by simp only [go_sem, binC]; exact gp H1 n _ (ls, l) (prog_rd (r1.mono hS) (r2.mono hS)) hsm) ?_
  simp only [go_sem, binC, hP]
  refine seq_cond (t := false) rfl ?_
  simp only [go_sem, binC]
  refine seq_skip (seq_reg ?_)
  simp only [go_sem, binC, gc_of hb, inBlk_some]
  refine op_callQ (by simp only [go_sem, binC]; exact gc n H1 sv l (r2.mono hS)) ?_
  simp only [go_sem, binC]
  refine wpc_ret ⟨Or.inr rfl, _, (by (simp only [go_sem, binC]) <;> rfl), ?_, rfl⟩
  have hc := progB_cnt hP hsm
  simp only at hc
  rw [cntL_len]
  unfold Wr
  rw [wrap_id (by omega) (by omega)]
theorem drRunOf_ok {F : Nat → Option IFn} {f : Nat} (hf : F f = some c_drRunOf) (gd : DrawNumsV F 12) : DrawNumsOk F f := by
  intro H v code hv
  suffices h : ∃ w H', KC F f [v] H w H' ∧ (∃ (d : Nat) (lv sv nv : Value) (ls : List (Int × Int)) (l : List (TStep d)) (nums : List Int), w = .tuple #[.agg #[lv, sv], nv] ∧ (AgX [] H H' ∧ SlR Co.p2 (vw 0 H') lv ls ∧ SlR (Co.step d) (vw 0 H') sv l ∧ (Co.prog d).sm (ls, l) ∧ SlR Co.int (vw 0 H') nv nums)) by
    obtain ⟨w, H', h1, d, lv, sv, nv, ls, l, nums, rfl, h2⟩ := h
    exact ⟨d, lv, sv, nv, ls, l, nums, H', h1, h2⟩
  refine KC.mk hf rfl ?_
  refine seq_reg ?_
  simp only [go_sem, binC]
  refine wpc_gen fun H1 hH1 => ?_
  have hx1 : AgX [] H H1 := hH1 ▸ AgX.app [] _ _
  have hb1 : H1[H.length]? = some ⟨[nilS, nilS], 0, 0, false, true⟩ := hH1 ▸ get_new0 _ _
  have hn1 : H1.length = H.length + 1 := by rw [hH1, List.length_append]; rfl
  clear hH1
  refine seq_reg ?_
  simp only [go_sem, binC]
  obtain ⟨d, lv, sv, nv, ls, l, nums, H2, k2, hx2, r1, r2, r3, r4⟩ := gd H1 v code (hv.mono (agx_sub hx1))
  obtain ⟨_, la, rfl, _⟩ := id r1
  obtain ⟨_, sa, rfl, _⟩ := id r2
  obtain ⟨_, na, rfl, _⟩ := id r4
  have hb2 := hx2.get hb1 (by simp)
  have hb2l := (List.getElem?_eq_some_iff.1 hb2).1
  refine op_callK (by simp only [go_sem, binC]; exact k2) ?_
  simp only [go_sem, binC, hb2]
  have hvf : Sub (vwl H1.length [] H2) (vw 0 (H2.set H.length ⟨[.slice la ls.length ls.length, .slice sa l.length l.length], 0, 0, false, true⟩)) := (vwl_sub (AgX.set H2 H.length _) (Nat.le_refl _) (xs' := []) fun b' h1 h2 _ => ⟨by simp; omega, by simp⟩).trans (vwl0 _ _ _)
  refine wpc_ret ⟨Or.inr rfl, .tuple #[.agg #[.slice la ls.length ls.length, .slice sa l.length l.length], .slice na nums.length nums.length], ?_, d, _, _, _, ls, l, nums, rfl, (hx1.tr hx2).setN (Nat.le_refl _) _, r1.mono hvf, r2.mono hvf, r3, r4.mono hvf⟩
  simp [resV, resL, res1, putE_get, notT, ptr, gc_set hb2l, inBlk_some, valOf]
theorem wpo_app {F : Nat → Option IFn} {lo : Nat} {K : Env → Heap → Prop} {l2 : List IOper} : ∀ (l1 : List IOper) (e : Env) (H : Heap), wpo F lo l1 e H (fun e1 H1 => wpo F lo l2 e1 H1 K) → wpo F lo (l1 ++ l2) e H K
  | [], e, H, h => h
  | o :: r, e, H, h => ⟨fun hr => wpOp_mono (h.1 hr) fun v H1 h1 => wpo_app r _ _ h1, fun hr => wpo_app r _ _ (h.2 hr)⟩
theorem wpo_cut {F : Nat → Option IFn} {lo : Nat} {K : Env → Heap → Prop} {l : List IOper} {e : Env} {H : Heap} (a : Nat)
    (h : ∀ Kc : Env → Heap → Prop, (∀ e1 H1, wpo F lo (l.drop a) e1 H1 K → Kc e1 H1) → wpo F lo (l.take a) e H Kc) : wpo F lo l e H K := by
  have h3 := wpo_app (l2 := l.drop a) (l.take a) e H (h (fun e1 H1 => wpo F lo (l.drop a) e1 H1 K) fun _ _ h => h)
  rwa [List.take_append_drop] at h3
end Go.Proofs.YtpaoppgbgjnkmaaI
end
section
/- What is not known, or not trusted, changes nothing: plain laws of programs done. -/
set_option linter.unusedVariables false
set_option linter.unusedSimpArgs false
namespace Go.Proofs.YtpaoppgbgjnkmaaI
open Go Go.RowKit
theorem hasB_both {a b h : Int} (h0 : 0 ≤ h) (h2 : h ≤ 2) : hasB (bothS a b 3) h = (hasB a h && hasB b h) := by
  have hh : h = 0 ∨ h = 1 ∨ h = 2 := by omega
  have h3 : bothS a b 3 = 0 + (if (hasB a ((0 : Nat) : Int) && hasB b ((0 : Nat) : Int)) = true then 2 ^ 0 else 0) + (if (hasB a ((1 : Nat) : Int) && hasB b ((1 : Nat) : Int)) = true then 2 ^ 1 else 0) + (if (hasB a ((2 : Nat) : Int) && hasB b ((2 : Nat) : Int)) = true then 2 ^ 2 else 0) := rfl
  rw [h3]
  have e0 : ((0 : Nat) : Int) = 0 := rfl
  have e1 : ((1 : Nat) : Int) = 1 := rfl
  have e2 : ((2 : Nat) : Int) = 2 := rfl
  rw [e0, e1, e2]
  rcases hh with rfl | rfl | rfl <;> cases (hasB a 0 && hasB b 0) <;> cases (hasB a 1 && hasB b 1) <;> cases (hasB a 2 && hasB b 2) <;> decide
theorem witB_has {a b h : Int} (hw : witB a b = true) (h0 : 0 ≤ h) (h2 : h ≤ 2) (ha : hasB a h = true) : hasB b h = true := by
  have hh : h = 0 ∨ h = 1 ∨ h = 2 := by omega
  simp only [witB, Bool.and_eq_true, Bool.not_eq_true', Bool.and_eq_false_iff, Bool.not_eq_false'] at hw
  rcases hh with rfl | rfl | rfl
  · rcases hw.1 with h | h
    · rw [ha] at h; cases h
    · exact h
  · rcases hw.2.1 with h | h
    · rw [ha] at h; cases h
    · exact h
  · rcases hw.2.2 with h | h
    · rw [ha] at h; cases h
    · exact h
/-- Whether a host may know what has a label (or trusts it). -/
def lowL (c : Bool) (h : Int) (a : Int × Int) : Bool := hasB (if c then a.1 else a.2) h
def lowX (c : Bool) (h : Int) (ls : List (Int × Int)) (x : Int) : Bool := lowL c h (ls.getD x.toNat (0, 0))
theorem lowL_both {c : Bool} {h : Int} {a b : Int × Int} (h0 : 0 ≤ h) (h2 : h ≤ 2) (ha : labB a = true) (hb : labB b = true) : lowL c h (lboth a b) = (lowL c h a && lowL c h b) := by
  unfold lboth
  rw [if_pos (by rw [ha, hb]; rfl)]
  cases c <;> exact hasB_both h0 h2
theorem lowL_flows {c : Bool} {h : Int} {a b : Int × Int} (h0 : 0 ≤ h) (h2 : h ≤ 2) (hf : flowsB a b = true) (hb : lowL c h b = true) : lowL c h a = true := by
  simp only [flowsB, Bool.and_eq_true] at hf
  cases c
  · exact witB_has hf.2.2.2 h0 h2 hb
  · exact witB_has hf.2.2.1 h0 h2 hb
theorem lab_get {ls : List (Int × Int)} (h : ls.all labB = true) (i : Nat) : labB (ls.getD i (0, 0)) = true := by
  rw [List.getD_eq_getElem?_getD]
  by_cases hi : i < ls.length
  · rw [List.getElem?_eq_getElem hi]; exact List.all_eq_true.1 h _ (List.getElem_mem hi)
  · rw [List.getElem?_eq_none (by omega)]; rfl
theorem valL_low {c : Bool} {h : Int} {ls : List (Int × Int)} {v : Int × Int × Int} (h0 : 0 ≤ h) (h2 : h ≤ 2) (hl : ls.all labB = true) (hv : lowL c h (valL ls v) = true) : (v.1 ≠ 1 → lowX c h ls v.2.1 = true) ∧ (v.1 = 3 ∨ v.1 = 4 → lowX c h ls v.2.2 = true) := by
  have h77 : labB (7, 7) = true := rfl
  have hA := lab_get hl v.2.1.toNat
  have hB := lab_get hl v.2.2.toNat
  unfold valL at hv
  simp only at hv
  refine ⟨fun h1 => ?_, fun h34 => ?_⟩
  · rw [if_neg h1] at hv
    split at hv
    · rw [lowL_both h0 h2 (lboth_bd _ _) hB, Bool.and_eq_true, lowL_both h0 h2 h77 hA, Bool.and_eq_true] at hv
      exact hv.1.2
    · rw [lowL_both h0 h2 h77 hA, Bool.and_eq_true] at hv
      exact hv.2
  · rw [if_pos h34] at hv
    have ho : labB (if v.1 = 1 then ((7, 7) : Int × Int) else lboth (7, 7) (ls.getD v.2.1.toNat (0, 0))) = true := by
      split
      · rfl
      · exact lboth_bd _ _
    rw [lowL_both h0 h2 ho hB, Bool.and_eq_true] at hv
    exact hv.2
/-- A step and all in it are fine. -/
def fineT : (n : Nat) → List (Int × Int) → Int × Int → TStep n → Bool
  | 0, _, _, s => s.elim
  | n + 1, ls, h, (k, x, v, g, th, el) => fineB ls (k, x, v, g) h && (th.all (fineT n ls (lboth h (ls.getD x.toNat (0, 0)))) && el.all (fineT n ls (lboth h (ls.getD x.toNat (0, 0)))))
def zipB (ls : List (Int × Int)) (ss : List Shal) (hs : List (Int × Int)) : Bool := (ss.zip hs).all fun p => fineB ls p.1 p.2
theorem zipB_app {ls : List (Int × Int)} {a b : List Shal} {c d : List (Int × Int)} (h : a.length = c.length) : zipB ls (a ++ b) (c ++ d) = (zipB ls a c && zipB ls b d) := by
  unfold zipB
  rw [List.zip_append h, List.all_append]
theorem at_len0 (n : Nat) (ls : List (Int × Int)) (h : ∀ (s : TStep n) (hh : Int × Int), (allT n s).length = (atT n ls hh s).length) : ∀ (l : List (TStep n)) (hh : Int × Int), (allL n l).length = (atL n ls hh l).length := by
  intro l hh
  induction l with
  | nil => rfl
  | cons s l ih =>
    have h1 : allL n (s :: l) = allT n s ++ allL n l := by unfold allL; rw [List.map_cons, List.flatten_cons]
    have h2 : atL n ls hh (s :: l) = atT n ls hh s ++ atL n ls hh l := by unfold atL; rw [List.map_cons, List.flatten_cons]
    rw [h1, h2, List.length_append, List.length_append, ih, h s hh]
theorem at_len : ∀ (n : Nat) (ls : List (Int × Int)) (s : TStep n) (hh : Int × Int), (allT n s).length = (atT n ls hh s).length
  | 0, _, s, _ => s.elim
  | n + 1, ls, (k, x, v, g, th, el), hh => by
    rw [allT_succ, atT_succ, List.length_cons, List.length_cons, List.length_append, List.length_append, at_len0 n ls (at_len n ls) th, at_len0 n ls (at_len n ls) el]
theorem fine0 (n : Nat) (ls : List (Int × Int)) (h : ∀ (s : TStep n) (hh : Int × Int), zipB ls (allT n s) (atT n ls hh s) = fineT n ls hh s) : ∀ (l : List (TStep n)) (hh : Int × Int), zipB ls (allL n l) (atL n ls hh l) = l.all (fineT n ls hh) := by
  intro l hh
  induction l with
  | nil => rfl
  | cons s l ih =>
    have h1 : allL n (s :: l) = allT n s ++ allL n l := by unfold allL; rw [List.map_cons, List.flatten_cons]
    have h2 : atL n ls hh (s :: l) = atT n ls hh s ++ atL n ls hh l := by unfold atL; rw [List.map_cons, List.flatten_cons]
    rw [h1, h2, zipB_app (at_len n ls s hh), ih, h s hh, List.all_cons]
theorem fine_zip : ∀ (n : Nat) (ls : List (Int × Int)) (s : TStep n) (hh : Int × Int), zipB ls (allT n s) (atT n ls hh s) = fineT n ls hh s
  | 0, _, s, _ => s.elim
  | n + 1, ls, (k, x, v, g, th, el), hh => by
    rw [allT_succ, atT_succ, fineT]
    have h1 : zipB ls ((k, x, v, g) :: (allL n th ++ allL n el)) (hh :: (atL n ls (lboth hh (ls.getD x.toNat (0, 0))) th ++ atL n ls (lboth hh (ls.getD x.toNat (0, 0))) el)) = (fineB ls (k, x, v, g) hh && zipB ls (allL n th ++ allL n el) (atL n ls (lboth hh (ls.getD x.toNat (0, 0))) th ++ atL n ls (lboth hh (ls.getD x.toNat (0, 0))) el)) := rfl
    rw [h1, zipB_app (at_len0 n ls (at_len n ls) th _), fine0 n ls (fine_zip n ls) th, fine0 n ls (fine_zip n ls) el]
theorem why0_zip {ls : List (Int × Int)} : ∀ (ss : List Shal) (hs : List (Int × Int)) (i : Nat), (why0 ls ss hs i).2 = !zipB ls ss hs
  | [], _, _ => rfl
  | _ :: _, [], _ => rfl
  | s :: ss, h :: hs, i => by
    have h1 : zipB ls (s :: ss) (h :: hs) = (fineB ls s h && zipB ls ss hs) := rfl
    rw [h1, why0]
    split
    · rename_i hf
      rw [why0_zip ss hs (i + 1), hf, Bool.true_and]
    · rename_i hf
      rw [Bool.eq_false_iff.2 hf]
      rfl
theorem why_fine {n : Nat} {ls : List (Int × Int)} {l : List (TStep n)} (hp : progB n (ls, l) = true) : (whyV n (ls, l)).2 = !(l.all (fineT n ls (7, 7))) := by
  rw [whyV_yes hp, why0_zip, fine0 n ls (fine_zip n ls)]
/-- The same as far as a host may know (or trusts). -/
structure Lo (c : Bool) (h : Int) (ls : List (Int × Int)) (r r' : RunS) : Prop where
  len : r.1.length = ls.length
  len' : r'.1.length = ls.length
  nu : ∀ i : Nat, i < ls.length → lowX c h ls i = true → r.1.getD i 0 = r'.1.getD i 0
  wr : r.2.1.filter (fun w => lowX c h ls w.1) = r'.2.1.filter (fun w => lowX c h ls w.1)
  sd : c = true → r.2.2.filter (fun w => decide (w.1 = h)) = r'.2.2.filter (fun w => decide (w.1 = h))
theorem Lo.refl {c : Bool} {h : Int} {ls : List (Int × Int)} {r : RunS} (hl : r.1.length = ls.length) : Lo c h ls r r := ⟨hl, hl, fun _ _ _ => rfl, rfl, fun _ => rfl⟩
theorem Lo.symm {c : Bool} {h : Int} {ls : List (Int × Int)} {r r' : RunS} (a : Lo c h ls r r') : Lo c h ls r' r := ⟨a.len', a.len, fun i h1 h2 => (a.nu i h1 h2).symm, a.wr.symm, fun hc => (a.sd hc).symm⟩
theorem Lo.trans {c : Bool} {h : Int} {ls : List (Int × Int)} {r r' r'' : RunS} (a : Lo c h ls r r') (b : Lo c h ls r' r'') : Lo c h ls r r'' := ⟨a.len, b.len', fun i h1 h2 => (a.nu i h1 h2).trans (b.nu i h1 h2), a.wr.trans b.wr, fun hc => (a.sd hc).trans (b.sd hc)⟩
theorem set_getD {l : List Int} {i j : Nat} {x : Int} (hi : i < l.length) : (l.set i x).getD j 0 = if i = j then x else l.getD j 0 := by
  rw [List.getD_eq_getElem?_getD, List.getElem?_set, List.getD_eq_getElem?_getD]
  by_cases h : i = j
  · subst h; simp [hi]
  · simp [h]
theorem nat_low {c : Bool} {h : Int} {ls : List (Int × Int)} {x : Int} (hx : 0 ≤ x) : lowX c h ls ((x.toNat : Nat) : Int) = lowX c h ls x := by rw [Int.toNat_of_nonneg hx]
/-- Something that is not seen is set. -/
theorem Lo.high {c : Bool} {h : Int} {ls : List (Int × Int)} {r : RunS} {x : Int} (hl : r.1.length = ls.length) (hx : 0 ≤ x ∧ x < ls.length) (hn : lowX c h ls x = false) (y : Int) : Lo c h ls r (r.1.set x.toNat y, r.2.1 ++ [(x, y)], r.2.2) := by
  refine ⟨hl, by rw [List.length_set]; exact hl, fun i hi hlo => ?_, ?_, fun _ => rfl⟩
  · rw [set_getD (by omega), if_neg]
    intro he
    rw [← he, nat_low hx.1, hn] at hlo
    cases hlo
  · rw [List.filter_append]
    simp [hn]
theorem runL_Lo0 {c : Bool} {h : Int} {ls : List (Int × Int)} (n : Nat) (P : TStep n → Prop) (hs : ∀ (s : TStep n) (r : RunS), P s → r.1.length = ls.length → Lo c h ls r (runT n s r)) : ∀ (l : List (TStep n)) (r : RunS), (∀ s ∈ l, P s) → r.1.length = ls.length → Lo c h ls r (runL n l r) := by
  intro l
  induction l with
  | nil => intro r _ hl; exact Lo.refl hl
  | cons s l ih =>
    intro r hp hl
    have h1 := hs s r (hp s List.mem_cons_self) hl
    exact h1.trans (ih (runT n s r) (fun t ht => hp t (List.mem_cons_of_mem _ ht)) h1.len')
theorem confine {c : Bool} {h : Int} {ls : List (Int × Int)} (h0 : 0 ≤ h) (h2 : h ≤ 2) (hlab : ls.all labB = true) : ∀ (n : Nat) (s : TStep n) (here : Int × Int) (d : Int) (r : RunS), labB here = true → lowL c h here = false → fineT n ls here s = true → stepB ls.length n d s = true → r.1.length = ls.length → Lo c h ls r (runT n s r)
  | 0, s, _, _, _, _, _, _, _, _ => s.elim
  | n + 1, (kd, vr, v, ho, th, el), here, d, r, hh, hlow, hf, hs, hl => by
    obtain ⟨hvr, hk1, hk2, hk3, _⟩ := stepB_f hs
    rw [fineT, Bool.and_eq_true, Bool.and_eq_true] at hf
    obtain ⟨hf1, hf2, hf3⟩ := hf
    by_cases q1 : kd = 1
    · subst q1
      rw [runT_set]
      refine Lo.high hl hvr ?_ _
      cases hx : lowX c h ls vr with
      | false => rfl
      | true =>
        exfalso
        have hf1' : flowsB (lboth here (valL ls v)) (ls.getD vr.toNat (0, 0)) = true := hf1
        have := lowL_flows h0 h2 hf1' hx
        rw [lowL_both h0 h2 hh (valL_bd ls v), hlow] at this
        cases this
    by_cases q2 : kd = 2
    · obtain ⟨h3, h4⟩ := hk2 q2
      subst q2
      have hin : lowL c h (lboth here (ls.getD vr.toNat (0, 0))) = false := by rw [lowL_both h0 h2 hh (lab_get hlab _), hlow]; rfl
      rw [runT_if]
      split
      · exact runL_Lo0 n (fun s => fineT n ls (lboth here (ls.getD vr.toNat (0, 0))) s = true ∧ stepB ls.length n (d - 1) s = true) (fun s r hp hl => confine h0 h2 hlab n s _ (d - 1) r (lboth_bd _ _) hin hp.1 hp.2 hl) el r (fun s hs => ⟨List.all_eq_true.1 hf3 s hs, List.all_eq_true.1 h4 s hs⟩) hl
      · exact runL_Lo0 n (fun s => fineT n ls (lboth here (ls.getD vr.toNat (0, 0))) s = true ∧ stepB ls.length n (d - 1) s = true) (fun s r hp hl => confine h0 h2 hlab n s _ (d - 1) r (lboth_bd _ _) hin hp.1 hp.2 hl) th r (fun s hs => ⟨List.all_eq_true.1 hf2 s hs, List.all_eq_true.1 h3 s hs⟩) hl
    · obtain ⟨q3, hho⟩ := hk3 q1 q2
      rw [runT_tell q1 q2]
      refine ⟨hl, hl, fun _ _ _ => rfl, rfl, fun hc => ?_⟩
      subst hc
      rw [List.filter_append]
      have hne : ¬ ho = h := by
        intro he
        subst he
        have hf1' : hasB (bothS here.1 (ls.getD vr.toNat (0, 0)).1 3) ho = true := by
          have := hf1
          unfold fineB at this
          simp only at this
          rwa [if_neg q1, if_pos q3] at this
        rw [hasB_both h0 h2, Bool.and_eq_true] at hf1'
        have hlow' : hasB here.1 ho = false := hlow
        rw [hlow'] at hf1'
        cases hf1'.1
      simp [hne]
theorem valN_low {c : Bool} {h : Int} {ls : List (Int × Int)} (h0 : 0 ≤ h) (h2 : h ≤ 2) (hlab : ls.all labB = true) {r r' : RunS} (a : Lo c h ls r r') {v : Int × Int × Int} (hv : valB ls.length v = true) (hl : lowL c h (valL ls v) = true) : valN r.1 v = valN r'.1 v := by
  obtain ⟨k, x, y⟩ := v
  obtain ⟨hx, hy⟩ := valL_low h0 h2 hlab hl
  simp only at hx hy
  unfold valB at hv
  simp only at hv
  unfold valN
  simp only
  by_cases k1 : k = 1
  · rw [if_pos k1, if_pos k1]
  rw [if_neg k1] at hv
  rw [if_neg k1, if_neg k1]
  have hx1 := hx k1
  by_cases k2 : k = 2
  · rw [if_pos k2] at hv
    simp only [Bool.and_eq_true, varB, inB_iff'] at hv
    rw [if_pos k2, if_pos k2]
    exact a.nu x.toNat (by omega) (by rw [nat_low (by omega)]; exact hx1)
  rw [if_neg k2] at hv
  rw [if_neg k2, if_neg k2]
  by_cases k34 : k = 3 ∨ k = 4
  · rw [if_pos k34] at hv
    simp only [Bool.and_eq_true, varB, inB_iff'] at hv
    rw [a.nu x.toNat (by omega) (by rw [nat_low (by omega)]; exact hx1), a.nu y.toNat (by omega) (by rw [nat_low (by omega)]; exact hy k34)]
  · rw [if_neg k34] at hv
    cases hv
theorem runL_Lo1 {c : Bool} {h : Int} {ls : List (Int × Int)} (n : Nat) (P : TStep n → Prop) (hs : ∀ (s : TStep n) (r r' : RunS), P s → Lo c h ls r r' → Lo c h ls (runT n s r) (runT n s r')) : ∀ (l : List (TStep n)) (r r' : RunS), (∀ s ∈ l, P s) → Lo c h ls r r' → Lo c h ls (runL n l r) (runL n l r') := by
  intro l
  induction l with
  | nil => intro r r' _ hl; exact hl
  | cons s l ih =>
    intro r r' hp hl
    exact ih _ _ (fun t ht => hp t (List.mem_cons_of_mem _ ht)) (hs s r r' (hp s List.mem_cons_self) hl)
theorem noInt {c : Bool} {h : Int} {ls : List (Int × Int)} (h0 : 0 ≤ h) (h2 : h ≤ 2) (hlab : ls.all labB = true) : ∀ (n : Nat) (s : TStep n) (here : Int × Int) (d : Int) (r r' : RunS), labB here = true → fineT n ls here s = true → stepB ls.length n d s = true → Lo c h ls r r' → Lo c h ls (runT n s r) (runT n s r')
  | 0, s, _, _, _, _, _, _, _, _ => s.elim
  | n + 1, (kd, vr, v, ho, th, el), here, d, r, r', hh, hf, hs, a => by
    obtain ⟨hvr, hk1, hk2, hk3, _⟩ := stepB_f hs
    have hf' := hf
    rw [fineT, Bool.and_eq_true, Bool.and_eq_true] at hf'
    obtain ⟨hf1, hf2, hf3⟩ := hf'
    by_cases q1 : kd = 1
    · subst q1
      rw [runT_set, runT_set]
      cases hx : lowX c h ls vr with
      | false => exact ((Lo.high a.len hvr hx _).symm.trans a).trans (Lo.high a.len' hvr hx _)
      | true =>
        have hf1' : flowsB (lboth here (valL ls v)) (ls.getD vr.toNat (0, 0)) = true := hf1
        have hb := lowL_flows h0 h2 hf1' hx
        rw [lowL_both h0 h2 hh (valL_bd ls v), Bool.and_eq_true] at hb
        rw [valN_low h0 h2 hlab a (hk1 rfl) hb.2]
        refine ⟨by rw [List.length_set]; exact a.len, by rw [List.length_set]; exact a.len', fun i hi hlo => ?_, ?_, a.sd⟩
        · have l1 := a.len
          have l2 := a.len'
          rw [set_getD (by omega), set_getD (by omega), a.nu i hi hlo]
        · rw [List.filter_append, List.filter_append, a.wr]
    by_cases q2 : kd = 2
    · obtain ⟨h3, h4⟩ := hk2 q2
      subst q2
      have PT : ∀ l : List (TStep n), l.all (fineT n ls (lboth here (ls.getD vr.toNat (0, 0)))) = true → l.all (stepB ls.length n (d - 1)) = true → ∀ s ∈ l, fineT n ls (lboth here (ls.getD vr.toNat (0, 0))) s = true ∧ stepB ls.length n (d - 1) s = true := fun l p q s hs => ⟨List.all_eq_true.1 p s hs, List.all_eq_true.1 q s hs⟩
      cases hx : lowX c h ls vr with
      | true =>
        have he := a.nu vr.toNat (by omega) (by rw [nat_low hvr.1]; exact hx)
        rw [runT_if, runT_if, he]
        split
        · exact runL_Lo1 n _ (fun s r r' hp a => noInt h0 h2 hlab n s _ (d - 1) r r' (lboth_bd _ _) hp.1 hp.2 a) el r r' (PT el hf3 h4) a
        · exact runL_Lo1 n _ (fun s r r' hp a => noInt h0 h2 hlab n s _ (d - 1) r r' (lboth_bd _ _) hp.1 hp.2 a) th r r' (PT th hf2 h3) a
      | false =>
        have hin : lowL c h (lboth here (ls.getD vr.toNat (0, 0))) = false := by
          have : lowL c h (ls.getD vr.toNat (0, 0)) = false := hx
          rw [lowL_both h0 h2 hh (lab_get hlab _), this, Bool.and_false]
        have cf : ∀ (q : RunS), q.1.length = ls.length → Lo c h ls q (runT (n + 1) (2, vr, v, ho, th, el) q) := by
          intro q hq
          rw [runT_if]
          split
          · exact runL_Lo0 n _ (fun s r hp hl => confine h0 h2 hlab n s _ (d - 1) r (lboth_bd _ _) hin hp.1 hp.2 hl) el q (PT el hf3 h4) hq
          · exact runL_Lo0 n _ (fun s r hp hl => confine h0 h2 hlab n s _ (d - 1) r (lboth_bd _ _) hin hp.1 hp.2 hl) th q (PT th hf2 h3) hq
        exact ((cf r a.len).symm.trans a).trans (cf r' a.len')
    · obtain ⟨q3, hho⟩ := hk3 q1 q2
      rw [runT_tell q1 q2, runT_tell q1 q2]
      refine ⟨a.len, a.len', a.nu, a.wr, fun hc => ?_⟩
      subst hc
      rw [List.filter_append, List.filter_append, a.sd rfl]
      by_cases he : ho = h
      · subst he
        have hf1' : hasB (bothS here.1 (ls.getD vr.toNat (0, 0)).1 3) ho = true := by
          have := hf1
          unfold fineB at this
          simp only at this
          rwa [if_neg q1, if_pos q3] at this
        rw [hasB_both h0 h2, Bool.and_eq_true] at hf1'
        have hlx : lowX true ho ls vr = true := hf1'.2
        rw [a.nu vr.toNat (by omega) (by rw [nat_low hvr.1]; exact hlx)]
      · simp [he]
/-- What is not seen changes nothing that is seen. -/
theorem runOf_Lo {c : Bool} {h : Int} {n : Nat} {ls : List (Int × Int)} {l : List (TStep n)} {nums nums' : List Int} (h0 : 0 ≤ h) (h2 : h ≤ 2) (hB : numsB n (ls, l) nums = true) (hB' : numsB n (ls, l) nums' = true) (hf : (whyV n (ls, l)).2 = false) (hn : ∀ i : Nat, i < ls.length → lowX c h ls i = true → nums.getD i 0 = nums'.getD i 0) : Lo c h ls (runOf n (ls, l) nums) (runOf n (ls, l) nums') := by
  have e1 : runOf n (ls, l) nums = runL n l (nums, [], []) := if_pos hB
  have e2 : runOf n (ls, l) nums' = runL n l (nums', [], []) := if_pos hB'
  obtain ⟨hl1, _, _⟩ := numsB_len hB
  obtain ⟨hl2, _, _⟩ := numsB_len hB'
  have hP : progB n (ls, l) = true := by
    have := hB
    simp only [numsB, Bool.and_eq_true] at this
    exact this.1.1
  rw [why_fine hP, Bool.not_eq_false'] at hf
  have hst : l.all (stepB ls.length n 3) = true := by
    simp only [progB, Bool.and_eq_true] at hP; exact hP.1.2
  rw [e1, e2]
  exact runL_Lo1 n (fun s => fineT n ls (7, 7) s = true ∧ stepB ls.length n 3 s = true) (fun s r r' hp a => noInt h0 h2 (progB_lab hP) n s _ 3 r r' rfl hp.1 hp.2 a) l _ _ (fun s hs => ⟨List.all_eq_true.1 hf s hs, List.all_eq_true.1 hst s hs⟩) ⟨hl1, hl2, hn, rfl, fun _ => rfl⟩
end Go.Proofs.YtpaoppgbgjnkmaaI
end
section
/- Who may know what, or trusts it; numbers changed where they are not kept; what is told, and what is set. -/
set_option linter.unusedVariables false
set_option linter.unusedSimpArgs false
namespace Go.Proofs.YtpaoppgbgjnkmaaI
open Go Go.RowKit
def c_sTypeOk : IFn := ⟨1, 16, [.t 2],
 .seq (.reg none [
    ⟨(some 1), none, .box (.t 0)⟩,
    ⟨(some 2), none, .mov (.c (.bool false))⟩])
 (.seq (.reg none [
    ⟨(some 6), none, .load true 2 (.t 1)⟩,
    ⟨(some 7), none, .call .q (.f 69) [(.t 6)]⟩,
    ⟨(some 5), none, .mov (.t 7)⟩,
    ⟨(some 8), none, .ext (.t 5) 0⟩,
    ⟨(some 9), none, .ext (.t 5) 1⟩,
    ⟨(some 3), none, .mov (.t 8)⟩,
    ⟨(some 4), none, .mov (.t 9)⟩])
 (.seq (.reg none [
    ⟨(some 10), none, .load true 2 (.t 1)⟩,
    ⟨(some 11), none, .call .q (.f 20) [(.t 10)]⟩,
    ⟨(some 12), none, .mov (.t 11)⟩,
    ⟨(some 13), (some (12, true)), .mov (.t 4)⟩,
    ⟨(some 14), (some (12, true)), .un .not (.t 13)⟩,
    ⟨(some 15), none, .pick (.t 12) (.t 14) (.c (.bool false))⟩,
    ⟨(some 2), none, .mov (.t 15)⟩])
 (.ret)))⟩
def c_each : IFn := ⟨3, 30, [.t 6],
 .seq (.reg none [
    ⟨(some 3), none, .box (.t 0)⟩,
    ⟨(some 6), none, .mov (.c (.slice none 0 0))⟩])
 (.seq (.seq (.reg none [
     ⟨(some 10), none, .load true 2 (.t 3)⟩,
     ⟨(some 11), none, .call .q (.f 44) [(.t 10)]⟩,
     ⟨(some 12), none, .un .not (.t 11)⟩])
  (.cond (.t 12) (.seq (.reg none [
      ⟨(some 6), none, .mov (.c (.slice none 0 0))⟩])
   (.ret)) (.skip)))
 (.seq (.reg none [
    ⟨(some 7), none, .mov (.c (.slice none 0 0))⟩])
 (.seq (.seq (.reg none [
     ⟨(some 13), none, .fad 0 (.t 3)⟩,
     ⟨(some 14), none, .load false 1 (.t 13)⟩,
     ⟨(some 15), none, .len (.t 14)⟩,
     ⟨(some 16), none, .mov (.c (.int .i64 0))⟩])
  (.block 0 (.loop (.seq (.reg none [
       ⟨(some 17), none, .bin .lss (.t 16) (.t 15)⟩])
    (.seq (.cond (.t 17) (.skip) (.exit 0))
    (.seq (.block 1 (.seq (.reg none [
         ⟨(some 18), none, .iad 2 (.t 14) (.t 16)⟩,
         ⟨(some 19), none, .load true 2 (.t 18)⟩,
         ⟨(some 9), none, .new [(.int .i64 0), (.int .i64 0)]⟩,
         ⟨none, none, .store 2 (.t 9) (.t 19)⟩])
      (.reg none [
        ⟨(some 20), none, .mov (.t 7)⟩,
        ⟨(some 21), none, .mov (.t 2)⟩,
        ⟨(some 22), none, .load true 2 (.t 9)⟩,
        ⟨(some 23), none, .call .q (.t 21) [(.t 22)]⟩,
        ⟨(some 24), none, .mov (.t 1)⟩,
        ⟨(some 25), none, .call .q (.f 98) [(.t 23), (.t 24)]⟩,
        ⟨(some 26), none, .lit 1 4 1 [(.bool false)] [(0, 1, (.t 25))]⟩,
        ⟨(some 27), none, .app 1 4 1 false (.t 20) (.t 26)⟩,
        ⟨(some 7), none, .mov (.t 27)⟩])))
    (.reg none [
      ⟨(some 28), none, .bin .add (.t 16) (.c (.int .i64 1))⟩,
      ⟨(some 16), none, .mov (.t 28)⟩])))))))
 (.seq (.reg none [
    ⟨(some 29), none, .mov (.t 7)⟩,
    ⟨(some 6), none, .mov (.t 29)⟩])
 (.ret)))))⟩
def c_iKnows : IFn := ⟨2, 8, [.t 4],
 .seq (.reg none [
    ⟨(some 2), none, .box (.t 0)⟩,
    ⟨(some 4), none, .mov (.c (.slice none 0 0))⟩])
 (.seq (.reg none [
    ⟨(some 5), none, .load true 2 (.t 2)⟩,
    ⟨(some 6), none, .mov (.t 1)⟩,
    ⟨(some 7), none, .call .k (.f 70) [(.t 5), (.t 6), (.f 73)]⟩,
    ⟨(some 4), none, .mov (.t 7)⟩])
 (.ret))⟩
def c_iTrustsV : IFn := ⟨2, 8, [.t 4],
 .seq (.reg none [
    ⟨(some 2), none, .box (.t 0)⟩,
    ⟨(some 4), none, .mov (.c (.slice none 0 0))⟩])
 (.seq (.reg none [
    ⟨(some 5), none, .load true 2 (.t 2)⟩,
    ⟨(some 6), none, .mov (.t 1)⟩,
    ⟨(some 7), none, .call .k (.f 70) [(.t 5), (.t 6), (.f 71)]⟩,
    ⟨(some 4), none, .mov (.t 7)⟩])
 (.ret))⟩
def c_kno1 : IFn := ⟨1, 5, [.t 2],
 .seq (.reg none [
    ⟨(some 1), none, .box (.t 0)⟩,
    ⟨(some 2), none, .mov (.c (.int .i64 0))⟩])
 (.seq (.reg none [
    ⟨(some 3), none, .fad 0 (.t 1)⟩,
    ⟨(some 4), none, .load false 1 (.t 3)⟩,
    ⟨(some 2), none, .mov (.t 4)⟩])
 (.ret))⟩
def c_tru1 : IFn := ⟨1, 5, [.t 2],
 .seq (.reg none [
    ⟨(some 1), none, .box (.t 0)⟩,
    ⟨(some 2), none, .mov (.c (.int .i64 0))⟩])
 (.seq (.reg none [
    ⟨(some 3), none, .fad 1 (.t 1)⟩,
    ⟨(some 4), none, .load false 1 (.t 3)⟩,
    ⟨(some 2), none, .mov (.t 4)⟩])
 (.ret))⟩
def c_lcOther : IFn := ⟨3, 44, [.t 6],
 .seq (.reg none [
    ⟨(some 6), none, .mov (.c (.slice none 0 0))⟩])
 (.seq (.reg none [
    ⟨(some 9), none, .lit 1 3 0 [] []⟩,
    ⟨(some 10), none, .mov (.t 0)⟩,
    ⟨(some 11), none, .app 1 3 8 false (.t 9) (.t 10)⟩,
    ⟨(some 7), none, .mov (.t 11)⟩])
 (.seq (.seq (.reg none [
     ⟨(some 8), none, .mov (.c (.int .i64 0))⟩])
  (.block 0 (.loop (.seq (.seq (.reg none [
        ⟨(some 12), none, .mov (.t 8)⟩,
        ⟨(some 13), none, .mov (.t 7)⟩,
        ⟨(some 14), none, .len (.t 13)⟩,
        ⟨(some 15), none, .bin .lss (.t 12) (.t 14)⟩,
        ⟨(some 16), none, .mov (.t 15)⟩,
        ⟨(some 17), (some (16, true)), .mov (.t 8)⟩,
        ⟨(some 18), (some (16, true)), .mov (.t 1)⟩,
        ⟨(some 19), (some (16, true)), .len (.t 18)⟩,
        ⟨(some 20), (some (16, true)), .bin .lss (.t 17) (.t 19)⟩,
        ⟨(some 21), none, .pick (.t 16) (.t 20) (.c (.bool false))⟩])
     (.cond (.t 21) (.skip) (.exit 0)))
    (.seq (.block 1 (.seq (.reg none [
         ⟨(some 24), none, .mov (.t 1)⟩,
         ⟨(some 25), none, .mov (.t 8)⟩,
         ⟨(some 26), none, .iad 1 (.t 24) (.t 25)⟩,
         ⟨(some 27), none, .load false 1 (.t 26)⟩,
         ⟨(some 28), none, .un .not (.t 27)⟩])
      (.cond (.t 28) (.reg none [
         ⟨(some 29), none, .mov (.t 7)⟩,
         ⟨(some 30), none, .mov (.t 8)⟩,
         ⟨(some 31), none, .mov (.t 7)⟩,
         ⟨(some 32), none, .mov (.t 8)⟩,
         ⟨(some 33), none, .iad 1 (.t 31) (.t 32)⟩,
         ⟨(some 34), none, .load false 1 (.t 33)⟩,
         ⟨(some 35), none, .mov (.t 2)⟩,
         ⟨(some 36), none, .len (.t 35)⟩,
         ⟨(some 37), none, .mov (.t 8)⟩,
         ⟨(some 38), none, .bin .add (.t 37) (.c (.int .i64 1))⟩,
         ⟨(some 39), none, .bin .mul (.t 36) (.t 38)⟩,
         ⟨(some 40), none, .bin .add (.t 34) (.t 39)⟩,
         ⟨(some 41), none, .bin .rem (.t 40) (.c (.int .i64 10))⟩,
         ⟨(some 42), none, .iad 1 (.t 29) (.t 30)⟩,
         ⟨none, none, .store 1 (.t 42) (.t 41)⟩]) (.skip))))
    (.reg none [
      ⟨(some 22), none, .mov (.t 8)⟩,
      ⟨(some 23), none, .bin .add (.t 22) (.c (.int .i64 1))⟩,
      ⟨(some 8), none, .mov (.t 23)⟩]))))))
 (.seq (.reg none [
    ⟨(some 43), none, .mov (.t 7)⟩,
    ⟨(some 6), none, .mov (.t 43)⟩])
 (.ret))))⟩
def c_lcSameOf : IFn := ⟨3, 46, [.t 6],
 .seq (.reg none [
    ⟨(some 6), none, .mov (.c (.bool false))⟩])
 (.seq (.seq (.reg none [
     ⟨(some 7), none, .mov (.c (.int .i64 0))⟩])
  (.block 0 (.loop (.seq (.seq (.reg none [
        ⟨(some 8), none, .mov (.t 7)⟩,
        ⟨(some 9), none, .mov (.t 0)⟩,
        ⟨(some 10), none, .len (.t 9)⟩,
        ⟨(some 11), none, .bin .lss (.t 8) (.t 10)⟩,
        ⟨(some 12), none, .mov (.t 11)⟩,
        ⟨(some 13), (some (12, true)), .mov (.t 7)⟩,
        ⟨(some 14), (some (12, true)), .mov (.t 1)⟩,
        ⟨(some 15), (some (12, true)), .len (.t 14)⟩,
        ⟨(some 16), (some (12, true)), .bin .lss (.t 13) (.t 15)⟩,
        ⟨(some 17), none, .pick (.t 12) (.t 16) (.c (.bool false))⟩,
        ⟨(some 18), none, .mov (.t 17)⟩,
        ⟨(some 19), (some (18, true)), .mov (.t 7)⟩,
        ⟨(some 20), (some (18, true)), .mov (.t 2)⟩,
        ⟨(some 21), (some (18, true)), .len (.t 20)⟩,
        ⟨(some 22), (some (18, true)), .bin .lss (.t 19) (.t 21)⟩,
        ⟨(some 23), none, .pick (.t 18) (.t 22) (.c (.bool false))⟩])
     (.cond (.t 23) (.skip) (.exit 0)))
    (.seq (.block 1 (.seq (.reg (some 13) [
         ⟨(some 26), none, .mov (.t 2)⟩,
         ⟨(some 27), none, .mov (.t 7)⟩,
         ⟨(some 28), none, .iad 1 (.t 26) (.t 27)⟩,
         ⟨(some 29), none, .load false 1 (.t 28)⟩,
         ⟨(some 30), none, .mov (.t 29)⟩,
         ⟨(some 31), (some (30, true)), .mov (.t 0)⟩,
         ⟨(some 32), (some (30, true)), .mov (.t 7)⟩,
         ⟨(some 33), (some (30, true)), .iad 1 (.t 31) (.t 32)⟩,
         ⟨(some 34), (some (30, true)), .load false 1 (.t 33)⟩,
         ⟨(some 35), (some (30, true)), .mov (.t 1)⟩,
         ⟨(some 36), (some (30, true)), .mov (.t 7)⟩,
         ⟨(some 37), (some (30, true)), .iad 1 (.t 35) (.t 36)⟩,
         ⟨(some 38), (some (30, true)), .load false 1 (.t 37)⟩,
         ⟨(some 39), (some (30, true)), .bin .neq (.t 34) (.t 38)⟩,
         ⟨(some 40), none, .pick (.t 30) (.t 39) (.c (.bool false))⟩])
      (.cond (.t 40) (.seq (.reg none [
          ⟨(some 6), none, .mov (.c (.bool false))⟩])
       (.ret)) (.skip))))
    (.reg none [
      ⟨(some 24), none, .mov (.t 7)⟩,
      ⟨(some 25), none, .bin .add (.t 24) (.c (.int .i64 1))⟩,
      ⟨(some 7), none, .mov (.t 25)⟩]))))))
 (.seq (.reg none [
    ⟨(some 41), none, .mov (.t 0)⟩,
    ⟨(some 42), none, .len (.t 41)⟩,
    ⟨(some 43), none, .mov (.t 1)⟩,
    ⟨(some 44), none, .len (.t 43)⟩,
    ⟨(some 45), none, .bin .eql (.t 42) (.t 44)⟩,
    ⟨(some 6), none, .mov (.t 45)⟩])
 (.ret)))⟩
def c_iRunSets : IFn := ⟨2, 34, [.t 4],
 .seq (.reg none [
    ⟨(some 2), none, .box (.t 0)⟩,
    ⟨(some 4), none, .mov (.c (.slice none 0 0))⟩])
 (.seq (.reg none [
    ⟨(some 5), none, .mov (.c (.slice none 0 0))⟩])
 (.seq (.seq (.reg none [
     ⟨(some 8), none, .fad 1 (.t 2)⟩,
     ⟨(some 9), none, .load false 1 (.t 8)⟩,
     ⟨(some 10), none, .len (.t 9)⟩,
     ⟨(some 11), none, .mov (.c (.int .i64 0))⟩])
  (.block 0 (.loop (.seq (.reg none [
       ⟨(some 12), none, .bin .lss (.t 11) (.t 10)⟩])
    (.seq (.cond (.t 12) (.skip) (.exit 0))
    (.seq (.block 1 (.seq (.reg none [
         ⟨(some 13), none, .iad 2 (.t 9) (.t 11)⟩,
         ⟨(some 14), none, .load true 2 (.t 13)⟩,
         ⟨(some 7), none, .new [(.int .i64 0), (.int .i64 0)]⟩,
         ⟨none, none, .store 2 (.t 7) (.t 14)⟩])
      (.seq (.reg none [
         ⟨(some 15), none, .fad 0 (.t 7)⟩,
         ⟨(some 16), none, .load false 1 (.t 15)⟩,
         ⟨(some 17), none, .mov (.t 1)⟩,
         ⟨(some 18), none, .len (.t 17)⟩,
         ⟨(some 19), none, .bin .sub (.t 18) (.c (.int .i64 1))⟩,
         ⟨(some 20), none, .call .q (.f 72) [(.t 16), (.c (.int .i64 0)), (.t 19)]⟩,
         ⟨(some 21), none, .mov (.t 20)⟩,
         ⟨(some 22), (some (21, true)), .mov (.t 1)⟩,
         ⟨(some 23), (some (21, true)), .fad 0 (.t 7)⟩,
         ⟨(some 24), (some (21, true)), .load false 1 (.t 23)⟩,
         ⟨(some 25), (some (21, true)), .iad 1 (.t 22) (.t 24)⟩,
         ⟨(some 26), (some (21, true)), .load false 1 (.t 25)⟩,
         ⟨(some 27), none, .pick (.t 21) (.t 26) (.c (.bool false))⟩])
      (.cond (.t 27) (.reg none [
         ⟨(some 28), none, .mov (.t 5)⟩,
         ⟨(some 29), none, .load true 2 (.t 7)⟩,
         ⟨(some 30), none, .lit 2 48 1 [(.int .i64 0), (.int .i64 0)] [(0, 2, (.t 29))]⟩,
         ⟨(some 31), none, .app 2 48 16 false (.t 28) (.t 30)⟩,
         ⟨(some 5), none, .mov (.t 31)⟩]) (.skip)))))
    (.reg none [
      ⟨(some 32), none, .bin .add (.t 11) (.c (.int .i64 1))⟩,
      ⟨(some 11), none, .mov (.t 32)⟩])))))))
 (.seq (.reg none [
    ⟨(some 33), none, .mov (.t 5)⟩,
    ⟨(some 4), none, .mov (.t 33)⟩])
 (.ret))))⟩
def c_iRunTo : IFn := ⟨2, 26, [.t 4],
 .seq (.reg none [
    ⟨(some 2), none, .box (.t 0)⟩,
    ⟨(some 4), none, .mov (.c (.slice none 0 0))⟩])
 (.seq (.reg none [
    ⟨(some 5), none, .mov (.c (.slice none 0 0))⟩])
 (.seq (.seq (.reg none [
     ⟨(some 8), none, .fad 2 (.t 2)⟩,
     ⟨(some 9), none, .load false 1 (.t 8)⟩,
     ⟨(some 10), none, .len (.t 9)⟩,
     ⟨(some 11), none, .mov (.c (.int .i64 0))⟩])
  (.block 0 (.loop (.seq (.reg none [
       ⟨(some 12), none, .bin .lss (.t 11) (.t 10)⟩])
    (.seq (.cond (.t 12) (.skip) (.exit 0))
    (.seq (.block 1 (.seq (.reg none [
         ⟨(some 13), none, .iad 2 (.t 9) (.t 11)⟩,
         ⟨(some 14), none, .load true 2 (.t 13)⟩,
         ⟨(some 7), none, .new [(.int .i64 0), (.int .i64 0)]⟩,
         ⟨none, none, .store 2 (.t 7) (.t 14)⟩])
      (.seq (.reg none [
         ⟨(some 15), none, .fad 0 (.t 7)⟩,
         ⟨(some 16), none, .load false 1 (.t 15)⟩,
         ⟨(some 17), none, .mov (.t 1)⟩,
         ⟨(some 18), none, .bin .eql (.t 16) (.t 17)⟩])
      (.cond (.t 18) (.reg none [
         ⟨(some 19), none, .mov (.t 5)⟩,
         ⟨(some 20), none, .fad 1 (.t 7)⟩,
         ⟨(some 21), none, .load false 1 (.t 20)⟩,
         ⟨(some 22), none, .lit 1 3 1 [(.int .i64 0)] [(0, 1, (.t 21))]⟩,
         ⟨(some 23), none, .app 1 3 8 false (.t 19) (.t 22)⟩,
         ⟨(some 5), none, .mov (.t 23)⟩]) (.skip)))))
    (.reg none [
      ⟨(some 24), none, .bin .add (.t 11) (.c (.int .i64 1))⟩,
      ⟨(some 11), none, .mov (.t 24)⟩])))))))
 (.seq (.reg none [
    ⟨(some 25), none, .mov (.t 5)⟩,
    ⟨(some 4), none, .mov (.t 25)⟩])
 (.ret))))⟩
def typeB (n : Nat) (p : TProg n) : Bool := progB n p && !(whyV n p).2
def TypeOkB (F : Nat → Option IFn) (f : Nat) : Prop := ∀ (H : Heap) (n : Nat) (lv sv : Value) (ls : List (Int × Int)) (l : List (TStep n)), SlR Co.p2 (vw 0 H) lv ls → SlR (Co.step n) (vw 0 H) sv l → (Co.prog n).sm (ls, l) → QC F f [.agg #[lv, sv]] H (.bool (typeB n (ls, l)))
theorem sTypeOk_ok {F : Nat → Option IFn} {f : Nat} (hf : F f = some c_sTypeOk) (gw : WhyV F 69) (gp : ProgOk F 20) : TypeOkB F f := by
  intro H n lv sv ls l r1 r2 hsm
  have olv : one lv = true := by obtain ⟨_, a, rfl, _⟩ := r1; rfl
  have osv : one sv = true := by obtain ⟨_, a, rfl, _⟩ := r2; rfl
  refine QC.mk hf rfl ?_
  refine seq_reg ?_
  simp only [go_sem, binC, olv, osv]
  refine wpc_gen fun H1 hH1 => ?_
  have hx1 : AgX [] H H1 := hH1 ▸ AgX.app [] _ _
  have hb : H1[H.length]? = some ⟨[lv, sv], 0, 0, false, true⟩ := hH1 ▸ get_new0 _ _
  clear hH1
  have hS := agx_sub hx1
  refine seq_reg ?_
  simp only [go_sem, binC, gc_of hb, inBlk_some, olv, osv]
  refine op_callQ (by simp only [go_sem, binC]; exact gw H1 n _ _ ls l (r1.mono hS) (r2.mono hS) hsm) ?_
  simp only [go_sem, binC]
  refine seq_reg ?_
  simp only [go_sem, binC, gc_of hb, inBlk_some, olv, osv]
  refine op_callQ (by simp only [go_sem, binC]; exact gp H1 n _ (ls, l) (prog_rd (r1.mono hS) (r2.mono hS)) hsm) ?_
  cases hP : progB n (ls, l) with
  | false =>
    simp only [go_sem, binC]
    refine wpc_ret ⟨Or.inr rfl, .bool false, (by (simp only [go_sem, binC]) <;> rfl), ?_, rfl⟩
    refine congrArg _ ?_
    show _ = (progB n (ls, l) && !(whyV n (ls, l)).2)
    rw [hP]
    rfl
  | true =>
    simp only [go_sem, binC]
    refine wpc_ret ⟨Or.inr rfl, .bool (!(whyV n (ls, l)).2), (by (simp only [go_sem, binC]) <;> rfl), ?_, rfl⟩
    refine congrArg _ ?_
    show _ = (progB n (ls, l) && !(whyV n (ls, l)).2)
    rw [hP]
    rfl
def fb (b : Bool) : List Value := [.bool b]
theorem GLi.slB {es et lo : Nat} {H : Heap} {v : Value} {l : List Bool} (h : GLi fb 1 et lo H v l) (hl : l.length ≤ 1000) : SlR Co.bool (vw 0 H) v l := by
  rcases h with ⟨rfl, rfl⟩ | ⟨b, so, hlo, rfl, _, h⟩
  · exact ⟨by simp, none, rfl, .inl rfl⟩
  · have hfl := flat_len (fl := fb) (w := 1) (fun _ => rfl) l
    refine ⟨by omega, _, rfl, .inr ⟨b, 0, rfl, fun i hi => ⟨fb l[i], ?_, rfl⟩⟩⟩
    unfold rng vw
    rw [if_pos (Nat.zero_le _), h]
    simp only [Option.map_some, Nat.zero_add, show Co.bool.w = 1 from rfl, Nat.mul_one]
    rw [if_pos (by omega)]
    congr 1
    have : l.flatMap fb = (l.take i).flatMap fb ++ (fb l[i] ++ (l.drop (i + 1)).flatMap fb) := by
      conv => lhs; rw [← List.take_append_drop i l, List.drop_eq_getElem_cons hi]
      rw [List.flatMap_append, List.flatMap_cons]
    rw [this]
    have hlt : ((l.take i).flatMap fb).length = i := by rw [flat_len (fl := fb) (w := 1) (fun _ => rfl), List.length_take]; omega
    rw [List.drop_append, List.drop_of_length_le (by omega), hlt, Nat.sub_self, List.nil_append, List.drop_zero]
    rfl
theorem gcBo {H : Heap} {v : Value} {l : List Bool} (h : SlR Co.bool (vw 0 H) v l) {i : Nat} (hi : i < l.length) : ∃ b o, v = .slice (some ⟨b, o, none⟩) l.length l.length ∧ getCells H b (o + i) 1 = some [.bool l[i]] := by
  obtain ⟨_, a, rfl, h2⟩ := h
  rcases h2 with h2 | ⟨b, o, rfl, h2⟩
  · rw [h2] at hi; simp at hi
  · obtain ⟨cs, h3, h4⟩ := h2 i hi
    have h5 := rng_gc h3
    have h6 : cs = [.bool l[i]] := h4
    rw [show Co.bool.w = 1 from rfl, Nat.mul_one, h6] at h5
    exact ⟨b, o, rfl, h5⟩
def EachOk (F : Nat → Option IFn) (f : Nat) : Prop := ∀ (H : Heap) (n : Nat) (lv sv : Value) (ls : List (Int × Int)) (l : List (TStep n)) (h : Int) (g : Nat) (S : Int × Int → Int), 0 ≤ h → h ≤ 2 → (∀ (H : Heap) (a : Int × Int), labB a = true → QC F g [.agg #[.int .i64 a.1, .int .i64 a.2]] H (.int .i64 (S a)) ∧ 0 ≤ S a ∧ S a ≤ 7) → SlR Co.p2 (vw 0 H) lv ls → SlR (Co.step n) (vw 0 H) sv l → (Co.prog n).sm (ls, l) → progB n (ls, l) = true →
  ∃ w H', KC F f [.agg #[lv, sv], .int .i64 h, .func (.func g) #[] #[]] H w H' ∧ AgX [] H H' ∧ SlR Co.bool (vw 0 H') w (ls.map fun a => hasB (S a) h)
theorem each_ok {F : Nat → Option IFn} {f : Nat} (hf : F f = some c_each) (gp : ProgOk F 44) (gh : HasOk F 98) : EachOk F f := by
  intro H n lv sv ls l h g S h0 h2 gS r1 r2 hsm hP
  have hlab := progB_lab hP
  have hl4 : ls.length ≤ 4 := by
    simp only [progB, Bool.and_eq_true, decide_eq_true_eq] at hP; have := hP.1.1.1; omega
  suffices hh : ∃ w H', KC F f [.agg #[lv, sv], .int .i64 h, .func (.func g) #[] #[]] H w H' ∧ (AgX [] H H' ∧ SlR Co.bool (vw 0 H') w (ls.map fun a => hasB (S a) h)) from hh
  have osv : one sv = true := by obtain ⟨_, a, rfl, _⟩ := r2; rfl
  obtain ⟨_, la, rfl, _⟩ := id r1
  refine KC.mk hf rfl ?_
  refine seq_reg ?_
  simp only [go_sem, binC, osv]
  refine wpc_gen fun H1 hH1 => ?_
  have hx1 : AgX [] H H1 := hH1 ▸ AgX.app [] _ _
  have hb : H1[H.length]? = some ⟨[.slice la ls.length ls.length, sv], 0, 0, false, true⟩ := hH1 ▸ get_new0 _ _
  clear hH1
  have hS := agx_sub hx1
  have hl1 := hx1.1
  refine seq_assoc (seq_reg ?_)
  simp only [go_sem, binC, gc_of hb, inBlk_some, osv]
  refine op_callQ (by simp only [go_sem, binC]; exact gp H1 n _ (ls, l) (prog_rd (r1.mono hS) (r2.mono hS)) hsm) ?_
  simp only [go_sem, binC, hP]
  refine seq_cond (t := false) rfl ?_
  simp only [go_sem, binC]
  refine seq_skip (seq_reg ?_)
  simp only [go_sem, binC]
  refine seq_assoc (seq_reg ?_)
  simp only [go_sem, binC, gc_of hb, inBlk_some]
  refine seq_block (wpc_loop ?_)
  suffices hh : ∀ (k i : Nat) (e : Env) (Hc : Heap) (v7 : Value), i + k = ls.length → AgX [] H1 Hc → GLi fb 1 4 H1.length Hc v7 ((ls.take i).map fun a => hasB (S a) h) → e 1 = .int .i64 h → e 2 = .func (.func g) #[] #[] → e 7 = v7 → e 14 = .slice la ls.length ls.length → e 15 = .int .i64 ls.length → e 16 = .int .i64 i → W F H.length _ e Hc _ from
    hh ls.length 0 _ H1 _ (by omega) (AgX.refl _ _) (.inl ⟨rfl, rfl⟩) (by simp only [go_sem, binC]) (by simp only [go_sem, binC]) (by simp only [go_sem, binC]) (by simp only [go_sem, binC]) (by simp only [go_sem, binC]) (by (simp only [go_sem, binC]) <;> rfl)
  intro k
  induction k with
  | zero =>
    intro i e Hc v7 hi hxc q e1 e2 e7 e14 e15 e16
    refine lp_step ?_
    refine seq_reg ?_
    simp only [go_sem, binC, e15, e16]
    refine seq_cond (t := false) (by simp only [go_sem, binC]; rw [decide_eq_false (by omega)]) ?_
    simp only [go_sem, binC]
    refine seq_exit ?_
    simp only [go_sem, binC, thenX_e, out_e, thenX_n]
    refine seq_reg ?_
    simp only [go_sem, binC, e7]
    rw [List.take_of_length_le (by omega)] at q
    exact wpc_ret ⟨Or.inr rfl, _, (by (simp only [go_sem, binC]) <;> rfl), hx1.tr hxc, q.slB (es := 1) (by rw [List.length_map]; omega)⟩
  | succ k ih =>
    intro i e Hc v7 hi hxc q e1 e2 e7 e14 e15 e16
    have hil : i < ls.length := by omega
    obtain ⟨b, o, hv1, hg⟩ := gcP (r1.mono (agx_sub (hx1.tr hxc))) hil
    simp only [Value.slice.injEq, and_true] at hv1
    subst hv1
    have hli := List.all_eq_true.1 hlab _ (List.getElem_mem hil)
    have hw1 : IntKind.i64.wrap ((i : Int) + 1) = ((i + 1 : Nat) : Int) := by rw [wrap_id (by omega) (by omega)]; omega
    have htk : (ls.take i).map (fun a => hasB (S a) h) ++ [hasB (S ls[i]) h] = (ls.take (i + 1)).map fun a => hasB (S a) h := by
      rw [List.take_add_one, List.getElem?_eq_getElem hil, List.map_append]; rfl
    have hlc := hxc.1
    refine lp_step ?_
    refine seq_reg ?_
    simp only [go_sem, binC, e15, e16]
    refine seq_cond (t := true) (by simp only [go_sem, binC]; rw [decide_eq_true (by omega)]) ?_
    simp only [go_sem, binC]
    refine seq_skip (seq_block (seq_reg ?_))
    simp only [go_sem, binC, e14, e16]
    refine ⟨⟨by omega, by omega⟩, ?_⟩
    simp only [go_sem, binC, Int.toNat_natCast, hg]
    refine ⟨by omega, ?_⟩
    refine wpc_gen fun H2 hH2 => ?_
    have hx2 : AgX [] Hc H2 := hH2 ▸ AgX.app [] _ _
    have hb9 : H2[Hc.length]? = some ⟨[.int .i64 ls[i].1, .int .i64 ls[i].2], 0, 0, false, true⟩ := hH2 ▸ get_new0 _ _
    clear hH2
    have q2 := q.keep hx2 (fun _ _ _ _ _ => by simp)
    obtain ⟨gS1, gS2, gS3⟩ := gS H2 ls[i] hli
    have hl2 := hx2.1
    refine wpc_reg ?_
    simp only [go_sem, binC, e2, gc_of hb9, inBlk_some]
    refine op_callQc (g := g) (first := #[]) (cap := #[]) (by simp only [go_sem, binC, e2]) (by simp only [List.nil_append, List.append_nil]; simp only [go_sem, binC]; exact gS1) ?_
    simp only [go_sem, binC, e1]
    refine op_callQ (by simp only [go_sem, binC, e1]; exact gh H2 _ _ gS2 gS3) ?_
    simp only [go_sem, binC]
    refine op_app_fl (fl := fb) (a := hasB (S ls[i]) h) (lo := H1.length) (fun _ => rfl) q2 (by simp only [go_sem, binC, e7]) (by (simp only [go_sem, binC]) <;> rfl) hl1 (by omega) (by rw [List.length_map, List.length_take]; omega) (by omega) fun H3 w3 hx3 q3 => ?_
    rw [htk] at q3
    have hblk := q2.blk
    simp only [go_sem, binC, out_n, thenX_n]
    refine wpc_reg ?_
    simp only [go_sem, binC, e16, hw1]
    simp only [go_sem, binC, thenX_n]
    exact ih (i + 1) _ H3 w3 (by omega) ((hxc.tr hx2).trans hx3 (fun _ h _ => h) (fun b h1 h2 => by have := hblk b h1; omega)) q3 (by simp only [go_sem, binC, e1]) (by simp only [go_sem, binC, e2]) (by simp only [go_sem, binC]) (by simp only [go_sem, binC, e14]) (by simp only [go_sem, binC, e15]) (by simp only [go_sem, binC])
def VarsOk (F : Nat → Option IFn) (f : Nat) (c : Bool) : Prop := ∀ (H : Heap) (n : Nat) (lv sv : Value) (ls : List (Int × Int)) (l : List (TStep n)) (h : Int), 0 ≤ h → h ≤ 2 → SlR Co.p2 (vw 0 H) lv ls → SlR (Co.step n) (vw 0 H) sv l → (Co.prog n).sm (ls, l) → progB n (ls, l) = true →
  ∃ w H', KC F f [.agg #[lv, sv], .int .i64 h] H w H' ∧ AgX [] H H' ∧ SlR Co.bool (vw 0 H') w (ls.map (lowL c h))
theorem kno1_ok {F : Nat → Option IFn} {f : Nat} (hf : F f = some c_kno1) : ∀ (H : Heap) (a : Int × Int), labB a = true → QC F f [.agg #[.int .i64 a.1, .int .i64 a.2]] H (.int .i64 a.1) ∧ 0 ≤ a.1 ∧ a.1 ≤ 7 := by
  rintro H ⟨x, y⟩ ha
  have hb := labB_bd ha
  refine ⟨?_, by first | exact hb.1.1 | exact hb.1.1, by first | exact hb.1.2 | exact hb.1.2⟩
  refine QC.mk hf rfl ?_
  refine seq_reg ?_
  simp only [go_sem, binC]
  refine seq_reg ?_
  simp only [go_sem, binC, inBlk_some]
  exact wpc_ret ⟨Or.inr rfl, _, (by (simp only [go_sem, binC]) <;> rfl), rfl, rfl⟩
theorem iKnows_ok {F : Nat → Option IFn} {f : Nat} (hf : F f = some c_iKnows) (gc : F 73 = some c_kno1) (ge : EachOk F 70) : VarsOk F f true := by
  intro H n lv sv ls l h h0 h2 r1 r2 hsm hP
  suffices hh : ∃ w H', KC F f [.agg #[lv, sv], .int .i64 h] H w H' ∧ (AgX [] H H' ∧ SlR Co.bool (vw 0 H') w (ls.map (lowL true h))) from hh
  have olv : one lv = true := by obtain ⟨_, a, rfl, _⟩ := r1; rfl
  have osv : one sv = true := by obtain ⟨_, a, rfl, _⟩ := r2; rfl
  refine KC.mk hf rfl ?_
  refine seq_reg ?_
  simp only [go_sem, binC, olv, osv]
  refine wpc_gen fun H1 hH1 => ?_
  have hx1 : AgX [] H H1 := hH1 ▸ AgX.app [] _ _
  have hb : H1[H.length]? = some ⟨[lv, sv], 0, 0, false, true⟩ := hH1 ▸ get_new0 _ _
  clear hH1
  have hS := agx_sub hx1
  refine seq_reg ?_
  simp only [go_sem, binC, gc_of hb, inBlk_some, olv, osv]
  obtain ⟨w, H2, k2, hx2, q2⟩ := ge H1 n lv sv ls l h 73 (fun a => a.1) h0 h2 (kno1_ok gc) (r1.mono hS) (r2.mono hS) hsm hP
  refine op_callK (by simp only [go_sem, binC]; exact k2) ?_
  simp only [go_sem, binC]
  exact wpc_ret ⟨Or.inr rfl, _, (by (simp only [go_sem, binC]) <;> rfl), hx1.tr hx2, q2⟩
theorem tru1_ok {F : Nat → Option IFn} {f : Nat} (hf : F f = some c_tru1) : ∀ (H : Heap) (a : Int × Int), labB a = true → QC F f [.agg #[.int .i64 a.1, .int .i64 a.2]] H (.int .i64 a.2) ∧ 0 ≤ a.2 ∧ a.2 ≤ 7 := by
  rintro H ⟨x, y⟩ ha
  have hb := labB_bd ha
  refine ⟨?_, by first | exact hb.2.1 | exact hb.1.1, by first | exact hb.2.2 | exact hb.1.2⟩
  refine QC.mk hf rfl ?_
  refine seq_reg ?_
  simp only [go_sem, binC]
  refine seq_reg ?_
  simp only [go_sem, binC, inBlk_some]
  exact wpc_ret ⟨Or.inr rfl, _, (by (simp only [go_sem, binC]) <;> rfl), rfl, rfl⟩
theorem iTrustsV_ok {F : Nat → Option IFn} {f : Nat} (hf : F f = some c_iTrustsV) (gc : F 71 = some c_tru1) (ge : EachOk F 70) : VarsOk F f false := by
  intro H n lv sv ls l h h0 h2 r1 r2 hsm hP
  suffices hh : ∃ w H', KC F f [.agg #[lv, sv], .int .i64 h] H w H' ∧ (AgX [] H H' ∧ SlR Co.bool (vw 0 H') w (ls.map (lowL false h))) from hh
  have olv : one lv = true := by obtain ⟨_, a, rfl, _⟩ := r1; rfl
  have osv : one sv = true := by obtain ⟨_, a, rfl, _⟩ := r2; rfl
  refine KC.mk hf rfl ?_
  refine seq_reg ?_
  simp only [go_sem, binC, olv, osv]
  refine wpc_gen fun H1 hH1 => ?_
  have hx1 : AgX [] H H1 := hH1 ▸ AgX.app [] _ _
  have hb : H1[H.length]? = some ⟨[lv, sv], 0, 0, false, true⟩ := hH1 ▸ get_new0 _ _
  clear hH1
  have hS := agx_sub hx1
  refine seq_reg ?_
  simp only [go_sem, binC, gc_of hb, inBlk_some, olv, osv]
  obtain ⟨w, H2, k2, hx2, q2⟩ := ge H1 n lv sv ls l h 71 (fun a => a.2) h0 h2 (tru1_ok gc) (r1.mono hS) (r2.mono hS) hsm hP
  refine op_callK (by simp only [go_sem, binC]; exact k2) ?_
  simp only [go_sem, binC]
  exact wpc_ret ⟨Or.inr rfl, _, (by (simp only [go_sem, binC]) <;> rfl), hx1.tr hx2, q2⟩
def otherL (nums : List Int) (keep : List Bool) (m : Nat) : List Int := nums.mapIdx fun i x => if keep.getD i true = true then x else (x + m * ((i : Int) + 1)) % 10
def otherI (nums : List Int) (keep : List Bool) (m j : Nat) : List Int := nums.mapIdx fun i x => if i < j then (if keep.getD i true = true then x else (x + m * ((i : Int) + 1)) % 10) else x
theorem otherI_set {nums : List Int} {keep : List Bool} {m j : Nat} (hj : j < nums.length) : otherI nums keep m (j + 1) = if keep.getD j true = true then otherI nums keep m j else (otherI nums keep m j).set j ((nums[j] + m * ((j : Int) + 1)) % 10) := by
  refine List.ext_getElem (by split <;> simp [otherI]) fun i h1 h2 => ?_
  have hi : i < nums.length := by simpa [otherI] using h1
  split
  · rename_i hk
    simp only [otherI, List.getElem_mapIdx]
    by_cases hij : i = j
    · subst hij
      rw [if_pos (by omega), if_pos hk, if_neg (by omega)]
    · by_cases hlt : i < j
      · rw [if_pos (by omega), if_pos hlt]
      · rw [if_neg (by omega), if_neg hlt]
  · rename_i hk
    simp only [otherI, List.getElem_mapIdx, List.getElem_set]
    by_cases hij : j = i
    · subst hij
      rw [if_pos (by omega), if_neg hk, if_pos rfl]
    · rw [if_neg hij]
      by_cases hlt : i < j
      · rw [if_pos (by omega), if_pos hlt]
      · rw [if_neg (by omega), if_neg hlt]
theorem otherI_get {nums : List Int} {keep : List Bool} {m j : Nat} (hj : j < nums.length) : (otherI nums keep m j).getD j 0 = nums[j] := by
  rw [List.getD_eq_getElem?_getD, List.getElem?_eq_getElem (by simpa [otherI] using hj)]
  simp [otherI]
theorem otherI_end {nums : List Int} {keep : List Bool} {m j : Nat} (hj : nums.length ≤ j ∨ keep.length ≤ j) : otherI nums keep m j = otherL nums keep m := by
  refine List.ext_getElem (by simp [otherI, otherL]) fun i h1 h2 => ?_
  have hi : i < nums.length := by simpa [otherI] using h1
  simp only [otherI, otherL, List.getElem_mapIdx]
  by_cases hlt : i < j
  · rw [if_pos hlt]
  · rw [if_neg hlt]
    rw [List.getD_eq_getElem?_getD, List.getElem?_eq_none (by omega)]
    rfl
theorem otherL_len {nums : List Int} {keep : List Bool} {m : Nat} : (otherL nums keep m).length = nums.length := by simp [otherL]
theorem otherI_rg {nums : List Int} {keep : List Bool} {m j : Nat} (h : ∀ x ∈ nums, 0 ≤ x ∧ x ≤ 9) : ∀ x ∈ otherI nums keep m j, 0 ≤ x ∧ x ≤ 9 := by
  intro x hx
  simp only [otherI, List.mem_mapIdx] at hx
  obtain ⟨i, hi, rfl⟩ := hx
  have := h _ (List.getElem_mem hi)
  split
  · split
    · exact this
    · omega
  · exact this
theorem otherL_rg {nums : List Int} {keep : List Bool} {m : Nat} (h : ∀ x ∈ nums, 0 ≤ x ∧ x ≤ 9) : ∀ x ∈ otherL nums keep m, 0 ≤ x ∧ x ≤ 9 := by
  rw [← otherI_end (j := nums.length) (.inl (Nat.le_refl _))]
  exact otherI_rg h
def OtherOk (F : Nat → Option IFn) (f : Nat) : Prop := ∀ (H : Heap) (v w u : Value) (nums : List Int) (keep : List Bool) (more : List Int), SlR Co.int (vw 0 H) v nums → SlR Co.bool (vw 0 H) w keep → SlR Co.byte (vw 0 H) u more → (∀ x ∈ nums, 0 ≤ x ∧ x ≤ 9) → nums.length ≤ 4 → more.length ≤ 1048576 → ∃ z H', KC F f [v, w, u] H z H' ∧ AgX [] H H' ∧ SlR Co.int (vw 0 H') z (otherL nums keep more.length)
theorem lcOther_ok {F : Nat → Option IFn} {f : Nat} (hf : F f = some c_lcOther) : OtherOk F f := by
  intro H v w u nums keep more hv hw hu hrg hl4 hm
  suffices hh : ∃ z H', KC F f [v, w, u] H z H' ∧ (AgX [] H H' ∧ SlR Co.int (vw 0 H') z (otherL nums keep more.length)) from hh
  obtain ⟨_, wa, rfl, _⟩ := id hw
  obtain ⟨_, ua, rfl, _⟩ := id hu
  have hkl := hw.1
  refine KC.mk hf rfl ?_
  refine seq_reg ?_
  simp only [go_sem, binC]
  refine seq_reg ?_
  simp only [go_sem, binC]
  have hxl : AgX [] H (H ++ [⟨[], 1, 3, true, true⟩]) := AgX.app [] _ _
  refine op_app_numsN (b := H.length) (lo0 := H.length) (by (simp only [go_sem, binC]) <;> rfl) (by simp only [go_sem, binC]) (hv.mono (agx_sub hxl)) (get_new0 _ _) (by omega) (by omega) (by rw [List.length_append]; omega) fun vo H1 hx1 q1 => ?_
  have hx01 : AgX [] H H1 := hxl.trans hx1 (fun _ h _ => h) (fun b h1 h2 => by simp only [List.mem_singleton] at h1; omega)
  simp only [go_sem, binC]
  refine seq_assoc (seq_reg ?_)
  simp only [go_sem, binC]
  refine seq_block (wpc_loop ?_)
  suffices hh : ∀ (k i : Nat) (e : Env) (Hc : Heap), i + k = nums.length → AgX [] H Hc → NumV H.length Hc vo (otherI nums keep more.length i) → e 1 = .slice wa keep.length keep.length → e 2 = .slice ua more.length more.length → e 7 = vo → e 8 = .int .i64 i → W F H.length _ e Hc _ from
    hh nums.length 0 _ H1 (by omega) hx01 (by have : otherI nums keep more.length 0 = nums := List.ext_getElem (by simp [otherI]) fun i h1 h2 => by simp [otherI]
                                              rw [this]; exact q1) (by simp only [go_sem, binC]) (by simp only [go_sem, binC]) (by simp only [go_sem, binC]) (by (simp only [go_sem, binC]) <;> rfl)
  have hend : ∀ (e : Env) (Hc : Heap) (i : Nat), AgX [] H Hc → NumV H.length Hc vo (otherI nums keep more.length i) → (nums.length ≤ i ∨ keep.length ≤ i) → e 7 = vo → wpc F H.length (.seq (.reg none [⟨(some 43), none, .mov (.t 7)⟩, ⟨(some 6), none, .mov (.t 43)⟩]) .ret) e Hc (fin [.t 6] fun z H' => AgX [] H H' ∧ SlR Co.int (vw 0 H') z (otherL nums keep more.length)) := by
    intro e Hc i hxc q hi e7
    refine seq_reg ?_
    simp only [go_sem, binC, e7]
    rw [otherI_end hi] at q
    exact wpc_ret ⟨Or.inr rfl, _, (by (simp only [go_sem, binC]) <;> rfl), hxc, q.slI (fun x hx => by have := otherL_rg hrg x hx; unfold RgI; omega) (by rw [otherL_len]; omega)⟩
  have hlo : ∀ i, (otherI nums keep more.length i).length = nums.length := fun i => by simp [otherI]
  intro k
  induction k with
  | zero =>
    intro i e Hc hi hxc q e1 e2 e7 e8
    obtain ⟨na, hna⟩ := q.shape
    rw [hlo] at hna
    have e7' : e 7 = .slice na nums.length nums.length := by rw [e7, hna]
    refine lp_step ?_
    refine seq_assoc (seq_reg ?_)
    simp only [go_sem, binC, e1, e7', e8, decide_eq_false (show ¬ (i : Int) < nums.length by omega)]
    refine seq_cond (t := false) rfl ?_
    simp only [go_sem, binC]
    refine seq_exit ?_
    simp only [go_sem, binC, thenX_e, out_e, thenX_n]
    exact hend _ _ i hxc q (.inl (by omega)) (by simp only [go_sem, binC, e7])
  | succ k ih =>
    intro i e Hc hi hxc q e1 e2 e7 e8
    have hil : i < nums.length := by omega
    obtain ⟨na, hna⟩ := q.shape
    rw [hlo] at hna
    have e7' : e 7 = .slice na nums.length nums.length := by rw [e7, hna]
    have hw1 : IntKind.i64.wrap ((i : Int) + 1) = ((i + 1 : Nat) : Int) := by rw [wrap_id (by omega) (by omega)]; omega
    refine lp_step ?_
    refine seq_assoc (seq_reg ?_)
    by_cases hik : i < keep.length
    rotate_left
    · simp only [go_sem, binC, e1, e7', e8, decide_eq_true (show (i : Int) < nums.length by omega), decide_eq_false (show ¬ (i : Int) < keep.length by omega)]
      refine seq_cond (t := false) rfl ?_
      simp only [go_sem, binC]
      refine seq_exit ?_
      simp only [go_sem, binC, thenX_e, out_e, thenX_n]
      exact hend _ _ i hxc q (.inr (by omega)) (by simp only [go_sem, binC, e7])
    simp only [go_sem, binC, e1, e7', e8, decide_eq_true (show (i : Int) < nums.length by omega), decide_eq_true (show (i : Int) < keep.length by omega)]
    refine seq_cond (t := true) rfl ?_
    simp only [go_sem, binC]
    obtain ⟨wb, wo, hwv, hgk⟩ := gcBo (hw.mono (agx_sub hxc)) hik
    simp only [Value.slice.injEq, and_true] at hwv
    subst hwv
    refine seq_skip (seq_block (seq_reg ?_))
    simp only [go_sem, binC, e1, e8]
    refine ⟨⟨by omega, by omega⟩, ?_⟩
    simp only [go_sem, binC, Int.toNat_natCast, Nat.mul_one, hgk]
    have hk2 : keep.getD i true = keep[i] := by simp [List.getD, hik]
    have hset := otherI_set (keep := keep) (m := more.length) hil
    rw [hk2] at hset
    cases hki : keep[i] with
    | true =>
      rw [hki, if_pos rfl] at hset
      refine wpc_cond (t := false) rfl ?_
      simp only [go_sem, binC]
      refine wpc_skip ?_
      simp only [go_sem, binC, out_n, thenX_n]
      refine wpc_reg ?_
      simp only [go_sem, binC, e8, hw1]
      simp only [go_sem, binC, thenX_n]
      exact ih (i + 1) _ _ (by omega) hxc (by rw [hset]; exact q) (by simp only [go_sem, binC, e1]) (by simp only [go_sem, binC, e2]) (by simp only [go_sem, binC, e7]) (by simp only [go_sem, binC])
    | false =>
      rw [hki, if_neg (by simp)] at hset
      have hgo := otherI_get (keep := keep) (m := more.length) hil
      rcases q with ⟨_, _, hn0⟩ | ⟨nb, hnb, hvo, hne, hnc⟩
      · have := congrArg List.length hn0
        rw [hlo, List.length_nil] at this
        omega
      rw [hlo] at hvo
      subst hvo
      have hgn := gc_ints hnc (i := i) (by rw [hlo]; exact hil)
      rw [hgo] at hgn
      have hnl := (List.getElem?_eq_some_iff.1 hnc).1
      have hx9 := hrg _ (List.getElem_mem hil)
      have hml : (more.length : Int) * ((i : Int) + 1) ≤ 1048576 * 4 := Int.mul_le_mul (by omega) (by omega) (by omega) (by omega)
      have hm0 : 0 ≤ (more.length : Int) * ((i : Int) + 1) := Int.mul_nonneg (by omega) (by omega)
      have hw2 : IntKind.i64.wrap ((i : Int) + 1) = (i : Int) + 1 := wrap_id (by omega) (by omega)
      have hw3 : IntKind.i64.wrap ((more.length : Int) * ((i : Int) + 1)) = (more.length : Int) * ((i : Int) + 1) := wrap_id (by omega) (by omega)
      have hw4 : IntKind.i64.wrap (nums[i] + (more.length : Int) * ((i : Int) + 1)) = nums[i] + (more.length : Int) * ((i : Int) + 1) := wrap_id (by omega) (by omega)
      have hr10 : binI .rem .i64 (nums[i] + (more.length : Int) * ((i : Int) + 1)) 10 = some (.int .i64 ((nums[i] + (more.length : Int) * ((i : Int) + 1)) % 10)) := by rw [rem_eq (by omega), Int.tmod_eq_emod_of_nonneg (by omega)]
      refine wpc_cond (t := true) rfl ?_
      simp only [go_sem, binC]
      refine wpc_reg ?_
      simp only [go_sem, binC, e2, e7, e8]
      refine ⟨⟨by omega, by omega⟩, ?_⟩
      simp only [go_sem, binC, Int.toNat_natCast, Nat.mul_one, Nat.zero_add, hgn, hw2, hw3, hw4, hr10]
      refine ⟨⟨by omega, by omega⟩, ?_⟩
      simp only [go_sem, binC, Int.toNat_natCast, Nat.mul_one, Nat.zero_add, hnc]
      refine ⟨⟨by omega, by simp [ints, hlo]; omega⟩, ?_⟩
      rw [ints_set]
      simp only [go_sem, binC, out_n, thenX_n]
      refine wpc_reg ?_
      simp only [go_sem, binC, e8, hw1]
      simp only [go_sem, binC, thenX_n]
      refine ih (i + 1) _ _ (by omega) (hxc.setN (by omega) _) (.inr ⟨nb, hnb, by rw [hlo], ?_, by rw [hset]; exact List.getElem?_set_self hnl⟩) (by simp only [go_sem, binC, e1]) (by simp only [go_sem, binC, e2]) (by simp only [go_sem, binC, e7]) (by simp only [go_sem, binC])
      intro h0
      have := congrArg List.length h0
      rw [hlo, List.length_nil] at this
      omega
end Go.Proofs.YtpaoppgbgjnkmaaI
end
