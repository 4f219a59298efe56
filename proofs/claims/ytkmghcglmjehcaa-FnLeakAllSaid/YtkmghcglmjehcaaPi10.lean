/- Texts of this proof, merged: W0, W2, J0, W1, V1, V2, V3, V4, H1, H2, V6, U2, V7, V8, W3. -/
import Derived.Test.YtkmghcglmjehcaaPi9
section
/- What comes of a program (the reference); numbers, and what was set, compared. -/
set_option linter.unusedVariables false
set_option linter.unusedSimpArgs false
namespace Go.Proofs.YtkmghcglmjehcaaI
open Go Go.RowKit
def c_sNum : IFn := ⟨2, 43, [.t 4],
 .seq (.reg none [
    ⟨(some 2), none, .box (.t 0)⟩,
    ⟨(some 4), none, .mov (.c (.int .i64 0))⟩])
 (.seq (.seq (.reg none [
     ⟨(some 5), none, .fad 0 (.t 2)⟩,
     ⟨(some 6), none, .load false 1 (.t 5)⟩])
  (.block 0 (.seq (.reg none [
      ⟨(some 8), none, .bin .eql (.t 6) (.c (.int .i64 1))⟩,
      ⟨(some 7), none, .mov (.t 8)⟩])
   (.cond (.t 7) (.seq (.reg none [
       ⟨(some 9), none, .fad 1 (.t 2)⟩,
       ⟨(some 10), none, .load false 1 (.t 9)⟩,
       ⟨(some 4), none, .mov (.t 10)⟩])
    (.ret)) (.seq (.reg none [
       ⟨(some 12), none, .bin .eql (.t 6) (.c (.int .i64 2))⟩,
       ⟨(some 11), none, .mov (.t 12)⟩])
    (.cond (.t 11) (.seq (.reg none [
        ⟨(some 13), none, .mov (.t 1)⟩,
        ⟨(some 14), none, .fad 1 (.t 2)⟩,
        ⟨(some 15), none, .load false 1 (.t 14)⟩,
        ⟨(some 16), none, .iad 1 (.t 13) (.t 15)⟩,
        ⟨(some 17), none, .load false 1 (.t 16)⟩,
        ⟨(some 4), none, .mov (.t 17)⟩])
     (.ret)) (.seq (.reg none [
        ⟨(some 19), none, .bin .eql (.t 6) (.c (.int .i64 3))⟩,
        ⟨(some 18), none, .mov (.t 19)⟩])
     (.cond (.t 18) (.seq (.reg (some 10) [
         ⟨(some 20), none, .mov (.t 1)⟩,
         ⟨(some 21), none, .fad 1 (.t 2)⟩,
         ⟨(some 22), none, .load false 1 (.t 21)⟩,
         ⟨(some 23), none, .iad 1 (.t 20) (.t 22)⟩,
         ⟨(some 24), none, .load false 1 (.t 23)⟩,
         ⟨(some 25), none, .mov (.t 1)⟩,
         ⟨(some 26), none, .fad 2 (.t 2)⟩,
         ⟨(some 27), none, .load false 1 (.t 26)⟩,
         ⟨(some 28), none, .iad 1 (.t 25) (.t 27)⟩,
         ⟨(some 29), none, .load false 1 (.t 28)⟩,
         ⟨(some 30), none, .bin .add (.t 24) (.t 29)⟩,
         ⟨(some 31), none, .bin .rem (.t 30) (.c (.int .i64 10))⟩,
         ⟨(some 4), none, .mov (.t 31)⟩])
      (.ret)) (.skip)))))))))
 (.seq (.seq (.reg (some 10) [
     ⟨(some 32), none, .mov (.t 1)⟩,
     ⟨(some 33), none, .fad 1 (.t 2)⟩,
     ⟨(some 34), none, .load false 1 (.t 33)⟩,
     ⟨(some 35), none, .iad 1 (.t 32) (.t 34)⟩,
     ⟨(some 36), none, .load false 1 (.t 35)⟩,
     ⟨(some 37), none, .mov (.t 1)⟩,
     ⟨(some 38), none, .fad 2 (.t 2)⟩,
     ⟨(some 39), none, .load false 1 (.t 38)⟩,
     ⟨(some 40), none, .iad 1 (.t 37) (.t 39)⟩,
     ⟨(some 41), none, .load false 1 (.t 40)⟩,
     ⟨(some 42), none, .bin .eql (.t 36) (.t 41)⟩])
  (.cond (.t 42) (.seq (.reg none [
      ⟨(some 4), none, .mov (.c (.int .i64 1))⟩])
   (.ret)) (.skip)))
 (.seq (.reg none [
    ⟨(some 4), none, .mov (.c (.int .i64 0))⟩])
 (.ret))))⟩
def c_sDo : IFn := ⟨2, 74, [.cell true 3 4],
 .seq (.reg none [
    ⟨(some 3), none, .box (.t 1)⟩,
    ⟨(some 4), none, .new [(.slice none 0 0), (.slice none 0 0), (.slice none 0 0)]⟩])
 (.seq (.seq (.reg none [
     ⟨(some 5), none, .mov (.c (.int .i64 0))⟩])
  (.block 0 (.loop (.seq (.seq (.reg none [
        ⟨(some 8), none, .mov (.t 5)⟩,
        ⟨(some 9), none, .mov (.t 0)⟩,
        ⟨(some 10), none, .len (.t 9)⟩,
        ⟨(some 11), none, .bin .lss (.t 8) (.t 10)⟩])
     (.cond (.t 11) (.skip) (.exit 0)))
    (.seq (.block 1 (.seq (.reg none [
         ⟨(some 14), none, .mov (.t 0)⟩,
         ⟨(some 15), none, .mov (.t 5)⟩,
         ⟨(some 16), none, .iad 8 (.t 14) (.t 15)⟩,
         ⟨(some 17), none, .load true 8 (.t 16)⟩,
         ⟨(some 6), none, .new [(.int .i64 0), (.int .i64 0), (.int .i64 0), (.int .i64 0), (.int .i64 0), (.int .i64 0), (.slice none 0 0), (.slice none 0 0)]⟩,
         ⟨none, none, .store 8 (.t 6) (.t 17)⟩])
      (.seq (.reg none [
         ⟨(some 18), none, .fad 0 (.t 6)⟩,
         ⟨(some 19), none, .load false 1 (.t 18)⟩])
      (.block 2 (.seq (.reg none [
          ⟨(some 36), none, .bin .eql (.t 19) (.c (.int .i64 1))⟩,
          ⟨(some 35), none, .mov (.t 36)⟩])
       (.cond (.t 35) (.seq (.reg none [
           ⟨(some 37), none, .fad 2 (.t 6)⟩,
           ⟨(some 38), none, .load true 3 (.t 37)⟩,
           ⟨(some 39), none, .fad 0 (.t 3)⟩,
           ⟨(some 40), none, .load false 1 (.t 39)⟩,
           ⟨(some 41), none, .call .q (.f 154) [(.t 38), (.t 40)]⟩,
           ⟨(some 7), none, .mov (.t 41)⟩])
        (.seq (.reg none [
           ⟨(some 42), none, .fad 0 (.t 3)⟩,
           ⟨(some 43), none, .load false 1 (.t 42)⟩,
           ⟨(some 44), none, .fad 1 (.t 6)⟩,
           ⟨(some 45), none, .load false 1 (.t 44)⟩,
           ⟨(some 46), none, .mov (.t 7)⟩,
           ⟨(some 47), none, .iad 1 (.t 43) (.t 45)⟩,
           ⟨none, none, .store 1 (.t 47) (.t 46)⟩])
        (.reg none [
          ⟨(some 48), none, .fad 1 (.t 3)⟩,
          ⟨(some 49), none, .load false 1 (.t 48)⟩,
          ⟨(some 50), none, .fad 1 (.t 6)⟩,
          ⟨(some 51), none, .load false 1 (.t 50)⟩,
          ⟨(some 52), none, .mov (.t 7)⟩,
          ⟨(some 53), none, .build [(.int .i64 0), (.int .i64 0)] [(0, 1, (.t 51)), (1, 1, (.t 52))]⟩,
          ⟨(some 54), none, .lit 2 113 1 [(.int .i64 0), (.int .i64 0)] [(0, 2, (.t 53))]⟩,
          ⟨(some 55), none, .app 2 113 16 false (.t 49) (.t 54)⟩,
          ⟨(some 56), none, .fad 1 (.t 3)⟩,
          ⟨none, none, .store 1 (.t 56) (.t 55)⟩]))) (.seq (.reg none [
           ⟨(some 58), none, .bin .eql (.t 19) (.c (.int .i64 3))⟩,
           ⟨(some 57), none, .mov (.t 58)⟩])
        (.cond (.t 57) (.reg (some 12) [
           ⟨(some 59), none, .fad 2 (.t 3)⟩,
           ⟨(some 60), none, .load false 1 (.t 59)⟩,
           ⟨(some 61), none, .fad 5 (.t 6)⟩,
           ⟨(some 62), none, .load false 1 (.t 61)⟩,
           ⟨(some 63), none, .fad 0 (.t 3)⟩,
           ⟨(some 64), none, .load false 1 (.t 63)⟩,
           ⟨(some 65), none, .fad 1 (.t 6)⟩,
           ⟨(some 66), none, .load false 1 (.t 65)⟩,
           ⟨(some 67), none, .iad 1 (.t 64) (.t 66)⟩,
           ⟨(some 68), none, .load false 1 (.t 67)⟩,
           ⟨(some 69), none, .build [(.int .i64 0), (.int .i64 0)] [(0, 1, (.t 62)), (1, 1, (.t 68))]⟩,
           ⟨(some 70), none, .lit 2 99 1 [(.int .i64 0), (.int .i64 0)] [(0, 2, (.t 69))]⟩,
           ⟨(some 71), none, .app 2 99 16 false (.t 60) (.t 70)⟩,
           ⟨(some 72), none, .fad 2 (.t 3)⟩,
           ⟨none, none, .store 1 (.t 72) (.t 71)⟩]) (.seq (.reg none [
            ⟨(some 20), none, .fad 0 (.t 3)⟩,
            ⟨(some 21), none, .load false 1 (.t 20)⟩,
            ⟨(some 22), none, .fad 1 (.t 6)⟩,
            ⟨(some 23), none, .load false 1 (.t 22)⟩,
            ⟨(some 24), none, .iad 1 (.t 21) (.t 23)⟩,
            ⟨(some 25), none, .load false 1 (.t 24)⟩,
            ⟨(some 26), none, .bin .neq (.t 25) (.c (.int .i64 0))⟩])
         (.cond (.t 26) (.reg none [
            ⟨(some 27), none, .fad 6 (.t 6)⟩,
            ⟨(some 28), none, .load false 1 (.t 27)⟩,
            ⟨(some 29), none, .load true 3 (.t 3)⟩,
            ⟨(some 30), none, .call .n (.f 152) [(.t 28), (.t 29)]⟩,
            ⟨none, none, .store 3 (.t 3) (.t 30)⟩]) (.reg none [
            ⟨(some 31), none, .fad 7 (.t 6)⟩,
            ⟨(some 32), none, .load false 1 (.t 31)⟩,
            ⟨(some 33), none, .load true 3 (.t 3)⟩,
            ⟨(some 34), none, .call .n (.f 152) [(.t 32), (.t 33)]⟩,
            ⟨none, none, .store 3 (.t 3) (.t 34)⟩])))))))))))
    (.reg none [
      ⟨(some 12), none, .mov (.t 5)⟩,
      ⟨(some 13), none, .bin .add (.t 12) (.c (.int .i64 1))⟩,
      ⟨(some 5), none, .mov (.t 13)⟩]))))))
 (.seq (.reg none [
    ⟨(some 73), none, .load true 3 (.t 3)⟩,
    ⟨none, none, .store 3 (.t 4) (.t 73)⟩])
 (.ret)))⟩
theorem sNum_ok {F : Nat → Option IFn} {f : Nat} (hf : F f = some c_sNum) : ∀ (H : Heap) (k a b : Int) (w : Value) (xs : List Int), SlR Co.int (vw 0 H) w xs → (∀ x ∈ xs, 0 ≤ x ∧ x ≤ 9) → valB xs.length (k, a, b) = true → QC F f [.agg #[.int .i64 k, .int .i64 a, .int .i64 b], w] H (.int .i64 (valN xs (k, a, b))) := by
  intro H k a b w xs hw hx hv
  obtain ⟨_, wa, rfl, _⟩ := id hw
  have hS : ∀ L, Sub (vw 0 H) (vw 0 (H ++ L)) := fun L => vw_app 0 H L
  refine QC.mk hf rfl ?_
  refine seq_reg ?_
  simp only [go_sem, binC]
  refine seq_assoc (seq_reg ?_)
  simp only [go_sem, binC]
  refine seq_block (seq_reg ?_)
  simp only [go_sem, binC]
  unfold valB at hv
  by_cases h1 : k = 1
  · simp only [go_sem, binC, beq_t h1]
    refine wpc_cond (t := true) rfl ?_
    simp only [go_sem, binC]
    refine seq_reg ?_
    simp only [go_sem, binC]
    refine wpc_ret ?_
    simp only [go_sem, binC, out_r, thenX_r]
    refine ⟨Or.inr rfl, _, (by (simp only [go_sem, binC]) <;> rfl), ?_, rfl⟩
    simp [valN, h1]
  rw [if_neg h1] at hv
  simp only [go_sem, binC, beq_f h1]
  refine wpc_cond (t := false) rfl ?_
  simp only [go_sem, binC]
  refine seq_reg ?_
  simp only [go_sem, binC]
  by_cases h2 : k = 2
  · rw [if_pos h2] at hv
    simp only [Bool.and_eq_true, varB, inB_iff'] at hv
    have hal : a.toNat < xs.length := by omega
    obtain ⟨wb, wo, hwv, _⟩ := gcI0 hw hal
    simp only [Value.slice.injEq, and_true] at hwv
    subst hwv
    have g0 := fun L => (gcI2 (hw.mono (hS L)) hal)
    simp only [go_sem, binC, beq_t h2]
    refine wpc_cond (t := true) rfl ?_
    simp only [go_sem, binC]
    refine seq_reg ?_
    simp only [go_sem, binC]
    refine ⟨⟨by omega, by omega⟩, ?_⟩
    simp only [go_sem, binC, Nat.mul_one, g0]
    refine wpc_ret ?_
    simp only [go_sem, binC, out_r, thenX_r]
    refine ⟨Or.inr rfl, _, (by (simp only [go_sem, binC]) <;> rfl), ?_, rfl⟩
    simp [valN, h2, List.getD, List.getElem?_eq_getElem hal]
  rw [if_neg h2] at hv
  simp only [go_sem, binC, beq_f h2]
  refine wpc_cond (t := false) rfl ?_
  simp only [go_sem, binC]
  refine seq_reg ?_
  simp only [go_sem, binC]
  have h34 : k = 3 ∨ k = 4 := by
    by_cases h : k = 3 ∨ k = 4
    · exact h
    · simp [h] at hv
  rw [if_pos h34] at hv
  simp only [Bool.and_eq_true, varB, inB_iff'] at hv
  have hal : a.toNat < xs.length := by omega
  have hbl : b.toNat < xs.length := by omega
  obtain ⟨wb, wo, hwv, _⟩ := gcI0 hw hal
  simp only [Value.slice.injEq, and_true] at hwv
  subst hwv
  have g0 := fun L => (gcI2 (hw.mono (hS L)) hal)
  have g1 := fun L => (gcI2 (hw.mono (hS L)) hbl)
  have x0 := hx xs[a.toNat] (List.getElem_mem _)
  have x1 := hx xs[b.toNat] (List.getElem_mem _)
  have e0 : xs.getD a.toNat 0 = xs[a.toNat] := by simp [List.getD, List.getElem?_eq_getElem hal]
  have e1 : xs.getD b.toNat 0 = xs[b.toNat] := by simp [List.getD, List.getElem?_eq_getElem hbl]
  by_cases h3 : k = 3
  · simp only [go_sem, binC, beq_t h3]
    refine wpc_cond (t := true) rfl ?_
    simp only [go_sem, binC]
    refine seq_regD ?_
    simp only [go_sem, binC]
    refine ⟨⟨by omega, by omega⟩, ?_⟩
    simp only [go_sem, binC, Nat.mul_one, g0]
    refine ⟨⟨by omega, by omega⟩, ?_⟩
    simp only [go_sem, binC, Nat.mul_one, g1]
    rw [wrap_id (x := xs[a.toNat] + xs[b.toNat]) (by omega) (by omega)]
    refine rem10_rule ?_
    refine wpc_ret ?_
    simp only [go_sem, binC, out_r, thenX_r]
    refine ⟨Or.inr rfl, _, (by (simp only [go_sem, binC]) <;> rfl), ?_, rfl⟩
    rw [Int.tmod_eq_emod_of_nonneg (by omega)]
    simp only [valN, h3, e0, e1, if_true]
    rfl
  simp only [go_sem, binC, beq_f h3]
  refine wpc_cond (t := false) rfl ?_
  simp only [go_sem, binC]
  refine wpc_skip ?_
  simp only [go_sem, binC, out_n, thenX_n]
  refine seq_assoc (seq_regD ?_)
  simp only [go_sem, binC]
  refine ⟨⟨by omega, by omega⟩, ?_⟩
  simp only [go_sem, binC, Nat.mul_one, g0]
  refine ⟨⟨by omega, by omega⟩, ?_⟩
  simp only [go_sem, binC, Nat.mul_one, g1]
  by_cases h4 : xs[a.toNat] = xs[b.toNat]
  · refine seq_cond (t := true) (by simp only [go_sem, binC]; rw [beq_t h4]) ?_
    simp only [go_sem, binC]
    refine seq_assoc (seq_reg ?_)
    simp only [go_sem, binC]
    refine seq_ret ⟨Or.inr rfl, .int .i64 1, (by (simp only [go_sem, binC]) <;> rfl), ?_, rfl⟩
    simp only [valN, h1, h2, h3, e0, e1, if_false, if_pos h4]
  · refine seq_cond (t := false) (by simp only [go_sem, binC]; rw [beq_f h4]) ?_
    simp only [go_sem, binC]
    refine seq_skip (seq_reg ?_)
    simp only [go_sem, binC]
    refine wpc_ret ⟨Or.inr rfl, .int .i64 0, (by (simp only [go_sem, binC]) <;> rfl), ?_, rfl⟩
    simp only [valN, h1, h2, h3, e0, e1, if_false, if_neg h4]
/-- Boxes stay. -/
def Bx (H H' : Heap) : Prop := H.length ≤ H'.length ∧ ∀ (b : Nat) (cs : List Value), H[b]? = some ⟨cs, 0, 0, false, true⟩ → H'[b]? = some ⟨cs, 0, 0, false, true⟩
theorem Bx.refl (H : Heap) : Bx H H := ⟨Nat.le_refl _, fun _ _ h => h⟩
theorem Bx.tr {H H1 H2 : Heap} (h : Bx H H1) (h' : Bx H1 H2) : Bx H H2 := ⟨Nat.le_trans h.1 h'.1, fun b cs k => h'.2 b cs (h.2 b cs k)⟩
theorem AgX.bx {xs : List Nat} {H H' : Heap} (h : AgX xs H H') (hx : ∀ b, b ∈ xs → ∀ cs, H[b]? ≠ some ⟨cs, 0, 0, false, true⟩) : Bx H H' := ⟨h.1, fun b cs k => h.get k fun hb => hx b hb cs k⟩
theorem Bx.setN {H H' : Heap} (h : Bx H H') {b : Nat} (hb : H.length ≤ b) (k : Blk) : Bx H (H'.set b k) := by
  refine ⟨by rw [List.length_set]; exact h.1, fun b' cs h1 => ?_⟩
  have := (List.getElem?_eq_some_iff.1 h1).1
  rw [List.getElem?_set_ne (by omega)]
  exact h.2 b' cs h1
theorem NumV.keep' {lo : Nat} {H H' : Heap} {v : Value} {l : List Int} {xs : List Nat} (h : NumV lo H v l) (hx : AgX xs H H') (hn : ∀ b, lo ≤ b → v = sli b 0 l.length → H[b]? = some ⟨ints l, 1, 3, true, true⟩ → b ∉ xs) : NumV lo H' v l := by
  rcases h with h | ⟨b, h1, h2, h3, h4⟩
  · exact .inl h
  · exact .inr ⟨b, h1, h2, h3, hx.get h4 (hn b h1 h2 h4)⟩
/-- What comes of a program, told by value. -/
structure RunV (Hb : Heap) (r : RunS) (M : Nat) (H : Heap) (nv wv sv : Value) : Prop where
  ag : AgX [] Hb H
  n : NumV Hb.length H nv r.1
  w : GLi fp 2 113 Hb.length H wv r.2.1
  s : GLi fp 2 99 Hb.length H sv r.2.2
  rg : ∀ x ∈ r.1, 0 ≤ x ∧ x ≤ 9
  pr : ∀ p, p ∈ r.2.1 ∨ p ∈ r.2.2 → RgI p.1 ∧ RgI p.2
  sm : r.2.1.length + r.2.2.length ≤ M
  ln : r.1.length ≤ 1000
theorem RunI.v {Hb : Heap} {rb : Nat} {r : RunS} {M : Nat} {H : Heap} (h : RunI Hb rb r M H) : ∃ nv wv sv, H[rb]? = some ⟨[nv, wv, sv], 0, 0, false, true⟩ ∧ RunV Hb r M H nv wv sv := by
  obtain ⟨nv, wv, sv, h1, h2, h3, h4⟩ := h.ex
  exact ⟨nv, wv, sv, h1, h.ag, h2, h3, h4, h.rg, h.pr, h.sm, h.ln⟩
theorem RunV.box {Hb : Heap} {rb : Nat} {r : RunS} {M : Nat} {H : Heap} {nv wv sv : Value} (h : RunV Hb r M H nv wv sv) (hb : H[rb]? = some ⟨[nv, wv, sv], 0, 0, false, true⟩) (hl : Hb.length ≤ rb) : RunI Hb rb r M H := ⟨h.ag, hl, ⟨nv, wv, sv, hb, h.n, h.w, h.s⟩, h.rg, h.pr, h.sm, h.ln⟩
theorem RunV.box' {Hb : Heap} {rb : Nat} {r : RunS} {M : Nat} {H : Heap} {nv wv sv : Value} {cs : List Value} (h : RunV Hb r M H nv wv sv) (hb : H[rb]? = some ⟨cs, 0, 0, false, true⟩) (hl : Hb.length ≤ rb) : RunI Hb rb r M (H.set rb ⟨[nv, wv, sv], 0, 0, false, true⟩) := by
  have hbl := (List.getElem?_eq_some_iff.1 hb).1
  have hx : AgX [rb] H (H.set rb ⟨[nv, wv, sv], 0, 0, false, true⟩) := AgX.set _ _ _
  refine RunV.box ⟨h.ag.setN hl _, h.n.keep' hx (fun b _ _ q h => ?_), h.w.keep hx (fun b so _ _ q h => ?_), h.s.keep hx (fun b so _ _ q h => ?_), h.rg, h.pr, h.sm, h.ln⟩ (List.getElem?_set_self hbl) hl
  all_goals (simp only [List.mem_singleton] at h; subst h; rw [hb] at q; simp at q)
def DoSOk (F : Nat → Option IFn) (f n : Nat) : Prop := ∀ (Hb H : Heap) (lo M : Nat) (r : RunS) (nv wv sv v : Value) (l : List (TStep n)) (d : Int), lo ≤ Hb.length → RunV Hb r M H nv wv sv → SlR (Co.step n) (vw 0 Hb) v l → l.all (stepB r.1.length n d) = true → M + (allL n l).length ≤ 1000 →
  ∃ nv' wv' sv' H', NC F lo f [v, .agg #[nv, wv, sv]] H (.agg #[nv', wv', sv']) H' ∧ RunV Hb (runL n l r) (M + (allL n l).length) H' nv' wv' sv' ∧ Bx H H'
set_option maxHeartbeats 4000000 in
set_option maxRecDepth 20000 in
theorem sDo_ok {F : Nat → Option IFn} {f n : Nat} (hf : F f = some c_sDo) (hnu : F 154 = some c_sNum) (ih : ∀ m, n = m + 1 → DoSOk F 152 m) : DoSOk F f n := by
  intro Hb H lo M r nv0 wv0 sv0 v l d hlo hR hv hall hM
  suffices h : ∃ w H', NC F lo f [v, .agg #[nv0, wv0, sv0]] H w H' ∧ (∃ nv' wv' sv', w = .agg #[nv', wv', sv'] ∧ RunV Hb (runL n l r) (M + (allL n l).length) H' nv' wv' sv' ∧ Bx H H') by
    obtain ⟨w, H', h1, nv', wv', sv', rfl, h2⟩ := h
    exact ⟨nv', wv', sv', H', h1, h2⟩
  have hv0 := hv
  obtain ⟨h0, av, rfl, _⟩ := hv
  have o1 := hR.n.one
  have o2 := hR.w.one
  have o3 := hR.s.one
  have hHb := hR.ag.1
  refine NC.mk hf rfl ?_
  refine seq_reg ?_
  simp only [go_sem, binC, o1, o2, o3]
  refine wpc_gen fun H1 hH1 => ?_
  have hx1 : AgX [] H H1 := hH1 ▸ AgX.app [] _ _
  have hb3 : H1[H.length]? = some ⟨[nv0, wv0, sv0], 0, 0, false, true⟩ := hH1 ▸ get_new0 _ _
  have hb4 : H1[H.length + 1]? = some ⟨[nilS, nilS, nilS], 0, 0, false, true⟩ := hH1 ▸ get_new _ _ 1
  clear hH1
  have hR1 : RunI Hb H.length r M H1 := by
    refine RunV.box ⟨hR.ag.tr hx1, ?_, hR.w.keep hx1 (fun _ _ _ _ _ => by simp), hR.s.keep hx1 (fun _ _ _ _ _ => by simp), hR.rg, hR.pr, hR.sm, hR.ln⟩ hb3 hHb
    exact hR.n.keep hx1 (fun _ _ _ => by simp)
  have hB1 : Bx H H1 := hx1.bx (fun _ h => by cases h)
  refine seq_assoc (seq_reg ?_)
  simp only [go_sem, binC]
  refine seq_block (wpc_loop ?_)
  suffices h : ∀ (k i : Nat) (e : Env) (Hc : Heap) (rc : RunS) (Mc : Nat), i + k = l.length → RunI Hb H.length rc Mc Hc → Bx H Hc → Hc[H.length + 1]? = some ⟨[nilS, nilS, nilS], 0, 0, false, true⟩ → rc.1.length = r.1.length → runL n (l.drop i) rc = runL n l r → Mc + (allL n (l.drop i)).length = M + (allL n l).length →
      e 0 = .slice av l.length l.length → e 3 = ptr H.length 0 → e 4 = ptr (H.length + 1) 0 → e 5 = .int .i64 i → W F lo _ e Hc _ from
    h l.length 0 _ H1 r M (by omega) hR1 hB1 hb4 rfl rfl rfl (by simp only [go_sem, binC]) (by (simp only [go_sem, binC]) <;> rfl) (by (simp only [go_sem, binC]) <;> rfl) (by (simp only [go_sem, binC]) <;> rfl)
  intro k
  induction k with
  | zero =>
    intro i e Hc rc Mc hi hRc hBc hb4c hlen hrun hcnt e0 e3 e4 e5
    refine lp_step ?_
    refine seq_assoc (seq_reg ?_)
    simp only [go_sem, binC, e0, e5]
    refine seq_cond (t := false) (by simp only [go_sem, binC]; rw [decide_eq_false (by omega)]) ?_
    simp only [go_sem, binC]
    refine seq_exit ?_
    simp only [go_sem, binC, thenX_e, out_e, thenX_n]
    have hd : l.drop i = [] := List.drop_of_length_le (by omega)
    rw [hd] at hrun hcnt
    have hrun' : rc = runL n l r := hrun
    have hcnt' : Mc = M + (allL n l).length := by simpa [allL] using hcnt
    obtain ⟨nv, wv, sv, hbox, hV⟩ := hRc.v
    have p1 := hV.n.one
    have p2 := hV.w.one
    have p3 := hV.s.one
    have hb4l := (List.getElem?_eq_some_iff.1 hb4c).1
    refine seq_reg ?_
    simp only [go_sem, binC, e3, e4, gc_of hbox, inBlk_some, p1, p2, p3, hb4c]
    refine ⟨by omega, ?_⟩
    have hxs : AgX [H.length + 1] Hc (Hc.set (H.length + 1) ⟨[nv, wv, sv], 0, 0, false, true⟩) := AgX.set _ _ _
    refine wpc_ret ⟨Or.inr rfl, .agg #[nv, wv, sv], ?_, nv, wv, sv, rfl, ?_, hBc.setN (by omega) _⟩
    · simp [resV, resL, res1, putE_get, e4, ptr, gc_set hb4l, inBlk_some, valOf]
    · rw [hrun'] at hV
      rw [← hcnt']
      refine ⟨hV.ag.setN (by omega) _, hV.n.keep' hxs (fun b _ _ h1 h2 => ?_), hV.w.keep hxs (fun b so _ _ q h => ?_), hV.s.keep hxs (fun b so _ _ q h => ?_), hV.rg, hV.pr, hV.sm, hV.ln⟩
      · simp only [List.mem_singleton] at h2; subst h2; rw [hb4c] at h1; simp at h1
      · simp only [List.mem_singleton] at h; subst h; rw [hb4c] at q; simp at q
      · simp only [List.mem_singleton] at h; subst h; rw [hb4c] at q; simp at q
  | succ k ihk =>
    intro i e Hc rc Mc hi hRc hBc hb4c hlen hrun hcnt e0 e3 e4 e5
    have hil : i < l.length := by omega
    cases n with
    | zero => exact (l[i]).elim
    | succ n =>
    obtain ⟨vb, vo, kd, vr, va, vbb, vc, ho, tv, ev, tl, el, hav, hs, rg, otv, oev, hgc, htl, hel⟩ := step_at hv0 hil
    simp only [Value.slice.injEq, and_true] at hav
    subst hav
    have hst1 : stepB r.1.length (n + 1) d (kd, vr, (va, vbb, vc), ho, tl, el) = true := by rw [← hs]; exact List.all_eq_true.1 hall _ (List.getElem_mem hil)
    obtain ⟨hvr, hk1, hk2, hk3, hkn⟩ := stepB_f hst1
    have hagc := hRc.ag
    have hHl := hagc.1
    have hg8 := hgc Hc (agx_sub hagc)
    rw [List.drop_eq_getElem_cons hil] at hrun hcnt
    have hcnt2 : Mc + (1 + ((allL n tl).length + (allL n el).length) + (allL (n + 1) (l.drop (i + 1))).length) = M + (allL (n + 1) l).length := by
      have hc2 : (allL (n + 1) (l[i] :: l.drop (i + 1))).length = (allT (n + 1) l[i]).length + (allL (n + 1) (l.drop (i + 1))).length := by unfold allL; rw [List.map_cons, List.flatten_cons, List.length_append]
      rw [hc2, hs, allT_succ, List.length_cons, List.length_append] at hcnt
      omega
    have hw1 : IntKind.i64.wrap ((i : Int) + 1) = ((i + 1 : Nat) : Int) := by rw [wrap_id (by omega) (by omega)]; omega
    have hHHc := hBc.1
    refine lp_step ?_
    refine seq_assoc (seq_reg ?_)
    simp only [go_sem, binC, e0, e5]
    refine seq_cond (t := true) (by simp only [go_sem, binC]; rw [decide_eq_true (by omega)]) ?_
    simp only [go_sem, binC]
    refine seq_skip (seq_block (seq_reg ?_))
    simp only [go_sem, binC, e0, e5]
    refine ⟨⟨by omega, by omega⟩, ?_⟩
    simp only [go_sem, binC, Int.toNat_natCast, hg8, otv, oev]
    refine ⟨by omega, ?_⟩
    refine wpc_gen fun H1 hH1 => ?_
    have hx1 : AgX [] Hc H1 := hH1 ▸ AgX.app [] _ _
    have hbx : H1[Hc.length]? = some ⟨[.int .i64 kd, .int .i64 vr, .int .i64 va, .int .i64 vbb, .int .i64 vc, .int .i64 ho, tv, ev], 0, 0, false, true⟩ := hH1 ▸ get_new0 _ _
    have hl1 : H1.length = Hc.length + 1 := by rw [hH1, List.length_append]; rfl
    clear hH1
    have hR1 := hRc.keep hx1
    have hB1 : Bx H H1 := hBc.tr (hx1.bx (fun _ h => by cases h))
    have hb41 := hx1.get hb4c (by simp)
    refine seq_reg ?_
    simp only [go_sem, binC, gc_of hbx, inBlk_some]
    refine wpc_genK fun KK hKK => ?_
    have hnext : ∀ (e' : Env) (H' : Heap) (r' : RunS) (M' : Nat), RunI Hb H.length r' M' H' → Bx H H' → H'[H.length + 1]? = some ⟨[nilS, nilS, nilS], 0, 0, false, true⟩ → r'.1.length = r.1.length → r' = runT (n + 1) l[i] rc → M' = Mc + (1 + ((allL n tl).length + (allL n el).length)) → e' 0 = .slice (some ⟨vb, vo, none⟩) l.length l.length → e' 3 = ptr H.length 0 → e' 4 = ptr (H.length + 1) 0 → e' 5 = .int .i64 i → KK .n e' H' := by
      intro e' H' r' M' hR' hB' hb4' hlen' hr' hM' e0' e3' e4' e5'
      rw [hKK]
      simp only [go_sem, binC, out_n, thenX_n]
      refine wpc_reg ?_
      simp only [go_sem, binC, e5', hw1]
      simp only [go_sem, binC, thenX_n]
      refine ihk (i + 1) _ H' r' M' (by omega) hR' hB' hb4' hlen' ?_ (by omega) (by simp only [go_sem, binC, e0']) (by simp only [go_sem, binC, e3']) (by simp only [go_sem, binC, e4']) (by simp only [go_sem, binC])
      rw [hr', ← hrun]; rfl
    clear hKK
    refine wpc_block (seq_reg ?_)
    simp only [go_sem, binC]
    by_cases h1 : kd = 1
    · subst h1
      have hvb := hk1 rfl
      rw [← hlen] at hvb
      obtain ⟨rfl, rfl⟩ := hkn (by decide)
      rw [hs, runT_set] at hnext
      obtain ⟨nv, wv, sv, hbox, hV⟩ := hR1.v
      have hn := hV.n
      rcases hn with ⟨_, _, hn0⟩ | ⟨nb, hnb, rfl, hne, hnc⟩
      · rw [← hlen, hn0] at hvr; simp at hvr; omega
      have sI := hV.n.slI (fun x hx => by have := hV.rg x hx; unfold RgI; omega) hV.ln
      refine wpc_cond (t := true) rfl ?_
      simp only [go_sem, binC]
      refine seq_reg ?_
      simp only [go_sem, binC, e3, gc_of hbx, gc_of hbox, inBlk_some]
      refine op_callQ (by simp only [go_sem, binC]; exact sNum_ok hnu H1 va vbb vc _ _ sI hV.rg hvb) ?_
      simp only [go_sem, binC]
      generalize hx : valN rc.1 (va, vbb, vc) = x at hnext
      have hxr : 0 ≤ x ∧ x ≤ 9 := hx ▸ valN_rg hvb hV.rg
      have hnr : H.length ≠ nb := fun h => by rw [h, hnc] at hbox; simp at hbox
      have hnl := (List.getElem?_eq_some_iff.1 hnc).1
      have hsm := hV.sm
      have hln := hV.ln
      refine seq_reg ?_
      simp only [go_sem, binC, e3, gc_of hbx, gc_of hbox, inBlk_some]
      refine ⟨⟨by omega, by omega⟩, ?_⟩
      simp only [go_sem, binC, hnc, Nat.mul_one, Nat.zero_add]
      refine ⟨⟨by omega, by simp [ints]; omega⟩, ?_⟩
      rw [ints_set]
      have hx2 : AgX [nb] H1 (H1.set nb ⟨ints (rc.1.set vr.toNat x), 1, 3, true, true⟩) := AgX.set _ _ _
      refine wpc_genH fun H2 hH2 => ?_
      rw [← hH2] at hx2
      have hbox2 := hx2.get hbox (by simpa using hnr)
      have hnc2 : H2[nb]? = some ⟨ints (rc.1.set vr.toNat x), 1, 3, true, true⟩ := by rw [hH2]; exact List.getElem?_set_self hnl
      have hbx2 := hx2.get hbx (fun h => by simp only [List.mem_singleton] at h; rw [h, hnc] at hbx; simp at hbx)
      have hB2 : Bx H H2 := hB1.tr (hx2.bx (fun b h cs q => by simp only [List.mem_singleton] at h; rw [h, hnc] at q; simp at q))
      have hb42 := hx2.get hb41 (fun h => by simp only [List.mem_singleton] at h; rw [h, hnc] at hb41; simp at hb41)
      have hw2 : GLi fp 2 113 Hb.length H2 wv rc.2.1 := hV.w.keep hx2 (fun b so _ _ q h => by simp only [List.mem_singleton] at h; subst h; rw [hnc] at q; simp at q)
      have hs2 : GLi fp 2 99 Hb.length H2 sv rc.2.2 := hV.s.keep hx2 (fun b so _ _ q h => by simp only [List.mem_singleton] at h; subst h; rw [hnc] at q; simp at q)
      have hag2 : AgX [] Hb H2 := hV.ag.trans hx2 (fun _ h _ => h) (fun b h1 h2 => by simp only [List.mem_singleton] at h1; omega)
      have hl2 : H2.length = H1.length := by rw [hH2, List.length_set]
      clear hH2
      refine wpc_reg ?_
      simp only [go_sem, binC, e3, gc_of hbox2, gc_of hbx2, inBlk_some]
      refine op_app_fl (fl := fp) (a := (vr, x)) (lo := Hb.length) (fun _ => rfl) hw2 (by simp only [go_sem, binC]) (by (simp only [go_sem, binC]) <;> rfl) hlo (by omega) (by omega) (by omega) fun H3 w3 hx3 hw3 => ?_
      have hblk := hw2.blk
      have hbox3 := hx3.get hbox2 (fun h => by obtain ⟨_, cs, so, q⟩ := hblk _ h; rw [hbox2] at q; simp at q)
      have hnc3 := hx3.get hnc2 (fun h => by obtain ⟨_, cs, so, q⟩ := hblk _ h; rw [hnc2] at q; simp at q)
      have hs3 : GLi fp 2 99 Hb.length H3 sv rc.2.2 := hs2.keep hx3 (fun b so _ _ q h => by obtain ⟨_, cs, so, q2⟩ := hblk _ h; rw [q2] at q; simp at q)
      have hag3 : AgX [] Hb H3 := hag2.trans hx3 (fun _ h _ => h) (fun b h1 h2 => by have := hblk b h1; omega)
      have hB3 : Bx H H3 := hB2.tr (hx3.bx (fun b h cs q => by obtain ⟨_, cs, so, q2⟩ := hblk _ h; rw [q2] at q; simp at q))
      have hb43 := hx3.get hb42 (fun h => by obtain ⟨_, cs, so, q2⟩ := hblk _ h; rw [hb42] at q2; simp at q2)
      obtain ⟨b3, so3, _, hw3e, _, _⟩ := (id hw3).resolve_left (by simp)
      subst hw3e
      have hl3 := hx3.1
      simp only [go_sem, binC, e3, gc_of hbox3, hbox3, inBlk_some]
      refine ⟨by omega, ?_⟩
      simp only [go_sem, binC, out_n]
      refine hnext _ _ _ (Mc + 1) (hR1.put (r' := (rc.1.set vr.toNat x, rc.2.1 ++ [(vr, x)], rc.2.2)) hag3 (by omega) (.inr ⟨nb, hnb, by rw [List.length_set], by simpa using hne, hnc3⟩) hw3 hs3 ⟨_, hbox3⟩ (fun y hy => ?_) (fun p hp => ?_) (by show (rc.2.1 ++ [(vr, x)]).length + rc.2.2.length ≤ Mc + 1; rw [List.length_append, List.length_singleton]; omega) (by show (rc.1.set vr.toNat x).length ≤ 1000; rw [List.length_set]; exact hV.ln)) (hB3.setN (Nat.le_refl _) _) (by rw [List.getElem?_set_ne (by omega)]; exact hb43) (by show (rc.1.set vr.toNat x).length = _; rw [List.length_set]; exact hlen) rfl (by simp [allL]) (by simp only [go_sem, binC, e0]) (by simp only [go_sem, binC, e3]) (by simp only [go_sem, binC, e4]) (by simp only [go_sem, binC, e5])
      · rcases List.mem_or_eq_of_mem_set hy with h | rfl
        · exact hV.rg y h
        · exact hxr
      · simp only [List.mem_append, List.mem_singleton] at hp
        rcases hp with (h | rfl) | h
        · exact hV.pr p (.inl h)
        · exact ⟨by unfold RgI; omega, by unfold RgI; omega⟩
        · exact hV.pr p (.inr h)
    simp only [go_sem, binC, beq_f h1]
    refine wpc_cond (t := false) rfl ?_
    simp only [go_sem, binC]
    refine seq_reg ?_
    simp only [go_sem, binC]
    obtain ⟨nv, wv, sv, hbox, hV⟩ := hR1.v
    have hn := hV.n
    rcases hn with ⟨_, _, hn0⟩ | ⟨nb, hnb, rfl, hne, hnc⟩
    · rw [← hlen, hn0] at hvr; simp at hvr; omega
    have hgn := gc_ints hnc (i := vr.toNat) (by omega)
    by_cases h2 : kd = 2
    · subst h2
      obtain ⟨ht1, he1⟩ := hk2 rfl
      rw [← hlen] at ht1 he1
      rw [hs, runT_if] at hnext
      have h23 : ((2 : Int) == 3) = false := rfl
      have ow := hV.w.one
      have os := hV.s.one
      simp only [go_sem, binC, h23]
      refine wpc_cond (t := false) rfl ?_
      simp only [go_sem, binC]
      refine seq_reg ?_
      simp only [go_sem, binC, e3, gc_of hbx, gc_of hbox, inBlk_some]
      refine ⟨⟨by omega, by omega⟩, ?_⟩
      simp only [go_sem, binC, Nat.mul_one, Nat.zero_add, hgn]
      have hfin : ∀ (H4 : Heap) (nv4 wv4 sv4 : Value) (r4 : RunS) (M4 : Nat), RunV Hb r4 M4 H4 nv4 wv4 sv4 → Bx H1 H4 → M4 ≤ Mc + (1 + ((allL n tl).length + (allL n el).length)) → H4[H.length]? = some ⟨[sli nb 0 rc.1.length, wv, sv], 0, 0, false, true⟩ ∧ Bx H (H4.set H.length ⟨[nv4, wv4, sv4], 0, 0, false, true⟩) ∧ (H4.set H.length ⟨[nv4, wv4, sv4], 0, 0, false, true⟩)[H.length + 1]? = some ⟨[nilS, nilS, nilS], 0, 0, false, true⟩ ∧ RunI Hb H.length r4 (Mc + (1 + ((allL n tl).length + (allL n el).length))) (H4.set H.length ⟨[nv4, wv4, sv4], 0, 0, false, true⟩) := by
        intro H4 nv4 wv4 sv4 r4 M4 hV4 hB4 hM4
        have hbox4 := hB4.2 _ _ hbox
        have hb44 := hB4.2 _ _ hb41
        have hbl4 := (List.getElem?_eq_some_iff.1 hbox4).1
        refine ⟨hbox4, (hB1.tr hB4).setN (Nat.le_refl _) _, by rw [List.getElem?_set_ne (by omega)]; exact hb44, ?_⟩
        exact (hV4.box' hbox4 hHb).mono hM4
      by_cases hz : rc.1.getD vr.toNat 0 = 0
      · have hz2 : (rc.1.getD vr.toNat 0 != 0) = false := by rw [hz]; rfl
        simp only [go_sem, binC, hz2]
        refine wpc_cond (t := false) rfl ?_
        simp only [go_sem, binC]
        refine wpc_reg ?_
        simp only [go_sem, binC, e3, gc_of hbx, gc_of hbox, inBlk_some, ow, os]
        obtain ⟨nv4, wv4, sv4, H4, k4, hV4, hB4⟩ := ih n rfl Hb H1 lo Mc rc _ wv sv ev el (d - 1) hlo hV hel he1 (by omega)
        refine op_callN (by simp only [go_sem, binC]; exact k4) ?_
        obtain ⟨hb4x, q1, q2, q3⟩ := hfin H4 _ _ _ _ _ hV4 hB4 (by omega)
        have p1 := hV4.n.one
        have p2 := hV4.w.one
        have p3 := hV4.s.one
        simp only [go_sem, binC, e3, hb4x, p1, p2, p3]
        refine ⟨by omega, ?_⟩
        simp only [go_sem, binC, out_n]
        rw [if_pos hz] at hnext
        exact hnext _ _ _ _ q3 q1 q2 (by rw [runL_len he1]; exact hlen) rfl rfl (by simp only [go_sem, binC, e0]) (by simp only [go_sem, binC, e3]) (by simp only [go_sem, binC, e4]) (by simp only [go_sem, binC, e5])
      · have hz2 : (rc.1.getD vr.toNat 0 != 0) = true := by simpa using hz
        simp only [go_sem, binC, hz2]
        refine wpc_cond (t := true) rfl ?_
        simp only [go_sem, binC]
        refine wpc_reg ?_
        simp only [go_sem, binC, e3, gc_of hbx, gc_of hbox, inBlk_some, ow, os]
        obtain ⟨nv4, wv4, sv4, H4, k4, hV4, hB4⟩ := ih n rfl Hb H1 lo Mc rc _ wv sv tv tl (d - 1) hlo hV htl ht1 (by omega)
        refine op_callN (by simp only [go_sem, binC]; exact k4) ?_
        obtain ⟨hb4x, q1, q2, q3⟩ := hfin H4 _ _ _ _ _ hV4 hB4 (by omega)
        have p1 := hV4.n.one
        have p2 := hV4.w.one
        have p3 := hV4.s.one
        simp only [go_sem, binC, e3, hb4x, p1, p2, p3]
        refine ⟨by omega, ?_⟩
        simp only [go_sem, binC, out_n]
        rw [if_neg hz] at hnext
        exact hnext _ _ _ _ q3 q1 q2 (by rw [runL_len ht1]; exact hlen) rfl rfl (by simp only [go_sem, binC, e0]) (by simp only [go_sem, binC, e3]) (by simp only [go_sem, binC, e4]) (by simp only [go_sem, binC, e5])
    have h3 : kd = 3 := (hk3 h1 h2).1
    obtain ⟨rfl, rfl⟩ := hkn h2
    rw [hs, runT_tell h1 h2] at hnext
    have hsm := hV.sm
    have hrbl := (List.getElem?_eq_some_iff.1 hbox).1
    simp only [go_sem, binC, beq_t h3]
    refine wpc_cond (t := true) rfl ?_
    simp only [go_sem, binC]
    refine wpc_regD ?_
    simp only [go_sem, binC, e3, gc_of hbx, gc_of hbox, inBlk_some]
    refine ⟨⟨by omega, by omega⟩, ?_⟩
    simp only [go_sem, binC, Nat.mul_one, Nat.zero_add, hgn]
    refine op_app_fl (fl := fp) (a := (ho, rc.1.getD vr.toNat 0)) (lo := Hb.length) (fun _ => rfl) hV.s (by simp only [go_sem, binC]) (by (simp only [go_sem, binC]) <;> rfl) hlo (by omega) (by omega) (by omega) fun H2 w2 hx2 hw2 => ?_
    have hblk := hV.s.blk
    have hbox2 := hx2.get hbox (fun h => by obtain ⟨_, cs, so, q⟩ := hblk _ h; rw [hbox] at q; simp at q)
    have hnc2 := hx2.get hnc (fun h => by obtain ⟨_, cs, so, q⟩ := hblk _ h; rw [hnc] at q; simp at q)
    have hb42 := hx2.get hb41 (fun h => by obtain ⟨_, cs, so, q⟩ := hblk _ h; rw [hb41] at q; simp at q)
    have hww : GLi fp 2 113 Hb.length H2 wv rc.2.1 := hV.w.keep hx2 (fun b so _ _ q h => by obtain ⟨_, cs, so, q2⟩ := hblk _ h; rw [q2] at q; simp at q)
    have hag2 : AgX [] Hb H2 := hR1.ag.trans hx2 (fun _ h _ => h) (fun b h1 h2 => by have := hblk b h1; omega)
    have hB2 : Bx H H2 := hB1.tr (hx2.bx (fun b h cs q => by obtain ⟨_, cs, so, q2⟩ := hblk _ h; rw [q2] at q; simp at q))
    obtain ⟨b2, so2, _, hw2e, _, _⟩ := (id hw2).resolve_left (by simp)
    subst hw2e
    have hl2 := hx2.1
    simp only [go_sem, binC, e3, gc_of hbox2, hbox2, inBlk_some]
    refine ⟨by omega, ?_⟩
    simp only [go_sem, binC, out_n]
    refine hnext _ _ _ (Mc + 1) (hR1.put (r' := (rc.1, rc.2.1, rc.2.2 ++ [(ho, rc.1.getD vr.toNat 0)])) hag2 (by omega) (.inr ⟨nb, hnb, rfl, hne, hnc2⟩) hww hw2 ⟨_, hbox2⟩ hV.rg (fun p hp => ?_) (by show rc.2.1.length + (rc.2.2 ++ [_]).length ≤ Mc + 1; rw [List.length_append, List.length_singleton]; omega) hV.ln) (hB2.setN (Nat.le_refl _) _) (by rw [List.getElem?_set_ne (by omega)]; exact hb42) hlen rfl (by simp [allL]) (by simp only [go_sem, binC, e0]) (by simp only [go_sem, binC, e3]) (by simp only [go_sem, binC, e4]) (by simp only [go_sem, binC, e5])
    simp only [List.mem_append, List.mem_singleton] at hp
    rcases hp with h | h | rfl
    · exact hV.pr p (.inl h)
    · exact hV.pr p (.inr h)
    · exact ⟨rg.2.2.2.2.2, by have := getD_rg hV.rg vr.toNat; unfold RgI; omega⟩
theorem sDo_all {F : Nat → Option IFn} (hf : F 152 = some c_sDo) (hnu : F 154 = some c_sNum) : ∀ n, DoSOk F 152 n
  | 0 => sDo_ok hf hnu fun m h => by cases h
  | n + 1 => sDo_ok hf hnu fun m h => by cases h; exact sDo_all hf hnu n
def c_sRunOf : IFn := ⟨2, 18, [.cell true 3 4, .t 5],
 .seq (.reg none [
    ⟨(some 2), none, .box (.t 0)⟩,
    ⟨(some 4), none, .new [(.slice none 0 0), (.slice none 0 0), (.slice none 0 0)]⟩,
    ⟨(some 5), none, .mov (.c (.bool false))⟩])
 (.seq (.seq (.reg none [
     ⟨(some 6), none, .load true 2 (.t 2)⟩,
     ⟨(some 7), none, .mov (.t 1)⟩,
     ⟨(some 8), none, .call .q (.f 151) [(.t 6), (.t 7)]⟩,
     ⟨(some 9), none, .un .not (.t 8)⟩])
  (.cond (.t 9) (.seq (.reg none [
      ⟨(some 10), none, .build [(.slice none 0 0), (.slice none 0 0), (.slice none 0 0)] []⟩,
      ⟨none, none, .store 3 (.t 4) (.t 10)⟩,
      ⟨(some 5), none, .mov (.c (.bool false))⟩])
   (.ret)) (.skip)))
 (.seq (.reg (some 6) [
    ⟨(some 11), none, .fad 1 (.t 2)⟩,
    ⟨(some 12), none, .load false 1 (.t 11)⟩,
    ⟨(some 13), none, .lit 1 3 0 [] []⟩,
    ⟨(some 14), none, .mov (.t 1)⟩,
    ⟨(some 15), none, .app 1 3 8 false (.t 13) (.t 14)⟩,
    ⟨(some 16), none, .build [(.slice none 0 0), (.slice none 0 0), (.slice none 0 0)] [(0, 1, (.t 15))]⟩,
    ⟨(some 17), none, .call .n (.f 152) [(.t 12), (.t 16)]⟩,
    ⟨none, none, .store 3 (.t 4) (.t 17)⟩,
    ⟨(some 5), none, .mov (.c (.bool true))⟩])
 (.ret)))⟩
theorem op_app_nums {F : Nat → Option IFn} {lo lo0 : Nat} {e : Env} {H : Heap} {K : Value → Heap → Prop} {x y : Opd} {b : Nat} {so : Bool} {v : Value} {l : List Int} (hx : x.ev e = .slice (some ⟨b, 0, none⟩) 0 0) (hy : y.ev e = v) (hv : SlR Co.int (vw 0 H) v l) (hk : H[b]? = some ⟨[], 1, 3, true, so⟩) (hlt : b < lo) (hl : l.length ≤ 1048576) (h0 : lo0 ≤ H.length)
    (k : ∀ w L, NumV lo0 (H ++ L) w l → K w (H ++ L)) : wpOp F lo (.app 1 3 8 false x y) e H K := by
  by_cases hl0 : l = []
  · obtain ⟨_, a, rfl, _⟩ := hv
    subst hl0
    refine op_app_zero _ _ _ _ _ hx hy ?_
    have := k (.slice (some ⟨b, 0, none⟩) 0 0) []
    rw [List.append_nil] at this
    exact this (.inl ⟨_, rfl, rfl⟩)
  · obtain ⟨b', o', rfl, hg⟩ := sl_ints hv hl0
    have hne : l.length ≠ 0 := fun h => hl0 (List.eq_nil_of_length_eq_zero h)
    exact op_app_lit hx hy hne hg hk hlt (by omega) (by omega) (k _ _ (.inr ⟨H.length, h0, rfl, hl0, get_new0 _ _⟩))
theorem sRunOf_ok {F : Nat → Option IFn} {f : Nat} (hf : F f = some c_sRunOf) (gn : NumsOk F 151) (gdo : ∀ n, DoSOk F 152 n) : RunOk F f := by
  intro H n lv sv w ls l nums r1 r2 hsm r3
  suffices h : ∃ v H', KC F f [.agg #[lv, sv], w] H v H' ∧ (∃ nv wv tv, v = .tuple #[.agg #[nv, wv, tv], .bool (numsB n (ls, l) nums)] ∧ AgX [] H H' ∧
      SlR Co.int (vw 0 H') nv (runOf n (ls, l) nums).1 ∧ SlR Co.p2 (vw 0 H') wv (runOf n (ls, l) nums).2.1 ∧ SlR Co.p2 (vw 0 H') tv (runOf n (ls, l) nums).2.2) by
    obtain ⟨_, H', h1, nv, wv, tv, rfl, h2⟩ := h
    exact ⟨nv, wv, tv, H', h1, h2⟩
  have olv : one lv = true := by obtain ⟨_, a, rfl, _⟩ := r1; rfl
  have osv : one sv = true := by obtain ⟨_, a, rfl, _⟩ := r2; rfl
  refine KC.mk hf rfl ?_
  refine seq_reg ?_
  simp only [go_sem, binC, olv, osv]
  refine wpc_gen fun H1 hH1 => ?_
  have hx1 : AgX [] H H1 := hH1 ▸ AgX.app [] _ _
  have hb2 : H1[H.length]? = some ⟨[lv, sv], 0, 0, false, true⟩ := hH1 ▸ get_new0 _ _
  have hb4 : H1[H.length + 1]? = some ⟨[nilS, nilS, nilS], 0, 0, false, true⟩ := hH1 ▸ get_new _ _ 1
  clear hH1
  have r1' := r1.mono (agx_sub hx1)
  have r2' := r2.mono (agx_sub hx1)
  have r3' := r3.mono (agx_sub hx1)
  have hb4l := (List.getElem?_eq_some_iff.1 hb4).1
  refine seq_assoc (seq_reg ?_)
  simp only [go_sem, binC, gc_of hb2, inBlk_some, olv, osv]
  refine op_callB (by simp only [go_sem, binC]; exact gn H1 n _ _ _ ls l nums r1' r2' hsm r3') (fun hB => ?_) (fun hB => ?_)
  rotate_left
  · simp only [go_sem, binC]
    refine seq_cond (t := true) rfl ?_
    simp only [go_sem, binC]
    refine seq_assoc (seq_reg ?_)
    simp only [go_sem, binC, hb4]
    have hr : runOf n (ls, l) nums = ([], [], []) := if_neg (by rw [hB]; simp)
    refine seq_ret ⟨Or.inr rfl, .tuple #[.agg #[nilS, nilS, nilS], .bool false], ?_, nilS, nilS, nilS, by rw [hB], hx1.setN (by omega) _, ?_, ?_, ?_⟩
    · simp [resV, resL, res1, putE_get, notT, ptr, gc_set hb4l, inBlk_some, valOf]
    all_goals (rw [hr]; exact ⟨by simp, none, rfl, .inl rfl⟩)
  have hB2 := hB
  simp only [numsB, Bool.and_eq_true, decide_eq_true_eq, List.all_eq_true] at hB2
  obtain ⟨⟨hP, hln⟩, hall⟩ := hB2
  have hrun : runOf n (ls, l) nums = runL n l (nums, [], []) := if_pos hB
  have hcnt := progB_cnt hP hsm
  have hst : l.all (stepB ls.length n 3) = true := by
    simp only [progB, Bool.and_eq_true] at hP; exact hP.1.2
  have hls : ls.length ≤ 4 := by
    simp only [progB, Bool.and_eq_true, decide_eq_true_eq] at hP; have := hP.1.1.1; omega
  simp only at hln hcnt
  have rg : ∀ x ∈ nums, 0 ≤ x ∧ x ≤ 9 := fun x hx => inB_iff'.1 (hall x hx)
  simp only [go_sem, binC]
  refine seq_cond (t := false) rfl ?_
  simp only [go_sem, binC]
  refine seq_skip (seq_regD ?_)
  simp only [go_sem, binC, gc_of hb2, inBlk_some]
  have hxl : AgX [] H1 (H1 ++ [⟨[], 1, 3, true, true⟩]) := AgX.app [] _ _
  refine op_app_nums (b := H1.length) (lo0 := H1.length) (by (simp only [go_sem, binC]) <;> rfl) (by simp only [go_sem, binC]) (r3'.mono (agx_sub hxl)) (get_new0 _ _) (by omega) (by omega) (by rw [List.length_append]; omega) fun nv L q1 => ?_
  have on := q1.one
  obtain ⟨na, rfl⟩ := q1.shape
  simp only [go_sem, binC]
  have hx2 : AgX [] H1 (H1 ++ [⟨[], 1, 3, true, true⟩] ++ L) := hxl.tr (AgX.app [] _ _)
  simp only [List.append_assoc, List.cons_append, List.nil_append] at hx2 q1 ⊢
  generalize H1 ++ ⟨[], 1, 3, true, true⟩ :: L = H2 at hx2 q1 ⊢
  have hV : RunV H1 (nums, [], []) 0 H2 (.slice na nums.length nums.length) nilS nilS := ⟨hx2, q1, .inl ⟨rfl, rfl⟩, .inl ⟨rfl, rfl⟩, rg, (fun p hp => by simp at hp), Nat.le_refl _, (show nums.length ≤ 1000 by omega)⟩
  obtain ⟨nv3, wv3, sv3, H3, k3, hV3, hB3⟩ := gdo n H1 H2 H.length 0 (nums, [], []) _ _ _ sv l 3 hx1.1 hV r2' (by show l.all (stepB nums.length n 3) = true; rw [hln]; exact hst) (by omega)
  refine op_callN (by simp only [go_sem, binC]; exact k3) ?_
  have o1 := hV3.n.one
  have o2 := hV3.w.one
  have o3 := hV3.s.one
  have hb43 := hV3.ag.get hb4 (by simp)
  have hb43l := (List.getElem?_eq_some_iff.1 hb43).1
  simp only [go_sem, binC, hb43, o1, o2, o3]
  have hxs : AgX [H.length + 1] H3 (H3.set (H.length + 1) ⟨[nv3, wv3, sv3], 0, 0, false, true⟩) := AgX.set _ _ _
  have hn4 := hV3.n.keep' hxs (fun b _ _ h1 h2 => by simp only [List.mem_singleton] at h2; subst h2; rw [hb43] at h1; simp at h1)
  have hw4 := hV3.w.keep hxs (fun b so _ _ q h => by simp only [List.mem_singleton] at h; subst h; rw [hb43] at q; simp at q)
  have hs4 := hV3.s.keep hxs (fun b so _ _ q h => by simp only [List.mem_singleton] at h; subst h; rw [hb43] at q; simp at q)
  have hsm3 := hV3.sm
  refine wpc_ret ⟨Or.inr rfl, .tuple #[.agg #[nv3, wv3, sv3], .bool true], ?_, nv3, wv3, sv3, by rw [hB], (hx1.tr hV3.ag).setN (by omega) _, ?_, ?_, ?_⟩
  · simp [resV, resL, res1, putE_get, notT, ptr, gc_set hb43l, inBlk_some, valOf]
  · rw [hrun]; exact hn4.slI (fun x hx => by have := hV3.rg x hx; unfold RgI; omega) hV3.ln
  · rw [hrun]; exact hw4.slP (es := 2) (fun p hp => hV3.pr p (.inl hp)) (by omega)
  · rw [hrun]; exact hs4.slP (es := 2) (fun p hp => hV3.pr p (.inr hp)) (by omega)
end Go.Proofs.YtkmghcglmjehcaaI
end
section
/- Rows of bits, and the first two that are the same in some places and of which something is told. -/
set_option linter.unusedVariables false
set_option linter.unusedSimpArgs false
namespace Go.Proofs.YtkmghcglmjehcaaI
open Go Go.RowKit
def rowL (n k : Nat) : List Int := (List.range k).map fun v => ((n / 2 ^ v % 2 : Nat) : Int)
theorem rowL_len (n k : Nat) : (rowL n k).length = k := by simp [rowL]
theorem rowL_get {n k v : Nat} (hv : v < (rowL n k).length) : (rowL n k)[v] = ((n / 2 ^ v % 2 : Nat) : Int) := by simp [rowL]
theorem rowL_rg (n k : Nat) : ∀ x ∈ rowL n k, 0 ≤ x ∧ x ≤ 1 := by
  intro x hx
  simp only [rowL, List.mem_map, List.mem_range] at hx
  obtain ⟨v, _, rfl⟩ := hx
  omega
theorem rowL_succ (n k : Nat) : rowL n (k + 1) = rowL n k ++ [((n / 2 ^ k % 2 : Nat) : Int)] := by simp [rowL, List.range_succ]
theorem rowL_cons (n x k : Nat) (hx : x < 2) : rowL (x + 2 * n) (k + 1) = (x : Int) :: rowL n k := by
  unfold rowL
  rw [List.range_succ_eq_map, List.map_cons, List.map_map]
  congr 1
  · simp; omega
  · refine List.map_congr_left fun v _ => ?_
    simp only [Function.comp_apply]
    rw [Nat.pow_succ, Nat.mul_comm (2 ^ v) 2, ← Nat.div_div_eq_div_mul, show (x + 2 * n) / 2 = n by omega]
theorem rowL_surj : ∀ (r : List Int), (∀ x ∈ r, x = 0 ∨ x = 1) → ∃ n, n < 2 ^ r.length ∧ rowL n r.length = r := by
  intro r
  induction r with
  | nil => intro _; exact ⟨0, by simp, rfl⟩
  | cons x r ih =>
    intro h
    obtain ⟨n, h1, h2⟩ := ih fun y hy => h y (List.mem_cons_of_mem _ hy)
    obtain ⟨b, hb, hx⟩ : ∃ b : Nat, b < 2 ∧ x = (b : Int) := by
      rcases h x (List.mem_cons_self) with h | h
      · exact ⟨0, by omega, by rw [h]; rfl⟩
      · exact ⟨1, by omega, by rw [h]; rfl⟩
    refine ⟨b + 2 * n, ?_, ?_⟩
    · rw [List.length_cons, Nat.pow_succ]; omega
    · rw [List.length_cons, rowL_cons _ _ _ hb, h2, hx]
/-- The same in some places. -/
def sameR (vs : List Bool) (f s : Nat) : Bool := (List.range vs.length).all fun i => !(vs.getD i false) || decide (f / 2 ^ i % 2 = s / 2 ^ i % 2)
theorem sameR_iff {vs : List Bool} {f s : Nat} : sameR vs f s = true ↔ ∀ i, i < vs.length → vs.getD i false = true → f / 2 ^ i % 2 = s / 2 ^ i % 2 := by
  unfold sameR
  simp only [List.all_eq_true, List.mem_range, Bool.or_eq_true, Bool.not_eq_true', decide_eq_true_eq]
  constructor
  · intro h i hi hv
    rcases h i hi with h | h
    · rw [hv] at h; cases h
    · exact h
  · intro h i hi
    cases hv : vs.getD i false with
    | false => exact .inl rfl
    | true => exact .inr (h i hi hv)
theorem sameR_comm (vs : List Bool) (f s : Nat) : sameR vs f s = sameR vs s f := by
  rw [Bool.eq_iff_iff, sameR_iff, sameR_iff]
  exact ⟨fun h i h1 h2 => (h i h1 h2).symm, fun h i h1 h2 => (h i h1 h2).symm⟩
def maskN (vs : List Bool) : Nat → Nat
  | 0 => 0
  | j + 1 => if vs.getD j false = true then maskN vs j ||| 2 ^ j else maskN vs j
theorem maskN_bit (vs : List Bool) (i : Nat) : ∀ j, (maskN vs j).testBit i = (decide (i < j) && vs.getD i false) := by
  intro j
  induction j with
  | zero => simp [maskN]
  | succ j ih =>
    unfold maskN
    by_cases hv : vs.getD j false = true
    · rw [if_pos hv, Nat.testBit_or, ih, Nat.testBit_two_pow]
      by_cases hij : i = j
      · subst hij; rw [hv]; simp
      · rw [decide_eq_false (show ¬ j = i by omega), Bool.or_false]
        congr 1
        rw [Bool.eq_iff_iff, decide_eq_true_eq, decide_eq_true_eq]; omega
    · rw [if_neg hv, ih]
      by_cases hij : i = j
      · subst hij
        rw [Bool.eq_false_iff.2 hv]; simp
      · congr 1
        rw [Bool.eq_iff_iff, decide_eq_true_eq, decide_eq_true_eq]; omega
theorem maskN_lt (vs : List Bool) : ∀ j, maskN vs j < 2 ^ j := by
  intro j
  induction j with
  | zero => simp [maskN]
  | succ j ih =>
    unfold maskN
    have : (2 : Nat) ^ (j + 1) = 2 ^ j * 2 := Nat.pow_succ ..
    split
    · exact Nat.or_lt_two_pow (by omega) (by omega)
    · omega
theorem mask_same {vs : List Bool} {f s : Nat} : (f ^^^ s) &&& maskN vs vs.length = 0 ↔ sameR vs f s = true := by
  rw [sameR_iff]
  constructor
  · intro h i hi hv
    have h1 : ((f ^^^ s) &&& maskN vs vs.length).testBit i = false := by rw [h]; exact Nat.zero_testBit i
    rw [Nat.testBit_and, maskN_bit, decide_eq_true hi, hv, Bool.true_and, Bool.and_true, Nat.testBit_xor, Nat.testBit_eq_decide_div_mod_eq, Nat.testBit_eq_decide_div_mod_eq] at h1
    by_cases h2 : f / 2 ^ i % 2 = 1 <;> by_cases h3 : s / 2 ^ i % 2 = 1 <;> simp [h2, h3] at h1 ⊢ <;> omega
  · intro h
    refine Nat.eq_of_testBit_eq fun i => ?_
    rw [Nat.zero_testBit, Nat.testBit_and, maskN_bit]
    by_cases hi : i < vs.length
    · cases hv : vs.getD i false with
      | false => simp
      | true =>
        have := h i hi hv
        rw [Nat.testBit_xor, Nat.testBit_eq_decide_div_mod_eq, Nat.testBit_eq_decide_div_mod_eq, this]
        simp
    · rw [decide_eq_false hi]; simp
/-- The first two, by the second and then the first. -/
def leakF (ok : Nat → Nat → Bool) : Nat → Option (Nat × Nat)
  | 0 => none
  | i + 1 => match leakF ok i with
    | some r => some r
    | none => ((List.range i).find? fun f => ok f i).map fun f => (f, i)
theorem leakF_keep {ok : Nat → Nat → Bool} {r : Nat × Nat} {i : Nat} (h : leakF ok i = some r) : ∀ m, i ≤ m → leakF ok m = some r := by
  intro m hm
  induction m with
  | zero => have : i = 0 := by omega
            subst this; exact h
  | succ m ih =>
    rcases Nat.eq_or_lt_of_le hm with he | hl
    · rw [← he]; exact h
    · unfold leakF; rw [ih (by omega)]
theorem leakF_step {ok : Nat → Nat → Bool} {i : Nat} (h : leakF ok i = none) (hi : ∀ f, f < i → ok f i = false) : leakF ok (i + 1) = none := by
  unfold leakF
  rw [h]
  have : ((List.range i).find? fun f => ok f i) = none := by
    rw [List.find?_eq_none]
    intro f hf
    rw [hi f (List.mem_range.1 hf)]
    simp
  simp only [this]
  rfl
theorem leakF_hit {ok : Nat → Nat → Bool} {i j : Nat} (h : leakF ok i = none) (hi : ∀ f, f < j → ok f i = false) (hj : ok j i = true) (hji : j < i) : leakF ok (i + 1) = some (j, i) := by
  unfold leakF
  rw [h]
  have : ((List.range i).find? fun f => ok f i) = some j := by
    rw [List.find?_range_eq_some]
    refine ⟨hj, List.mem_range.2 hji, fun f hf => ?_⟩
    rw [hi f hf]; rfl
  simp only [this]
  rfl
theorem leakF_none {ok : Nat → Nat → Bool} : ∀ {m : Nat}, leakF ok m = none → ∀ i f, i < m → f < i → ok f i = false := by
  intro m
  induction m with
  | zero => intro _ i f hi; omega
  | succ m ih =>
    intro h i f hi hf
    unfold leakF at h
    cases h1 : leakF ok m with
    | some r => rw [h1] at h; cases h
    | none =>
      rw [h1] at h
      simp only [Option.map_eq_none_iff, List.find?_eq_none, List.mem_range] at h
      rcases Nat.lt_or_ge i m with hl | hl
      · exact ih h1 i f hl hf
      · have : i = m := by omega
        subst this
        simpa using h f hf
theorem leak_all {vs : List Bool} {d : Nat → Nat → Bool} (hsym : ∀ f s, d f s = d s f) (hirr : ∀ f, d f f = false) {m : Nat} (h : leakF (fun f s => sameR vs f s && d f s) m = none) {f s : Nat} (hf : f < m) (hs : s < m) (hv : sameR vs f s = true) : d f s = false := by
  rcases Nat.lt_trichotomy f s with hl | he | hl
  · have := leakF_none h s f hs hl
    simpa [hv] using this
  · rw [he]; exact hirr s
  · have := leakF_none h f s hf hl
    rw [sameR_comm] at hv
    rw [hsym]
    simpa [hv] using this
end Go.Proofs.YtkmghcglmjehcaaI
end
section
/- Lists that are made by appending, from nil on: their cells, and what their elements are. -/
set_option linter.unusedVariables false
set_option linter.unusedSimpArgs false
namespace Go.Proofs.YtkmghcglmjehcaaI
open Go Go.RowKit
/-- A list in a block of its own (or nil), its elements read in V. -/
def LsV {α : Type} (V : Vw) (A : Co α) (es et lo : Nat) (H : Heap) (v : Value) (l : List α) : Prop := (v = nilS ∧ l = []) ∨ ∃ b so cs, lo ≤ b ∧ v = sli b 0 l.length ∧ l ≠ [] ∧ l.length ≤ 1048576 ∧ H[b]? = some ⟨cs, es, et, true, so⟩ ∧ cs.length = l.length * es ∧ ∀ i (h : i < l.length), A.rd V ((cs.drop (i * es)).take es) l[i]
section
variable {α : Type} {V : Vw} {A : Co α} {es et lo : Nat} {H : Heap} {v : Value} {l : List α}
theorem LsV.nil : LsV V A es et lo H nilS ([] : List α) := .inl ⟨rfl, rfl⟩
theorem LsV.one (h : LsV V A es et lo H v l) : Go.Proofs.YtkmghcglmjehcaaI.one v = true := by
  rcases h with ⟨rfl, _⟩ | ⟨b, so, cs, _, rfl, _⟩ <;> rfl
theorem LsV.len (h : LsV V A es et lo H v l) : l.length ≤ 1048576 := by
  rcases h with ⟨_, rfl⟩ | ⟨b, so, cs, _, _, _, h, _⟩
  · simp
  · exact h
theorem LsV.mono {V' : Vw} (h : LsV V A es et lo H v l) (hs : Sub V V') : LsV V' A es et lo H v l := by
  rcases h with h | ⟨b, so, cs, h1, rfl, h3, h4, h5, h6, h7⟩
  · exact .inl h
  · exact .inr ⟨b, so, cs, h1, rfl, h3, h4, h5, h6, fun i hi => A.mono hs (h7 i hi)⟩
theorem LsV.sl (h : LsV V A es et lo H v l) (hw : A.w = es) (hs : Sub V (vw 0 H)) : SlR A (vw 0 H) v l := by
  rcases h with ⟨rfl, rfl⟩ | ⟨b, so, cs, h1, rfl, h3, h4, h5, h6, h7⟩
  · exact ⟨by simp, none, rfl, .inl rfl⟩
  · refine ⟨by omega, _, rfl, .inr ⟨b, 0, rfl, fun i hi => ⟨_, ?_, A.mono hs (h7 i hi)⟩⟩⟩
    have hi2 : i * es + es ≤ l.length * es := by rw [← Nat.succ_mul]; exact Nat.mul_le_mul_right _ hi
    unfold rng vw
    rw [if_pos (Nat.zero_le _), h5, hw]
    simp only [Option.map_some, Nat.zero_add]
    rw [if_pos (by omega)]
theorem LsV.at (h : LsV V A es et lo H v l) {i : Nat} (hi : i < l.length) : ∃ b cs, v = .slice (some ⟨b, 0, none⟩) l.length l.length ∧ getCells H b (i * es) es = some cs ∧ A.rd V cs l[i] := by
  rcases h with ⟨rfl, rfl⟩ | ⟨b, so, cs, h1, rfl, h3, h4, h5, h6, h7⟩
  · simp at hi
  · have hi2 : i * es + es ≤ l.length * es := by rw [← Nat.succ_mul]; exact Nat.mul_le_mul_right _ hi
    refine ⟨b, _, rfl, ?_, h7 i hi⟩
    unfold getCells
    rw [h5]
    simp only
    rw [if_pos (by omega)]
end
end Go.Proofs.YtkmghcglmjehcaaI
end
section
/- Rows of bits; lists that grow; what is told, what is set, and who may know what, or trusts it. -/
set_option linter.unusedVariables false
set_option linter.unusedSimpArgs false
namespace Go.Proofs.YtkmghcglmjehcaaI
open Go Go.RowKit
def lowL (c : Bool) (h : Int) (a : Int × Int) : Bool := hasB (if c then a.1 else a.2) h
def c_each : IFn := ⟨3, 30, [.t 6],
 .seq (.reg none [
    ⟨(some 3), none, .box (.t 0)⟩,
    ⟨(some 6), none, .mov (.c (.slice none 0 0))⟩])
 (.seq (.seq (.reg none [
     ⟨(some 10), none, .load true 2 (.t 3)⟩,
     ⟨(some 11), none, .call .q (.f 54) [(.t 10)]⟩,
     ⟨(some 12), none, .un .not (.t 11)⟩])
  (.cond (.t 12) (.seq (.reg none [
      ⟨(some 6), none, .mov (.c (.slice none 0 0))⟩])
   (.ret)) (.skip)))
 (.seq (.reg none [
    ⟨(some 7), none, .mov (.c (.slice none 0 0))⟩])
 (.seq (.seq (.reg none [
     ⟨(some 13), none, .fad 0 (.t 3)⟩,
     ⟨(some 14), none, .load false 1 (.t 13)⟩,
     ⟨(some 15), none, .len (.t 14)⟩,
     ⟨(some 16), none, .mov (.c (.int .i64 0))⟩])
  (.block 0 (.loop (.seq (.reg none [
       ⟨(some 17), none, .bin .lss (.t 16) (.t 15)⟩])
    (.seq (.cond (.t 17) (.skip) (.exit 0))
    (.seq (.block 1 (.seq (.reg none [
         ⟨(some 18), none, .iad 2 (.t 14) (.t 16)⟩,
         ⟨(some 19), none, .load true 2 (.t 18)⟩,
         ⟨(some 9), none, .new [(.int .i64 0), (.int .i64 0)]⟩,
         ⟨none, none, .store 2 (.t 9) (.t 19)⟩])
      (.reg none [
        ⟨(some 20), none, .mov (.t 7)⟩,
        ⟨(some 21), none, .mov (.t 2)⟩,
        ⟨(some 22), none, .load true 2 (.t 9)⟩,
        ⟨(some 23), none, .call .q (.t 21) [(.t 22)]⟩,
        ⟨(some 24), none, .mov (.t 1)⟩,
        ⟨(some 25), none, .call .q (.f 114) [(.t 23), (.t 24)]⟩,
        ⟨(some 26), none, .lit 1 4 1 [(.bool false)] [(0, 1, (.t 25))]⟩,
        ⟨(some 27), none, .app 1 4 1 false (.t 20) (.t 26)⟩,
        ⟨(some 7), none, .mov (.t 27)⟩])))
    (.reg none [
      ⟨(some 28), none, .bin .add (.t 16) (.c (.int .i64 1))⟩,
      ⟨(some 16), none, .mov (.t 28)⟩])))))))
 (.seq (.reg none [
    ⟨(some 29), none, .mov (.t 7)⟩,
    ⟨(some 6), none, .mov (.t 29)⟩])
 (.ret)))))⟩
def c_iKnows : IFn := ⟨2, 8, [.t 4],
 .seq (.reg none [
    ⟨(some 2), none, .box (.t 0)⟩,
    ⟨(some 4), none, .mov (.c (.slice none 0 0))⟩])
 (.seq (.reg none [
    ⟨(some 5), none, .load true 2 (.t 2)⟩,
    ⟨(some 6), none, .mov (.t 1)⟩,
    ⟨(some 7), none, .call .k (.f 93) [(.t 5), (.t 6), (.f 94)]⟩,
    ⟨(some 4), none, .mov (.t 7)⟩])
 (.ret))⟩
def c_kno1 : IFn := ⟨1, 5, [.t 2],
 .seq (.reg none [
    ⟨(some 1), none, .box (.t 0)⟩,
    ⟨(some 2), none, .mov (.c (.int .i64 0))⟩])
 (.seq (.reg none [
    ⟨(some 3), none, .fad 0 (.t 1)⟩,
    ⟨(some 4), none, .load false 1 (.t 3)⟩,
    ⟨(some 2), none, .mov (.t 4)⟩])
 (.ret))⟩
def c_iRunTo : IFn := ⟨2, 26, [.t 4],
 .seq (.reg none [
    ⟨(some 2), none, .box (.t 0)⟩,
    ⟨(some 4), none, .mov (.c (.slice none 0 0))⟩])
 (.seq (.reg none [
    ⟨(some 5), none, .mov (.c (.slice none 0 0))⟩])
 (.seq (.seq (.reg none [
     ⟨(some 8), none, .fad 2 (.t 2)⟩,
     ⟨(some 9), none, .load false 1 (.t 8)⟩,
     ⟨(some 10), none, .len (.t 9)⟩,
     ⟨(some 11), none, .mov (.c (.int .i64 0))⟩])
  (.block 0 (.loop (.seq (.reg none [
       ⟨(some 12), none, .bin .lss (.t 11) (.t 10)⟩])
    (.seq (.cond (.t 12) (.skip) (.exit 0))
    (.seq (.block 1 (.seq (.reg none [
         ⟨(some 13), none, .iad 2 (.t 9) (.t 11)⟩,
         ⟨(some 14), none, .load true 2 (.t 13)⟩,
         ⟨(some 7), none, .new [(.int .i64 0), (.int .i64 0)]⟩,
         ⟨none, none, .store 2 (.t 7) (.t 14)⟩])
      (.seq (.reg none [
         ⟨(some 15), none, .fad 0 (.t 7)⟩,
         ⟨(some 16), none, .load false 1 (.t 15)⟩,
         ⟨(some 17), none, .mov (.t 1)⟩,
         ⟨(some 18), none, .bin .eql (.t 16) (.t 17)⟩])
      (.cond (.t 18) (.reg none [
         ⟨(some 19), none, .mov (.t 5)⟩,
         ⟨(some 20), none, .fad 1 (.t 7)⟩,
         ⟨(some 21), none, .load false 1 (.t 20)⟩,
         ⟨(some 22), none, .lit 1 3 1 [(.int .i64 0)] [(0, 1, (.t 21))]⟩,
         ⟨(some 23), none, .app 1 3 8 false (.t 19) (.t 22)⟩,
         ⟨(some 5), none, .mov (.t 23)⟩]) (.skip)))))
    (.reg none [
      ⟨(some 24), none, .bin .add (.t 11) (.c (.int .i64 1))⟩,
      ⟨(some 11), none, .mov (.t 24)⟩])))))))
 (.seq (.reg none [
    ⟨(some 25), none, .mov (.t 5)⟩,
    ⟨(some 4), none, .mov (.t 25)⟩])
 (.ret))))⟩
def fb (b : Bool) : List Value := [.bool b]
theorem GLi.slB {es et lo : Nat} {H : Heap} {v : Value} {l : List Bool} (h : GLi fb 1 et lo H v l) (hl : l.length ≤ 1000) : SlR Co.bool (vw 0 H) v l := by
  rcases h with ⟨rfl, rfl⟩ | ⟨b, so, hlo, rfl, _, h⟩
  · exact ⟨by simp, none, rfl, .inl rfl⟩
  · have hfl := flat_len (fl := fb) (w := 1) (fun _ => rfl) l
    refine ⟨by omega, _, rfl, .inr ⟨b, 0, rfl, fun i hi => ⟨fb l[i], ?_, rfl⟩⟩⟩
    unfold rng vw
    rw [if_pos (Nat.zero_le _), h]
    simp only [Option.map_some, Nat.zero_add, show Co.bool.w = 1 from rfl, Nat.mul_one]
    rw [if_pos (by omega)]
    congr 1
    have : l.flatMap fb = (l.take i).flatMap fb ++ (fb l[i] ++ (l.drop (i + 1)).flatMap fb) := by
      conv => lhs; rw [← List.take_append_drop i l, List.drop_eq_getElem_cons hi]
      rw [List.flatMap_append, List.flatMap_cons]
    rw [this]
    have hlt : ((l.take i).flatMap fb).length = i := by rw [flat_len (fl := fb) (w := 1) (fun _ => rfl), List.length_take]; omega
    rw [List.drop_append, List.drop_of_length_le (by omega), hlt, Nat.sub_self, List.nil_append, List.drop_zero]
    rfl
theorem gcBo {H : Heap} {v : Value} {l : List Bool} (h : SlR Co.bool (vw 0 H) v l) {i : Nat} (hi : i < l.length) : ∃ b o, v = .slice (some ⟨b, o, none⟩) l.length l.length ∧ getCells H b (o + i) 1 = some [.bool l[i]] := by
  obtain ⟨_, a, rfl, h2⟩ := h
  rcases h2 with h2 | ⟨b, o, rfl, h2⟩
  · rw [h2] at hi; simp at hi
  · obtain ⟨cs, h3, h4⟩ := h2 i hi
    have h5 := rng_gc h3
    have h6 : cs = [.bool l[i]] := h4
    rw [show Co.bool.w = 1 from rfl, Nat.mul_one, h6] at h5
    exact ⟨b, o, rfl, h5⟩
def EachOk (F : Nat → Option IFn) (f : Nat) : Prop := ∀ (H : Heap) (n : Nat) (lv sv : Value) (ls : List (Int × Int)) (l : List (TStep n)) (h : Int) (g : Nat) (S : Int × Int → Int), 0 ≤ h → h ≤ 2 → (∀ (H : Heap) (a : Int × Int), labB a = true → QC F g [.agg #[.int .i64 a.1, .int .i64 a.2]] H (.int .i64 (S a)) ∧ 0 ≤ S a ∧ S a ≤ 7) → SlR Co.p2 (vw 0 H) lv ls → SlR (Co.step n) (vw 0 H) sv l → (Co.prog n).sm (ls, l) → progB n (ls, l) = true →
  ∃ w H', KC F f [.agg #[lv, sv], .int .i64 h, .func (.func g) #[] #[]] H w H' ∧ AgX [] H H' ∧ SlR Co.bool (vw 0 H') w (ls.map fun a => hasB (S a) h)
theorem each_ok {F : Nat → Option IFn} {f : Nat} (hf : F f = some c_each) (gp : ProgOk F 54) (gh : HasOk F 114) : EachOk F f := by
  intro H n lv sv ls l h g S h0 h2 gS r1 r2 hsm hP
  have hlab := progB_lab hP
  have hl4 : ls.length ≤ 4 := by
    simp only [progB, Bool.and_eq_true, decide_eq_true_eq] at hP; have := hP.1.1.1; omega
  suffices hh : ∃ w H', KC F f [.agg #[lv, sv], .int .i64 h, .func (.func g) #[] #[]] H w H' ∧ (AgX [] H H' ∧ SlR Co.bool (vw 0 H') w (ls.map fun a => hasB (S a) h)) from hh
  have osv : one sv = true := by obtain ⟨_, a, rfl, _⟩ := r2; rfl
  obtain ⟨_, la, rfl, _⟩ := id r1
  refine KC.mk hf rfl ?_
  refine seq_reg ?_
  simp only [go_sem, binC, osv]
  refine wpc_gen fun H1 hH1 => ?_
  have hx1 : AgX [] H H1 := hH1 ▸ AgX.app [] _ _
  have hb : H1[H.length]? = some ⟨[.slice la ls.length ls.length, sv], 0, 0, false, true⟩ := hH1 ▸ get_new0 _ _
  clear hH1
  have hS := agx_sub hx1
  have hl1 := hx1.1
  refine seq_assoc (seq_reg ?_)
  simp only [go_sem, binC, gc_of hb, inBlk_some, osv]
  refine op_callQ (by simp only [go_sem, binC]; exact gp H1 n _ (ls, l) (prog_rd (r1.mono hS) (r2.mono hS)) hsm) ?_
  simp only [go_sem, binC, hP]
  refine seq_cond (t := false) rfl ?_
  simp only [go_sem, binC]
  refine seq_skip (seq_reg ?_)
  simp only [go_sem, binC]
  refine seq_assoc (seq_reg ?_)
  simp only [go_sem, binC, gc_of hb, inBlk_some]
  refine seq_block (wpc_loop ?_)
  suffices hh : ∀ (k i : Nat) (e : Env) (Hc : Heap) (v7 : Value), i + k = ls.length → AgX [] H1 Hc → GLi fb 1 4 H1.length Hc v7 ((ls.take i).map fun a => hasB (S a) h) → e 1 = .int .i64 h → e 2 = .func (.func g) #[] #[] → e 7 = v7 → e 14 = .slice la ls.length ls.length → e 15 = .int .i64 ls.length → e 16 = .int .i64 i → W F H.length _ e Hc _ from
    hh ls.length 0 _ H1 _ (by omega) (AgX.refl _ _) (.inl ⟨rfl, rfl⟩) (by simp only [go_sem, binC]) (by simp only [go_sem, binC]) (by simp only [go_sem, binC]) (by simp only [go_sem, binC]) (by simp only [go_sem, binC]) (by (simp only [go_sem, binC]) <;> rfl)
  intro k
  induction k with
  | zero =>
    intro i e Hc v7 hi hxc q e1 e2 e7 e14 e15 e16
    refine lp_step ?_
    refine seq_reg ?_
    simp only [go_sem, binC, e15, e16]
    refine seq_cond (t := false) (by simp only [go_sem, binC]; rw [decide_eq_false (by omega)]) ?_
    simp only [go_sem, binC]
    refine seq_exit ?_
    simp only [go_sem, binC, thenX_e, out_e, thenX_n]
    refine seq_reg ?_
    simp only [go_sem, binC, e7]
    rw [List.take_of_length_le (by omega)] at q
    exact wpc_ret ⟨Or.inr rfl, _, (by (simp only [go_sem, binC]) <;> rfl), hx1.tr hxc, q.slB (es := 1) (by rw [List.length_map]; omega)⟩
  | succ k ih =>
    intro i e Hc v7 hi hxc q e1 e2 e7 e14 e15 e16
    have hil : i < ls.length := by omega
    obtain ⟨b, o, hv1, hg⟩ := gcP (r1.mono (agx_sub (hx1.tr hxc))) hil
    simp only [Value.slice.injEq, and_true] at hv1
    subst hv1
    have hli := List.all_eq_true.1 hlab _ (List.getElem_mem hil)
    have hw1 : IntKind.i64.wrap ((i : Int) + 1) = ((i + 1 : Nat) : Int) := by rw [wrap_id (by omega) (by omega)]; omega
    have htk : (ls.take i).map (fun a => hasB (S a) h) ++ [hasB (S ls[i]) h] = (ls.take (i + 1)).map fun a => hasB (S a) h := by
      rw [List.take_add_one, List.getElem?_eq_getElem hil, List.map_append]; rfl
    have hlc := hxc.1
    refine lp_step ?_
    refine seq_reg ?_
    simp only [go_sem, binC, e15, e16]
    refine seq_cond (t := true) (by simp only [go_sem, binC]; rw [decide_eq_true (by omega)]) ?_
    simp only [go_sem, binC]
    refine seq_skip (seq_block (seq_reg ?_))
    simp only [go_sem, binC, e14, e16]
    refine ⟨⟨by omega, by omega⟩, ?_⟩
    simp only [go_sem, binC, Int.toNat_natCast, hg]
    refine ⟨by omega, ?_⟩
    refine wpc_gen fun H2 hH2 => ?_
    have hx2 : AgX [] Hc H2 := hH2 ▸ AgX.app [] _ _
    have hb9 : H2[Hc.length]? = some ⟨[.int .i64 ls[i].1, .int .i64 ls[i].2], 0, 0, false, true⟩ := hH2 ▸ get_new0 _ _
    clear hH2
    have q2 := q.keep hx2 (fun _ _ _ _ _ => by simp)
    obtain ⟨gS1, gS2, gS3⟩ := gS H2 ls[i] hli
    have hl2 := hx2.1
    refine wpc_reg ?_
    simp only [go_sem, binC, e2, gc_of hb9, inBlk_some]
    refine op_callQc (g := g) (first := #[]) (cap := #[]) (by simp only [go_sem, binC, e2]) (by simp only [List.nil_append, List.append_nil]; simp only [go_sem, binC]; exact gS1) ?_
    simp only [go_sem, binC, e1]
    refine op_callQ (by simp only [go_sem, binC, e1]; exact gh H2 _ _ gS2 gS3) ?_
    simp only [go_sem, binC]
    refine op_app_fl (fl := fb) (a := hasB (S ls[i]) h) (lo := H1.length) (fun _ => rfl) q2 (by simp only [go_sem, binC, e7]) (by (simp only [go_sem, binC]) <;> rfl) hl1 (by omega) (by rw [List.length_map, List.length_take]; omega) (by omega) fun H3 w3 hx3 q3 => ?_
    rw [htk] at q3
    have hblk := q2.blk
    simp only [go_sem, binC, out_n, thenX_n]
    refine wpc_reg ?_
    simp only [go_sem, binC, e16, hw1]
    simp only [go_sem, binC, thenX_n]
    exact ih (i + 1) _ H3 w3 (by omega) ((hxc.tr hx2).trans hx3 (fun _ h _ => h) (fun b h1 h2 => by have := hblk b h1; omega)) q3 (by simp only [go_sem, binC, e1]) (by simp only [go_sem, binC, e2]) (by simp only [go_sem, binC]) (by simp only [go_sem, binC, e14]) (by simp only [go_sem, binC, e15]) (by simp only [go_sem, binC])
def VarsOk (F : Nat → Option IFn) (f : Nat) (c : Bool) : Prop := ∀ (H : Heap) (n : Nat) (lv sv : Value) (ls : List (Int × Int)) (l : List (TStep n)) (h : Int), 0 ≤ h → h ≤ 2 → SlR Co.p2 (vw 0 H) lv ls → SlR (Co.step n) (vw 0 H) sv l → (Co.prog n).sm (ls, l) → progB n (ls, l) = true →
  ∃ w H', KC F f [.agg #[lv, sv], .int .i64 h] H w H' ∧ AgX [] H H' ∧ SlR Co.bool (vw 0 H') w (ls.map (lowL c h))
theorem kno1_ok {F : Nat → Option IFn} {f : Nat} (hf : F f = some c_kno1) : ∀ (H : Heap) (a : Int × Int), labB a = true → QC F f [.agg #[.int .i64 a.1, .int .i64 a.2]] H (.int .i64 a.1) ∧ 0 ≤ a.1 ∧ a.1 ≤ 7 := by
  rintro H ⟨x, y⟩ ha
  have hb := labB_bd ha
  refine ⟨?_, by first | exact hb.1.1 | exact hb.1.1, by first | exact hb.1.2 | exact hb.1.2⟩
  refine QC.mk hf rfl ?_
  refine seq_reg ?_
  simp only [go_sem, binC]
  refine seq_reg ?_
  simp only [go_sem, binC, inBlk_some]
  exact wpc_ret ⟨Or.inr rfl, _, (by (simp only [go_sem, binC]) <;> rfl), rfl, rfl⟩
theorem iKnows_ok {F : Nat → Option IFn} {f : Nat} (hf : F f = some c_iKnows) (gc : F 94 = some c_kno1) (ge : EachOk F 93) : VarsOk F f true := by
  intro H n lv sv ls l h h0 h2 r1 r2 hsm hP
  suffices hh : ∃ w H', KC F f [.agg #[lv, sv], .int .i64 h] H w H' ∧ (AgX [] H H' ∧ SlR Co.bool (vw 0 H') w (ls.map (lowL true h))) from hh
  have olv : one lv = true := by obtain ⟨_, a, rfl, _⟩ := r1; rfl
  have osv : one sv = true := by obtain ⟨_, a, rfl, _⟩ := r2; rfl
  refine KC.mk hf rfl ?_
  refine seq_reg ?_
  simp only [go_sem, binC, olv, osv]
  refine wpc_gen fun H1 hH1 => ?_
  have hx1 : AgX [] H H1 := hH1 ▸ AgX.app [] _ _
  have hb : H1[H.length]? = some ⟨[lv, sv], 0, 0, false, true⟩ := hH1 ▸ get_new0 _ _
  clear hH1
  have hS := agx_sub hx1
  refine seq_reg ?_
  simp only [go_sem, binC, gc_of hb, inBlk_some, olv, osv]
  obtain ⟨w, H2, k2, hx2, q2⟩ := ge H1 n lv sv ls l h 94 (fun a => a.1) h0 h2 (kno1_ok gc) (r1.mono hS) (r2.mono hS) hsm hP
  refine op_callK (by simp only [go_sem, binC]; exact k2) ?_
  simp only [go_sem, binC]
  exact wpc_ret ⟨Or.inr rfl, _, (by (simp only [go_sem, binC]) <;> rfl), hx1.tr hx2, q2⟩
def seenW (vs : List Bool) (w : Int × Int) : Bool := inB w.1 0 ((vs.length : Int) - 1) && vs.getD w.1.toNat false
def SetsOk (F : Nat → Option IFn) (f : Nat) : Prop := ∀ (H : Heap) (nv wv sv u : Value) (r : RunS) (vs : List Bool), one nv = true → SlR Co.p2 (vw 0 H) wv r.2.1 → one sv = true → SlR Co.bool (vw 0 H) u vs → r.2.1.length ≤ 1000 → (∀ w ∈ r.2.1, RgI w.1 ∧ RgI w.2) → ∃ z H', KC F f [.agg #[nv, wv, sv], u] H z H' ∧ AgX [] H H' ∧ SlR Co.p2 (vw 0 H') z (r.2.1.filter (seenW vs))
def toldL (h : Int) (ss : List (Int × Int)) : List Int := (ss.filter (fun w => decide (w.1 = h))).map (·.2)
def ToldOk (F : Nat → Option IFn) (f : Nat) : Prop := ∀ (H : Heap) (nv wv sv : Value) (r : RunS) (h : Int), one nv = true → one wv = true → SlR Co.p2 (vw 0 H) sv r.2.2 → r.2.2.length ≤ 1000 → (∀ w ∈ r.2.2, RgI w.1 ∧ RgI w.2) → ∃ z H', KC F f [.agg #[nv, wv, sv], .int .i64 h] H z H' ∧ AgX [] H H' ∧ SlR Co.int (vw 0 H') z (toldL h r.2.2)
theorem iRunTo_ok {F : Nat → Option IFn} {f : Nat} (hf : F f = some c_iRunTo) : ToldOk F f := by
  intro H nv wv sv r h on ow hs hl hrg
  suffices hh : ∃ z H', KC F f [.agg #[nv, wv, sv], .int .i64 h] H z H' ∧ (AgX [] H H' ∧ SlR Co.int (vw 0 H') z (toldL h r.2.2)) from hh
  obtain ⟨_, sa, rfl, _⟩ := id hs
  generalize r.2.2 = ss at hs hl hrg
  refine KC.mk hf rfl ?_
  refine seq_reg ?_
  simp only [go_sem, binC, on, ow]
  refine wpc_gen fun H1 hH1 => ?_
  have hx1 : AgX [] H H1 := hH1 ▸ AgX.app [] _ _
  have hb : H1[H.length]? = some ⟨[nv, wv, .slice sa ss.length ss.length], 0, 0, false, true⟩ := hH1 ▸ get_new0 _ _
  clear hH1
  have hl1 := hx1.1
  have hlt : ∀ l : List (Int × Int), (toldL h l).length ≤ l.length := fun l => by unfold toldL; rw [List.length_map]; exact List.length_filter_le _ _
  refine seq_reg ?_
  simp only [go_sem, binC]
  refine seq_assoc (seq_reg ?_)
  simp only [go_sem, binC, gc_of hb, inBlk_some]
  refine seq_block (wpc_loop ?_)
  suffices hh : ∀ (k i : Nat) (e : Env) (Hc : Heap) (v5 : Value), i + k = ss.length → AgX [] H1 Hc → GLi fi 1 3 H1.length Hc v5 (toldL h (ss.take i)) → e 1 = .int .i64 h → e 5 = v5 → e 9 = .slice sa ss.length ss.length → e 10 = .int .i64 ss.length → e 11 = .int .i64 i → W F H.length _ e Hc _ from
    hh ss.length 0 _ H1 _ (by omega) (AgX.refl _ _) (.inl ⟨rfl, rfl⟩) (by simp only [go_sem, binC]) (by simp only [go_sem, binC]) (by simp only [go_sem, binC]) (by simp only [go_sem, binC]) (by (simp only [go_sem, binC]) <;> rfl)
  intro k
  induction k with
  | zero =>
    intro i e Hc v5 hi hxc q e1 e5 e9 e10 e11
    refine lp_step ?_
    refine seq_reg ?_
    simp only [go_sem, binC, e10, e11]
    refine seq_cond (t := false) (by simp only [go_sem, binC]; rw [decide_eq_false (by omega)]) ?_
    simp only [go_sem, binC]
    refine seq_exit ?_
    simp only [go_sem, binC, thenX_e, out_e, thenX_n]
    refine seq_reg ?_
    simp only [go_sem, binC, e5]
    rw [List.take_of_length_le (by omega)] at q
    refine wpc_ret ⟨Or.inr rfl, _, (by (simp only [go_sem, binC]) <;> rfl), hx1.tr hxc, q.slI (es := 1) (fun x hx => ?_) (Nat.le_trans (hlt _) hl)⟩
    unfold toldL at hx
    obtain ⟨w, hw, rfl⟩ := List.mem_map.1 hx
    exact (hrg w (List.mem_filter.1 hw).1).2
  | succ k ih =>
    intro i e Hc v5 hi hxc q e1 e5 e9 e10 e11
    have hil : i < ss.length := by omega
    obtain ⟨b, o, hv1, hg⟩ := gcP (hs.mono (agx_sub (hx1.tr hxc))) hil
    simp only [Value.slice.injEq, and_true] at hv1
    subst hv1
    have hw1 : IntKind.i64.wrap ((i : Int) + 1) = ((i + 1 : Nat) : Int) := by rw [wrap_id (by omega) (by omega)]; omega
    have htk : toldL h (ss.take (i + 1)) = toldL h (ss.take i) ++ (if ss[i].1 = h then [ss[i].2] else []) := by
      unfold toldL
      rw [List.take_add_one, List.getElem?_eq_getElem hil, List.filter_append, List.map_append]
      congr 1
      by_cases hh : ss[i].1 = h <;> simp [hh]
    have hlc := hxc.1
    refine lp_step ?_
    refine seq_reg ?_
    simp only [go_sem, binC, e10, e11]
    refine seq_cond (t := true) (by simp only [go_sem, binC]; rw [decide_eq_true (by omega)]) ?_
    simp only [go_sem, binC]
    refine seq_skip (seq_block (seq_reg ?_))
    simp only [go_sem, binC, e9, e11]
    refine ⟨⟨by omega, by omega⟩, ?_⟩
    simp only [go_sem, binC, Int.toNat_natCast, hg]
    refine ⟨by omega, ?_⟩
    refine wpc_gen fun H2 hH2 => ?_
    have hx2 : AgX [] Hc H2 := hH2 ▸ AgX.app [] _ _
    have hb7 : H2[Hc.length]? = some ⟨[.int .i64 ss[i].1, .int .i64 ss[i].2], 0, 0, false, true⟩ := hH2 ▸ get_new0 _ _
    clear hH2
    have q2 := q.keep hx2 (fun _ _ _ _ _ => by simp)
    have hl2 := hx2.1
    refine seq_reg ?_
    simp only [go_sem, binC, e1, gc_of hb7, inBlk_some]
    by_cases he : ss[i].1 = h
    · rw [if_pos he] at htk
      simp only [go_sem, binC, beq_t he]
      refine wpc_cond (t := true) (by first | rfl | (simp only [go_sem, binC]; rw [beq_t he])) ?_
      simp only [go_sem, binC]
      refine wpc_reg ?_
      simp only [go_sem, binC, e5, gc_of hb7, inBlk_some]
      refine op_app_fl (fl := fi) (a := ss[i].2) (lo := H1.length) (fun _ => rfl) q2 (by simp only [go_sem, binC, e5]) (by (simp only [go_sem, binC]) <;> rfl) hl1 (by omega) (by have := hlt (ss.take i); rw [List.length_take] at this; omega) (by omega) fun H3 w3 hx3 q3 => ?_
      rw [← htk] at q3
      have hblk := q2.blk
      simp only [go_sem, binC, out_n, thenX_n]
      refine wpc_reg ?_
      simp only [go_sem, binC, e11, hw1]
      simp only [go_sem, binC, thenX_n]
      exact ih (i + 1) _ H3 w3 (by omega) ((hxc.tr hx2).trans hx3 (fun _ h _ => h) (fun b h1 h2 => by have := hblk b h1; omega)) q3 (by simp only [go_sem, binC, e1]) (by simp only [go_sem, binC]) (by simp only [go_sem, binC, e9]) (by simp only [go_sem, binC, e10]) (by simp only [go_sem, binC])
    · rw [if_neg he, List.append_nil] at htk
      simp only [go_sem, binC, beq_f he]
      refine wpc_cond (t := false) (by first | rfl | (simp only [go_sem, binC]; rw [beq_f he])) ?_
      simp only [go_sem, binC]
      refine wpc_skip ?_
      simp only [go_sem, binC, out_n, thenX_n]
      refine wpc_reg ?_
      simp only [go_sem, binC, e11, hw1]
      simp only [go_sem, binC, thenX_n]
      exact ih (i + 1) _ H2 v5 (by omega) (hxc.tr hx2) (by rw [htk]; exact q2) (by simp only [go_sem, binC, e1]) (by simp only [go_sem, binC, e5]) (by simp only [go_sem, binC, e9]) (by simp only [go_sem, binC, e10]) (by simp only [go_sem, binC])
end Go.Proofs.YtkmghcglmjehcaaI
end
section
/- Sizes of programs with totals, copies of programs in blocks of one's own, marks on programs. -/
set_option linter.unusedVariables false
set_option linter.unusedSimpArgs false
namespace Go.Proofs.YtkmghcglmjehcaaI
open Go Go.RowKit
end Go.Proofs.YtkmghcglmjehcaaI
end
section
/- Marks on programs. -/
set_option linter.unusedVariables false
set_option linter.unusedSimpArgs false
namespace Go.Proofs.YtkmghcglmjehcaaI
open Go Go.RowKit
def cT : (n : Nat) → TStep n → Nat
  | 0, s => s.elim
  | n + 1, (_, _, _, _, th, el) => 6 + ((th.map (cT n)).sum + (el.map (cT n)).sum)
theorem sT : ∀ n, CoSim (Co.step n) (cT n)
  | 0 => fun V V' cs cs' a _ _ h => h.elim
  | n + 1 => by
    have h1 := (sT n).sum
    have hv : CoSim Co.val (fun p : Int × Int × Int => ((), (), ())) := CoSim.pair CoSim.int (CoSim.pair CoSim.int CoSim.int)
    have h2 := (CoSim.pair CoSim.int (CoSim.pair CoSim.int (CoSim.pair hv (CoSim.pair CoSim.int (CoSim.pair h1 h1))))).comp (fun p => 6 + (p.2.2.2.2.1 + p.2.2.2.2.2))
    intro V V' cs cs' a g1 g2 g3
    obtain ⟨a', g4, g5⟩ := h2 V V' cs cs' a g1 g2 g3
    exact ⟨a', g4, g5⟩
end Go.Proofs.YtkmghcglmjehcaaI
end
section
/- Copies of programs in blocks of one's own, and marks on them. -/
set_option linter.unusedVariables false
set_option linter.unusedSimpArgs false
namespace Go.Proofs.YtkmghcglmjehcaaI
open Go Go.RowKit
end Go.Proofs.YtkmghcglmjehcaaI
end
section
/- Lemmas for laws with marks. -/
set_option linter.unusedVariables false
set_option linter.unusedSimpArgs false
namespace Go.Proofs.YtkmghcglmjehcaaI
open Go Go.RowKit
theorem ToOkS.x {F : Nat → Option IFn} {α : Type} {A : Co α} {agg : Bool} {m : Mode} {f : Nat} (h : ToOkS F A agg m f) {H : Heap} {v : Value} {a : α} (hr : Rd A agg (vw 0 H) v a) (hs : A.sm a) {e : Env} {lo : Nat} {args : List Opd} {K : Value → Heap → Prop} (ha : args.map (·.ev e) = [v])
    (k : ∀ v' H', AgX [] H H' → Rd A agg (vws H.length H') v' a → K v' H') : wpOp F lo (.call m (.f f) args) e H K :=
  h H v a hr hs e lo args K ha fun v' L hv => k v' _ (AgX.app [] _ _) hv
theorem FlatB.mono {lo hi hi' w n b o : Nat} {H H' : Heap} {v : Value} (h : FlatB lo hi H w v n b o) (hh : hi ≤ hi') (hH : n = 0 ∨ H'[b]? = H[b]?) : FlatB lo hi' H' w v n b o := by
  obtain ⟨h1, a, h2, h3⟩ := h
  refine ⟨h1, a, h2, ?_⟩
  rcases h3 with h3 | ⟨h3, h4, h5, cs, es, et, ap, h6, h7⟩
  · exact .inl h3
  · rcases hH with hH | hH
    · exact .inl hH
    · exact .inr ⟨h3, h4, by omega, cs, es, et, ap, hH.trans h6, h7⟩
theorem FlatB.one {lo hi w n b o : Nat} {H : Heap} {v : Value} (h : FlatB lo hi H w v n b o) : Go.Proofs.YtkmghcglmjehcaaI.one v = true := by
  obtain ⟨_, a, rfl, _⟩ := h
  rfl
end Go.Proofs.YtkmghcglmjehcaaI
end
section
/- Trees of steps in blocks of one's own. -/
set_option linter.unusedVariables false
set_option linter.unusedSimpArgs false
namespace Go.Proofs.YtkmghcglmjehcaaI
open Go Go.RowKit
def shOf {n : Nat} (s : TStep (n + 1)) : Shal := (s.1, s.2.1, s.2.2.1, s.2.2.2.1)
def thOf {n : Nat} (s : TStep (n + 1)) : List (TStep n) := s.2.2.2.2.1
def elOf {n : Nat} (s : TStep (n + 1)) : List (TStep n) := s.2.2.2.2.2
def shV (s : Shal) (tv ev : Value) : List Value := [.int .i64 s.1, .int .i64 s.2.1, .int .i64 s.2.2.1.1, .int .i64 s.2.2.1.2.1, .int .i64 s.2.2.1.2.2, .int .i64 s.2.2.2, tv, ev]
def shRg (s : Shal) : Prop := RgI s.1 ∧ RgI s.2.1 ∧ RgI s.2.2.1.1 ∧ RgI s.2.2.1.2.1 ∧ RgI s.2.2.1.2.2 ∧ RgI s.2.2.2
/-- One step in memory: its cells, and the blocks of the steps in it. -/
def EltT {n : Nat} (P : Value → List (TStep n) → List Nat → Prop) (a : TStep (n + 1)) (cs : List Value) (B : List Nat) : Prop := ∃ tv ev B1 B2, cs = shV (shOf a) tv ev ∧ shRg (shOf a) ∧ P tv (thOf a) B1 ∧ P ev (elOf a) B2 ∧ B = B1 ++ B2
def BodyT {n : Nat} (P : Value → List (TStep n) → List Nat → Prop) (l : List (TStep (n + 1))) (cs : List Value) (Bs : List (List Nat)) : Prop := l.length ≤ 1048576 ∧ cs.length = l.length * 8 ∧ Bs.length = l.length ∧ Bs.flatten.Nodup ∧
  ∀ (i : Nat) (h : i < l.length) (h' : i < Bs.length), EltT P l[i] ((cs.drop (i * 8)).take 8) Bs[i]
/-- A tree of steps whose lists each lie in a block of its own. -/
def OwnT (lo : Nat) (H : Heap) : (n : Nat) → Value → List (TStep n) → List Nat → Prop
  | 0, v, l, B => v = nilS ∧ l = [] ∧ B = []
  | n + 1, v, l, B => (v = nilS ∧ l = [] ∧ B = []) ∨ ∃ b cs Bs, lo ≤ b ∧ v = sli b 0 l.length ∧ l ≠ [] ∧ H[b]? = some ⟨cs, 8, 83, true, true⟩ ∧ B = b :: Bs.flatten ∧ b ∉ Bs.flatten ∧ BodyT (OwnT lo H n) l cs Bs
theorem OwnT.nil {lo : Nat} {H : Heap} : ∀ {n : Nat}, OwnT lo H n nilS [] []
  | 0 => ⟨rfl, rfl, rfl⟩
  | n + 1 => .inl ⟨rfl, rfl, rfl⟩
theorem OwnT.one {lo : Nat} {H : Heap} : ∀ {n : Nat} {v : Value} {l : List (TStep n)} {B : List Nat}, OwnT lo H n v l B → one v = true
  | 0, v, l, B, ⟨h, _⟩ => by rw [h]; rfl
  | n + 1, v, l, B, .inl ⟨h, _⟩ => by rw [h]; rfl
  | n + 1, v, l, B, .inr ⟨b, cs, Bs, _, h, _⟩ => by rw [h]; rfl
theorem BodyT.nil {n : Nat} {P : Value → List (TStep n) → List Nat → Prop} : BodyT P [] [] [] := ⟨by simp, rfl, rfl, by simp, fun i h => by simp at h⟩
theorem OwnT.len {lo : Nat} {H : Heap} : ∀ {n : Nat} {v : Value} {l : List (TStep n)} {B : List Nat}, OwnT lo H n v l B → l.length ≤ 1048576 ∧ ∃ a, v = .slice a l.length l.length
  | 0, v, l, B, ⟨h, h2, _⟩ => by rw [h, h2]; exact ⟨by simp, none, rfl⟩
  | n + 1, v, l, B, .inl ⟨h, h2, _⟩ => by rw [h, h2]; exact ⟨by simp, none, rfl⟩
  | n + 1, v, l, B, .inr ⟨b, cs, Bs, _, h, _, _, _, _, ⟨a0, _⟩⟩ => ⟨a0, _, h⟩
theorem OwnT.sl {lo : Nat} {H : Heap} : ∀ {n : Nat} {v : Value} {l : List (TStep n)} {B : List Nat}, OwnT lo H n v l B → SlR (Co.step n) (vws lo H) v l
  | 0, v, l, B, ⟨h, h2, _⟩ => by rw [h, h2]; exact ⟨by simp, none, rfl, .inl rfl⟩
  | n + 1, v, l, B, .inl ⟨h, h2, _⟩ => by rw [h, h2]; exact ⟨by simp, none, rfl, .inl rfl⟩
  | n + 1, v, l, B, .inr ⟨b, cs, Bs, h1, h2, h3, h5, h8, h9, ⟨a0, a1, a2, a3, a4⟩⟩ => by
    refine ⟨by omega, _, h2, .inr ⟨b, 0, rfl, fun i hi => ?_⟩⟩
    obtain ⟨tv, ev, B1, B2, e1, e2, e3, e4, e5⟩ := a4 i hi (by omega)
    have hr := step_rd e2.1 e2.2.1 e2.2.2.1 e2.2.2.2.1 e2.2.2.2.2.1 e2.2.2.2.2.2 (OwnT.sl e3) (OwnT.sl e4)
    refine ⟨shV (shOf l[i]) tv ev, ?_, hr⟩
    unfold rng vws
    rw [if_pos h1, h5]
    simp only [Option.bind_some, if_true, Nat.zero_add, step_w]
    rw [if_pos (by have : i * 8 + 8 ≤ l.length * 8 := by omega
                   omega), ← e1]
end Go.Proofs.YtkmghcglmjehcaaI
end
section
/- Steps copied; steps changed in their place. -/
set_option linter.unusedVariables false
set_option linter.unusedSimpArgs false
namespace Go.Proofs.YtkmghcglmjehcaaI
open Go Go.RowKit
end Go.Proofs.YtkmghcglmjehcaaI
end
section
/- Marks on trees of steps of one's own, and their tests. -/
set_option linter.unusedVariables false
set_option linter.unusedSimpArgs false
namespace Go.Proofs.YtkmghcglmjehcaaI
open Go Go.RowKit
end Go.Proofs.YtkmghcglmjehcaaI
end
section
/- Programs in memory of one's own; a program copied. -/
set_option linter.unusedVariables false
set_option linter.unusedSimpArgs false
namespace Go.Proofs.YtkmghcglmjehcaaI
open Go Go.RowKit
def LabV (lo : Nat) (H : Heap) (v : Value) (ls : List (Int × Int)) : Prop := (v = nilS ∧ ls = []) ∨ ∃ b, lo ≤ b ∧ v = sli b 0 ls.length ∧ ls ≠ [] ∧ H[b]? = some ⟨ls.flatMap fp, 2, 35, true, true⟩
theorem LabV.one {lo : Nat} {H : Heap} {v : Value} {ls : List (Int × Int)} (h : LabV lo H v ls) : one v = true := by
  rcases h with ⟨rfl, _⟩ | ⟨b, _, rfl, _⟩ <;> rfl
theorem LabV.sl {lo : Nat} {H : Heap} {v : Value} {ls : List (Int × Int)} (h : LabV lo H v ls) (hr : ∀ p ∈ ls, RgI p.1 ∧ RgI p.2) (hl : ls.length ≤ 1000) : SlR Co.p2 (vw 0 H) v ls := by
  rcases h with h | ⟨b, h1, h2, h3, h4⟩
  · exact GLi.slP (es := 2) (lo := lo) (et := 35) (.inl h) hr hl
  · exact GLi.slP (es := 2) (.inr ⟨b, true, h1, h2, h3, h4⟩) hr hl
theorem p2_rg {V : Vw} {v : Value} {l : List (Int × Int)} (h : SlR Co.p2 V v l) : ∀ w ∈ l, RgI w.1 ∧ RgI w.2 := by
  intro w hw
  obtain ⟨i, hi, rfl⟩ := List.getElem_of_mem hw
  obtain ⟨_, a, rfl, h2⟩ := h
  rcases h2 with h2 | ⟨b, o, _, h2⟩
  · rw [h2] at hi; simp at hi
  · obtain ⟨cs, _, _, _, _, ⟨_, r1⟩, ⟨_, r2⟩⟩ := h2 i hi
    exact ⟨r1, r2⟩
end Go.Proofs.YtkmghcglmjehcaaI
end
section
/- Tests of marked steps; marks and tests of programs of one's own. -/
set_option linter.unusedVariables false
set_option linter.unusedSimpArgs false
namespace Go.Proofs.YtkmghcglmjehcaaI
open Go Go.RowKit
end Go.Proofs.YtkmghcglmjehcaaI
end
section
/- Marks and tests of programs of one's own. -/
set_option linter.unusedVariables false
set_option linter.unusedSimpArgs false
namespace Go.Proofs.YtkmghcglmjehcaaI
open Go Go.RowKit
end Go.Proofs.YtkmghcglmjehcaaI
end
section
/- Rows of bits made; rows the same in some places. -/
set_option linter.unusedVariables false
set_option linter.unusedSimpArgs false
namespace Go.Proofs.YtkmghcglmjehcaaI
open Go Go.RowKit
def c_sBits : IFn := ⟨2, 21, [.t 4],
 .seq (.reg none [
    ⟨(some 4), none, .mov (.c (.slice none 0 0))⟩])
 (.seq (.reg none [
    ⟨(some 7), none, .lit 1 3 0 [] []⟩,
    ⟨(some 5), none, .mov (.t 7)⟩])
 (.seq (.seq (.reg none [
     ⟨(some 6), none, .mov (.c (.int .i64 0))⟩])
  (.block 0 (.loop (.seq (.seq (.reg none [
        ⟨(some 8), none, .mov (.t 6)⟩,
        ⟨(some 9), none, .mov (.t 1)⟩,
        ⟨(some 10), none, .bin .lss (.t 8) (.t 9)⟩])
     (.cond (.t 10) (.skip) (.exit 0)))
    (.seq (.block 1 (.reg none [
        ⟨(some 13), none, .mov (.t 5)⟩,
        ⟨(some 14), none, .mov (.t 0)⟩,
        ⟨(some 15), none, .mov (.t 6)⟩,
        ⟨(some 16), none, .bin .shr (.t 14) (.t 15)⟩,
        ⟨(some 17), none, .bin .rem (.t 16) (.c (.int .i64 2))⟩,
        ⟨(some 18), none, .lit 1 3 1 [(.int .i64 0)] [(0, 1, (.t 17))]⟩,
        ⟨(some 19), none, .app 1 3 8 false (.t 13) (.t 18)⟩,
        ⟨(some 5), none, .mov (.t 19)⟩]))
    (.reg none [
      ⟨(some 11), none, .mov (.t 6)⟩,
      ⟨(some 12), none, .bin .add (.t 11) (.c (.int .i64 1))⟩,
      ⟨(some 6), none, .mov (.t 12)⟩]))))))
 (.seq (.reg none [
    ⟨(some 20), none, .mov (.t 5)⟩,
    ⟨(some 4), none, .mov (.t 20)⟩])
 (.ret))))⟩
def c_iBits : IFn := ⟨2, 20, [.t 4],
 .seq (.reg none [
    ⟨(some 4), none, .mov (.c (.slice none 0 0))⟩])
 (.seq (.reg none [
    ⟨(some 5), none, .mov (.c (.slice none 0 0))⟩])
 (.seq (.seq (.reg none [
     ⟨(some 7), none, .mov (.t 1)⟩,
     ⟨(some 8), none, .mov (.c (.int .i64 0))⟩])
  (.block 0 (.loop (.seq (.reg none [
       ⟨(some 9), none, .bin .lss (.t 8) (.t 7)⟩])
    (.seq (.cond (.t 9) (.skip) (.exit 0))
    (.seq (.block 1 (.seq (.reg none [
         ⟨(some 10), none, .mov (.t 8)⟩,
         ⟨(some 6), none, .mov (.t 10)⟩])
      (.reg none [
        ⟨(some 11), none, .mov (.t 5)⟩,
        ⟨(some 12), none, .mov (.t 0)⟩,
        ⟨(some 13), none, .mov (.t 6)⟩,
        ⟨(some 14), none, .bin .shr (.t 12) (.t 13)⟩,
        ⟨(some 15), none, .bin .and (.t 14) (.c (.int .i64 1))⟩,
        ⟨(some 16), none, .lit 1 3 1 [(.int .i64 0)] [(0, 1, (.t 15))]⟩,
        ⟨(some 17), none, .app 1 3 8 true (.t 11) (.t 16)⟩,
        ⟨(some 5), none, .mov (.t 17)⟩])))
    (.reg none [
      ⟨(some 18), none, .bin .add (.t 8) (.c (.int .i64 1))⟩,
      ⟨(some 8), none, .mov (.t 18)⟩])))))))
 (.seq (.reg none [
    ⟨(some 19), none, .mov (.t 5)⟩,
    ⟨(some 4), none, .mov (.t 19)⟩])
 (.ret))))⟩
def c_sSameV : IFn := ⟨3, 29, [.t 6],
 .seq (.reg none [
    ⟨(some 6), none, .mov (.c (.bool false))⟩])
 (.seq (.seq (.reg none [
     ⟨(some 7), none, .mov (.c (.int .i64 0))⟩])
  (.block 0 (.loop (.seq (.seq (.reg none [
        ⟨(some 8), none, .mov (.t 7)⟩,
        ⟨(some 9), none, .mov (.t 2)⟩,
        ⟨(some 10), none, .len (.t 9)⟩,
        ⟨(some 11), none, .bin .lss (.t 8) (.t 10)⟩])
     (.cond (.t 11) (.skip) (.exit 0)))
    (.seq (.block 1 (.seq (.reg (some 13) [
         ⟨(some 14), none, .mov (.t 2)⟩,
         ⟨(some 15), none, .mov (.t 7)⟩,
         ⟨(some 16), none, .iad 1 (.t 14) (.t 15)⟩,
         ⟨(some 17), none, .load false 1 (.t 16)⟩,
         ⟨(some 18), none, .mov (.t 17)⟩,
         ⟨(some 19), (some (18, true)), .mov (.t 0)⟩,
         ⟨(some 20), (some (18, true)), .mov (.t 7)⟩,
         ⟨(some 21), (some (18, true)), .iad 1 (.t 19) (.t 20)⟩,
         ⟨(some 22), (some (18, true)), .load false 1 (.t 21)⟩,
         ⟨(some 23), (some (18, true)), .mov (.t 1)⟩,
         ⟨(some 24), (some (18, true)), .mov (.t 7)⟩,
         ⟨(some 25), (some (18, true)), .iad 1 (.t 23) (.t 24)⟩,
         ⟨(some 26), (some (18, true)), .load false 1 (.t 25)⟩,
         ⟨(some 27), (some (18, true)), .bin .neq (.t 22) (.t 26)⟩,
         ⟨(some 28), none, .pick (.t 18) (.t 27) (.c (.bool false))⟩])
      (.cond (.t 28) (.seq (.reg none [
          ⟨(some 6), none, .mov (.c (.bool false))⟩])
       (.ret)) (.skip))))
    (.reg none [
      ⟨(some 12), none, .mov (.t 7)⟩,
      ⟨(some 13), none, .bin .add (.t 12) (.c (.int .i64 1))⟩,
      ⟨(some 7), none, .mov (.t 13)⟩]))))))
 (.seq (.reg none [
    ⟨(some 6), none, .mov (.c (.bool true))⟩])
 (.ret)))⟩
theorem bv_nat (x : Nat) : BitVec.ofInt 64 (x : Int) = BitVec.ofNat 64 x := BitVec.ofInt_natCast _ _
theorem binI_shrN {x i : Nat} (hi : i ≤ 64) : binI .shr .i64 (x : Int) (i : Int) = some (.int .i64 ((x / 2 ^ i : Nat) : Int)) := by
  show (if (i : Int) < 0 then none else some (Value.int .i64 ((x : Int).fdiv (2 ^ (min (i : Int).toNat 64))))) = _
  rw [if_neg (by omega), Int.toNat_natCast, Nat.min_eq_left hi, Int.fdiv_eq_ediv_of_nonneg _ (Int.pow_nonneg (by omega))]
  congr 2
theorem binI_remN {x : Nat} : binI .rem .i64 (x : Int) 2 = some (.int .i64 ((x % 2 : Nat) : Int)) := by
  show (if (2 : Int) = 0 then none else some (Value.int .i64 ((x : Int).tmod 2))) = _
  rw [if_neg (by omega)]
  congr 2
theorem binI_shlN {i : Nat} (hi : i ≤ 4) : binI .shl .i64 1 (i : Int) = some (.int .i64 ((2 ^ i : Nat) : Int)) := by
  show (if (i : Int) < 0 then none else some (Value.int .i64 (IntKind.i64.wrap (1 * 2 ^ (min (i : Int).toNat 64))))) = _
  have h1 : (2 : Nat) ^ i ≤ 2 ^ 4 := Nat.pow_le_pow_right (by omega) hi
  have h2 : ((1 : Int) * 2 ^ i) = ((2 ^ i : Nat) : Int) := by simp
  rw [if_neg (by omega), Int.toNat_natCast, Nat.min_eq_left (by omega), h2]
  generalize (2 : Nat) ^ i = m at h1
  rw [wrap_id (by omega) (by omega)]
theorem binI_andN {x y : Nat} (hx : x < 4611686018427387904) (hy : y < 4611686018427387904) : binI .and .i64 (x : Int) (y : Int) = some (.int .i64 ((x &&& y : Nat) : Int)) := by
  show some (Value.int .i64 (IntKind.i64.wrap (((BitVec.ofInt 64 (x : Int) &&& BitVec.ofInt 64 (y : Int)).toNat : Nat) : Int))) = _
  have h : x &&& y ≤ x := Nat.and_le_left
  rw [bv_nat, bv_nat, BitVec.toNat_and, BitVec.toNat_ofNat, BitVec.toNat_ofNat, Nat.mod_eq_of_lt (by omega), Nat.mod_eq_of_lt (by omega), wrap_id (by omega) (by omega)]
theorem binI_orN {x y : Nat} (hx : x < 2 ^ 61) (hy : y < 2 ^ 61) : binI .or .i64 (x : Int) (y : Int) = some (.int .i64 ((x ||| y : Nat) : Int)) := by
  show some (Value.int .i64 (IntKind.i64.wrap (((BitVec.ofInt 64 (x : Int) ||| BitVec.ofInt 64 (y : Int)).toNat : Nat) : Int))) = _
  have h : x ||| y < 2 ^ 61 := Nat.or_lt_two_pow hx hy
  rw [bv_nat, bv_nat, BitVec.toNat_or, BitVec.toNat_ofNat, BitVec.toNat_ofNat, Nat.mod_eq_of_lt (by omega), Nat.mod_eq_of_lt (by omega), wrap_id (by omega) (by omega)]
theorem binI_xorN {x y : Nat} (hx : x < 2 ^ 61) (hy : y < 2 ^ 61) : binI .xor .i64 (x : Int) (y : Int) = some (.int .i64 ((x ^^^ y : Nat) : Int)) := by
  show some (Value.int .i64 (IntKind.i64.wrap (((BitVec.ofInt 64 (x : Int) ^^^ BitVec.ofInt 64 (y : Int)).toNat : Nat) : Int))) = _
  have h : x ^^^ y < 2 ^ 61 := Nat.xor_lt_two_pow hx hy
  rw [bv_nat, bv_nat, BitVec.toNat_xor, BitVec.toNat_ofNat, BitVec.toNat_ofNat, Nat.mod_eq_of_lt (by omega), Nat.mod_eq_of_lt (by omega), wrap_id (by omega) (by omega)]
section
variable {α : Type} {fl : α → List Value} {es et lo : Nat} {H H' : Heap} {v : Value} {l : List α}
/-- A list of flat elements in a block of its own, that only grows. -/
def FlO (fl : α → List Value) (es et lo : Nat) (H : Heap) (v : Value) (l : List α) : Prop := ∃ b so, lo ≤ b ∧ v = sli b 0 l.length ∧ H[b]? = some ⟨l.flatMap fl, es, et, true, so⟩
theorem FlO.nil (h : lo ≤ H.length) : FlO fl es et lo (H ++ [⟨[], es, et, true, true⟩]) (sli H.length 0 0) ([] : List α) := ⟨_, true, h, rfl, get_new0 _ _⟩
theorem FlO.blk (h : FlO fl es et lo H v l) {b : Nat} (hb : b ∈ blkOf v) : lo ≤ b ∧ b < H.length ∧ ∃ cs so, H[b]? = some ⟨cs, es, et, true, so⟩ := by
  obtain ⟨b', so, h1, rfl, h3⟩ := h
  simp only [blkOf, sli, List.mem_singleton] at hb
  subst hb
  exact ⟨h1, (List.getElem?_eq_some_iff.1 h3).1, _, so, h3⟩
theorem FlO.gli (h : FlO fl es et lo H v l) (hl : l ≠ []) : GLi fl es et lo H v l := by
  obtain ⟨b, so, h1, h2, h3⟩ := h
  exact .inr ⟨b, so, h1, h2, hl, h3⟩
theorem FlO.shape (h : FlO fl es et lo H v l) : ∃ a, v = .slice a l.length l.length := by
  obtain ⟨b, so, h1, h2, h3⟩ := h
  exact ⟨_, h2⟩
theorem FlO.slE {β : Type} {A : Co β} {V : Vw} (h : FlO fl es et lo H v ([] : List α)) : SlR A V v [] := by
  obtain ⟨b, so, h1, rfl, h3⟩ := h
  exact ⟨by simp, _, rfl, .inl rfl⟩
theorem FlO.slI {l : List Int} (h : FlO fi es et lo H v l) (hr : ∀ x ∈ l, RgI x) (hl : l.length ≤ 1000) : SlR Co.int (vw 0 H) v l := by
  by_cases h0 : l = []
  · subst h0; exact h.slE
  · exact (h.gli h0).slI (es := es) hr hl
theorem FlO.slP {l : List (Int × Int)} (h : FlO fp 2 et lo H v l) (hr : ∀ p ∈ l, RgI p.1 ∧ RgI p.2) (hl : l.length ≤ 1000) : SlR Co.p2 (vw 0 H) v l := by
  by_cases h0 : l = []
  · subst h0; exact h.slE
  · exact (h.gli h0).slP (es := 1) hr hl
theorem FlO.slB {l : List Bool} (h : FlO fb 1 et lo H v l) (hl : l.length ≤ 1000) : SlR Co.bool (vw 0 H) v l := by
  by_cases h0 : l = []
  · subst h0; exact h.slE
  · exact (h.gli h0).slB (es := 1) hl
theorem op_app_FO {F : Nat → Option IFn} {bytes lo0 : Nat} {x y : Opd} {e : Env} {w : Value} {a : α} {K : Value → Heap → Prop} (hw : ∀ a, (fl a).length = es) (hv : FlO fl es et lo H w l) (hx : x.ev e = w) (hy : y.ev e = sli H.length 0 1) (hlo : lo0 ≤ lo) (hlo2 : lo ≤ H.length) (hl : l.length < 1048576) (hb : bytes ≤ 1048576)
    (k : ∀ H' w', AgX (blkOf w) H H' → FlO fl es et lo H' w' (l ++ [a]) → K w' H') : wpOp F lo0 (.app es et bytes false x y) e (H ++ [⟨fl a, es, et, true, true⟩]) K := by
  have hgl : getCells (H ++ [⟨fl a, es, et, true, true⟩]) H.length 0 (1 * es) = some (fl a) := by
    unfold getCells
    rw [get_new0]
    simp only [List.getElem?_cons_zero, Nat.one_mul, Nat.zero_add]
    rw [if_pos (by rw [hw]; omega), List.drop_zero, List.take_of_length_le (by rw [hw]; omega)]
  obtain ⟨b, so, h1, rfl, h4⟩ := hv
  have hbl := (List.getElem?_eq_some_iff.1 h4).1
  have hbytes : (l.length + 1) * bytes ≤ 1048576 * 1048576 := Nat.mul_le_mul (by omega) hb
  refine op_app _ _ _ _ _ (b := ⟨b, 0, none⟩) (n := l.length) (c := l.length) (a := ⟨H.length, 0, none⟩) (m := 1) (c' := 1) (ys := fl a) (kb := ⟨l.flatMap fl, es, et, true, so⟩) hx hy (by omega) hgl (by show (H ++ [_])[b]? = _; rw [List.getElem?_append_left hbl]; exact h4) ⟨by show lo0 ≤ b; omega, rfl, rfl, rfl, rfl, flat_len hw l, by omega, by omega⟩ ?_
  simp only [Bool.false_eq_true, if_false, Bool.or_false, List.length_append, List.length_cons, List.length_nil, Nat.zero_add]
  rw [List.set_append_left _ _ hbl, List.append_assoc]
  have hag : AgX [b] H (H.set b ⟨l.flatMap fl, es, et, false, so && l.length == 0⟩ ++ ([⟨fl a, es, et, true, true⟩] ++ [⟨l.flatMap fl ++ fl a, es, et, true, so && l.length == 0⟩])) := (AgX.set H b _).trans (AgX.app [] _ _) (fun b h _ => h) (fun b h _ => by cases h)
  refine k _ _ hag ⟨H.length + 1, so && l.length == 0, by omega, by simp, ?_⟩
  have : H.length + 1 = (H.set b ⟨l.flatMap fl, es, et, false, so && l.length == 0⟩).length + 1 := by rw [List.length_set]
  rw [this, get_new]
  simp
/-- A list of flat elements in a block of its own that nobody else has, or nil. -/
def GLs (fl : α → List Value) (es et lo : Nat) (H : Heap) (v : Value) (l : List α) : Prop := (v = nilS ∧ l = []) ∨ ∃ b, lo ≤ b ∧ v = sli b 0 l.length ∧ l ≠ [] ∧ H[b]? = some ⟨l.flatMap fl, es, et, true, true⟩
theorem GLs.gli (h : GLs fl es et lo H v l) : GLi fl es et lo H v l := h.imp id fun ⟨b, h1, h2, h3, h4⟩ => ⟨b, true, h1, h2, h3, h4⟩
theorem GLs.keep {xs : List Nat} (h : GLs fl es et lo H v l) (hx : AgX xs H H') (hn : ∀ b, b ∈ blkOf v → b ∉ xs) : GLs fl es et lo H' v l := by
  rcases h with h | ⟨b, h1, rfl, h3, h4⟩
  · exact .inl h
  · exact .inr ⟨b, h1, rfl, h3, hx.get h4 (hn b (by simp [blkOf, sli]))⟩
theorem GLs.blk (h : GLs fl es et lo H v l) {b : Nat} (hb : b ∈ blkOf v) : lo ≤ b ∧ b < H.length := by
  rcases h with ⟨rfl, _⟩ | ⟨b', h1, rfl, h3, h4⟩
  · simp [blkOf, nilS] at hb
  · simp only [blkOf, sli, List.mem_singleton] at hb
    subst hb
    exact ⟨h1, (List.getElem?_eq_some_iff.1 h4).1⟩
theorem op_app_flK {F : Nat → Option IFn} {bytes lo0 : Nat} {x y : Opd} {e : Env} {w : Value} {a : α} {K : Value → Heap → Prop} (hw : ∀ a, (fl a).length = es) (hv : GLs fl es et lo H w l) (hx : x.ev e = w) (hy : y.ev e = sli H.length 0 1) (hlo : lo0 ≤ lo) (hlo2 : lo ≤ H.length) (hl : l.length < 1048576) (hb : bytes ≤ 1048576)
    (k : ∀ H' w', AgX (blkOf w) H H' → GLs fl es et lo H' w' (l ++ [a]) → K w' H') : wpOp F lo0 (.app es et bytes true x y) e (H ++ [⟨fl a, es, et, true, true⟩]) K := by
  have hgl : getCells (H ++ [⟨fl a, es, et, true, true⟩]) H.length 0 (1 * es) = some (fl a) := by
    unfold getCells
    rw [get_new0]
    simp only [List.getElem?_cons_zero, Nat.one_mul, Nat.zero_add]
    rw [if_pos (by rw [hw]; omega), List.drop_zero, List.take_of_length_le (by rw [hw]; omega)]
  rcases hv with ⟨rfl, rfl⟩ | ⟨b, h1, rfl, h3, h4⟩
  · refine op_app_nil _ _ _ _ _ (a := ⟨H.length, 0, none⟩) (m := 1) hx hy (by omega) hgl (by omega) (by omega) ?_
    rw [List.append_assoc, List.length_append]
    exact k _ _ (AgX.app _ _ _) (.inr ⟨_, by rw [List.length_singleton]; omega, rfl, by simp, by rw [get_new]; simp⟩)
  · have hbl := (List.getElem?_eq_some_iff.1 h4).1
    have hbytes : (l.length + 1) * bytes ≤ 1048576 * 1048576 := Nat.mul_le_mul (by omega) hb
    refine op_app _ _ _ _ _ (b := ⟨b, 0, none⟩) (n := l.length) (c := l.length) (a := ⟨H.length, 0, none⟩) (m := 1) (c' := 1) (ys := fl a) (kb := ⟨l.flatMap fl, es, et, true, true⟩) hx hy (by omega) hgl (by show (H ++ [_])[b]? = _; rw [List.getElem?_append_left hbl]; exact h4) ⟨by show lo0 ≤ b; omega, rfl, rfl, rfl, rfl, flat_len hw l, by omega, by omega⟩ ?_
    simp only [if_true, Bool.or_true, Bool.and_true, Bool.true_and, List.length_append, List.length_cons, List.length_nil, Nat.zero_add]
    rw [List.set_append_left _ _ hbl, List.append_assoc]
    have hag : AgX [b] H (H.set b ⟨[], es, et, false, l.length == 0⟩ ++ ([⟨fl a, es, et, true, true⟩] ++ [⟨l.flatMap fl ++ fl a, es, et, true, true⟩])) := (AgX.set H b _).trans (AgX.app [] _ _) (fun b h _ => h) (fun b h _ => by cases h)
    refine k _ _ hag (.inr ⟨H.length + 1, by omega, by simp, by simp, ?_⟩)
    have : H.length + 1 = (H.set b ⟨[], es, et, false, l.length == 0⟩).length + 1 := by rw [List.length_set]
    rw [this, get_new]
    simp
end
def BitsOk (F : Nat → Option IFn) (f : Nat) : Prop := ∀ (H : Heap) (n k : Nat), n < 4294967296 → k ≤ 4 → ∃ z H', KC F f [.int .i64 n, .int .i64 k] H z H' ∧ AgX [] H H' ∧ SlR Co.int (vw 0 H') z (rowL n k)
def BitsOwn (F : Nat → Option IFn) (f : Nat) : Prop := ∀ (H : Heap) (n k : Nat), n < 4294967296 → k ≤ 4 → ∃ z H', KC F f [.int .i64 n, .int .i64 k] H z H' ∧ AgX [] H H' ∧ GLs fi 1 3 H.length H' z (rowL n k)
theorem rowL_RgI (n k : Nat) : ∀ x ∈ rowL n k, RgI x := fun x hx => by have := rowL_rg n k x hx; unfold RgI; omega
theorem sBits_ok {F : Nat → Option IFn} {f : Nat} (hf : F f = some c_sBits) : BitsOk F f := by
  intro H n k hn hk
  suffices hh : ∃ z H', KC F f [.int .i64 n, .int .i64 k] H z H' ∧ (AgX [] H H' ∧ SlR Co.int (vw 0 H') z (rowL n k)) from hh
  refine KC.mk hf rfl ?_
  refine seq_reg ?_
  simp only [go_sem, binC]
  refine seq_reg ?_
  simp only [go_sem, binC]
  refine wpc_gen fun H1 hH1 => ?_
  have hx1 : AgX [] H H1 := hH1 ▸ AgX.app [] _ _
  have ho1 : FlO fi 1 3 H.length H1 (sli H.length 0 0) [] := hH1 ▸ FlO.nil (Nat.le_refl _)
  clear hH1
  refine seq_assoc (seq_reg ?_)
  simp only [go_sem, binC]
  refine seq_block (wpc_loop ?_)
  suffices hh : ∀ (m i : Nat) (e : Env) (Hc : Heap) (v : Value), i + m = k → AgX [] H Hc → FlO fi 1 3 H.length Hc v (rowL n i) → e 0 = .int .i64 n → e 1 = .int .i64 k → e 5 = v → e 6 = .int .i64 i → W F H.length _ e Hc _ from
    hh k 0 _ H1 _ (by omega) hx1 ho1 (by simp only [go_sem, binC]) (by simp only [go_sem, binC]) (by (simp only [go_sem, binC]) <;> rfl) (by (simp only [go_sem, binC]) <;> rfl)
  intro m
  induction m with
  | zero =>
    intro i e Hc v hi hxc ho e0 e1 e5 e6
    refine lp_step ?_
    refine seq_assoc (seq_reg ?_)
    simp only [go_sem, binC, e1, e6]
    refine seq_cond (t := false) (by simp only [go_sem, binC]; rw [decide_eq_false (by omega)]) ?_
    simp only [go_sem, binC]
    refine seq_exit ?_
    simp only [go_sem, binC, thenX_e, out_e, thenX_n]
    refine seq_reg ?_
    simp only [go_sem, binC, e5]
    obtain rfl : i = k := by omega
    obtain ⟨a, rfl⟩ := ho.shape
    exact wpc_ret ⟨Or.inr rfl, _, (by (simp only [go_sem, binC]) <;> rfl), hxc, ho.slI (rowL_RgI _ _) (by rw [rowL_len]; omega)⟩
  | succ m ih =>
    intro i e Hc v hi hxc ho e0 e1 e5 e6
    have hsh : binI .shr .i64 (n : Int) (i : Int) = some (.int .i64 ((n / 2 ^ i : Nat) : Int)) := binI_shrN (by omega)
    have hrm : binI .rem .i64 ((n / 2 ^ i : Nat) : Int) 2 = some (.int .i64 ((n / 2 ^ i % 2 : Nat) : Int)) := binI_remN
    have hw1 : IntKind.i64.wrap ((i : Int) + 1) = ((i + 1 : Nat) : Int) := by rw [wrap_id (by omega) (by omega)]; omega
    refine lp_step ?_
    refine seq_assoc (seq_reg ?_)
    simp only [go_sem, binC, e1, e6]
    refine seq_cond (t := true) (by simp only [go_sem, binC]; rw [decide_eq_true (by omega)]) ?_
    simp only [go_sem, binC]
    refine seq_skip (seq_block (wpc_reg ?_))
    simp only [go_sem, binC, e5, e0, e6, hsh, hrm]
    have hlc := hxc.1
    have hblk := fun b (hb : b ∈ blkOf v) => (ho.blk hb).1
    refine op_app_FO (fl := fi) (a := ((n / 2 ^ i % 2 : Nat) : Int)) (lo := H.length) (fun _ => rfl) ho (by simp only [go_sem, binC, e5]) (by (simp only [go_sem, binC]) <;> rfl) (Nat.le_refl _) hlc (by rw [rowL_len]; omega) (by omega) fun H3 w3 hx3 q3 => ?_
    simp only [go_sem, binC, out_n, thenX_n]
    refine wpc_reg ?_
    simp only [go_sem, binC, e6, hw1]
    simp only [go_sem, binC, thenX_n]
    rw [← rowL_succ] at q3
    exact ih (i + 1) _ H3 w3 (by omega) (hxc.trans hx3 (fun _ h _ => h) (fun b h1 h2 => by have := hblk b h1; omega)) q3 (by simp only [go_sem, binC, e0]) (by simp only [go_sem, binC, e1]) (by simp only [go_sem, binC]) (by simp only [go_sem, binC])
theorem iBits_ok {F : Nat → Option IFn} {f : Nat} (hf : F f = some c_iBits) : BitsOwn F f := by
  intro H n k hn hk
  suffices hh : ∃ z H', KC F f [.int .i64 n, .int .i64 k] H z H' ∧ (AgX [] H H' ∧ GLs fi 1 3 H.length H' z (rowL n k)) from hh
  refine KC.mk hf rfl ?_
  refine seq_reg ?_
  simp only [go_sem, binC]
  refine seq_reg ?_
  simp only [go_sem, binC]
  refine seq_assoc (seq_reg ?_)
  simp only [go_sem, binC]
  refine seq_block (wpc_loop ?_)
  suffices hh : ∀ (m i : Nat) (e : Env) (Hc : Heap) (v : Value), i + m = k → AgX [] H Hc → GLs fi 1 3 H.length Hc v (rowL n i) → e 0 = .int .i64 n → e 5 = v → e 7 = .int .i64 k → e 8 = .int .i64 i → W F H.length _ e Hc _ from
    hh k 0 _ H _ (by omega) (AgX.refl _ _) (.inl ⟨rfl, rfl⟩) (by simp only [go_sem, binC]) (by (simp only [go_sem, binC]) <;> rfl) (by simp only [go_sem, binC]) (by (simp only [go_sem, binC]) <;> rfl)
  intro m
  induction m with
  | zero =>
    intro i e Hc v hi hxc ho e0 e5 e7 e8
    refine lp_step ?_
    refine seq_reg ?_
    simp only [go_sem, binC, e7, e8]
    refine seq_cond (t := false) (by simp only [go_sem, binC]; rw [decide_eq_false (by omega)]) ?_
    simp only [go_sem, binC]
    refine seq_exit ?_
    simp only [go_sem, binC, thenX_e, out_e, thenX_n]
    refine seq_reg ?_
    simp only [go_sem, binC, e5]
    obtain rfl : i = k := by omega
    have ov := ho.gli.one
    exact wpc_ret ⟨Or.inr rfl, _, (by (simp only [go_sem, binC, ov]) <;> rfl), hxc, ho⟩
  | succ m ih =>
    intro i e Hc v hi hxc ho e0 e5 e7 e8
    have hsh : binI .shr .i64 (n : Int) (i : Int) = some (.int .i64 ((n / 2 ^ i : Nat) : Int)) := binI_shrN (by omega)
    have hdv : n / 2 ^ i ≤ n := Nat.div_le_self _ _
    have hrm : binI .and .i64 ((n / 2 ^ i : Nat) : Int) 1 = some (.int .i64 ((n / 2 ^ i % 2 : Nat) : Int)) := by
      have := binI_andN (x := n / 2 ^ i) (y := 1) (by omega) (by omega)
      rw [Nat.and_one_is_mod] at this
      exact this
    have hw1 : IntKind.i64.wrap ((i : Int) + 1) = ((i + 1 : Nat) : Int) := by rw [wrap_id (by omega) (by omega)]; omega
    refine lp_step ?_
    refine seq_reg ?_
    simp only [go_sem, binC, e7, e8]
    refine seq_cond (t := true) (by simp only [go_sem, binC]; rw [decide_eq_true (by omega)]) ?_
    simp only [go_sem, binC]
    refine seq_skip (seq_block (seq_reg ?_))
    simp only [go_sem, binC, e8]
    refine wpc_reg ?_
    simp only [go_sem, binC, e5, e0, hsh, hrm]
    have hlc := hxc.1
    have hblk := fun b (hb : b ∈ blkOf v) => (ho.blk hb).1
    refine op_app_flK (fl := fi) (a := ((n / 2 ^ i % 2 : Nat) : Int)) (lo := H.length) (fun _ => rfl) ho (by simp only [go_sem, binC, e5]) (by (simp only [go_sem, binC]) <;> rfl) (Nat.le_refl _) hlc (by rw [rowL_len]; omega) (by omega) fun H3 w3 hx3 q3 => ?_
    simp only [go_sem, binC, out_n, thenX_n]
    refine wpc_reg ?_
    simp only [go_sem, binC, e8, hw1]
    simp only [go_sem, binC, thenX_n]
    rw [← rowL_succ] at q3
    exact ih (i + 1) _ H3 w3 (by omega) (hxc.trans hx3 (fun _ h _ => h) (fun b h1 h2 => by have := hblk b h1; omega)) q3 (by simp only [go_sem, binC, e0]) (by simp only [go_sem, binC]) (by simp only [go_sem, binC, e7]) (by simp only [go_sem, binC])
def SameV (F : Nat → Option IFn) (f : Nat) : Prop := ∀ (H : Heap) (v w u : Value) (p q k : Nat) (vs : List Bool), SlR Co.int (vw 0 H) v (rowL p k) → SlR Co.int (vw 0 H) w (rowL q k) → SlR Co.bool (vw 0 H) u vs → vs.length = k → k ≤ 4 → QC F f [v, w, u] H (.bool (sameR vs p q))
theorem sSameV_ok {F : Nat → Option IFn} {f : Nat} (hf : F f = some c_sSameV) : SameV F f := by
  intro H v w u p q k vs hv hw hu hk hk4
  have hlp := rowL_len p k
  have hlq := rowL_len q k
  obtain ⟨_, va, rfl, _⟩ := id hv
  obtain ⟨_, wa, rfl, _⟩ := id hw
  obtain ⟨_, ua, rfl, _⟩ := id hu
  refine QC.mk hf rfl ?_
  refine seq_reg ?_
  simp only [go_sem, binC]
  refine seq_assoc (seq_reg ?_)
  simp only [go_sem, binC]
  refine seq_block (wpc_loop ?_)
  suffices hh : ∀ (m i : Nat) (e : Env), i + m = vs.length → (∀ j, j < i → vs.getD j false = true → p / 2 ^ j % 2 = q / 2 ^ j % 2) → e 0 = .slice va (rowL p k).length (rowL p k).length → e 1 = .slice wa (rowL q k).length (rowL q k).length → e 2 = .slice ua vs.length vs.length → e 7 = .int .i64 i → W F H.length _ e H _ from
    hh vs.length 0 _ (by omega) (fun j h => by omega) (by simp only [go_sem, binC]) (by simp only [go_sem, binC]) (by simp only [go_sem, binC]) (by (simp only [go_sem, binC]) <;> rfl)
  intro m
  induction m with
  | zero =>
    intro i e hi hj e0 e1 e2 e7
    refine lp_step ?_
    refine seq_assoc (seq_reg ?_)
    simp only [go_sem, binC, e2, e7]
    refine seq_cond (t := false) (by simp only [go_sem, binC]; rw [decide_eq_false (by omega)]) ?_
    simp only [go_sem, binC]
    refine seq_exit ?_
    simp only [go_sem, binC, thenX_e, out_e, thenX_n]
    refine seq_reg ?_
    simp only [go_sem, binC]
    refine wpc_ret ⟨Or.inr rfl, _, (by (simp only [go_sem, binC]) <;> rfl), ?_, rfl⟩
    rw [show sameR vs p q = true from sameR_iff.2 fun j h => hj j (by omega)]
  | succ m ih =>
    intro i e hi hj e0 e1 e2 e7
    have hiv : i < vs.length := by omega
    have hw1 : IntKind.i64.wrap ((i : Int) + 1) = ((i + 1 : Nat) : Int) := by rw [wrap_id (by omega) (by omega)]; omega
    obtain ⟨ub, uo, huv, hgu⟩ := gcBo hu hiv
    obtain ⟨vb, vo, hvv, hgv⟩ := gcI0 hv (show i < (rowL p k).length by omega)
    obtain ⟨wb, wo, hwv, hgw⟩ := gcI0 hw (show i < (rowL q k).length by omega)
    simp only [Value.slice.injEq, and_true] at huv hvv hwv
    subst huv hvv hwv
    rw [rowL_get] at hgv hgw
    have hvs : vs.getD i false = vs[i] := by simp [List.getD, hiv]
    refine lp_step ?_
    refine seq_assoc (seq_reg ?_)
    simp only [go_sem, binC, e2, e7]
    refine seq_cond (t := true) (by simp only [go_sem, binC]; rw [decide_eq_true (by omega)]) ?_
    simp only [go_sem, binC]
    refine seq_skip (seq_block (seq_regD ?_))
    simp only [go_sem, binC, e2, e7]
    refine ⟨⟨by omega, by omega⟩, ?_⟩
    simp only [go_sem, binC, Int.toNat_natCast, Nat.mul_one, hgu]
    have hnext : ∀ e' : Env, (vs.getD i false = true → p / 2 ^ i % 2 = q / 2 ^ i % 2) → e' 0 = .slice (some ⟨vb, vo, none⟩) (rowL p k).length (rowL p k).length → e' 1 = .slice (some ⟨wb, wo, none⟩) (rowL q k).length (rowL q k).length → e' 2 = .slice (some ⟨ub, uo, none⟩) vs.length vs.length → e' 7 = .int .i64 ((i + 1 : Nat) : Int) → W F H.length _ e' H _ := fun e' hq q0 q1 q2 q7 => ih (i + 1) e' (by omega) (fun j h1 h2 => by
      rcases Nat.lt_or_ge j i with hl | hl
      · exact hj j hl h2
      · obtain rfl : j = i := by omega
        exact hq h2) q0 q1 q2 q7
    cases hvi : vs[i] with
    | false =>
      simp only [go_sem, binC]
      refine wpc_cond (t := false) rfl ?_
      simp only [go_sem, binC]
      refine wpc_skip ?_
      simp only [go_sem, binC, out_n, thenX_n]
      refine wpc_reg ?_
      simp only [go_sem, binC, e7, hw1]
      simp only [go_sem, binC, thenX_n]
      exact hnext _ (fun h => by rw [hvs, hvi] at h; cases h) (by simp only [go_sem, binC, e0]) (by simp only [go_sem, binC, e1]) (by simp only [go_sem, binC, e2]) (by simp only [go_sem, binC])
    | true =>
      simp only [go_sem, binC, e0, e7]
      refine ⟨⟨by omega, by omega⟩, ?_⟩
      simp only [go_sem, binC, Int.toNat_natCast, Nat.mul_one, hgv, e1, e7]
      refine ⟨⟨by omega, by omega⟩, ?_⟩
      simp only [go_sem, binC, Int.toNat_natCast, Nat.mul_one, hgw]
      by_cases hpq : p / 2 ^ i % 2 = q / 2 ^ i % 2
      · have hne : (((p / 2 ^ i % 2 : Nat) : Int) != ((q / 2 ^ i % 2 : Nat) : Int)) = false := by rw [hpq]; exact bne_self_eq_false _
        simp only [go_sem, binC, hne]
        refine wpc_cond (t := false) rfl ?_
        simp only [go_sem, binC]
        refine wpc_skip ?_
        simp only [go_sem, binC, out_n, thenX_n]
        refine wpc_reg ?_
        simp only [go_sem, binC, e7, hw1]
        simp only [go_sem, binC, thenX_n]
        exact hnext _ (fun _ => hpq) (by simp only [go_sem, binC, e0]) (by simp only [go_sem, binC, e1]) (by simp only [go_sem, binC, e2]) (by simp only [go_sem, binC])
      · have hne : (((p / 2 ^ i % 2 : Nat) : Int) != ((q / 2 ^ i % 2 : Nat) : Int)) = true := by rw [bne_iff_ne]; omega
        simp only [go_sem, binC, hne]
        refine wpc_cond (t := true) rfl ?_
        simp only [go_sem, binC]
        refine seq_reg ?_
        simp only [go_sem, binC]
        refine wpc_ret ?_
        simp only [go_sem, binC, out_r, thenX_r]
        refine ⟨Or.inr rfl, .bool false, by simp only [go_sem, binC], ?_, rfl⟩
        have : sameR vs p q = false := Bool.eq_false_iff.2 fun h => hpq (sameR_iff.1 h i hiv (by rw [hvs, hvi]))
        rw [this]
end Go.Proofs.YtkmghcglmjehcaaI
end
