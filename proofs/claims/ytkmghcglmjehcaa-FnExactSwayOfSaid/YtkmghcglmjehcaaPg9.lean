/- Texts of this proof, merged: W6, W7, W8, GL67, K17, CL67. -/
import Derived.Test.YtkmghcglmjehcaaPg6
import Derived.Test.YtkmghcglmjehcaaPg8
import Derived.Test.YtkmghcglmjehcaaRows
section
/- The first two rows that tell something that may not be known, or set what is trusted (the program's). -/
set_option linter.unusedVariables false
set_option linter.unusedSimpArgs false
namespace Go.Proofs.YtkmghcglmjehcaaI
open Go Go.RowKit
def c_iPair : IFn := ⟨3, 78, [.t 6, .t 7, .t 8],
 .seq (.reg none [
    ⟨(some 3), none, .box (.t 0)⟩,
    ⟨(some 6), none, .mov (.c (.slice none 0 0))⟩,
    ⟨(some 7), none, .mov (.c (.slice none 0 0))⟩,
    ⟨(some 8), none, .mov (.c (.bool false))⟩])
 (.seq (.reg none [
    ⟨(some 19), none, .fad 0 (.t 3)⟩,
    ⟨(some 20), none, .load false 1 (.t 19)⟩,
    ⟨(some 21), none, .len (.t 20)⟩,
    ⟨(some 9), none, .mov (.t 21)⟩])
 (.seq (.reg none [
    ⟨(some 10), none, .mov (.c (.int .i64 0))⟩])
 (.seq (.seq (.reg none [
     ⟨(some 22), none, .mov (.t 1)⟩,
     ⟨(some 23), none, .len (.t 22)⟩,
     ⟨(some 24), none, .mov (.c (.int .i64 0))⟩])
  (.block 0 (.loop (.seq (.reg none [
       ⟨(some 25), none, .bin .lss (.t 24) (.t 23)⟩])
    (.seq (.cond (.t 25) (.skip) (.exit 0))
    (.seq (.block 1 (.seq (.reg none [
         ⟨(some 26), none, .mov (.t 24)⟩,
         ⟨(some 27), none, .iad 1 (.t 22) (.t 24)⟩,
         ⟨(some 28), none, .load false 1 (.t 27)⟩,
         ⟨(some 11), none, .mov (.t 26)⟩,
         ⟨(some 12), none, .mov (.t 28)⟩])
      (.seq (.reg none [
         ⟨(some 29), none, .mov (.t 12)⟩])
      (.cond (.t 29) (.reg none [
         ⟨(some 30), none, .mov (.t 10)⟩,
         ⟨(some 31), none, .mov (.t 11)⟩,
         ⟨(some 32), none, .bin .shl (.c (.int .i64 1)) (.t 31)⟩,
         ⟨(some 33), none, .bin .or (.t 30) (.t 32)⟩,
         ⟨(some 10), none, .mov (.t 33)⟩]) (.skip)))))
    (.reg none [
      ⟨(some 34), none, .bin .add (.t 24) (.c (.int .i64 1))⟩,
      ⟨(some 24), none, .mov (.t 34)⟩])))))))
 (.seq (.seq (.reg none [
     ⟨(some 35), none, .mov (.t 9)⟩,
     ⟨(some 36), none, .bin .shl (.c (.int .i64 1)) (.t 35)⟩,
     ⟨(some 37), none, .mov (.c (.int .i64 0))⟩])
  (.block 2 (.loop (.seq (.reg none [
       ⟨(some 38), none, .bin .lss (.t 37) (.t 36)⟩])
    (.seq (.cond (.t 38) (.skip) (.exit 2))
    (.seq (.block 3 (.seq (.reg none [
         ⟨(some 39), none, .mov (.t 37)⟩,
         ⟨(some 13), none, .mov (.t 39)⟩])
      (.seq (.reg none [
         ⟨(some 40), none, .mov (.t 13)⟩,
         ⟨(some 41), none, .mov (.c (.int .i64 0))⟩])
      (.block 4 (.loop (.seq (.reg none [
           ⟨(some 42), none, .bin .lss (.t 41) (.t 40)⟩])
        (.seq (.cond (.t 42) (.skip) (.exit 4))
        (.seq (.block 5 (.seq (.reg none [
             ⟨(some 43), none, .mov (.t 41)⟩,
             ⟨(some 14), none, .mov (.t 43)⟩])
          (.seq (.seq (.reg none [
              ⟨(some 44), none, .mov (.t 14)⟩,
              ⟨(some 45), none, .mov (.t 13)⟩,
              ⟨(some 46), none, .bin .xor (.t 44) (.t 45)⟩,
              ⟨(some 47), none, .mov (.t 10)⟩,
              ⟨(some 48), none, .bin .and (.t 46) (.t 47)⟩,
              ⟨(some 49), none, .bin .neq (.t 48) (.c (.int .i64 0))⟩])
           (.cond (.t 49) (.exit 5) (.skip)))
          (.seq (.regW 9 [
             ⟨(some 51), none, .load true 2 (.t 3)⟩,
             ⟨(some 52), none, .mov (.t 14)⟩,
             ⟨(some 53), none, .mov (.t 9)⟩,
             ⟨(some 54), none, .call .k (.f 137) [(.t 52), (.t 53)]⟩,
             ⟨(some 55), none, .call .k (.f 26) [(.t 51), (.t 54)]⟩,
             ⟨(some 50), none, .mov (.t 55)⟩,
             ⟨(some 56), none, .ext (.t 50) 0⟩,
             ⟨(some 57), none, .ext (.t 50) 1⟩,
             ⟨(some 15), none, .new [(.slice none 0 0), (.slice none 0 0), (.slice none 0 0)]⟩,
             ⟨none, none, .store 3 (.t 15) (.t 56)⟩,
             ⟨(some 16), none, .mov (.t 57)⟩])
          (.seq (.regW 9 [
             ⟨(some 59), none, .load true 2 (.t 3)⟩,
             ⟨(some 60), none, .mov (.t 13)⟩,
             ⟨(some 61), none, .mov (.t 9)⟩,
             ⟨(some 62), none, .call .k (.f 137) [(.t 60), (.t 61)]⟩,
             ⟨(some 63), none, .call .k (.f 26) [(.t 59), (.t 62)]⟩,
             ⟨(some 58), none, .mov (.t 63)⟩,
             ⟨(some 64), none, .ext (.t 58) 0⟩,
             ⟨(some 65), none, .ext (.t 58) 1⟩,
             ⟨(some 17), none, .new [(.slice none 0 0), (.slice none 0 0), (.slice none 0 0)]⟩,
             ⟨none, none, .store 3 (.t 17) (.t 64)⟩,
             ⟨(some 18), none, .mov (.t 65)⟩])
          (.seq (.reg none [
             ⟨(some 66), none, .mov (.t 2)⟩,
             ⟨(some 67), none, .load true 3 (.t 15)⟩,
             ⟨(some 68), none, .load true 3 (.t 17)⟩,
             ⟨(some 69), none, .call .q (.t 66) [(.t 67), (.t 68)]⟩])
          (.cond (.t 69) (.seq (.reg none [
              ⟨(some 70), none, .mov (.t 14)⟩,
              ⟨(some 71), none, .mov (.t 9)⟩,
              ⟨(some 72), none, .call .k (.f 137) [(.t 70), (.t 71)]⟩,
              ⟨(some 73), none, .mov (.t 13)⟩,
              ⟨(some 74), none, .mov (.t 9)⟩,
              ⟨(some 75), none, .call .k (.f 137) [(.t 73), (.t 74)]⟩,
              ⟨(some 6), none, .mov (.t 72)⟩,
              ⟨(some 7), none, .mov (.t 75)⟩,
              ⟨(some 8), none, .mov (.c (.bool true))⟩])
           (.ret)) (.skip))))))))
        (.reg none [
          ⟨(some 76), none, .bin .add (.t 41) (.c (.int .i64 1))⟩,
          ⟨(some 41), none, .mov (.t 76)⟩])))))))))
    (.reg none [
      ⟨(some 77), none, .bin .add (.t 37) (.c (.int .i64 1))⟩,
      ⟨(some 37), none, .mov (.t 77)⟩])))))))
 (.seq (.reg none [
    ⟨(some 6), none, .mov (.c (.slice none 0 0))⟩,
    ⟨(some 7), none, .mov (.c (.slice none 0 0))⟩,
    ⟨(some 8), none, .mov (.c (.bool false))⟩])
 (.ret))))))⟩
def c_iSwayOf : IFn := ⟨2, 26, [.t 4, .t 5, .t 6],
 .seq (.reg none [
    ⟨(some 2), none, .box (.t 0)⟩,
    ⟨(some 4), none, .mov (.c (.slice none 0 0))⟩,
    ⟨(some 5), none, .mov (.c (.slice none 0 0))⟩,
    ⟨(some 6), none, .mov (.c (.bool false))⟩])
 (.seq (.seq (.reg none [
     ⟨(some 8), none, .load true 2 (.t 2)⟩,
     ⟨(some 9), none, .call .q (.f 54) [(.t 8)]⟩,
     ⟨(some 10), none, .un .not (.t 9)⟩,
     ⟨(some 11), none, .mov (.t 10)⟩,
     ⟨(some 12), (some (11, false)), .mov (.t 1)⟩,
     ⟨(some 13), (some (11, false)), .call .q (.f 89) [(.t 12)]⟩,
     ⟨(some 14), (some (11, false)), .un .not (.t 13)⟩,
     ⟨(some 15), none, .pick (.t 11) (.c (.bool true)) (.t 14)⟩])
  (.cond (.t 15) (.seq (.reg none [
      ⟨(some 4), none, .mov (.c (.slice none 0 0))⟩,
      ⟨(some 5), none, .mov (.c (.slice none 0 0))⟩,
      ⟨(some 6), none, .mov (.c (.bool false))⟩])
   (.ret)) (.skip)))
 (.seq (.reg none [
    ⟨(some 16), none, .load true 2 (.t 2)⟩,
    ⟨(some 17), none, .mov (.t 1)⟩,
    ⟨(some 18), none, .call .k (.f 96) [(.t 16), (.t 17)]⟩,
    ⟨(some 7), none, .new [(.slice none 0 0)]⟩,
    ⟨none, none, .store 1 (.t 7) (.t 18)⟩])
 (.seq (.reg none [
    ⟨(some 19), none, .load true 2 (.t 2)⟩,
    ⟨(some 20), none, .load false 1 (.t 7)⟩,
    ⟨(some 21), none, .mkf 97 [] [(.t 7)]⟩,
    ⟨(some 22), none, .call .k (.f 90) [(.t 19), (.t 20), (.t 21)]⟩,
    ⟨(some 23), none, .ext (.t 22) 0⟩,
    ⟨(some 24), none, .ext (.t 22) 1⟩,
    ⟨(some 25), none, .ext (.t 22) 2⟩,
    ⟨(some 4), none, .mov (.t 23)⟩,
    ⟨(some 5), none, .mov (.t 24)⟩,
    ⟨(some 6), none, .mov (.t 25)⟩])
 (.ret))))⟩
theorem GLs.slI {et lo : Nat} {H : Heap} {v : Value} {l : List Int} (h : GLs fi 1 et lo H v l) (hr : ∀ x ∈ l, RgI x) (hl : l.length ≤ 1000) : SlR Co.int (vw 0 H) v l := h.gli.slI (es := 1) hr hl
theorem GLs.lo {α : Type} {fl : α → List Value} {es et lo lo' : Nat} {H : Heap} {v : Value} {l : List α} (h : GLs fl es et lo H v l) (hl : lo' ≤ lo) : GLs fl es et lo' H v l := h.imp id fun ⟨b, h1, h2⟩ => ⟨b, Nat.le_trans hl h1, h2⟩
/-- Two rows, each in memory of its own. -/
def TwoR (lo : Nat) (H : Heap) (k : Nat) (a b : Value) (r : Option (Nat × Nat)) : Prop := GLs fi 1 3 lo H a (rowsO k r).1 ∧ GLs fi 1 3 lo H b (rowsO k r).2 ∧ ∀ x, x ∈ blkOf a → x ∉ blkOf b
def PairG (F : Nat → Option IFn) (f : Nat) : Prop := ∀ (H : Heap) (n : Nat) (lv sv u : Value) (ls : List (Int × Int)) (l : List (TStep n)) (vs : List Bool) (g pb : Nat) (d : RunS → RunS → Bool), SlR Co.p2 (vw 0 H) lv ls → SlR (Co.step n) (vw 0 H) sv l → (Co.prog n).sm (ls, l) → progB n (ls, l) = true → SlR Co.bool (vw 0 H) u vs → vs.length = ls.length →
  (∀ (H' : Heap) (nv wv sv nv' wv' sv' : Value) (r r' : RunS), AgX [] H H' → RunAt H' nv wv sv r → RunAt H' nv' wv' sv' r' → QC F g [.agg #[nv, wv, sv], .agg #[nv', wv', sv'], ptr pb 0] H' (.bool (d r r'))) →
  ∃ a b H', KC F f [.agg #[lv, sv], u, .func (.func g) #[] #[ptr pb 0]] H (.tuple #[a, b, .bool (leakG n (ls, l) vs d).isSome]) H' ∧ AgX [] H H' ∧ TwoR H.length H' ls.length a b (leakG n (ls, l) vs d)
set_option maxHeartbeats 4000000 in
theorem iPair_ok {F : Nat → Option IFn} {f : Nat} (hf : F f = some c_iPair) (gb : BitsOwn F 137) (gr : RunOk F 26) : PairG F f := by
  intro H n lv sv u ls l vs g pb d r1 r2 hsm hP hu hvl hd
  suffices hh : ∃ v H', KC F f [.agg #[lv, sv], u, .func (.func g) #[] #[ptr pb 0]] H v H' ∧ (∃ a b, v = .tuple #[a, b, .bool (leakG n (ls, l) vs d).isSome] ∧ AgX [] H H' ∧ TwoR H.length H' ls.length a b (leakG n (ls, l) vs d)) by
    obtain ⟨_, H', k, a, b, rfl, hh⟩ := hh
    exact ⟨a, b, H', k, hh⟩
  obtain ⟨_, la, rfl, _⟩ := id r1
  obtain ⟨_, sa, rfl, _⟩ := id r2
  obtain ⟨_, ua, rfl, _⟩ := id hu
  have hls : ls.length ≤ 4 := progB_le4 hP
  have h16 := pow_le16 hls
  have hpp : 0 < 2 ^ ls.length := Nat.pow_pos (by omega)
  have hsl : binI .shl .i64 1 (ls.length : Int) = some (.int .i64 ((2 ^ ls.length : Nat) : Int)) := binI_shlN hls
  have hmk : ∀ j, j ≤ 4 → maskN vs j ≤ 16 := fun j hj => by have h1 := maskN_lt vs j; have h2 := pow_le16 hj; omega
  unfold leakG
  generalize hok : okR n (ls, l) vs d = ok
  show ∃ v H', KC F f _ H v H' ∧ (∃ a b, v = .tuple #[a, b, .bool (leakF ok (2 ^ ls.length)).isSome] ∧ AgX [] H H' ∧ TwoR H.length H' ls.length a b (leakF ok (2 ^ ls.length)))
  generalize hN : 2 ^ ls.length = N at *
  refine KC.mk hf rfl ?_
  refine seq_reg ?_
  simp only [go_sem, binC]
  refine wpc_gen fun H1 hH1 => ?_
  have hx1 : AgX [] H H1 := hH1 ▸ AgX.app [] _ _
  have hb : H1[H.length]? = some ⟨[.slice la ls.length ls.length, .slice sa l.length l.length], 0, 0, false, true⟩ := hH1 ▸ get_new0 _ _
  clear hH1
  have hl1 := hx1.1
  replace r1 := r1.mono (agx_sub hx1)
  replace r2 := r2.mono (agx_sub hx1)
  replace hu := hu.mono (agx_sub hx1)
  refine seq_reg ?_
  simp only [go_sem, binC, gc_of hb, inBlk_some]
  refine seq_reg ?_
  simp only [go_sem, binC]
  refine seq_assoc (seq_reg ?_)
  simp only [go_sem, binC]
  refine seq_block (wpc_loop ?_)
  suffices hh : ∀ (m i : Nat) (e : Env), i + m = vs.length → e 2 = .func (.func g) #[] #[ptr pb 0] → e 3 = ptr H.length 0 → e 9 = .int .i64 ls.length → e 10 = .int .i64 (maskN vs i : Nat) → e 22 = .slice ua vs.length vs.length → e 23 = .int .i64 vs.length → e 24 = .int .i64 i → W F H.length _ e H1 _ from
    hh vs.length 0 _ (by omega) (by simp only [go_sem, binC]) (by simp only [go_sem, binC]) (by simp only [go_sem, binC]) (by (simp only [go_sem, binC]) <;> rfl) (by simp only [go_sem, binC]) (by simp only [go_sem, binC]) (by (simp only [go_sem, binC]) <;> rfl)
  intro m
  induction m with
  | succ m ih =>
    intro i e hi e2 e3 e9 e10 e22 e23 e24
    have hil : i < vs.length := by omega
    have hw1 : IntKind.i64.wrap ((i : Int) + 1) = ((i + 1 : Nat) : Int) := by rw [wrap_id (by omega) (by omega)]; omega
    obtain ⟨ub, uo, huv, hgu⟩ := gcBo hu hil
    simp only [Value.slice.injEq, and_true] at huv
    subst huv
    have hvs : vs.getD i false = vs[i] := by simp [List.getD, hil]
    refine lp_step ?_
    refine seq_reg ?_
    simp only [go_sem, binC, e23, e24]
    refine seq_cond (t := true) (by simp only [go_sem, binC]; rw [decide_eq_true (by omega)]) ?_
    simp only [go_sem, binC]
    refine seq_skip (seq_block (seq_reg ?_))
    simp only [go_sem, binC, e22, e24]
    refine ⟨⟨by omega, by omega⟩, ?_⟩
    simp only [go_sem, binC, Int.toNat_natCast, Nat.mul_one, hgu]
    refine seq_reg ?_
    simp only [go_sem, binC]
    have hnx : maskN vs (i + 1) = if vs.getD i false = true then maskN vs i ||| 2 ^ i else maskN vs i := rfl
    rw [hvs] at hnx
    cases hv : vs[i] with
    | true =>
      rw [hv, if_pos rfl] at hnx
      have h2 := pow_le16 (show i ≤ 4 by omega)
      have h3 := hmk i (by omega)
      have h61 : (2 : Nat) ^ 61 = 2305843009213693952 := rfl
      have hsh : binI .shl .i64 1 (i : Int) = some (.int .i64 ((2 ^ i : Nat) : Int)) := binI_shlN (by omega)
      have hor : binI .or .i64 ((maskN vs i : Nat) : Int) ((2 ^ i : Nat) : Int) = some (.int .i64 ((maskN vs (i + 1) : Nat) : Int)) := by rw [hnx]; exact binI_orN (by omega) (by omega)
      refine wpc_cond (t := true) (by simp only [go_sem, binC]) ?_
      simp only [go_sem, binC]
      refine wpc_reg ?_
      simp only [go_sem, binC, e10, hsh, hor]
      simp only [go_sem, binC, out_n, thenX_n]
      refine wpc_reg ?_
      simp only [go_sem, binC, e24, hw1]
      simp only [go_sem, binC, thenX_n]
      exact ih (i + 1) _ (by omega) (by simp only [go_sem, binC, e2]) (by simp only [go_sem, binC, e3]) (by simp only [go_sem, binC, e9]) (by simp only [go_sem, binC]) (by simp only [go_sem, binC, e22]) (by simp only [go_sem, binC, e23]) (by simp only [go_sem, binC])
    | false =>
      rw [hv, if_neg (by simp)] at hnx
      refine wpc_cond (t := false) (by simp only [go_sem, binC]) ?_
      simp only [go_sem, binC]
      refine wpc_skip ?_
      simp only [go_sem, binC, out_n, thenX_n]
      refine wpc_reg ?_
      simp only [go_sem, binC, e24, hw1]
      simp only [go_sem, binC, thenX_n]
      exact ih (i + 1) _ (by omega) (by simp only [go_sem, binC, e2]) (by simp only [go_sem, binC, e3]) (by simp only [go_sem, binC, e9]) (by simp only [go_sem, binC, e10, hnx]) (by simp only [go_sem, binC, e22]) (by simp only [go_sem, binC, e23]) (by simp only [go_sem, binC])
  | zero =>
    intro i e hi e2 e3 e9 e10 e22 e23 e24
    obtain rfl : i = vs.length := by omega
    have hmm := hmk vs.length (by omega)
    refine lp_step ?_
    refine seq_reg ?_
    simp only [go_sem, binC, e23, e24]
    refine seq_cond (t := false) (by simp only [go_sem, binC]; rw [decide_eq_false (by omega)]) ?_
    simp only [go_sem, binC]
    refine seq_exit ?_
    simp only [go_sem, binC, thenX_e, out_e, thenX_n]
    refine seq_assoc (seq_reg ?_)
    simp only [go_sem, binC, e9, hsl]
    refine seq_block (wpc_loop ?_)
    suffices hh : ∀ (m i : Nat) (e : Env) (Hc : Heap), i + m = N → AgX [] H1 Hc → leakF ok i = none → e 2 = .func (.func g) #[] #[ptr pb 0] → e 3 = ptr H.length 0 → e 9 = .int .i64 ls.length → e 10 = .int .i64 (maskN vs vs.length : Nat) → e 36 = .int .i64 N → e 37 = .int .i64 i → W F H.length _ e Hc _ from
      hh N 0 _ H1 (by omega) (AgX.refl _ _) rfl (by simp only [go_sem, binC, e2]) (by simp only [go_sem, binC, e3]) (by simp only [go_sem, binC, e9]) (by simp only [go_sem, binC, e10]) (by simp only [go_sem, binC]) (by (simp only [go_sem, binC]) <;> rfl)
    clear e2 e3 e9 e10 e22 e23 e24 hi e
    intro m
    induction m with
    | zero =>
      intro i e Hc hi hxc hnone e2 e3 e9 e10 e36 e37
      obtain rfl : i = N := by omega
      refine lp_step ?_
      refine seq_reg ?_
      simp only [go_sem, binC, e36, e37]
      refine seq_cond (t := false) (by simp only [go_sem, binC]; rw [decide_eq_false (by omega)]) ?_
      simp only [go_sem, binC]
      refine seq_exit ?_
      simp only [go_sem, binC, thenX_e, out_e, thenX_n]
      refine seq_reg ?_
      simp only [go_sem, binC]
      rw [hnone]
      exact wpc_ret ⟨Or.inr rfl, .tuple #[nilS, nilS, .bool false], by simp [resV, resL, res1, putE_get, notT, nilS], nilS, nilS, rfl, hx1.tr hxc, .inl ⟨rfl, rfl⟩, .inl ⟨rfl, rfl⟩, fun x hx => by simp [blkOf, nilS] at hx⟩
    | succ m ih =>
      intro i e Hc hi hxc hnone e2 e3 e9 e10 e36 e37
      have hiN : i < N := by omega
      have hw1 : IntKind.i64.wrap ((i : Int) + 1) = ((i + 1 : Nat) : Int) := by rw [wrap_id (by omega) (by omega)]; omega
      refine lp_step ?_
      refine seq_reg ?_
      simp only [go_sem, binC, e36, e37]
      refine seq_cond (t := true) (by simp only [go_sem, binC]; rw [decide_eq_true (by omega)]) ?_
      simp only [go_sem, binC]
      refine seq_skip (seq_block (seq_reg ?_))
      simp only [go_sem, binC, e37]
      refine seq_reg ?_
      simp only [go_sem, binC]
      refine wpc_block (wpc_loop ?_)
      suffices hh : ∀ (q j : Nat) (e : Env) (Hc : Heap), j + q = i → AgX [] H1 Hc → (∀ f, f < j → ok f i = false) → e 2 = .func (.func g) #[] #[ptr pb 0] → e 3 = ptr H.length 0 → e 9 = .int .i64 ls.length → e 10 = .int .i64 (maskN vs vs.length : Nat) → e 13 = .int .i64 i → e 36 = .int .i64 N → e 37 = .int .i64 i → e 40 = .int .i64 i → e 41 = .int .i64 j → W F H.length _ e Hc _ from
        hh i 0 _ Hc (by omega) hxc (fun f h => by omega) (by simp only [go_sem, binC, e2]) (by simp only [go_sem, binC, e3]) (by simp only [go_sem, binC, e9]) (by simp only [go_sem, binC, e10]) (by simp only [go_sem, binC]) (by simp only [go_sem, binC, e36]) (by simp only [go_sem, binC, e37]) (by simp only [go_sem, binC]) (by (simp only [go_sem, binC]) <;> rfl)
      clear e2 e3 e9 e10 e36 e37 hxc e Hc
      intro q
      induction q with
      | zero =>
        intro j e Hc hj hxc hno e2 e3 e9 e10 e13 e36 e37 e40 e41
        refine lp_step ?_
        refine seq_reg ?_
        simp only [go_sem, binC, e40, e41]
        refine seq_cond (t := false) (by simp only [go_sem, binC]; rw [decide_eq_false (by omega)]) ?_
        simp only [go_sem, binC]
        refine seq_exit ?_
        simp only [go_sem, binC, thenX_e, out_e, out_n, thenX_n]
        refine wpc_reg ?_
        simp only [go_sem, binC, e37, hw1]
        simp only [go_sem, binC, thenX_n]
        exact ih (i + 1) _ Hc (by omega) hxc (leakF_step hnone fun f hf => hno f (by omega)) (by simp only [go_sem, binC, e2]) (by simp only [go_sem, binC, e3]) (by simp only [go_sem, binC, e9]) (by simp only [go_sem, binC, e10]) (by simp only [go_sem, binC, e36]) (by simp only [go_sem, binC])
      | succ q ih2 =>
        intro j e Hc hj hxc hno e2 e3 e9 e10 e13 e36 e37 e40 e41
        have hji : j < i := by omega
        have hw2 : IntKind.i64.wrap ((j : Int) + 1) = ((j + 1 : Nat) : Int) := by rw [wrap_id (by omega) (by omega)]; omega
        have h61 : (2 : Nat) ^ 61 = 2305843009213693952 := rfl
        have hxo : binI .xor .i64 (j : Int) (i : Int) = some (.int .i64 ((j ^^^ i : Nat) : Int)) := binI_xorN (by omega) (by omega)
        have hxl : j ^^^ i < 2 ^ 61 := Nat.xor_lt_two_pow (by omega) (by omega)
        have han : binI .and .i64 ((j ^^^ i : Nat) : Int) ((maskN vs vs.length : Nat) : Int) = some (.int .i64 (((j ^^^ i) &&& maskN vs vs.length : Nat) : Int)) := binI_andN (by omega) (by omega)
        have hnext : ∀ (e' : Env) (H' : Heap), AgX [] H1 H' → ok j i = false → e' 2 = .func (.func g) #[] #[ptr pb 0] → e' 3 = ptr H.length 0 → e' 9 = .int .i64 ls.length → e' 10 = .int .i64 (maskN vs vs.length : Nat) → e' 13 = .int .i64 i → e' 36 = .int .i64 N → e' 37 = .int .i64 i → e' 40 = .int .i64 i → e' 41 = .int .i64 ((j + 1 : Nat) : Int) → W F H.length _ e' H' _ := fun e' H' hx hq p2 p3 p9 p10 p13 p36 p37 p40 p41 => ih2 (j + 1) e' H' (by omega) hx (fun f hf => by
          rcases Nat.lt_or_ge f j with hl | hl
          · exact hno f hl
          · obtain rfl : f = j := by omega
            exact hq) p2 p3 p9 p10 p13 p36 p37 p40 p41
        refine lp_step ?_
        refine seq_reg ?_
        simp only [go_sem, binC, e40, e41]
        refine seq_cond (t := true) (by simp only [go_sem, binC]; rw [decide_eq_true (by omega)]) ?_
        simp only [go_sem, binC]
        refine seq_skip (seq_block (seq_reg ?_))
        simp only [go_sem, binC, e41]
        refine seq_assoc (seq_reg ?_)
        simp only [go_sem, binC, e13, e10, hxo, han]
        by_cases hsa : sameR vs j i = true
        rotate_left
        · have hne : ((((j ^^^ i) &&& maskN vs vs.length : Nat) : Int) != 0) = true := by
            rw [bne_iff_ne]
            intro h0
            exact hsa (mask_same.1 (by omega))
          simp only [go_sem, binC, hne]
          refine seq_cond (t := true) rfl ?_
          simp only [go_sem, binC]
          refine seq_exit ?_
          simp only [go_sem, binC, thenX_e, out_e, out_n, thenX_n]
          refine wpc_reg ?_
          simp only [go_sem, binC, e41, hw2]
          simp only [go_sem, binC, thenX_n]
          exact hnext _ Hc hxc (by rw [← hok]; unfold okR; rw [Bool.eq_false_iff.2 hsa]; rfl) (by simp only [go_sem, binC, e2]) (by simp only [go_sem, binC, e3]) (by simp only [go_sem, binC, e9]) (by simp only [go_sem, binC, e10]) (by simp only [go_sem, binC, e13]) (by simp only [go_sem, binC, e36]) (by simp only [go_sem, binC, e37]) (by simp only [go_sem, binC, e40]) (by simp only [go_sem, binC])
        have hne : ((((j ^^^ i) &&& maskN vs vs.length : Nat) : Int) != 0) = false := by
          rw [mask_same.2 hsa]; rfl
        simp only [go_sem, binC, hne]
        refine seq_cond (t := false) rfl ?_
        simp only [go_sem, binC]
        have hbc := hxc.get hb (by simp)
        obtain ⟨za, Ha, ka, xa, qa⟩ := gb Hc j ls.length (by omega) hls
        have sa' := qa.slI (rowL_RgI _ _) (by rw [rowL_len]; omega)
        obtain ⟨_, aa, rfl, _⟩ := id sa'
        obtain ⟨nx, wx, tx, Hx, kx, xx, ax⟩ := run_row gr (r1.mono (agx_sub (hxc.tr xa))) (r2.mono (agx_sub (hxc.tr xa))) hsm hP sa'
        obtain ⟨_, nxa, rfl, _⟩ := id ax.n
        obtain ⟨_, wxa, rfl, _⟩ := id ax.w
        obtain ⟨_, txa, rfl, _⟩ := id ax.s
        have hlc := hxc.1
        have hla := xa.1
        have hlx := xx.1
        refine seq_skip (seq_regW ?_)
        simp only [go_sem, binC, e3, e9, gc_of hbc, inBlk_some]
        refine op_callK (by simp only [go_sem, binC]; exact ka) ?_
        simp only [go_sem, binC]
        refine op_callK (by simp only [go_sem, binC]; exact kx) ?_
        simp only [go_sem, binC]
        refine ⟨by omega, ?_⟩
        refine wpc_gen fun H2 hh2 => ?_
        have x2 : AgX [] Hx H2 := hh2 ▸ AgX.app [] _ _
        have hbx : H2[Hx.length]? = some ⟨[.slice nxa (runR n (ls, l) j).1.length (runR n (ls, l) j).1.length, .slice wxa (runR n (ls, l) j).2.1.length (runR n (ls, l) j).2.1.length, .slice txa (runR n (ls, l) j).2.2.length (runR n (ls, l) j).2.2.length], 0, 0, false, true⟩ := hh2 ▸ get_new0 _ _
        clear hh2
        have hx2 := hxc.tr (xa.tr (xx.tr x2))
        have hb2 := hx2.get hb (by simp)
        obtain ⟨zb, Hb, kb, xb, qb⟩ := gb H2 i ls.length (by omega) hls
        have sb' := qb.slI (rowL_RgI _ _) (by rw [rowL_len]; omega)
        obtain ⟨_, ab, rfl, _⟩ := id sb'
        obtain ⟨ny, wy, ty, Hy, ky, xy, ay⟩ := run_row gr (r1.mono (agx_sub (hx2.tr xb))) (r2.mono (agx_sub (hx2.tr xb))) hsm hP sb'
        obtain ⟨_, nya, rfl, _⟩ := id ay.n
        obtain ⟨_, wya, rfl, _⟩ := id ay.w
        obtain ⟨_, tya, rfl, _⟩ := id ay.s
        have hl2 := x2.1
        have hlb := xb.1
        have hly := xy.1
        refine seq_regW ?_
        simp only [go_sem, binC, e3, e9, e13, gc_of hb2, inBlk_some]
        refine op_callK (by simp only [go_sem, binC]; exact kb) ?_
        simp only [go_sem, binC]
        refine op_callK (by simp only [go_sem, binC]; exact ky) ?_
        simp only [go_sem, binC]
        refine ⟨by omega, ?_⟩
        refine wpc_gen fun H3 hh3 => ?_
        have x3 : AgX [] Hy H3 := hh3 ▸ AgX.app [] _ _
        have hby : H3[Hy.length]? = some ⟨[.slice nya (runR n (ls, l) i).1.length (runR n (ls, l) i).1.length, .slice wya (runR n (ls, l) i).2.1.length (runR n (ls, l) i).2.1.length, .slice tya (runR n (ls, l) i).2.2.length (runR n (ls, l) i).2.2.length], 0, 0, false, true⟩ := hh3 ▸ get_new0 _ _
        clear hh3
        have hx23 := xb.tr (xy.tr x3)
        have hbx3 := hx23.get hbx (by simp)
        have ax3 := ax.mono (x2.tr hx23)
        have ay3 := ay.mono x3
        have hx3 := hx2.tr hx23
        have hd3 : ok j i = d (runR n (ls, l) j) (runR n (ls, l) i) := by
          rw [← hok]; unfold okR; rw [hsa, Bool.true_and]
        have hcl := hd H3 _ _ _ _ _ _ _ _ (hx1.tr hx3) ax3 ay3
        rw [← hd3] at hcl
        refine seq_reg ?_
        simp only [go_sem, binC, e2, gc_of hbx3, gc_of hby, inBlk_some]
        refine op_callQc (g := g) (first := #[]) (cap := #[ptr pb 0]) (by simp only [go_sem, binC, e2]) (by simp only [List.nil_append, List.append_nil]; simp only [go_sem, binC]; exact hcl) ?_
        cases hdd : ok j i with
        | false =>
          simp only [go_sem, binC]
          refine wpc_cond (t := false) rfl ?_
          simp only [go_sem, binC]
          refine wpc_skip ?_
          simp only [go_sem, binC, out_n, thenX_n]
          refine wpc_reg ?_
          simp only [go_sem, binC, e41, hw2]
          simp only [go_sem, binC, thenX_n]
          exact hnext _ H3 hx3 hdd (by simp only [go_sem, binC, e2]) (by simp only [go_sem, binC, e3]) (by simp only [go_sem, binC, e9]) (by simp only [go_sem, binC, e10]) (by simp only [go_sem, binC, e13]) (by simp only [go_sem, binC, e36]) (by simp only [go_sem, binC, e37]) (by simp only [go_sem, binC, e40]) (by simp only [go_sem, binC])
        | true =>
          obtain ⟨zc, H4, k4, x4, q4⟩ := gb H3 j ls.length (by omega) hls
          obtain ⟨zd, H5, k5, x5, q5⟩ := gb H4 i ls.length (by omega) hls
          have oc := q4.gli.one
          have od := q5.gli.one
          simp only [go_sem, binC]
          refine wpc_cond (t := true) rfl ?_
          simp only [go_sem, binC]
          refine seq_reg ?_
          simp only [go_sem, binC, e9]
          refine op_callK (by simp only [go_sem, binC]; exact k4) ?_
          simp only [go_sem, binC, e9, e13]
          refine op_callK (by simp only [go_sem, binC]; exact k5) ?_
          simp only [go_sem, binC]
          refine wpc_ret ?_
          simp only [go_sem, binC, out_r, thenX_r]
          have hhit : leakF ok N = some (j, i) := leakF_keep (leakF_hit hnone hno hdd hji) N (by omega)
          rw [hhit]
          have hl3 := hx3.1
          have hl4 := x4.1
          have nc : ∀ v : Value, one v = true → notT v = true := fun v h => by cases v <;> first | rfl | (simp [one] at h)
          refine ⟨Or.inr rfl, .tuple #[zc, zd, .bool true], by simp [resV, resL, res1, putE_get, nc zc oc, nc zd od, show notT (.bool true) = true from rfl], _, _, rfl, hx1.tr (hx3.tr (x4.tr x5)), (q4.keep x5 (fun _ _ => by simp)).lo (by omega), q5.lo (by omega), fun x h1 h2 => ?_⟩
          have := (q4.blk h1).2
          have := (q5.blk h2).1
          omega
def LeakOwn (F : Nat → Option IFn) (f : Nat) (c : Bool) : Prop := ∀ (H : Heap) (n : Nat) (lv sv : Value) (ls : List (Int × Int)) (l : List (TStep n)) (h : Int), SlR Co.p2 (vw 0 H) lv ls → SlR (Co.step n) (vw 0 H) sv l → (Co.prog n).sm (ls, l) →
  ∃ a b H', KC F f [.agg #[lv, sv], .int .i64 h] H (.tuple #[a, b, .bool (leakV c n (ls, l) h).isSome]) H' ∧ AgX [] H H' ∧ TwoR H.length H' ls.length a b (leakV c n (ls, l) h)
theorem TwoR.none (lo k : Nat) (H : Heap) : TwoR lo H k nilS nilS none := ⟨.inl ⟨rfl, rfl⟩, .inl ⟨rfl, rfl⟩, fun x hx => by simp [blkOf, nilS] at hx⟩
theorem TwoR.lo {lo lo' k : Nat} {H : Heap} {a b : Value} {r : Option (Nat × Nat)} (h : TwoR lo H k a b r) (hl : lo' ≤ lo) : TwoR lo' H k a b r := ⟨h.1.lo hl, h.2.1.lo hl, h.2.2⟩
theorem TwoR.ones {lo k : Nat} {H : Heap} {a b : Value} {r : Option (Nat × Nat)} (h : TwoR lo H k a b r) : (one a = true ∧ one b = true) ∧ notT a = true ∧ notT b = true := by
  have nc : ∀ v : Value, one v = true → notT v = true := fun v h => by cases v <;> first | rfl | (simp [one] at h)
  exact ⟨⟨h.1.gli.one, h.2.1.gli.one⟩, nc _ h.1.gli.one, nc _ h.2.1.gli.one⟩
theorem iSwayOf_ok {F : Nat → Option IFn} {f : Nat} (hf : F f = some c_iSwayOf) (gp : ProgOk F 54) (gn : ∀ (H : Heap) (a : Int), QC F 89 [.int .i64 a] H (.bool (inB a 0 2))) (gv : VarsOk F 96 false) (gf : PairG F 90) (gc : F 97 = some c_sway1) (gt : SetsOk F 99) (ge : PairsOk F 98) : LeakOwn F f false := by
  intro H n lv sv ls l h r1 r2 hsm
  suffices hh : ∃ v H', KC F f [.agg #[lv, sv], .int .i64 h] H v H' ∧ (∃ a b, v = .tuple #[a, b, .bool (leakV false n (ls, l) h).isSome] ∧ AgX [] H H' ∧ TwoR H.length H' ls.length a b (leakV false n (ls, l) h)) by
    obtain ⟨_, H', k, a, b, rfl, hh⟩ := hh
    exact ⟨a, b, H', k, hh⟩
  obtain ⟨_, la, rfl, _⟩ := id r1
  obtain ⟨_, sa, rfl, _⟩ := id r2
  refine KC.mk hf rfl ?_
  refine seq_reg ?_
  simp only [go_sem, binC]
  refine wpc_gen fun H1 hH1 => ?_
  have hx1 : AgX [] H H1 := hH1 ▸ AgX.app [] _ _
  have hb : H1[H.length]? = some ⟨[.slice la ls.length ls.length, .slice sa l.length l.length], 0, 0, false, true⟩ := hH1 ▸ get_new0 _ _
  clear hH1
  have hl1 := hx1.1
  replace r1 := r1.mono (agx_sub hx1)
  replace r2 := r2.mono (agx_sub hx1)
  refine seq_assoc (seq_reg ?_)
  simp only [go_sem, binC, gc_of hb, inBlk_some]
  refine op_callB (by simp only [go_sem, binC]; exact gp H1 n _ (ls, l) (prog_rd r1 r2) hsm) (fun hP => ?_) (fun hP => ?_)
  rotate_left
  · have hv : leakV false n (ls, l) h = none := by unfold leakV; rw [hP]; rfl
    simp only [go_sem, binC]
    refine seq_cond (t := true) rfl ?_
    simp only [go_sem, binC]
    refine seq_assoc (seq_reg ?_)
    simp only [go_sem, binC]
    refine seq_ret ⟨Or.inr rfl, .tuple #[nilS, nilS, .bool false], by simp [resV, resL, res1, putE_get, notT, nilS], nilS, nilS, by rw [hv]; rfl, hx1, by rw [hv]; exact TwoR.none _ _ _⟩
  simp only [go_sem, binC]
  refine op_callB (by first | exact gn H1 h | (simp only [go_sem, binC]; exact gn H1 h)) (fun hI => ?_) (fun hI => ?_)
  rotate_left
  · have hv : leakV false n (ls, l) h = none := by unfold leakV; rw [hI, Bool.and_false]; rfl
    simp only [go_sem, binC]
    refine seq_cond (t := true) rfl ?_
    simp only [go_sem, binC]
    refine seq_assoc (seq_reg ?_)
    simp only [go_sem, binC]
    refine seq_ret ⟨Or.inr rfl, .tuple #[nilS, nilS, .bool false], by simp [resV, resL, res1, putE_get, notT, nilS], nilS, nilS, by rw [hv]; rfl, hx1, by rw [hv]; exact TwoR.none _ _ _⟩
  have hv : leakV false n (ls, l) h = leakG n (ls, l) (ls.map (lowL false h)) (diffC false h (ls.map (lowL false h))) := by unfold leakV; rw [hP, hI]; rfl
  have hI2 := inB_iff.1 hI
  simp only [go_sem, binC]
  refine seq_cond (t := false) rfl ?_
  simp only [go_sem, binC]
  obtain ⟨w, H2, k2, x2, q2⟩ := gv H1 n _ _ ls l h hI2.1 hI2.2 r1 r2 hsm hP
  obtain ⟨_, wa, rfl, _⟩ := id q2
  refine seq_skip (seq_reg ?_)
  simp only [go_sem, binC, gc_of hb, inBlk_some]
  refine op_callK (by simp only [go_sem, binC]; exact k2) ?_
  simp only [go_sem, binC]
  have hl2 := x2.1
  refine ⟨by omega, ?_⟩
  refine wpc_gen fun H3 hh3 => ?_
  have x3 : AgX [] H2 H3 := hh3 ▸ AgX.app [] _ _
  have hb7 : H3[H2.length]? = some ⟨[.slice wa (ls.map (lowL false h)).length (ls.map (lowL false h)).length], 0, 0, false, true⟩ := hh3 ▸ get_new0 _ _
  clear hh3
  have q23 := q2.mono (agx_sub x3)
  have x13 := x2.tr x3
  have hb13 := x13.get hb (by simp)
  obtain ⟨a, b, H4, k4, x4, q4⟩ := gf H3 n _ _ _ ls l _ 97 H2.length (diffC false h (ls.map (lowL false h))) (r1.mono (agx_sub x13)) (r2.mono (agx_sub x13)) hsm hP q23 (by rw [List.length_map]) (fun H' _ _ _ _ _ _ _ _ hx a1 a2 => sway1_ok gc gt ge (hx.get hb7 (by simp)) (q23.mono (agx_sub hx)) a1 a2)
  refine seq_reg ?_
  simp only [go_sem, binC, gc_of hb13, gc_of hb7, inBlk_some]
  refine ⟨rfl, ?_⟩
  refine op_callK (by simp only [go_sem, binC]; exact k4) ?_
  obtain ⟨⟨oa, ob⟩, na, nb⟩ := q4.ones
  simp only [go_sem, binC]
  rw [hv]
  generalize leakG n (ls, l) (ls.map (lowL false h)) (diffC false h (ls.map (lowL false h))) = lk at *
  exact wpc_ret ⟨Or.inr rfl, .tuple #[a, b, .bool lk.isSome], by simp [resV, resL, res1, putE_get, na, nb, show notT (.bool lk.isSome) = true from rfl], _, _, rfl, hx1.tr (x13.tr x4), q4.lo (by have := x13.1; omega)⟩
end Go.Proofs.YtkmghcglmjehcaaI
end
section
/- The law FnExactLeakOf on the ideal machine. -/
set_option linter.unusedVariables false
set_option linter.unusedSimpArgs false
namespace Go.Proofs.YtkmghcglmjehcaaI
open Go Go.RowKit
theorem flat_lt {lo hi w n b o : Nat} {H : Heap} {v : Value} (h : FlatB lo hi H w v n b o) : n = 0 ∨ (lo ≤ b ∧ b < hi) := by
  obtain ⟨_, a, _, h3⟩ := h
  exact h3.imp id fun h => ⟨h.2.1, h.2.2.1⟩
theorem flat_slI {lo hi n b : Nat} {H H' : Heap} {v : Value} {l : List Int} (h : FlatB lo hi H 1 v n b 0) (hr : SlR Co.int (vw 0 H) v l) (hn : l.length = n) (hb : n = 0 ∨ H'[b]? = H[b]?) : SlR Co.int (vw 0 H') v l := by
  obtain ⟨_, a, rfl, h3⟩ := h
  obtain ⟨h0, a', e, h4⟩ := hr
  simp only [Value.slice.injEq] at e
  obtain ⟨rfl, _⟩ := e
  rcases Nat.eq_zero_or_pos n with hz | hz
  · refine ⟨h0, _, by rw [hn], .inl (List.eq_nil_of_length_eq_zero (by omega))⟩
  obtain ⟨rfl, _⟩ := h3.resolve_left (by omega)
  rcases h4 with h4 | ⟨b', o', e2, h4⟩
  · rw [h4] at hn; simp at hn; omega
  · simp only [Option.some.injEq, Addr.mk.injEq, and_true] at e2
    obtain ⟨rfl, rfl⟩ := e2
    refine ⟨h0, _, by rw [hn], .inr ⟨b, 0, rfl, fun i hi => ?_⟩⟩
    obtain ⟨cs, h5, h6⟩ := h4 i hi
    refine ⟨cs, ?_, h6⟩
    have hbb := hb.resolve_left (by omega)
    unfold rng vw at h5 ⊢
    rw [hbb]
    exact h5
theorem GLs.fl {lo : Nat} {H : Heap} {v : Value} {l : List Int} {et : Nat} (h : GLs fi 1 et lo H v l) (hl : l.length ≤ 1000) : ∃ b, FlatB lo H.length H 1 v l.length b 0 ∧ (l.length = 0 ∨ b ∈ blkOf v) := by
  rcases h with ⟨rfl, rfl⟩ | ⟨b, h1, rfl, h3, h4⟩
  · exact ⟨0, ⟨by simp, none, rfl, .inl rfl⟩, .inl rfl⟩
  · refine ⟨b, ⟨by omega, _, rfl, .inr ⟨rfl, h1, (List.getElem?_eq_some_iff.1 h4).1, _, _, _, _, h4, ?_⟩⟩, .inr (by simp [blkOf, sli])⟩
    rw [flat_len (fl := fi) (w := 1) (fun _ => rfl)]; omega
theorem TwoR.flats {lo k : Nat} {H : Heap} {a b : Value} {r : Option (Nat × Nat)} (h : TwoR lo H k a b r) (hk : r = Option.none ∨ k ≤ 1000) : ∃ b1 b2, FlatB lo H.length H 1 a (rowsO k r).1.length b1 0 ∧ FlatB lo H.length H 1 b (rowsO k r).2.length b2 0 ∧ ((rowsO k r).1.length = 0 ∨ (rowsO k r).2.length = 0 ∨ b1 ≠ b2) ∧ ((rowsO k r).1.length ≤ 1000 ∧ (rowsO k r).2.length ≤ 1000) ∧ SlR Co.int (vw 0 H) a (rowsO k r).1 ∧ SlR Co.int (vw 0 H) b (rowsO k r).2 := by
  have hl : (rowsO k r).1.length ≤ 1000 ∧ (rowsO k r).2.length ≤ 1000 := by
    cases r with
    | none => simp [rowsO]
    | some p =>
      have hk := hk.resolve_left (by simp)
      simp only [rowsO, rowL_len]; exact ⟨hk, hk⟩
  have hr : (∀ x ∈ (rowsO k r).1, RgI x) ∧ ∀ x ∈ (rowsO k r).2, RgI x := by
    cases r with
    | none => exact ⟨fun x hx => by simp [rowsO] at hx, fun x hx => by simp [rowsO] at hx⟩
    | some p => exact ⟨rowL_RgI _ _, rowL_RgI _ _⟩
  obtain ⟨b1, f1, g1⟩ := h.1.fl hl.1
  obtain ⟨b2, f2, g2⟩ := h.2.1.fl hl.2
  refine ⟨b1, b2, f1, f2, ?_, hl, h.1.slI hr.1 hl.1, h.2.1.slI hr.2 hl.2⟩
  rcases g1 with g1 | g1
  · exact .inl g1
  rcases g2 with g2 | g2
  · exact .inr (.inl g2)
  exact .inr (.inr fun e => h.2.2 b1 g1 (e ▸ g2))
end Go.Proofs.YtkmghcglmjehcaaI
end
section
/- The law FnExactSwayOf on the ideal machine. -/
set_option linter.unusedVariables false
set_option linter.unusedSimpArgs false
namespace Go.Proofs.YtkmghcglmjehcaaI
open Go Go.RowKit
def c_lawESW : IFn := ⟨2, 138, [.t 4],
 .seq (.reg none [
    ⟨(some 2), none, .box (.t 0)⟩,
    ⟨(some 4), none, .mov (.c (.bool false))⟩])
 (.seq (.reg none [
    ⟨(some 5), none, .mov (.c (.int .i64 1048576))⟩])
 (.seq (.reg none [
    ⟨(some 19), none, .load true 2 (.t 2)⟩,
    ⟨(some 20), none, .mov (.t 5)⟩,
    ⟨(some 21), none, .call .q (.f 29) [(.t 19), (.t 20)]⟩,
    ⟨(some 5), none, .mov (.t 21)⟩])
 (.seq (.seq (.reg none [
     ⟨(some 22), none, .mov (.t 5)⟩,
     ⟨(some 23), none, .bin .lss (.t 22) (.c (.int .i64 0))⟩])
  (.cond (.t 23) (.seq (.reg none [
      ⟨(some 4), none, .mov (.c (.bool true))⟩])
   (.ret)) (.skip)))
 (.seq (.reg none [
    ⟨(some 25), none, .load true 2 (.t 2)⟩,
    ⟨(some 26), none, .call .k (.f 30) [(.t 25)]⟩,
    ⟨(some 27), none, .mov (.t 1)⟩,
    ⟨(some 28), none, .call .k (.f 46) [(.t 26), (.t 27)]⟩,
    ⟨(some 24), none, .mov (.t 28)⟩,
    ⟨(some 29), none, .ext (.t 24) 0⟩,
    ⟨(some 30), none, .ext (.t 24) 1⟩,
    ⟨(some 31), none, .ext (.t 24) 2⟩,
    ⟨(some 6), none, .mov (.t 29)⟩,
    ⟨(some 7), none, .mov (.t 30)⟩,
    ⟨(some 8), none, .mov (.t 31)⟩])
 (.seq (.reg none [
    ⟨(some 32), none, .load true 2 (.t 2)⟩,
    ⟨(some 33), none, .call .k (.f 30) [(.t 32)]⟩,
    ⟨(some 9), none, .new [(.slice none 0 0), (.slice none 0 0)]⟩,
    ⟨none, none, .store 2 (.t 9) (.t 33)⟩])
 (.seq (.reg none [
    ⟨(some 35), none, .load true 2 (.t 9)⟩,
    ⟨(some 36), none, .mov (.t 1)⟩,
    ⟨(some 37), none, .call .k (.f 47) [(.t 35), (.t 36)]⟩,
    ⟨(some 34), none, .mov (.t 37)⟩,
    ⟨(some 38), none, .ext (.t 34) 0⟩,
    ⟨(some 39), none, .ext (.t 34) 1⟩,
    ⟨(some 40), none, .ext (.t 34) 2⟩,
    ⟨(some 10), none, .mov (.t 38)⟩,
    ⟨(some 11), none, .mov (.t 39)⟩,
    ⟨(some 12), none, .mov (.t 40)⟩])
 (.seq (.seq (.reg none [
     ⟨(some 41), none, .mov (.t 10)⟩,
     ⟨(some 42), none, .mov (.t 6)⟩,
     ⟨(some 43), none, .call .q (.f 43) [(.t 41), (.t 42)]⟩,
     ⟨(some 44), none, .un .not (.t 43)⟩,
     ⟨(some 45), none, .mov (.t 44)⟩,
     ⟨(some 46), (some (45, false)), .mov (.t 11)⟩,
     ⟨(some 47), (some (45, false)), .mov (.t 7)⟩,
     ⟨(some 48), (some (45, false)), .call .q (.f 43) [(.t 46), (.t 47)]⟩,
     ⟨(some 49), (some (45, false)), .un .not (.t 48)⟩,
     ⟨(some 50), none, .pick (.t 45) (.c (.bool true)) (.t 49)⟩,
     ⟨(some 51), none, .mov (.t 50)⟩,
     ⟨(some 52), (some (51, false)), .mov (.t 12)⟩,
     ⟨(some 53), (some (51, false)), .mov (.t 8)⟩,
     ⟨(some 54), (some (51, false)), .beq true (.t 52) (.t 53)⟩,
     ⟨(some 55), none, .pick (.t 51) (.c (.bool true)) (.t 54)⟩])
  (.cond (.t 55) (.seq (.reg none [
      ⟨(some 4), none, .mov (.c (.bool false))⟩])
   (.ret)) (.skip)))
 (.seq (.seq (.reg (some 3) [
     ⟨(some 56), none, .load true 2 (.t 9)⟩,
     ⟨(some 57), none, .load true 2 (.t 2)⟩,
     ⟨(some 58), none, .call .k (.f 30) [(.t 57)]⟩,
     ⟨(some 59), none, .call .q (.f 32) [(.t 56), (.t 58)]⟩,
     ⟨(some 60), none, .un .not (.t 59)⟩])
  (.cond (.t 60) (.seq (.reg none [
      ⟨(some 4), none, .mov (.c (.bool false))⟩])
   (.ret)) (.skip)))
 (.seq (.reg none [
    ⟨(some 13), none, .mov (.c (.int .i64 1))⟩])
 (.seq (.reg none [
    ⟨(some 61), none, .load true 2 (.t 9)⟩,
    ⟨(some 62), none, .mov (.t 13)⟩,
    ⟨(some 63), none, .call .n (.f 34) [(.t 61), (.t 62)]⟩,
    ⟨(some 13), none, .mov (.t 63)⟩])
 (.seq (.seq (.reg none [
     ⟨(some 64), none, .mov (.t 13)⟩,
     ⟨(some 65), none, .bin .lss (.t 64) (.c (.int .i64 0))⟩,
     ⟨(some 66), none, .mov (.t 65)⟩,
     ⟨(some 67), (some (66, false)), .mov (.t 10)⟩,
     ⟨(some 68), (some (66, false)), .mov (.t 6)⟩,
     ⟨(some 69), (some (66, false)), .call .q (.f 43) [(.t 67), (.t 68)]⟩,
     ⟨(some 70), (some (66, false)), .un .not (.t 69)⟩,
     ⟨(some 71), none, .pick (.t 66) (.c (.bool true)) (.t 70)⟩,
     ⟨(some 72), none, .mov (.t 71)⟩,
     ⟨(some 73), (some (72, false)), .mov (.t 11)⟩,
     ⟨(some 74), (some (72, false)), .mov (.t 7)⟩,
     ⟨(some 75), (some (72, false)), .call .q (.f 43) [(.t 73), (.t 74)]⟩,
     ⟨(some 76), (some (72, false)), .un .not (.t 75)⟩,
     ⟨(some 77), none, .pick (.t 72) (.c (.bool true)) (.t 76)⟩,
     ⟨(some 78), none, .mov (.t 77)⟩,
     ⟨(some 79), (some (78, false)), .mov (.t 12)⟩,
     ⟨(some 80), (some (78, false)), .mov (.t 8)⟩,
     ⟨(some 81), (some (78, false)), .beq true (.t 79) (.t 80)⟩,
     ⟨(some 82), none, .pick (.t 78) (.c (.bool true)) (.t 81)⟩])
  (.cond (.t 82) (.seq (.reg none [
      ⟨(some 4), none, .mov (.c (.bool false))⟩])
   (.ret)) (.skip)))
 (.seq (.reg none [
    ⟨(some 14), none, .mov (.c (.int .i64 1))⟩])
 (.seq (.reg none [
    ⟨(some 83), none, .mov (.t 10)⟩,
    ⟨(some 84), none, .mov (.t 14)⟩,
    ⟨(some 85), none, .call .n (.f 44) [(.t 83), (.t 84)]⟩,
    ⟨(some 14), none, .mov (.t 85)⟩])
 (.seq (.reg none [
    ⟨(some 86), none, .mov (.t 11)⟩,
    ⟨(some 87), none, .mov (.t 14)⟩,
    ⟨(some 88), none, .call .n (.f 44) [(.t 86), (.t 87)]⟩,
    ⟨(some 14), none, .mov (.t 88)⟩])
 (.seq (.reg none [
    ⟨(some 15), none, .mov (.c (.int .i64 1))⟩])
 (.seq (.reg none [
    ⟨(some 89), none, .mov (.t 10)⟩,
    ⟨(some 90), none, .mov (.t 15)⟩,
    ⟨(some 91), none, .call .q (.f 45) [(.t 89), (.t 90)]⟩,
    ⟨(some 15), none, .mov (.t 91)⟩])
 (.seq (.seq (.reg none [
     ⟨(some 92), none, .mov (.t 15)⟩,
     ⟨(some 93), none, .bin .lss (.t 92) (.c (.int .i64 0))⟩])
  (.cond (.t 93) (.seq (.reg none [
      ⟨(some 4), none, .mov (.c (.bool false))⟩])
   (.ret)) (.skip)))
 (.seq (.reg none [
    ⟨(some 94), none, .mov (.t 11)⟩,
    ⟨(some 95), none, .mov (.t 15)⟩,
    ⟨(some 96), none, .call .q (.f 45) [(.t 94), (.t 95)]⟩,
    ⟨(some 15), none, .mov (.t 96)⟩])
 (.seq (.seq (.reg none [
     ⟨(some 97), none, .mov (.t 15)⟩,
     ⟨(some 98), none, .bin .lss (.t 97) (.c (.int .i64 0))⟩])
  (.cond (.t 98) (.seq (.reg none [
      ⟨(some 4), none, .mov (.c (.bool false))⟩])
   (.ret)) (.skip)))
 (.seq (.seq (.reg none [
     ⟨(some 99), none, .mov (.t 15)⟩,
     ⟨(some 100), none, .mov (.t 14)⟩,
     ⟨(some 101), none, .bin .neq (.t 99) (.t 100)⟩])
  (.cond (.t 101) (.seq (.reg none [
      ⟨(some 4), none, .mov (.c (.bool false))⟩])
   (.ret)) (.skip)))
 (.seq (.reg none [
    ⟨(some 103), none, .load true 2 (.t 2)⟩,
    ⟨(some 104), none, .call .k (.f 30) [(.t 103)]⟩,
    ⟨(some 105), none, .mov (.t 1)⟩,
    ⟨(some 106), none, .call .k (.f 47) [(.t 104), (.t 105)]⟩,
    ⟨(some 102), none, .mov (.t 106)⟩,
    ⟨(some 107), none, .ext (.t 102) 0⟩,
    ⟨(some 108), none, .ext (.t 102) 1⟩,
    ⟨(some 109), none, .ext (.t 102) 2⟩,
    ⟨(some 16), none, .mov (.t 107)⟩,
    ⟨(some 17), none, .mov (.t 108)⟩,
    ⟨(some 18), none, .mov (.t 109)⟩])
 (.seq (.seq (.reg none [
     ⟨(some 110), none, .mov (.t 16)⟩,
     ⟨(some 111), none, .mov (.t 6)⟩,
     ⟨(some 112), none, .call .q (.f 43) [(.t 110), (.t 111)]⟩,
     ⟨(some 113), none, .un .not (.t 112)⟩,
     ⟨(some 114), none, .mov (.t 113)⟩,
     ⟨(some 115), (some (114, false)), .mov (.t 17)⟩,
     ⟨(some 116), (some (114, false)), .mov (.t 7)⟩,
     ⟨(some 117), (some (114, false)), .call .q (.f 43) [(.t 115), (.t 116)]⟩,
     ⟨(some 118), (some (114, false)), .un .not (.t 117)⟩,
     ⟨(some 119), none, .pick (.t 114) (.c (.bool true)) (.t 118)⟩,
     ⟨(some 120), none, .mov (.t 119)⟩,
     ⟨(some 121), (some (120, false)), .mov (.t 18)⟩,
     ⟨(some 122), (some (120, false)), .mov (.t 8)⟩,
     ⟨(some 123), (some (120, false)), .beq true (.t 121) (.t 122)⟩,
     ⟨(some 124), none, .pick (.t 120) (.c (.bool true)) (.t 123)⟩])
  (.cond (.t 124) (.seq (.reg none [
      ⟨(some 4), none, .mov (.c (.bool false))⟩])
   (.ret)) (.skip)))
 (.seq (.reg none [
    ⟨(some 15), none, .mov (.c (.int .i64 1))⟩])
 (.seq (.reg none [
    ⟨(some 125), none, .mov (.t 10)⟩,
    ⟨(some 126), none, .mov (.t 15)⟩,
    ⟨(some 127), none, .call .q (.f 45) [(.t 125), (.t 126)]⟩,
    ⟨(some 15), none, .mov (.t 127)⟩])
 (.seq (.seq (.reg none [
     ⟨(some 128), none, .mov (.t 15)⟩,
     ⟨(some 129), none, .bin .lss (.t 128) (.c (.int .i64 0))⟩])
  (.cond (.t 129) (.seq (.reg none [
      ⟨(some 4), none, .mov (.c (.bool false))⟩])
   (.ret)) (.skip)))
 (.seq (.reg none [
    ⟨(some 130), none, .mov (.t 11)⟩,
    ⟨(some 131), none, .mov (.t 15)⟩,
    ⟨(some 132), none, .call .q (.f 45) [(.t 130), (.t 131)]⟩,
    ⟨(some 15), none, .mov (.t 132)⟩])
 (.seq (.seq (.reg none [
     ⟨(some 133), none, .mov (.t 15)⟩,
     ⟨(some 134), none, .bin .lss (.t 133) (.c (.int .i64 0))⟩])
  (.cond (.t 134) (.seq (.reg none [
      ⟨(some 4), none, .mov (.c (.bool false))⟩])
   (.ret)) (.skip)))
 (.seq (.seq (.reg none [
     ⟨(some 135), none, .mov (.t 15)⟩,
     ⟨(some 136), none, .mov (.t 14)⟩,
     ⟨(some 137), none, .bin .neq (.t 135) (.t 136)⟩])
  (.cond (.t 137) (.seq (.reg none [
      ⟨(some 4), none, .mov (.c (.bool false))⟩])
   (.ret)) (.skip)))
 (.seq (.reg none [
    ⟨(some 4), none, .mov (.c (.bool true))⟩])
 (.ret))))))))))))))))))))))))))))))⟩
set_option maxHeartbeats 8000000 in
theorem lawESW_ok {F : Nat → Option IFn} {f : Nat} (hf : F f = some c_lawESW) (gsz : ∀ n, SzT F (Co.prog n) true 29 (tP n)) (gto : ∀ n, ToOkS F (Co.prog n) true .k 30) (gs : LeakOk F 46 false) (gi : LeakOwn F 47 false) (gei : IntsOk F 43) (geq : ∀ n, EqOk F (Co.prog n) true 32) (gmp : ∀ n, MkOk F (Co.prog n) true 34 (cP n)) (gmi : MarkFlat F 1 44) (ghi : HeldFlat F 1 45) :
    ∀ (H : Heap) (n : Nat) (v : Value) (a : TProg n) (h : Int), Rd (Co.prog n) true (vw 0 H) v a → QC F f [v, .int .i64 h] H (.bool true) := by
  rintro H n v ⟨ls, l⟩ h hv
  have gee : ∀ {H : Heap} {v w : Value} {l : List Int}, SlR Co.int (vw 0 H) v l → SlR Co.int (vw 0 H) w l → QC F 43 [v, w] H (.bool true) := fun {H v w l} a b => by
    have := gei H v w l l a b
    rwa [decide_eq_true rfl] at this
  obtain ⟨lv, sv, rfl, r1, r2⟩ := prog_un hv
  obtain ⟨_, la, rfl, _⟩ := id r1
  obtain ⟨_, sa, rfl, _⟩ := id r2
  refine QC.mk hf rfl ?_
  refine seq_reg ?_
  simp only [go_sem, binC]
  refine wpc_gen fun H1 hH1 => ?_
  have x1 : AgX [] H H1 := hH1 ▸ AgX.app [] _ _
  have hb2 : H1[H.length]? = some ⟨[.slice la ls.length ls.length, .slice sa l.length l.length], 0, 0, false, true⟩ := hH1 ▸ get_new0 _ _
  have hn1 : H1.length = H.length + 1 := by rw [hH1, List.length_append]; rfl
  clear hH1 hv
  replace r1 := r1.mono (agx_sub x1)
  replace r2 := r2.mono (agx_sub x1)
  refine seq_reg ?_
  simp only [go_sem, binC]
  refine seq_reg ?_
  simp only [go_sem, binC, gc_of hb2, inBlk_some]
  obtain ⟨r, q1, q2, q3⟩ := gsz n H1 _ (ls, l) 1048576 (prog_rd r1 r2) (by omega) (by omega)
  refine op_callQ (by simp only [go_sem, binC]; exact q1) ?_
  simp only [go_sem, binC]
  refine seq_assoc (seq_reg ?_)
  simp only [go_sem, binC]
  by_cases hneg : r < 0
  · refine seq_cond (t := true) (by simp only [go_sem, binC]; rw [decide_eq_true hneg]) ?_
    simp only [go_sem, binC]
    refine seq_assoc (seq_reg ?_)
    simp only [go_sem, binC]
    exact seq_ret ⟨Or.inr rfl, .bool true, by simp only [go_sem, binC], rfl, rfl⟩
  refine seq_cond (t := false) (by simp only [go_sem, binC]; rw [decide_eq_false hneg]) ?_
  simp only [go_sem, binC]
  obtain ⟨hsm, htot⟩ := q3 (by omega)
  have hcp := cP_le (n := n) (ls, l)
  have hls : ls.length ≤ 1048576 := hsm.1.1
  -- what is wanted
  refine seq_skip (seq_reg ?_)
  simp only [go_sem, binC, gc_of hb2, inBlk_some]
  refine (gto n).x (prog_rd r1 r2) hsm (by simp only [go_sem, binC]) fun w Ha xa ha => ?_
  obtain ⟨lw, sw, rfl, w1, w2⟩ := prog_un ha
  obtain ⟨_, aw1, rfl, _⟩ := id w1
  obtain ⟨_, aw2, rfl, _⟩ := id w2
  simp only [go_sem, binC]
  obtain ⟨wa, wb, H2, kc, xc, z1, z2⟩ := gs Ha n _ _ ls l h (w1.mono (vws_x (AgX.refl _ _))) (w2.mono (vws_x (AgX.refl _ _))) hsm
  obtain ⟨P, hPL⟩ : ∃ P, leakV false n (ls, l) h = P := ⟨_, rfl⟩
  have hk4 : P = none ∨ ls.length ≤ 4 := by
    rw [← hPL]
    unfold leakV
    by_cases hp : (progB n (ls, l) && inB h 0 2) = true
    · right
      simp only [Bool.and_eq_true] at hp
      exact progB_le4 hp.1
    · left; rw [if_neg hp]
  rw [hPL] at kc z1 z2
  obtain ⟨R, hR⟩ : ∃ R, rowsO ls.length P = R := ⟨_, rfl⟩
  rw [hR] at z1 z2
  refine op_callK (by simp only [go_sem, binC]; exact kc) ?_
  obtain ⟨_, za, rfl, _⟩ := id z1
  obtain ⟨_, zb, rfl, _⟩ := id z2
  have la' := xa.1
  have lc' := xc.1
  simp only [go_sem, binC]
  have x12 : AgX [] H1 H2 := xa.tr xc
  -- the argument
  have hb22 := x12.get hb2 (by simp)
  refine seq_reg ?_
  simp only [go_sem, binC, gc_of hb22, inBlk_some]
  refine (gto n).x (prog_rd (r1.mono (agx_sub x12)) (r2.mono (agx_sub x12))) hsm (by simp only [go_sem, binC]) fun w0 H3 x3 ha3 => ?_
  obtain ⟨lx, sx, rfl, y1, y2⟩ := prog_un ha3
  obtain ⟨_, ax1, rfl, _⟩ := id y1
  obtain ⟨_, ax2, rfl, _⟩ := id y2
  have l3' := x3.1
  simp only [go_sem, binC]
  refine ⟨by omega, ?_⟩
  refine wpc_gen fun H4 hH4 => ?_
  have x34 : AgX [] H3 H4 := hH4 ▸ AgX.app [] _ _
  have hb8 : H4[H3.length]? = some ⟨[.slice ax1 ls.length ls.length, .slice ax2 l.length l.length], 0, 0, false, true⟩ := hH4 ▸ get_new0 _ _
  have hn4 : H4.length = H3.length + 1 := by rw [hH4, List.length_append]; rfl
  clear hH4
  -- what is got
  refine seq_reg ?_
  simp only [go_sem, binC, gc_of hb8, inBlk_some]
  obtain ⟨iv, ih, H6, k6, x6, tw⟩ := gi H4 n _ _ ls l h (y1.mono (vws_x x34)) (y2.mono (vws_x x34)) hsm
  rw [hPL] at k6 tw
  obtain ⟨f1, f2, fl1, fl2, d12, ⟨hn1', hn2'⟩, i1, i2⟩ : ∃ b1 b2, FlatB H4.length H6.length H6 1 iv (rowsO ls.length P).1.length b1 0 ∧ FlatB H4.length H6.length H6 1 ih (rowsO ls.length P).2.length b2 0 ∧ ((rowsO ls.length P).1.length = 0 ∨ (rowsO ls.length P).2.length = 0 ∨ b1 ≠ b2) ∧ ((rowsO ls.length P).1.length ≤ 1000 ∧ (rowsO ls.length P).2.length ≤ 1000) ∧ SlR Co.int (vw 0 H6) iv (rowsO ls.length P).1 ∧ SlR Co.int (vw 0 H6) ih (rowsO ls.length P).2 := by
    exact tw.flats (hk4.imp id fun h => by omega)
  rw [hR] at fl1 fl2 d12 hn1' hn2' i1 i2
  refine op_callK (by simp only [go_sem, binC]; exact k6) ?_
  obtain ⟨_, ia, rfl, _⟩ := id i1
  obtain ⟨_, ib, rfl, _⟩ := id i2
  have l6' := x6.1
  have t1 := flat_lt fl1
  have t2 := flat_lt fl2
  simp only [go_sem, binC]
  have x26 := (x3.tr x34).tr x6
  have hb86 := x6.get hb8 (by simp)
  have hb26 := x26.get hb22 (by simp)
  have x16 := x12.tr x26
  refine seq_assoc (seq_reg ?_)
  simp only [go_sem, binC]
  refine op_callQ (by simp only [go_sem, binC]; exact gee i1 (z1.mono (agx_sub x26))) ?_
  simp only [go_sem, binC]
  refine op_callQ (by simp only [go_sem, binC]; exact gee i2 (z2.mono (agx_sub x26))) ?_
  simp only [go_sem, binC, bne_self_eq_false, beq_self_eq_true, Bool.not_true]
  refine seq_cond (t := false) rfl ?_
  simp only [go_sem, binC]
  -- what was handed in reads as it did
  refine seq_skip (seq_assoc (seq_regD ?_))
  simp only [go_sem, binC, gc_of hb86, gc_of hb26, inBlk_some]
  refine (gto n).x (prog_rd (r1.mono (agx_sub x16)) (r2.mono (agx_sub x16))) hsm (by simp only [go_sem, binC]) fun w8 H8 x8 ha8 => ?_
  simp only [go_sem, binC]
  have x38 := (x34.tr x6).tr x8
  refine op_callQ (by simp only [go_sem, binC]; exact geq n H8 _ _ (ls, l) (prog_rd (y1.mono (vws_x x38)) (y2.mono (vws_x x38))) (ha8.mono (vws_x (AgX.refl _ _)))) ?_
  simp only [go_sem, binC]
  refine seq_cond (t := false) rfl ?_
  simp only [go_sem, binC]
  have l8' := x8.1
  -- marks
  refine seq_skip (seq_reg ?_)
  simp only [go_sem, binC]
  have hb88 := x8.get hb86 (by simp)
  obtain ⟨H10, k10, fr10⟩ := gmp n H8 _ (ls, l) H2.length H3.length H.length 1 (prog_rd (y1.mono (vws_b x38)) (y2.mono (vws_b x38))) x38.1 (by omega) (by omega) (by omega)
  refine seq_reg ?_
  simp only [go_sem, binC, gc_of hb88, inBlk_some]
  refine op_callN (by simp only [go_sem, binC]; exact k10) ?_
  simp only [go_sem, binC]
  have l10' := fr10.1
  have x210 : AgX [] H2 H10 := fr10.agx (x26.tr x8) (Nat.le_refl _)
  have hfe : ∀ {vv : Value} {m b : Nat}, FlatB H4.length H6.length H6 1 vv m b 0 → m = 0 ∨ H10[b]? = H6[b]? := fun h => (flat_lt h).imp id fun h => (fr10.out (by omega) (.inr (by omega))).trans (x8.2 _ h.2 (by simp))
  have j1 := flat_slI (H' := H10) fl1 i1 rfl (hfe fl1)
  have j2 := flat_slI (H' := H10) fl2 i2 rfl (hfe fl2)
  refine seq_assoc (seq_reg ?_)
  simp only [go_sem, binC]
  rw [decide_eq_false (show ¬ (1 + ((cP n (ls, l) : Nat) : Int) < 0) by omega)]
  simp only [go_sem, binC]
  refine op_callQ (by simp only [go_sem, binC]; exact gee j1 (z1.mono (agx_sub x210))) ?_
  simp only [go_sem, binC]
  refine op_callQ (by simp only [go_sem, binC]; exact gee j2 (z2.mono (agx_sub x210))) ?_
  simp only [go_sem, binC, bne_self_eq_false, beq_self_eq_true, Bool.not_true]
  refine seq_cond (t := false) rfl ?_
  simp only [go_sem, binC]
  -- marks on what was got
  have o1 := fl1.mono (hi' := H10.length) (by omega) (hfe fl1)
  have o2 := fl2.mono (hi' := H10.length) (by omega) (hfe fl2)
  have m1 := gmi H10 _ _ f1 0 H4.length H10.length H.length 1 o1 (by omega) (by omega) (by omega)
  have e1 := held_mark o1 1
  generalize hH11 : (if R.1.length = 0 then H10 else markB H10 f1 0 1 (R.1.length * 1)) = H11 at m1 e1
  have c1 : ∀ b', R.1.length = 0 ∨ b' ≠ f1 → H11[b']? = H10[b']? := fun b' h => hH11 ▸ mark_out h
  have le1 : H11.length = H10.length := hH11 ▸ mark_len _ _ _ _ _ _
  have o21 : FlatB H4.length H10.length H11 1 (.slice ib R.2.length R.2.length) R.2.length f2 0 := o2.mono (Nat.le_refl _) (by
    rcases d12 with h | h | h
    · exact .inr (c1 _ (.inl h))
    · exact .inl h
    · exact .inr (c1 _ (.inr (Ne.symm h))))
  have m2 := gmi H11 _ _ f2 0 H4.length H10.length H.length (1 + ((R.1.length * 1 : Nat) : Int)) o21 (by omega) (by omega) (by omega)
  have e2 := held_mark o21 (1 + ((R.1.length * 1 : Nat) : Int))
  generalize hH12 : (if R.2.length = 0 then H11 else markB H11 f2 0 (1 + ((R.1.length * 1 : Nat) : Int)) (R.2.length * 1)) = H12 at m2 e2
  have c2 : ∀ b', R.2.length = 0 ∨ b' ≠ f2 → H12[b']? = H11[b']? := fun b' h => hH12 ▸ mark_out h
  have le2 : H12.length = H11.length := hH12 ▸ mark_len _ _ _ _ _ _
  have e12 : HeldR H12 (.slice ia R.1.length R.1.length) 1 R.1.length f1 0 1 := e1.mono (by
    rcases d12 with h | h | h
    · exact .inl h
    · exact .inr (c2 _ (.inl h))
    · exact .inr (c2 _ (.inr h)))
  refine seq_skip (seq_reg ?_)
  simp only [go_sem, binC]
  refine seq_reg ?_
  simp only [go_sem, binC]
  refine op_callN (by simp only [go_sem, binC]; exact m1) ?_
  simp only [go_sem, binC]
  refine seq_reg ?_
  simp only [go_sem, binC]
  refine op_callN (by simp only [go_sem, binC]; exact m2) ?_
  simp only [go_sem, binC]
  have h1 := ghi H12 _ _ f1 0 1 e12 (by omega) (by omega)
  have h2 := ghi H12 _ _ f2 0 _ e2 (by omega) (by omega)
  refine seq_reg ?_
  simp only [go_sem, binC]
  refine seq_reg ?_
  simp only [go_sem, binC]
  refine op_callQ (by simp only [go_sem, binC]; exact h1) ?_
  simp only [go_sem, binC]
  refine seq_assoc (seq_reg ?_)
  simp only [go_sem, binC]
  refine seq_cond (t := false) (by simp only [go_sem, binC]; rw [decide_eq_false (by omega)]) ?_
  simp only [go_sem, binC]
  refine seq_skip (seq_reg ?_)
  simp only [go_sem, binC]
  refine op_callQ (by simp only [go_sem, binC]; exact h2) ?_
  simp only [go_sem, binC]
  refine seq_assoc (seq_reg ?_)
  simp only [go_sem, binC]
  refine seq_cond (t := false) (by simp only [go_sem, binC]; rw [decide_eq_false (by omega)]) ?_
  simp only [go_sem, binC]
  refine seq_skip (seq_assoc (seq_reg ?_))
  simp only [go_sem, binC, bne_self_eq_false]
  refine seq_cond (t := false) rfl ?_
  simp only [go_sem, binC]
  -- done again
  have hout : ∀ b, b < H4.length → H12[b]? = H10[b]? := fun b hb => (c2 b (t2.imp id fun h => by omega)).trans (c1 b (t1.imp id fun h => by omega))
  have x212 : AgX [] H2 H12 := ⟨by have := x210.1; omega, fun b hb _ => (hout b (by omega)).trans (x210.2 b hb (by simp))⟩
  have x112 : AgX [] H1 H12 := x12.tr x212
  have hb212 := x212.get hb22 (by simp)
  refine seq_skip (seq_reg ?_)
  simp only [go_sem, binC, gc_of hb212, inBlk_some]
  refine (gto n).x (prog_rd (r1.mono (agx_sub x112)) (r2.mono (agx_sub x112))) hsm (by simp only [go_sem, binC]) fun w13 H13 x13 ha13 => ?_
  obtain ⟨lg, sg, rfl, p1, p2⟩ := prog_un ha13
  obtain ⟨_, ag1, rfl, _⟩ := id p1
  obtain ⟨_, ag2, rfl, _⟩ := id p2
  simp only [go_sem, binC]
  obtain ⟨gv, gh, H15, k15, x15, tw2⟩ := gi H13 n _ _ ls l h (p1.mono (vws_x (AgX.refl _ _))) (p2.mono (vws_x (AgX.refl _ _))) hsm
  rw [hPL] at k15 tw2
  obtain ⟨s1, s2⟩ : SlR Co.int (vw 0 H15) gv R.1 ∧ SlR Co.int (vw 0 H15) gh R.2 := by
    obtain ⟨_, _, _, _, _, _, s1, s2⟩ := tw2.flats (hk4.imp id fun h => by omega)
    rw [hR] at s1 s2
    exact ⟨s1, s2⟩
  refine op_callK (by simp only [go_sem, binC]; exact k15) ?_
  obtain ⟨_, ga, rfl, _⟩ := id s1
  obtain ⟨_, gb, rfl, _⟩ := id s2
  have l13' := x13.1
  have l15' := x15.1
  simp only [go_sem, binC]
  have x1215 := x13.tr x15
  have x215 := x212.tr x1215
  refine seq_assoc (seq_reg ?_)
  simp only [go_sem, binC]
  refine op_callQ (by simp only [go_sem, binC]; exact gee s1 (z1.mono (agx_sub x215))) ?_
  simp only [go_sem, binC]
  refine op_callQ (by simp only [go_sem, binC]; exact gee s2 (z2.mono (agx_sub x215))) ?_
  simp only [go_sem, binC, bne_self_eq_false, beq_self_eq_true, Bool.not_true]
  refine seq_cond (t := false) rfl ?_
  simp only [go_sem, binC]
  have hx15 : ∀ {m b : Nat}, m = 0 ∨ (H4.length ≤ b ∧ b < H6.length) → m = 0 ∨ H15[b]? = H12[b]? := fun h => h.imp id fun h => x1215.2 _ (by omega) (by simp)
  have h3 := ghi H15 _ _ f1 0 1 (e12.mono (hx15 t1)) (by omega) (by omega)
  have h4 := ghi H15 _ _ f2 0 _ (e2.mono (hx15 t2)) (by omega) (by omega)
  refine seq_skip (seq_reg ?_)
  simp only [go_sem, binC]
  refine seq_reg ?_
  simp only [go_sem, binC]
  refine op_callQ (by simp only [go_sem, binC]; exact h3) ?_
  simp only [go_sem, binC]
  refine seq_assoc (seq_reg ?_)
  simp only [go_sem, binC]
  refine seq_cond (t := false) (by simp only [go_sem, binC]; rw [decide_eq_false (by omega)]) ?_
  simp only [go_sem, binC]
  refine seq_skip (seq_reg ?_)
  simp only [go_sem, binC]
  refine op_callQ (by simp only [go_sem, binC]; exact h4) ?_
  simp only [go_sem, binC]
  refine seq_assoc (seq_reg ?_)
  simp only [go_sem, binC]
  refine seq_cond (t := false) (by simp only [go_sem, binC]; rw [decide_eq_false (by omega)]) ?_
  simp only [go_sem, binC]
  refine seq_skip (seq_assoc (seq_reg ?_))
  simp only [go_sem, binC, bne_self_eq_false]
  refine seq_cond (t := false) rfl ?_
  simp only [go_sem, binC]
  refine seq_skip (seq_reg ?_)
  simp only [go_sem, binC]
  exact wpc_ret ⟨Or.inr rfl, .bool true, by simp only [go_sem, binC], rfl, rfl⟩
end Go.Proofs.YtkmghcglmjehcaaI
end
section
/- The functions that the law FnExactSwayOf reaches, as ideal functions. -/
set_option linter.unusedVariables false
set_option linter.unusedSimpArgs false
namespace Go.Proofs.YtkmghcglmjehcaaI
open Go Go.RowKit
def fnOf : Nat → Option IFn
  | 14 => some (c_lawESW)
  | 19 => some (c_sProg)
  | 25 => some (c_sLabelOk)
  | 26 => some (c_iRunOf)
  | 29 => some (c_szProg)
  | 30 => some (c_toProg)
  | 32 => some (c_eqProg)
  | 34 => some (c_markProg)
  | 43 => some (eqFlat)
  | 44 => some (c_mark1)
  | 45 => some (c_held1)
  | 46 => some (c_sSwayOf)
  | 47 => some (c_iSwayOf)
  | 54 => some (c_iProg)
  | 61 => some (c_sSteps)
  | 62 => some (c_sCount)
  | 65 => some (c_iLabelOk)
  | 68 => some (c_sSet)
  | 69 => some (c_iNums)
  | 70 => some (c_cloneInts)
  | 71 => some (c_do)
  | 72 => some (c_clone)
  | 74 => some (c_iSize)
  | 75 => some (szFlat)
  | 76 => some (szNest 122 8 true)
  | 77 => some (toCall .q 123 2 35 16 [(.int .i64 0), (.int .i64 0)] true)
  | 78 => some (toCall .k 124 8 83 96 [(.int .i64 0), (.int .i64 0), (.int .i64 0), (.int .i64 0), (.int .i64 0), (.int .i64 0), (.slice none 0 0), (.slice none 0 0)] true)
  | 79 => some (eqCall 125 2 true)
  | 80 => some (eqCall 126 8 true)
  | 81 => some (c_mark2)
  | 82 => some (c_markStepS)
  | 86 => some (c_sIn)
  | 87 => some (c_sFind12)
  | 89 => some (c_iHost)
  | 90 => some (c_iPair)
  | 93 => some (c_each)
  | 95 => some (c_sTrustsV)
  | 96 => some (c_iTrustsV)
  | 97 => some (c_sway1)
  | 98 => some (c_eqW)
  | 99 => some (c_iRunSets)
  | 102 => some (c_sAll)
  | 107 => some (c_con)
  | 108 => some (c_p1)
  | 109 => some (c_iSteps)
  | 112 => some (c_vars)
  | 113 => some (c_sStep)
  | 114 => some (c_iHas)
  | 116 => some (c_iSet)
  | 119 => some (c_iNum)
  | 120 => some (c_set)
  | 121 => some (c_of)
  | 122 => some (c_szStep)
  | 123 => some (c_toLabel)
  | 124 => some (c_toStep)
  | 125 => some (c_eqLabel)
  | 126 => some (c_eqStep)
  | 128 => some (c_sBits)
  | 129 => some (c_sSameV)
  | 130 => some (c_sRunOf)
  | 131 => some (c_lcInts)
  | 132 => some (c_sRunTo)
  | 133 => some (c_lcWrites)
  | 134 => some (c_sRunSets)
  | 135 => some (c_sHas)
  | 136 => some (c_iIn)
  | 137 => some (c_iBits)
  | 138 => some (c_tru1)
  | 142 => some (c_idx)
  | 143 => some (c_iVar)
  | 144 => some (c_iVal)
  | 145 => some (c_sVar)
  | 146 => some (c_sVal)
  | 148 => some (c_toVal)
  | 149 => some (c_eqVal)
  | 151 => some (c_sNums)
  | 152 => some (c_sDo)
  | 154 => some (c_sNum)
  | _ => none
def cmOf (f : Nat) : CM := ⟨fun g => if [14, 19, 25, 29, 32, 43, 45, 54, 61, 62, 65, 68, 69, 74, 75, 76, 79, 80, 86, 89, 97, 98, 102, 107, 108, 109, 113, 114, 116, 119, 121, 122, 123, 125, 126, 129, 131, 133, 135, 136, 138, 142, 143, 144, 145, 146, 148, 149, 151, 154].contains g then .q else if [34, 44, 71, 81, 82, 120, 152].contains g then .n else .k, if [34, 44, 71, 81, 82, 120, 152].contains f then .n else .q, [137].contains f⟩
theorem hF14 : cFn Try.prog cmOf 14 = some (c_lawESW) := by kernel_rfl
theorem hF19 : cFn Try.prog cmOf 19 = some (c_sProg) := by kernel_rfl
theorem hF25 : cFn Try.prog cmOf 25 = some (c_sLabelOk) := by kernel_rfl
theorem hF26 : cFn Try.prog cmOf 26 = some (c_iRunOf) := by kernel_rfl
theorem hF29 : cFn Try.prog cmOf 29 = some (c_szProg) := by kernel_rfl
theorem hF30 : cFn Try.prog cmOf 30 = some (c_toProg) := by kernel_rfl
theorem hF32 : cFn Try.prog cmOf 32 = some (c_eqProg) := by kernel_rfl
theorem hF34 : cFn Try.prog cmOf 34 = some (c_markProg) := by kernel_rfl
theorem hF43 : cFn Try.prog cmOf 43 = some (eqFlat) := by kernel_rfl
theorem hF44 : cFn Try.prog cmOf 44 = some (c_mark1) := by kernel_rfl
theorem hF45 : cFn Try.prog cmOf 45 = some (c_held1) := by kernel_rfl
theorem hF46 : cFn Try.prog cmOf 46 = some (c_sSwayOf) := by kernel_rfl
theorem hF47 : cFn Try.prog cmOf 47 = some (c_iSwayOf) := by kernel_rfl
theorem hF54 : cFn Try.prog cmOf 54 = some (c_iProg) := by kernel_rfl
theorem hF61 : cFn Try.prog cmOf 61 = some (c_sSteps) := by kernel_rfl
theorem hF62 : cFn Try.prog cmOf 62 = some (c_sCount) := by kernel_rfl
theorem hF65 : cFn Try.prog cmOf 65 = some (c_iLabelOk) := by kernel_rfl
theorem hF68 : cFn Try.prog cmOf 68 = some (c_sSet) := by kernel_rfl
theorem hF69 : cFn Try.prog cmOf 69 = some (c_iNums) := by kernel_rfl
theorem hF70 : cFn Try.prog cmOf 70 = some (c_cloneInts) := by kernel_rfl
theorem hF71 : cFn Try.prog cmOf 71 = some (c_do) := by kernel_rfl
theorem hF72 : cFn Try.prog cmOf 72 = some (c_clone) := by kernel_rfl
theorem hF74 : cFn Try.prog cmOf 74 = some (c_iSize) := by kernel_rfl
theorem hF75 : cFn Try.prog cmOf 75 = some (szFlat) := by kernel_rfl
theorem hF76 : cFn Try.prog cmOf 76 = some (szNest 122 8 true) := by kernel_rfl
theorem hF77 : cFn Try.prog cmOf 77 = some (toCall .q 123 2 35 16 [(.int .i64 0), (.int .i64 0)] true) := by kernel_rfl
theorem hF78 : cFn Try.prog cmOf 78 = some (toCall .k 124 8 83 96 [(.int .i64 0), (.int .i64 0), (.int .i64 0), (.int .i64 0), (.int .i64 0), (.int .i64 0), (.slice none 0 0), (.slice none 0 0)] true) := by kernel_rfl
theorem hF79 : cFn Try.prog cmOf 79 = some (eqCall 125 2 true) := by kernel_rfl
theorem hF80 : cFn Try.prog cmOf 80 = some (eqCall 126 8 true) := by kernel_rfl
theorem hF81 : cFn Try.prog cmOf 81 = some (c_mark2) := by kernel_rfl
theorem hF82 : cFn Try.prog cmOf 82 = some (c_markStepS) := by kernel_rfl
theorem hF86 : cFn Try.prog cmOf 86 = some (c_sIn) := by kernel_rfl
theorem hF87 : cFn Try.prog cmOf 87 = some (c_sFind12) := by kernel_rfl
theorem hF89 : cFn Try.prog cmOf 89 = some (c_iHost) := by kernel_rfl
theorem hF90 : cFn Try.prog cmOf 90 = some (c_iPair) := by kernel_rfl
theorem hF93 : cFn Try.prog cmOf 93 = some (c_each) := by kernel_rfl
theorem hF95 : cFn Try.prog cmOf 95 = some (c_sTrustsV) := by kernel_rfl
theorem hF96 : cFn Try.prog cmOf 96 = some (c_iTrustsV) := by kernel_rfl
theorem hF97 : cFn Try.prog cmOf 97 = some (c_sway1) := by kernel_rfl
theorem hF98 : cFn Try.prog cmOf 98 = some (c_eqW) := by kernel_rfl
theorem hF99 : cFn Try.prog cmOf 99 = some (c_iRunSets) := by kernel_rfl
theorem hF102 : cFn Try.prog cmOf 102 = some (c_sAll) := by kernel_rfl
theorem hF107 : cFn Try.prog cmOf 107 = some (c_con) := by kernel_rfl
theorem hF108 : cFn Try.prog cmOf 108 = some (c_p1) := by kernel_rfl
theorem hF109 : cFn Try.prog cmOf 109 = some (c_iSteps) := by kernel_rfl
theorem hF112 : cFn Try.prog cmOf 112 = some (c_vars) := by kernel_rfl
theorem hF113 : cFn Try.prog cmOf 113 = some (c_sStep) := by kernel_rfl
theorem hF114 : cFn Try.prog cmOf 114 = some (c_iHas) := by kernel_rfl
theorem hF116 : cFn Try.prog cmOf 116 = some (c_iSet) := by kernel_rfl
theorem hF119 : cFn Try.prog cmOf 119 = some (c_iNum) := by kernel_rfl
theorem hF120 : cFn Try.prog cmOf 120 = some (c_set) := by kernel_rfl
theorem hF121 : cFn Try.prog cmOf 121 = some (c_of) := by kernel_rfl
theorem hF122 : cFn Try.prog cmOf 122 = some (c_szStep) := by kernel_rfl
theorem hF123 : cFn Try.prog cmOf 123 = some (c_toLabel) := by kernel_rfl
theorem hF124 : cFn Try.prog cmOf 124 = some (c_toStep) := by kernel_rfl
theorem hF125 : cFn Try.prog cmOf 125 = some (c_eqLabel) := by kernel_rfl
theorem hF126 : cFn Try.prog cmOf 126 = some (c_eqStep) := by kernel_rfl
theorem hF128 : cFn Try.prog cmOf 128 = some (c_sBits) := by kernel_rfl
theorem hF129 : cFn Try.prog cmOf 129 = some (c_sSameV) := by kernel_rfl
theorem hF130 : cFn Try.prog cmOf 130 = some (c_sRunOf) := by kernel_rfl
theorem hF131 : cFn Try.prog cmOf 131 = some (c_lcInts) := by kernel_rfl
theorem hF132 : cFn Try.prog cmOf 132 = some (c_sRunTo) := by kernel_rfl
theorem hF133 : cFn Try.prog cmOf 133 = some (c_lcWrites) := by kernel_rfl
theorem hF134 : cFn Try.prog cmOf 134 = some (c_sRunSets) := by kernel_rfl
theorem hF135 : cFn Try.prog cmOf 135 = some (c_sHas) := by kernel_rfl
theorem hF136 : cFn Try.prog cmOf 136 = some (c_iIn) := by kernel_rfl
theorem hF137 : cFn Try.prog cmOf 137 = some (c_iBits) := by kernel_rfl
theorem hF138 : cFn Try.prog cmOf 138 = some (c_tru1) := by kernel_rfl
theorem hF142 : cFn Try.prog cmOf 142 = some (c_idx) := by kernel_rfl
theorem hF143 : cFn Try.prog cmOf 143 = some (c_iVar) := by kernel_rfl
theorem hF144 : cFn Try.prog cmOf 144 = some (c_iVal) := by kernel_rfl
theorem hF145 : cFn Try.prog cmOf 145 = some (c_sVar) := by kernel_rfl
theorem hF146 : cFn Try.prog cmOf 146 = some (c_sVal) := by kernel_rfl
theorem hF148 : cFn Try.prog cmOf 148 = some (c_toVal) := by kernel_rfl
theorem hF149 : cFn Try.prog cmOf 149 = some (c_eqVal) := by kernel_rfl
theorem hF151 : cFn Try.prog cmOf 151 = some (c_sNums) := by kernel_rfl
theorem hF152 : cFn Try.prog cmOf 152 = some (c_sDo) := by kernel_rfl
theorem hF154 : cFn Try.prog cmOf 154 = some (c_sNum) := by kernel_rfl
theorem hF (g : Nat) (fn : IFn) (h : fnOf g = some fn) : cFn Try.prog cmOf g = some fn := by
  unfold fnOf at h
  split at h
  · rw [← h]; exact hF14
  · rw [← h]; exact hF19
  · rw [← h]; exact hF25
  · rw [← h]; exact hF26
  · rw [← h]; exact hF29
  · rw [← h]; exact hF30
  · rw [← h]; exact hF32
  · rw [← h]; exact hF34
  · rw [← h]; exact hF43
  · rw [← h]; exact hF44
  · rw [← h]; exact hF45
  · rw [← h]; exact hF46
  · rw [← h]; exact hF47
  · rw [← h]; exact hF54
  · rw [← h]; exact hF61
  · rw [← h]; exact hF62
  · rw [← h]; exact hF65
  · rw [← h]; exact hF68
  · rw [← h]; exact hF69
  · rw [← h]; exact hF70
  · rw [← h]; exact hF71
  · rw [← h]; exact hF72
  · rw [← h]; exact hF74
  · rw [← h]; exact hF75
  · rw [← h]; exact hF76
  · rw [← h]; exact hF77
  · rw [← h]; exact hF78
  · rw [← h]; exact hF79
  · rw [← h]; exact hF80
  · rw [← h]; exact hF81
  · rw [← h]; exact hF82
  · rw [← h]; exact hF86
  · rw [← h]; exact hF87
  · rw [← h]; exact hF89
  · rw [← h]; exact hF90
  · rw [← h]; exact hF93
  · rw [← h]; exact hF95
  · rw [← h]; exact hF96
  · rw [← h]; exact hF97
  · rw [← h]; exact hF98
  · rw [← h]; exact hF99
  · rw [← h]; exact hF102
  · rw [← h]; exact hF107
  · rw [← h]; exact hF108
  · rw [← h]; exact hF109
  · rw [← h]; exact hF112
  · rw [← h]; exact hF113
  · rw [← h]; exact hF114
  · rw [← h]; exact hF116
  · rw [← h]; exact hF119
  · rw [← h]; exact hF120
  · rw [← h]; exact hF121
  · rw [← h]; exact hF122
  · rw [← h]; exact hF123
  · rw [← h]; exact hF124
  · rw [← h]; exact hF125
  · rw [← h]; exact hF126
  · rw [← h]; exact hF128
  · rw [← h]; exact hF129
  · rw [← h]; exact hF130
  · rw [← h]; exact hF131
  · rw [← h]; exact hF132
  · rw [← h]; exact hF133
  · rw [← h]; exact hF134
  · rw [← h]; exact hF135
  · rw [← h]; exact hF136
  · rw [← h]; exact hF137
  · rw [← h]; exact hF138
  · rw [← h]; exact hF142
  · rw [← h]; exact hF143
  · rw [← h]; exact hF144
  · rw [← h]; exact hF145
  · rw [← h]; exact hF146
  · rw [← h]; exact hF148
  · rw [← h]; exact hF149
  · rw [← h]; exact hF151
  · rw [← h]; exact hF152
  · rw [← h]; exact hF154
  · cases h
theorem hMixed : Try.prog.follows .mixedOrders = true := by kernel_rfl
theorem ok_iIn : ∀ (H : Heap) (a b c : Int), QC fnOf 136 [.int .i64 a, .int .i64 b, .int .i64 c] H (.bool (inB a b c)) := iIn_ok rfl
theorem ok_sIn : ∀ (H : Heap) (a b c : Int), QC fnOf 86 [.int .i64 a, .int .i64 b, .int .i64 c] H (.bool (inB a b c)) := sIn_ok rfl
theorem ok_iSet : ∀ (H : Heap) (a : Int), QC fnOf 116 [.int .i64 a] H (.bool (inB a 0 7)) := iSet_ok rfl ok_iIn
theorem ok_iHost : ∀ (H : Heap) (a : Int), QC fnOf 89 [.int .i64 a] H (.bool (inB a 0 2)) := iHost_ok rfl ok_iIn
theorem ok_iNum : ∀ (H : Heap) (a : Int), QC fnOf 119 [.int .i64 a] H (.bool (inB a 0 9)) := iNum_ok rfl ok_iIn
theorem ok_sAll : ∀ H, QC fnOf 102 [] H (.int .i64 7) := sAll_ok rfl
theorem ok_sSet : ∀ (H : Heap) (a : Int), QC fnOf 68 [.int .i64 a] H (.bool (inB a 0 7)) := sSet_ok rfl ok_sIn ok_sAll
theorem ok_iLabelOk : LabOk fnOf 65 := iLabelOk_ok rfl ok_iSet
theorem ok_sLabelOk : LabOk fnOf 25 := sLabelOk_ok rfl ok_sSet
theorem ok_iVar : VarOk fnOf 143 := iVar_ok rfl ok_iIn
theorem ok_sVar : VarOk fnOf 145 := sVar_ok rfl ok_sIn
theorem ok_iVal : ValOk fnOf 144 := iVal_ok rfl ok_iNum ok_iVar
theorem ok_sVal : ValOk fnOf 146 := sVal_ok rfl ok_sIn ok_sVar
theorem ok_sSteps : ∀ n, StepsOk fnOf 61 n := fun n => (sSteps_all rfl rfl ok_sIn ok_sVar ok_sVal n).1
theorem ok_iSteps : ∀ n, StepsOk fnOf 109 n := iSteps_all rfl ok_iVar ok_iVal ok_iHost
theorem ok_sCount : ∀ n, CntOk fnOf 62 n := cnt_all (fun _ h => sCount_ok rfl h) (sCount_z rfl)
theorem ok_iSize : ∀ n, CntOk fnOf 74 n := cnt_all (fun _ h => iSize_ok rfl h) (iSize_z rfl)
theorem ok_sProg : ProgOk fnOf 19 := sProg_ok rfl ok_sLabelOk ok_sSteps ok_sCount
theorem ok_iProg : ProgOk fnOf 54 := iProg_ok rfl (con_ok rfl (idx_ok rfl (p1_ok rfl ok_iLabelOk))) ok_iSteps ok_iSize
theorem ok_sHas : HasOk fnOf 135 := sHas_ok rfl
theorem ok_iHas : HasOk fnOf 114 := iHas_ok rfl ok_iHost
theorem ok_iNums : NumsOk fnOf 69 := iNums_ok rfl ok_iNum ok_iProg
theorem ok_do : ∀ n, DoOk fnOf 71 n := do_all rfl rfl rfl rfl
theorem ok_iRunOf : RunOk fnOf 26 := iRunOf_ok rfl ok_iNums rfl ok_do rfl
theorem ok_sNums : NumsOk fnOf 151 := sNums_ok rfl ok_sIn ok_sProg
theorem ok_sDo : ∀ n, DoSOk fnOf 152 n := sDo_all rfl rfl
theorem ok_sRunOf : RunOk fnOf 130 := sRunOf_ok rfl ok_sNums ok_sDo
theorem ok_sBits : BitsOk fnOf 128 := sBits_ok rfl
theorem ok_iBits : BitsOwn fnOf 137 := iBits_ok rfl
theorem ok_sSameV : SameV fnOf 129 := sSameV_ok rfl
theorem ok_l12Ints : IntsOk fnOf 131 := lcInts_ok rfl
theorem ok_l12Writes : PairsOk fnOf 133 := lcWrites_ok rfl
theorem ok_sRunTo : ToldOk fnOf 132 := sRunTo_ok rfl
theorem ok_sRunSets : SetsOk fnOf 134 := sRunSets_ok rfl ok_sIn
theorem ok_iRunSets : SetsOk fnOf 99 := iRunSets_ok rfl ok_iIn
theorem ok_sTrustsV : VarsOk fnOf 95 false := sTrustsV_ok rfl ok_sProg ok_sHas
theorem ok_each : EachOk fnOf 93 := each_ok rfl ok_iProg ok_iHas
theorem ok_iTrustsV : VarsOk fnOf 96 false := iTrustsV_ok rfl rfl ok_each
theorem ok_eqW : PairsOk fnOf 98 := eqW_ok rfl
theorem ok_sFind12 : FindG fnOf 87 := sFind12_ok rfl ok_sBits ok_sSameV ok_sRunOf ok_sRunTo ok_l12Ints ok_sRunSets ok_l12Writes
theorem ok_sSwayOf : LeakOk fnOf 46 false := sSwayOf_ok rfl ok_sProg ok_sIn ok_sTrustsV ok_sFind12
theorem ok_iPair : PairG fnOf 90 := iPair_ok rfl ok_iBits ok_iRunOf
theorem ok_iSwayOf : LeakOwn fnOf 47 false := iSwayOf_ok rfl ok_iProg ok_iHost ok_iTrustsV ok_iPair rfl ok_iRunSets ok_eqW
theorem ok_eqLabel : EqOk fnOf Co.p2 true 125 := eqLabel_ok rfl
theorem ok_eqVal : EqOk fnOf Co.val true 149 := eqVal_ok rfl
theorem ok_eqLabelS : EqOk fnOf (Co.sl Co.p2) false 79 := eqCall_ok rfl ok_eqLabel rfl (va_t Co.p2)
theorem ok_eqSteps : ∀ n, EqOk fnOf (Co.step n) true 126 ∧ EqOk fnOf (Co.sl (Co.step n)) false 80 := by
  intro n
  induction n with
  | zero =>
    have z : EqOk fnOf (Co.step 0) true 126 := by
      rintro H v u a ⟨cs, _, h⟩
      exact h.elim
    exact ⟨z, eqCall_ok rfl z (step_w 0) (va_t (Co.step 0))⟩
  | succ n ih =>
    have z : EqOk fnOf (Co.step (n + 1)) true 126 := eqStep_ok rfl ok_eqVal ih.2 ih.2
    exact ⟨z, eqCall_ok rfl z (step_w (n + 1)) (va_t (Co.step (n + 1)))⟩
theorem ok_eqProg (n : Nat) : EqOk fnOf (Co.prog n) true 32 := eqProg_ok rfl ok_eqLabelS (ok_eqSteps n).2
theorem ok_szProgT (n : Nat) : SzT fnOf (Co.prog n) true 29 (tP n) := szProgT_ok rfl (szFlatT_ok rfl (fun _ => ⟨trivial, trivial⟩)) (szStepsT_all rfl rfl n).2
theorem ok_toProgS (n : Nat) : ToOkS fnOf (Co.prog n) true .k 30 := toProg_okS rfl (toCallS_ok rfl rfl (by omega) (toLabel_okS rfl) rfl (va_t Co.p2)) (toStepsS_all rfl rfl (toVal_okS rfl) n).2
theorem ok_markProg (n : Nat) : MkOk fnOf (Co.prog n) true 34 (cP n) := markProg_ok rfl (mkLabs_ok rfl) sLab (mkSteps_all rfl n) (sS n)
theorem ok_law : ∀ (H : Heap) (n : Nat) (v : Value) (a : TProg n) (h : Int), Rd (Co.prog n) true (vw 0 H) v a → QC fnOf 14 [v, .int .i64 h] H (.bool true) := lawESW_ok rfl ok_szProgT ok_toProgS ok_sSwayOf ok_iSwayOf (lcInts_ok rfl) ok_eqProg ok_markProg (mark1_ok rfl) (held1_ok rfl)
end Go.Proofs.YtkmghcglmjehcaaI
end
section
/- The types of a program, opened. -/
set_option linter.unusedVariables false
set_option linter.unusedSimpArgs false
namespace Go.Proofs.YtkmghcglmjehcaaI
open Go Go.RowKit
theorem good_3 {T : Type} {enc : TypeId × Value → T} {w : World} {spare : Nat → Bool} {held : Bool} {n : Nat} {cs : List Value} {x : DataW T × List MemPlace} (h : DataW.trod enc Try.prog w 0 spare held n 3 cs = some x) : Good Co.int w cs := by
  obtain ⟨m, rfl, _, hw⟩ := DataW.trod_int Try.underlying3 h
  exact Good.int hw
theorem good_137 {T : Type} {enc : TypeId × Value → T} {w : World} {spare : Nat → Bool} {held : Bool} {n : Nat} {cs : List Value} {x : DataW T × List MemPlace} (h : DataW.trod enc Try.prog w 0 spare held n 137 cs = some x) : Good Co.p2 w cs := by
  obtain ⟨xs, n, rfl, rfl, hl, hlen, hf⟩ := DataW.trod_struct Try.underlying137 h
  have hn : Try.prog.cellsOf 137 = 2 := by kernel_rfl
  rw [hn] at hl
  have f0 : DataW.trod enc Try.prog w 0 spare held n 3 ((cs.drop 0).take (Try.prog.cellsOf 3)) = xs[0]? := hf 0 _ rfl
  rw [List.getElem?_eq_getElem (show 0 < xs.length by rw [hlen]; decide), show Try.prog.cellsOf 3 = 1 by kernel_rfl] at f0
  have f1 : DataW.trod enc Try.prog w 0 spare held n 3 ((cs.drop 1).take (Try.prog.cellsOf 3)) = xs[1]? := hf 1 _ rfl
  rw [List.getElem?_eq_getElem (show 1 < xs.length by rw [hlen]; decide), show Try.prog.cellsOf 3 = 1 by kernel_rfl] at f1
  have e : cs = ((cs.drop 0).take 1 ++ ((cs.drop 1).take 1)) := (cut (cs := cs) (o := 0) (s := 1)).trans (congrArg _ (cut_end (by rw [hl])))
  rw [e]
  exact ((good_3 f0).pair (good_3 f1))
theorem good_133 {T : Type} {enc : TypeId × Value → T} {w : World} {spare : Nat → Bool} {held : Bool} {n : Nat} {cs : List Value} {x : DataW T × List MemPlace} (h : DataW.trod enc Try.prog w 0 spare held n 133 cs = some x) : Good Co.val w cs := by
  obtain ⟨xs, n, rfl, rfl, hl, hlen, hf⟩ := DataW.trod_struct Try.underlying133 h
  have hn : Try.prog.cellsOf 133 = 3 := by kernel_rfl
  rw [hn] at hl
  have f0 : DataW.trod enc Try.prog w 0 spare held n 3 ((cs.drop 0).take (Try.prog.cellsOf 3)) = xs[0]? := hf 0 _ rfl
  rw [List.getElem?_eq_getElem (show 0 < xs.length by rw [hlen]; decide), show Try.prog.cellsOf 3 = 1 by kernel_rfl] at f0
  have f1 : DataW.trod enc Try.prog w 0 spare held n 3 ((cs.drop 1).take (Try.prog.cellsOf 3)) = xs[1]? := hf 1 _ rfl
  rw [List.getElem?_eq_getElem (show 1 < xs.length by rw [hlen]; decide), show Try.prog.cellsOf 3 = 1 by kernel_rfl] at f1
  have f2 : DataW.trod enc Try.prog w 0 spare held n 3 ((cs.drop 2).take (Try.prog.cellsOf 3)) = xs[2]? := hf 2 _ rfl
  rw [List.getElem?_eq_getElem (show 2 < xs.length by rw [hlen]; decide), show Try.prog.cellsOf 3 = 1 by kernel_rfl] at f2
  have e : cs = ((cs.drop 0).take 1 ++ (((cs.drop 1).take 1 ++ ((cs.drop 2).take 1)))) := (cut (cs := cs) (o := 0) (s := 1)).trans (congrArg _ ((cut (cs := cs) (o := 1) (s := 1)).trans (congrArg _ (cut_end (by rw [hl])))))
  rw [e]
  exact ((good_3 f0).pair ((good_3 f1).pair (good_3 f2)))
theorem good_51 {T : Type} {enc : TypeId × Value → T} {w : World} {spare : Nat → Bool} {held : Bool} {n : Nat} {cs : List Value} {x : DataW T × List MemPlace} (h : DataW.trod enc Try.prog w 0 spare held n 51 cs = some x) : Good (Co.sl Co.p2) w cs :=
  Good.sl Try.underlying51 (by kernel_rfl) (by decide) h fun _ _ _ _ h => good_137 h
theorem stepF0 {T : Type} {enc : TypeId × Value → T} {w : World} {spare : Nat → Bool} {held : Bool} : (∀ (cs : List Value) (x : DataW T × List MemPlace), DataW.trod enc Try.prog w 0 spare held (0) 135 cs = some x → Good (Co.step (dF (0))) w cs) := by
  intro cs x h
  rw [DataW.trod] at h
  cases h
theorem stepF1 {T : Type} {enc : TypeId × Value → T} {w : World} {spare : Nat → Bool} {held : Bool} : (∀ (cs : List Value) (x : DataW T × List MemPlace), DataW.trod enc Try.prog w 0 spare held (1) 135 cs = some x → Good (Co.step (dF (1))) w cs) := by
  intro cs x h
  obtain ⟨xs, n1, hn1, rfl, hl, hlen, hf⟩ := DataW.trod_struct Try.underlying135 h
  have hz : n1 = 0 := by omega
  subst hz
  have f0 : DataW.trod enc Try.prog w 0 spare held 0 3 ((cs.drop 0).take (Try.prog.cellsOf 3)) = xs[0]? := hf 0 _ rfl
  rw [List.getElem?_eq_getElem (show 0 < xs.length by rw [hlen]; decide), DataW.trod] at f0
  cases f0
theorem stepF2 {T : Type} {enc : TypeId × Value → T} {w : World} {spare : Nat → Bool} {held : Bool} {n : Nat} (ih : (∀ (cs : List Value) (x : DataW T × List MemPlace), DataW.trod enc Try.prog w 0 spare held (n) 135 cs = some x → Good (Co.step (dF (n))) w cs)) : (∀ (cs : List Value) (x : DataW T × List MemPlace), DataW.trod enc Try.prog w 0 spare held (n + 2) 135 cs = some x → Good (Co.step (dF (n + 2))) w cs) := by
  intro cs x h
  obtain ⟨xs, n1, hn1, rfl, hl, hlen, hf⟩ := DataW.trod_struct Try.underlying135 h
  have hn1' : n1 = n + 1 := by omega
  have sl52 : ∀ cs y, DataW.trod enc Try.prog w 0 spare held n1 52 cs = some y → Good (Co.sl (Co.step (dF n))) w cs := fun cs y hy =>
    Good.slF Try.underlying52 (by rw [step_w]; kernel_rfl) (by rw [step_w]; omega) hy fun n' cs' x' hn' hx' => by
      have : n' = n := by omega
      subst this
      exact ih cs' x' hx'
  have hn : Try.prog.cellsOf 135 = 8 := by kernel_rfl
  rw [hn] at hl
  have f0 : DataW.trod enc Try.prog w 0 spare held n1 3 ((cs.drop 0).take (Try.prog.cellsOf 3)) = xs[0]? := hf 0 _ rfl
  rw [List.getElem?_eq_getElem (show 0 < xs.length by rw [hlen]; decide), show Try.prog.cellsOf 3 = 1 by kernel_rfl] at f0
  have f1 : DataW.trod enc Try.prog w 0 spare held n1 3 ((cs.drop 1).take (Try.prog.cellsOf 3)) = xs[1]? := hf 1 _ rfl
  rw [List.getElem?_eq_getElem (show 1 < xs.length by rw [hlen]; decide), show Try.prog.cellsOf 3 = 1 by kernel_rfl] at f1
  have f2 : DataW.trod enc Try.prog w 0 spare held n1 133 ((cs.drop 2).take (Try.prog.cellsOf 133)) = xs[2]? := hf 2 _ rfl
  rw [List.getElem?_eq_getElem (show 2 < xs.length by rw [hlen]; decide), show Try.prog.cellsOf 133 = 3 by kernel_rfl] at f2
  have f3 : DataW.trod enc Try.prog w 0 spare held n1 3 ((cs.drop 5).take (Try.prog.cellsOf 3)) = xs[3]? := hf 3 _ rfl
  rw [List.getElem?_eq_getElem (show 3 < xs.length by rw [hlen]; decide), show Try.prog.cellsOf 3 = 1 by kernel_rfl] at f3
  have f4 : DataW.trod enc Try.prog w 0 spare held n1 52 ((cs.drop 6).take (Try.prog.cellsOf 52)) = xs[4]? := hf 4 _ rfl
  rw [List.getElem?_eq_getElem (show 4 < xs.length by rw [hlen]; decide), show Try.prog.cellsOf 52 = 1 by kernel_rfl] at f4
  have f5 : DataW.trod enc Try.prog w 0 spare held n1 52 ((cs.drop 7).take (Try.prog.cellsOf 52)) = xs[5]? := hf 5 _ rfl
  rw [List.getElem?_eq_getElem (show 5 < xs.length by rw [hlen]; decide), show Try.prog.cellsOf 52 = 1 by kernel_rfl] at f5
  have e : cs = ((cs.drop 0).take 1 ++ (((cs.drop 1).take 1 ++ (((cs.drop 2).take 3 ++ (((cs.drop 5).take 1 ++ (((cs.drop 6).take 1 ++ ((cs.drop 7).take 1)))))))))) := (cut (cs := cs) (o := 0) (s := 1)).trans (congrArg _ ((cut (cs := cs) (o := 1) (s := 1)).trans (congrArg _ ((cut (cs := cs) (o := 2) (s := 3)).trans (congrArg _ ((cut (cs := cs) (o := 5) (s := 1)).trans (congrArg _ ((cut (cs := cs) (o := 6) (s := 1)).trans (congrArg _ (cut_end (by rw [hl])))))))))))
  rw [e]
  have e8 : Good (Co.pair Co.int (Co.pair Co.int (Co.pair Co.val (Co.pair Co.int (Co.pair (Co.sl (Co.step (dF n))) (Co.sl (Co.step (dF n)))))))) w _ := ((good_3 f0).pair ((good_3 f1).pair ((good_133 f2).pair ((good_3 f3).pair ((sl52 _ _ f4).pair (sl52 _ _ f5))))))
  exact e8
theorem stepFF {T : Type} {enc : TypeId × Value → T} {w : World} {spare : Nat → Bool} {held : Bool} (n : Nat) : (∀ (cs : List Value) (x : DataW T × List MemPlace), DataW.trod enc Try.prog w 0 spare held (n) 135 cs = some x → Good (Co.step (dF (n))) w cs) ∧ (∀ (cs : List Value) (x : DataW T × List MemPlace), DataW.trod enc Try.prog w 0 spare held (n + 1) 135 cs = some x → Good (Co.step (dF (n + 1))) w cs) := by
  induction n with
  | zero => exact ⟨stepF0, stepF1⟩
  | succ n ih => exact ⟨ih.2, stepF2 ih.1⟩
theorem good_135 {T : Type} {enc : TypeId × Value → T} {w : World} {spare : Nat → Bool} {held : Bool} (n : Nat) {cs : List Value} {x : DataW T × List MemPlace} (h : DataW.trod enc Try.prog w 0 spare held n 135 cs = some x) : Good (Co.step (dF n)) w cs := (stepFF n).1 cs x h
theorem good_54 {T : Type} {enc : TypeId × Value → T} {w : World} {spare : Nat → Bool} {held : Bool} {n : Nat} {cs : List Value} {x : DataW T × List MemPlace} (h : DataW.trod enc Try.prog w 0 spare held n 54 cs = some x) : ∃ d, Good (Co.prog d) w cs := by
  obtain ⟨xs, n1, hn1, rfl, hl, hlen, hf⟩ := DataW.trod_struct Try.underlying54 h
  have hn : Try.prog.cellsOf 54 = 2 := by kernel_rfl
  rw [hn] at hl
  have f0 : DataW.trod enc Try.prog w 0 spare held n1 51 ((cs.drop 0).take (Try.prog.cellsOf 51)) = xs[0]? := hf 0 _ rfl
  rw [List.getElem?_eq_getElem (show 0 < xs.length by rw [hlen]; decide), show Try.prog.cellsOf 51 = 1 by kernel_rfl] at f0
  have f1 : DataW.trod enc Try.prog w 0 spare held n1 52 ((cs.drop 1).take (Try.prog.cellsOf 52)) = xs[1]? := hf 1 _ rfl
  rw [List.getElem?_eq_getElem (show 1 < xs.length by rw [hlen]; decide), show Try.prog.cellsOf 52 = 1 by kernel_rfl] at f1
  have e : cs = ((cs.drop 0).take 1 ++ ((cs.drop 1).take 1)) := (cut (cs := cs) (o := 0) (s := 1)).trans (congrArg _ (cut_end (by rw [hl])))
  refine ⟨dF (n1 - 1), ?_⟩
  rw [e]
  refine (good_51 f0).pair (Good.slF Try.underlying52 (by rw [step_w]; kernel_rfl) (by rw [step_w]; omega) f1 fun n' cs' x' hn' hx' => ?_)
  have : n1 - 1 = n' := by omega
  rw [this]
  exact good_135 n' hx'
theorem len_54 {T : Type} {enc : TypeId × Value → T} {w : World} {spare : Nat → Bool} {held : Bool} {n : Nat} {cs : List Value} {x : DataW T × List MemPlace} (h : DataW.trod enc Try.prog w 0 spare held n 54 cs = some x) : cs.length = 2 := by
  obtain ⟨xs, n, rfl, rfl, hl, hlen, hf⟩ := DataW.trod_struct Try.underlying54 h
  rw [hl]
  kernel_rfl
end Go.Proofs.YtkmghcglmjehcaaI
end
section
/- The law FnExactSwayOf, called in the model. -/
set_option linter.unusedVariables false
set_option linter.unusedSimpArgs false
namespace Go.Proofs.YtkmghcglmjehcaaI
open Go Go.RowKit
theorem lawEM_calls {W : World} {c0 : Array Value} {x : Int} (g0 : ∃ d, Good (Co.prog d) W c0.toList) :
    Calls Try.prog 14 #[.agg c0, .int .i64 x] W fun e w' => e = .returned (.bool true) ∧ Below W.heap.size W w' := by
  obtain ⟨d, g0⟩ := g0
  obtain ⟨p, L, m, cs0, s, q, r, e⟩ := g0 [] (fun _ => none) (SL.none _)
  rw [List.nil_append] at s r
  exact law_core hF hMixed s (vals := [.agg cs0.toArray, .int .i64 x]) (All2.cons (VR.agg_mk e) (All2.cons VR.int_mk All2.nil)) (ok_law _ d _ p x ⟨cs0, rfl, r⟩)
end Go.Proofs.YtkmghcglmjehcaaI
end
