/- Texts of this proof, merged: U1, U4, U6, U7, U8, H10, U10, U11, U9, U12. -/
import Derived.Test.YtkmghcglmjehcaaPb9
import Derived.Test.YtkmghcglmjehcaaPb10
section
/- Labels that are found: plain facts of the laws. -/
set_option linter.unusedVariables false
set_option linter.unusedSimpArgs false
namespace Go.Proofs.YtkmghcglmjehcaaI
open Go Go.RowKit
/-- The labels to begin with. -/
def startL (ls : List (Int × Int)) (free : List Bool) : List (Int × Int) := (List.range ls.length).map fun i => if free.getD i false = true then (7, 7) else ls.getD i (0, 0)
def freeF (free : List Bool) (x : Int) : Bool := free.getD x.toNat false
def infL (n : Nat) (l : List (TStep n)) (free : List Bool) (init : List (Int × Int)) : List (Int × Int) := Nat.repeat (rnd n l (freeF free)) 25 init
def inferV (n : Nat) (p : TProg n) (free : List Bool) : Option (List (Int × Int)) := if progB n p = true ∧ free.length = p.1.length ∧ typeP n (infL n p.2 free (startL p.1 free), p.2) = true then some (infL n p.2 free (startL p.1 free)) else none
theorem startL_len (ls : List (Int × Int)) (free : List Bool) : (startL ls free).length = ls.length := by simp [startL]
theorem startL_get {ls : List (Int × Int)} {free : List Bool} {i : Nat} (hi : i < ls.length) : (startL ls free).getD i (0, 0) = if free.getD i false = true then (7, 7) else ls.getD i (0, 0) := by
  simp [startL, List.getD, hi]
theorem startL_lab {ls : List (Int × Int)} {free : List Bool} (h : ls.all labB = true) : (startL ls free).all labB = true := by
  rw [List.all_eq_true]
  intro x hx
  unfold startL at hx
  obtain ⟨i, _, rfl⟩ := List.mem_map.1 hx
  split
  · rfl
  · exact lab_getD h i
theorem startL_none (ls : List (Int × Int)) : startL ls [] = ls := List.ext_getElem (startL_len _ _) fun i h1 h2 => by
  have := startL_get (free := []) h2
  simpa [List.getD, h1, h2] using this
theorem startL_step {ls : List (Int × Int)} {free : List Bool} {v : Nat} (hv : v < free.length) (hl : free.length = ls.length) : startL ls (free.take (v + 1)) = if free.getD v false = true then (startL ls (free.take v)).set v (7, 7) else startL ls (free.take v) := by
  have e0 : ∀ i, i < ls.length → (free.take v).getD i false = if i < v then free.getD i false else false := fun i hi => by
    by_cases h : i < v
    · rw [if_pos h]; simp [List.getD, h]
    · rw [if_neg h]; simp [List.getD, List.getElem?_take, h]
  have e1 : ∀ i, i < ls.length → (free.take (v + 1)).getD i false = if i < v + 1 then free.getD i false else false := fun i hi => by
    by_cases h : i < v + 1
    · rw [if_pos h]; simp [List.getD, h]
    · rw [if_neg h]; simp [List.getD, List.getElem?_take, h]
  refine List.ext_getElem (by split <;> simp [startL_len]) fun i h1 h2 => ?_
  rw [startL_len] at h1
  have a1 := startL_get (free := free.take (v + 1)) h1
  have a0 := startL_get (free := free.take v) h1
  rw [e1 i h1] at a1
  rw [e0 i h1] at a0
  have b1 : (startL ls (free.take (v + 1)))[i]'(by rw [startL_len]; exact h1) = (startL ls (free.take (v + 1))).getD i (0, 0) := by simp [List.getD, startL_len, h1]
  have b0 : (startL ls (free.take v))[i]'(by rw [startL_len]; exact h1) = (startL ls (free.take v)).getD i (0, 0) := by simp [List.getD, startL_len, h1]
  rw [b1, a1]
  by_cases hf : free.getD v false = true
  · simp only [hf, if_true, List.getElem_set]
    by_cases hiv : v = i
    · subst hiv
      rw [List.getD_eq_getElem?_getD] at hf
      simp [hf]
    · rw [if_neg hiv, b0, a0]
      by_cases h : i < v
      · simp [h, show i < v + 1 by omega]
      · simp [h, show ¬ i < v + 1 by omega]
  · simp only [hf, Bool.false_eq_true, if_false]
    rw [b0, a0]
    by_cases hiv : v = i
    · subst hiv
      rw [List.getD_eq_getElem?_getD] at hf
      simp [hf]
    · by_cases h : i < v
      · simp [h, show i < v + 1 by omega]
      · simp [h, show ¬ i < v + 1 by omega]
theorem progB_ls {n : Nat} {ls r : List (Int × Int)} {l : List (TStep n)} (h : progB n (ls, l) = true) (hl : r.length = ls.length) (hr : r.all labB = true) : progB n (r, l) = true := by
  unfold progB at h ⊢
  simp only [Bool.and_eq_true, decide_eq_true_eq] at h ⊢
  rw [hl]
  exact ⟨⟨⟨h.1.1.1, hr⟩, h.1.2⟩, h.2⟩
theorem progB_var {n : Nat} {ls : List (Int × Int)} {l : List (TStep n)} (h : progB n (ls, l) = true) : ∀ t ∈ allL n l, varB ls.length t.2.1 = true := fun t ht => shB_varN (progB_sh h t ht)
theorem progB_le4 {n : Nat} {ls : List (Int × Int)} {l : List (TStep n)} (h : progB n (ls, l) = true) : ls.length ≤ 4 := by
  unfold progB at h
  simp only [Bool.and_eq_true, decide_eq_true_eq] at h
  have := h.1.1.1
  omega
theorem infL_inf {n : Nat} {ls : List (Int × Int)} {l : List (TStep n)} (free : List Bool) (h : progB n (ls, l) = true) : Inf n l (freeF free) (startL ls free) (infL n l free (startL ls free)) := by
  refine rnds_inf (startL_lab (progB_lab h)) ?_ fun t ht => ?_
  · rw [startL_len]; exact progB_le4 h
  · rw [startL_len]; exact progB_var h t ht
attribute [local irreducible] infL
theorem Inf.keep {n : Nat} {l : List (TStep n)} {free : List Bool} {init r : List (Int × Int)} (hI : Inf n l (freeF free) init r) {x : Nat} (hf : free.getD x false = false) : r.getD x (0, 0) = init.getD x (0, 0) := by
  have hlen := hI.le.1
  by_cases hx : x < r.length
  · have hle : LeL r (r.set x (init.getD x (0, 0))) := ⟨List.length_set.symm, fun j => by
      rw [getD_setP hx]
      by_cases hj : x = j
      · subst hj; rw [if_pos rfl]; exact hI.le.2 x
      · rw [if_neg hj]; exact Le.refl (hI.le.2 j).la⟩
    have hge : LeL (r.set x (init.getD x (0, 0))) init := ⟨by rw [List.length_set]; exact hlen, fun j => by
      rw [getD_setP hx]
      by_cases hj : x = j
      · subst hj; rw [if_pos rfl]; exact Le.refl (hI.le.2 x).lb
      · rw [if_neg hj]; exact hI.le.2 j⟩
    have hfix : Fix n l (freeF free) (r.set x (init.getD x (0, 0))) := fun i hi hk hfr => by
      have h1 := hI.fix i hi hk hfr
      have hne : ¬ x = (allL n l)[i].2.1.toNat := fun h => by
        unfold freeF at hfr
        rw [← h, hf] at hfr
        cases hfr
      rw [getD_setP hx, if_neg hne]
      exact h1.trans (lboth_mono ((atL_mono hle (Le.refl rfl) l).2 i) (valL_mono hle _))
    have h2 := (hI.top _ hge hfix).2 x
    rw [getD_setP hx, if_pos rfl] at h2
    exact (hI.le.2 x).antisymm h2
  · rw [show r.getD x (0, 0) = (0, 0) by simp [List.getD, List.getElem?_eq_none (by omega : r.length ≤ x)], show init.getD x (0, 0) = (0, 0) by simp [List.getD, List.getElem?_eq_none (by omega : init.length ≤ x)]]
theorem infL_len {n : Nat} {ls : List (Int × Int)} {l : List (TStep n)} {free : List Bool} (h : progB n (ls, l) = true) : (infL n l free (startL ls free)).length = ls.length := by
  rw [(infL_inf free h).le.1, startL_len]
theorem inferV_some {n : Nat} {p : TProg n} {free : List Bool} {r : List (Int × Int)} (h : inferV n p free = some r) : progB n p = true ∧ free.length = p.1.length ∧ typeP n (r, p.2) = true ∧ r = infL n p.2 free (startL p.1 free) := by
  unfold inferV at h
  split at h
  · rename_i hc
    simp only [Option.some.injEq] at h
    subst h
    exact ⟨hc.1, hc.2.1, hc.2.2, rfl⟩
  · cases h
end Go.Proofs.YtkmghcglmjehcaaI
end
section
/- Labels that are found (the program's). -/
set_option linter.unusedVariables false
set_option linter.unusedSimpArgs false
namespace Go.Proofs.YtkmghcglmjehcaaI
open Go Go.RowKit
attribute [local irreducible] infL
def c_iInferOf : IFn := ⟨2, 99, [.cell true 2 4, .t 5],
 .seq (.reg none [
    ⟨(some 2), none, .box (.t 0)⟩,
    ⟨(some 4), none, .new [(.slice none 0 0), (.slice none 0 0)]⟩,
    ⟨(some 5), none, .mov (.c (.bool false))⟩])
 (.seq (.seq (.reg none [
     ⟨(some 14), none, .load true 2 (.t 2)⟩,
     ⟨(some 15), none, .call .q (.f 54) [(.t 14)]⟩,
     ⟨(some 16), none, .un .not (.t 15)⟩,
     ⟨(some 17), none, .mov (.t 16)⟩,
     ⟨(some 18), (some (17, false)), .mov (.t 1)⟩,
     ⟨(some 19), (some (17, false)), .len (.t 18)⟩,
     ⟨(some 20), (some (17, false)), .fad 0 (.t 2)⟩,
     ⟨(some 21), (some (17, false)), .load false 1 (.t 20)⟩,
     ⟨(some 22), (some (17, false)), .len (.t 21)⟩,
     ⟨(some 23), (some (17, false)), .bin .neq (.t 19) (.t 22)⟩,
     ⟨(some 24), none, .pick (.t 17) (.c (.bool true)) (.t 23)⟩])
  (.cond (.t 24) (.seq (.reg none [
      ⟨(some 25), none, .build [(.slice none 0 0), (.slice none 0 0)] []⟩,
      ⟨none, none, .store 2 (.t 4) (.t 25)⟩,
      ⟨(some 5), none, .mov (.c (.bool false))⟩])
   (.ret)) (.skip)))
 (.seq (.reg none [
    ⟨(some 26), none, .load true 2 (.t 2)⟩,
    ⟨(some 27), none, .call .k (.f 55) [(.t 26)]⟩,
    ⟨(some 6), none, .new [(.slice none 0 0), (.slice none 0 0)]⟩,
    ⟨none, none, .store 2 (.t 6) (.t 27)⟩])
 (.seq (.seq (.reg none [
     ⟨(some 28), none, .mov (.t 1)⟩,
     ⟨(some 29), none, .len (.t 28)⟩,
     ⟨(some 30), none, .mov (.c (.int .i64 0))⟩])
  (.block 0 (.loop (.seq (.reg none [
       ⟨(some 31), none, .bin .lss (.t 30) (.t 29)⟩])
    (.seq (.cond (.t 31) (.skip) (.exit 0))
    (.seq (.block 1 (.seq (.reg none [
         ⟨(some 32), none, .mov (.t 30)⟩,
         ⟨(some 33), none, .iad 1 (.t 28) (.t 30)⟩,
         ⟨(some 34), none, .load false 1 (.t 33)⟩,
         ⟨(some 7), none, .mov (.t 32)⟩,
         ⟨(some 8), none, .mov (.t 34)⟩])
      (.seq (.reg none [
         ⟨(some 35), none, .mov (.t 8)⟩])
      (.cond (.t 35) (.reg (some 4) [
         ⟨(some 36), none, .fad 0 (.t 6)⟩,
         ⟨(some 37), none, .load false 1 (.t 36)⟩,
         ⟨(some 38), none, .mov (.t 7)⟩,
         ⟨(some 39), none, .call .q (.f 56) []⟩,
         ⟨(some 40), none, .iad 2 (.t 37) (.t 38)⟩,
         ⟨none, none, .store 2 (.t 40) (.t 39)⟩]) (.skip)))))
    (.reg none [
      ⟨(some 41), none, .bin .add (.t 30) (.c (.int .i64 1))⟩,
      ⟨(some 30), none, .mov (.t 41)⟩])))))))
 (.seq (.seq (.reg none [
     ⟨(some 9), none, .mov (.c (.bool true))⟩])
  (.block 2 (.loop (.seq (.seq (.reg none [
        ⟨(some 42), none, .mov (.t 9)⟩])
     (.cond (.t 42) (.skip) (.exit 2)))
    (.block 3 (.seq (.reg none [
        ⟨(some 9), none, .mov (.c (.bool false))⟩])
     (.seq (.reg none [
        ⟨(some 43), none, .load true 2 (.t 6)⟩,
        ⟨(some 44), none, .call .k (.f 57) [(.t 43)]⟩,
        ⟨(some 10), none, .mov (.t 44)⟩])
     (.seq (.reg none [
        ⟨(some 45), none, .fad 1 (.t 6)⟩,
        ⟨(some 46), none, .load false 1 (.t 45)⟩,
        ⟨(some 47), none, .call .k (.f 58) [(.t 46)]⟩,
        ⟨(some 48), none, .len (.t 47)⟩,
        ⟨(some 49), none, .mov (.c (.int .i64 0))⟩])
     (.block 4 (.loop (.seq (.reg none [
          ⟨(some 50), none, .bin .lss (.t 49) (.t 48)⟩])
       (.seq (.cond (.t 50) (.skip) (.exit 4))
       (.seq (.block 5 (.seq (.reg none [
            ⟨(some 51), none, .mov (.t 49)⟩,
            ⟨(some 52), none, .iad 8 (.t 47) (.t 49)⟩,
            ⟨(some 53), none, .load true 8 (.t 52)⟩,
            ⟨(some 12), none, .new [(.int .i64 0), (.int .i64 0), (.int .i64 0), (.int .i64 0), (.int .i64 0), (.int .i64 0), (.slice none 0 0), (.slice none 0 0)]⟩,
            ⟨(some 11), none, .mov (.t 51)⟩,
            ⟨none, none, .store 8 (.t 12) (.t 53)⟩])
         (.seq (.seq (.reg none [
             ⟨(some 54), none, .fad 0 (.t 12)⟩,
             ⟨(some 55), none, .load false 1 (.t 54)⟩,
             ⟨(some 56), none, .bin .neq (.t 55) (.c (.int .i64 1))⟩,
             ⟨(some 57), none, .mov (.t 56)⟩,
             ⟨(some 58), (some (57, false)), .mov (.t 1)⟩,
             ⟨(some 59), (some (57, false)), .fad 1 (.t 12)⟩,
             ⟨(some 60), (some (57, false)), .load false 1 (.t 59)⟩,
             ⟨(some 61), (some (57, false)), .iad 1 (.t 58) (.t 60)⟩,
             ⟨(some 62), (some (57, false)), .load false 1 (.t 61)⟩,
             ⟨(some 63), (some (57, false)), .un .not (.t 62)⟩,
             ⟨(some 64), none, .pick (.t 57) (.c (.bool true)) (.t 63)⟩])
          (.cond (.t 64) (.exit 5) (.skip)))
         (.seq (.reg (some 15) [
            ⟨(some 65), none, .fad 0 (.t 6)⟩,
            ⟨(some 66), none, .load false 1 (.t 65)⟩,
            ⟨(some 67), none, .fad 1 (.t 12)⟩,
            ⟨(some 68), none, .load false 1 (.t 67)⟩,
            ⟨(some 69), none, .iad 2 (.t 66) (.t 68)⟩,
            ⟨(some 70), none, .load true 2 (.t 69)⟩,
            ⟨(some 71), none, .load true 2 (.t 6)⟩,
            ⟨(some 72), none, .load true 8 (.t 12)⟩,
            ⟨(some 73), none, .mov (.t 10)⟩,
            ⟨(some 74), none, .mov (.t 11)⟩,
            ⟨(some 75), none, .iad 2 (.t 73) (.t 74)⟩,
            ⟨(some 76), none, .load true 2 (.t 75)⟩,
            ⟨(some 77), none, .call .q (.f 60) [(.t 71), (.t 72), (.t 76)]⟩,
            ⟨(some 78), none, .call .q (.f 59) [(.t 70), (.t 77)]⟩,
            ⟨(some 13), none, .new [(.int .i64 0), (.int .i64 0)]⟩,
            ⟨none, none, .store 2 (.t 13) (.t 78)⟩])
         (.seq (.reg (some 7) [
            ⟨(some 79), none, .load true 2 (.t 13)⟩,
            ⟨(some 80), none, .fad 0 (.t 6)⟩,
            ⟨(some 81), none, .load false 1 (.t 80)⟩,
            ⟨(some 82), none, .fad 1 (.t 12)⟩,
            ⟨(some 83), none, .load false 1 (.t 82)⟩,
            ⟨(some 84), none, .iad 2 (.t 81) (.t 83)⟩,
            ⟨(some 85), none, .load true 2 (.t 84)⟩,
            ⟨(some 86), none, .eqs true 2 (.t 79) (.t 85)⟩])
         (.cond (.t 86) (.seq (.reg none [
             ⟨(some 87), none, .fad 0 (.t 6)⟩,
             ⟨(some 88), none, .load false 1 (.t 87)⟩,
             ⟨(some 89), none, .fad 1 (.t 12)⟩,
             ⟨(some 90), none, .load false 1 (.t 89)⟩,
             ⟨(some 91), none, .load true 2 (.t 13)⟩,
             ⟨(some 92), none, .iad 2 (.t 88) (.t 90)⟩,
             ⟨none, none, .store 2 (.t 92) (.t 91)⟩])
          (.reg none [
            ⟨(some 9), none, .mov (.c (.bool true))⟩])) (.skip)))))))
       (.reg none [
         ⟨(some 93), none, .bin .add (.t 49) (.c (.int .i64 1))⟩,
         ⟨(some 49), none, .mov (.t 93)⟩]))))))))))))))
 (.seq (.seq (.reg none [
     ⟨(some 94), none, .load true 2 (.t 6)⟩,
     ⟨(some 95), none, .call .q (.f 20) [(.t 94)]⟩,
     ⟨(some 96), none, .un .not (.t 95)⟩])
  (.cond (.t 96) (.seq (.reg none [
      ⟨(some 97), none, .build [(.slice none 0 0), (.slice none 0 0)] []⟩,
      ⟨none, none, .store 2 (.t 4) (.t 97)⟩,
      ⟨(some 5), none, .mov (.c (.bool false))⟩])
   (.ret)) (.skip)))
 (.seq (.reg none [
    ⟨(some 98), none, .load true 2 (.t 6)⟩,
    ⟨none, none, .store 2 (.t 4) (.t 98)⟩,
    ⟨(some 5), none, .mov (.c (.bool true))⟩])
 (.ret)))))))⟩
/-- The program that is told. -/
def inferO (n : Nat) (p : TProg n) (free : List Bool) : List (Int × Int) × List (TStep n) := match inferV n p free with
  | none => ([], [])
  | some r => (r, p.2)
def InferOk (F : Nat → Option IFn) (f : Nat) : Prop := ∀ (H : Heap) (n : Nat) (lv sv w : Value) (ls : List (Int × Int)) (l : List (TStep n)) (free : List Bool), SlR Co.p2 (vw 0 H) lv ls → SlR (Co.step n) (vw 0 H) sv l → (Co.prog n).sm (ls, l) → SlR Co.bool (vw 0 H) w free →
  ∃ lv' sv' H', KC F f [.agg #[lv, sv], w] H (.tuple #[.agg #[lv', sv'], .bool (inferV n (ls, l) free).isSome]) H' ∧ AgX [] H H' ∧ SlR Co.p2 (vw 0 H') lv' (inferO n (ls, l) free).1 ∧ SlR (Co.step n) (vw 0 H') sv' (inferO n (ls, l) free).2
theorem gcB {H : Heap} {v : Value} {l : List Bool} (h : SlR Co.bool (vw 0 H) v l) {i : Nat} (hi : i < l.length) : ∃ b o, v = .slice (some ⟨b, o, none⟩) l.length l.length ∧ getCells H b (o + i) 1 = some [.bool l[i]] := by
  obtain ⟨_, a, rfl, h2⟩ := h
  rcases h2 with h2 | ⟨b, o, rfl, h2⟩
  · rw [h2] at hi; simp at hi
  · obtain ⟨cs, h3, h4⟩ := h2 i hi
    have h5 := rng_gc h3
    rw [show cs = [.bool l[i]] from h4, show Co.bool.w = 1 from rfl, Nat.mul_one] at h5
    exact ⟨b, o, rfl, h5⟩
theorem LabV.set {lo : Nat} {H : Heap} {v : Value} {cur : List (Int × Int)} (h : LabV lo H v cur) {i : Nat} (hi : i < cur.length) (x : Int × Int) : ∃ b, v = sli b 0 cur.length ∧ lo ≤ b ∧ b < H.length ∧ H[b]? = some ⟨cur.flatMap fp, 2, 35, true, true⟩ ∧ LabV lo (H.set b ⟨(cur.set i x).flatMap fp, 2, 35, true, true⟩) v (cur.set i x) := by
  rcases h with ⟨rfl, rfl⟩ | ⟨b, h1, h2, h3, h4⟩
  · simp at hi
  · have hb := (List.getElem?_eq_some_iff.1 h4).1
    refine ⟨b, h2, h1, hb, h4, .inr ⟨b, h1, by rw [List.length_set]; exact h2, fun hn => ?_, List.getElem?_set_self hb⟩⟩
    have := congrArg List.length hn
    rw [List.length_set, List.length_nil] at this
    omega
theorem LabV.getP {lo : Nat} {H : Heap} {v : Value} {cur : List (Int × Int)} (h : LabV lo H v cur) {i : Nat} (hi : i < cur.length) : ∃ b, v = sli b 0 cur.length ∧ getCells H b (i * 2) 2 = some [.int .i64 (cur.getD i (0, 0)).1, .int .i64 (cur.getD i (0, 0)).2] := by
  rcases h with ⟨rfl, rfl⟩ | ⟨b, h1, h2, h3, h4⟩
  · simp at hi
  · refine ⟨b, h2, ?_⟩
    have hfl := flat_len (fl := fp) (w := 2) (fun _ => rfl) cur
    rw [gc_of h4, inBlk_some, if_pos (by omega)]
    have e : cur.flatMap fp = (cur.take i).flatMap fp ++ (fp cur[i] ++ (cur.drop (i + 1)).flatMap fp) := by
      conv => lhs; rw [← List.take_append_drop i cur, List.drop_eq_getElem_cons hi]
      rw [List.flatMap_append, List.flatMap_cons]
    have hlt : ((cur.take i).flatMap fp).length = i * 2 := by rw [flat_len (fl := fp) (w := 2) (fun _ => rfl), List.length_take]; omega
    rw [e, List.drop_append, List.drop_of_length_le (by omega), hlt, Nat.sub_self, List.drop_zero, List.nil_append, List.take_left' (by rfl)]
    simp [fp, List.getD, hi]
theorem OwnT.slX {lo : Nat} {H : Heap} {n : Nat} {v : Value} {l : List (TStep n)} {B xs : List Nat} (h : OwnT lo H n v l B) (hx : ∀ b, b ∈ xs → b ∉ B) : SlR (Co.step n) (vwl lo xs H) v l := by
  have h1 : OwnT lo (hide xs H) n v l B := h.keep (Nat.le_refl _) fun b hb => hide_get_ne fun hm => hx b hm hb
  refine h1.sl.mono fun b cs hb => ?_
  unfold vws at hb
  unfold vwl
  split at hb
  · rename_i hlo
    by_cases hbx : b ∈ xs
    · rw [hide_get_in hbx] at hb
      cases hq : H[b]? with
      | none => rw [hq] at hb; cases hb
      | some k => rw [hq] at hb; cases hb
    · rw [hide_get_ne hbx] at hb
      rw [if_pos ⟨hlo, hbx⟩]
      cases hq : H[b]? with
      | none => rw [hq] at hb; cases hb
      | some k =>
        rw [hq] at hb
        simp only [Option.bind_some] at hb
        split at hb
        · exact hb
        · cases hb
  · cases hb
theorem passes_le {n : Nat} {l : List (TStep n)} {free : Int → Bool} {x : List (Int × Int)} (h : x.all labB = true) (hv : ∀ t ∈ allL n l, varB x.length t.2.1 = true) : ∀ k, LeL (Nat.repeat (pass n l free) k x) x
  | 0 => LeL.refl h
  | k + 1 => by
    have h1 := passes_le (free := free) h hv k
    have h2 := (pass_all (n := n) (l := l) (free := free) h1.lab (by rw [h1.1]; exact hv)).1
    exact h2.trans h1
theorem sm_ls {n : Nat} {ls r : List (Int × Int)} {l : List (TStep n)} (h : (Co.prog n).sm (ls, l)) (hl : r.length = ls.length) : (Co.prog n).sm (r, l) := ⟨⟨by rw [hl]; exact h.1.1, fun _ _ => ⟨trivial, trivial⟩⟩, h.2⟩
theorem lab_rg {ls : List (Int × Int)} (h : ls.all labB = true) : ∀ p ∈ ls, RgI p.1 ∧ RgI p.2 := fun p hp => by
  have q := labB_i.1 (List.all_eq_true.1 h p hp)
  unfold RgI
  exact ⟨by omega, by omega⟩
theorem iInferOf_ok {F : Nat → Option IFn} {f : Nat} (hf : F f = some c_iInferOf) (gp : ProgOk F 54) (gpc : PCloneOk F 55) (ge : ∀ H, QC F 56 [] H (.agg #[.int .i64 7, .int .i64 7])) (ga : AtP F 57) (gl : ∀ n, AllP F 58 n) (gs : ISource F 60) (gb : ILBoth F 59) (gty : TypeP F 20) : InferOk F f := by
  intro H n lv sv w ls l free r1 r2 hsm r3
  suffices h : ∃ v H', KC F f [.agg #[lv, sv], w] H v H' ∧ (∃ lv' sv', v = .tuple #[.agg #[lv', sv'], .bool (inferV n (ls, l) free).isSome] ∧ AgX [] H H' ∧ SlR Co.p2 (vw 0 H') lv' (inferO n (ls, l) free).1 ∧ SlR (Co.step n) (vw 0 H') sv' (inferO n (ls, l) free).2) by
    obtain ⟨_, H', h1, lv', sv', rfl, h2⟩ := h
    exact ⟨lv', sv', H', h1, h2⟩
  have osv : one sv = true := by obtain ⟨_, a, rfl, _⟩ := r2; rfl
  obtain ⟨_, la, rfl, _⟩ := id r1
  obtain ⟨hwl, wa, rfl, _⟩ := id r3
  refine KC.mk hf rfl ?_
  refine seq_reg ?_
  simp only [go_sem, binC, osv]
  refine wpc_gen fun H1 hH1 => ?_
  have hx1 : AgX [] H H1 := hH1 ▸ AgX.app [] _ _
  have hb2 : H1[H.length]? = some ⟨[.slice la ls.length ls.length, sv], 0, 0, false, true⟩ := hH1 ▸ get_new0 _ _
  have hb4 : H1[H.length + 1]? = some ⟨[nilS, nilS], 0, 0, false, true⟩ := hH1 ▸ get_new _ _ 1
  have hln1 : H1.length = H.length + 2 := by rw [hH1]; simp
  clear hH1
  have r1' := r1.mono (agx_sub hx1)
  have r2' := r2.mono (agx_sub hx1)
  have r3' := r3.mono (agx_sub hx1)
  have hb4l := (List.getElem?_eq_some_iff.1 hb4).1
  refine seq_assoc (seq_reg ?_)
  simp only [go_sem, binC, gc_of hb2, inBlk_some, osv]
  refine op_callB (by simp only [go_sem, binC]; exact gp H1 n _ (ls, l) (prog_rd r1' r2') hsm) (fun hP => ?_) (fun hP => ?_)
  rotate_left
  · have hN : inferV n (ls, l) free = none := by unfold inferV; rw [if_neg (fun h => by rw [hP] at h; cases h.1)]
    simp only [go_sem, binC]
    refine seq_cond (t := true) rfl ?_
    simp only [go_sem, binC]
    refine seq_assoc (seq_reg ?_)
    simp only [go_sem, binC, hb4]
    refine seq_ret ⟨Or.inr rfl, .tuple #[.agg #[nilS, nilS], .bool false], ?_, nilS, nilS, by rw [hN]; rfl, hx1.setN (by omega) _, ?_, ?_⟩
    · simp [resV, resL, res1, putE_get, notT, ptr, gc_set hb4l, inBlk_some, valOf]
    all_goals (unfold inferO; rw [hN]; exact ⟨by simp, none, rfl, .inl rfl⟩)
  simp only [go_sem, binC, gc_of hb2, inBlk_some]
  by_cases hfl : free.length = ls.length
  case neg =>
    have hN : inferV n (ls, l) free = none := by unfold inferV; rw [if_neg (fun h => hfl h.2.1)]
    simp only [go_sem, binC, bne_t (show ¬ ((free.length : Int) = ls.length) by omega)]
    refine seq_cond (t := true) rfl ?_
    simp only [go_sem, binC]
    refine seq_assoc (seq_reg ?_)
    simp only [go_sem, binC, hb4]
    refine seq_ret ⟨Or.inr rfl, .tuple #[.agg #[nilS, nilS], .bool false], ?_, nilS, nilS, by rw [hN]; rfl, hx1.setN (by omega) _, ?_, ?_⟩
    · simp [resV, resL, res1, putE_get, notT, ptr, gc_set hb4l, inBlk_some, valOf]
    all_goals (unfold inferO; rw [hN]; exact ⟨by simp, none, rfl, .inl rfl⟩)
  have hls4 : ls.length ≤ 4 := progB_le4 hP
  have hlab : ls.all labB = true := progB_lab hP
  have hcnt : (allL n l).length ≤ 8 := progB_cnt hP hsm
  have hvar := progB_var hP
  have hsl := allSL_len l
  simp only [go_sem, binC, bne_f (show ((free.length : Int) = ls.length) by omega)]
  refine seq_cond (t := false) rfl ?_
  simp only [go_sem, binC]
  refine seq_skip (seq_reg ?_)
  simp only [go_sem, binC, gc_of hb2, inBlk_some, osv]
  obtain ⟨lv', sv', B, H2, k2, hx2, hL2, hO2⟩ := gpc H1 n _ sv ls l r1' r2' hsm
  have olv' := hL2.one
  have osv' := hO2.one
  obtain ⟨al, hal⟩ := hL2.shape
  subst hal
  refine op_callK (by simp only [go_sem, binC]; exact k2) ?_
  have hx2l := hx2.1
  simp only [go_sem, binC, olv', osv']
  refine ⟨by omega, ?_⟩
  refine wpc_gen fun H3 hH3 => ?_
  have hx3 : AgX [] H2 H3 := hH3 ▸ AgX.app [] _ _
  have hb6 : H3[H2.length]? = some ⟨[.slice al ls.length ls.length, sv'], 0, 0, false, true⟩ := hH3 ▸ get_new0 _ _
  clear hH3 k2
  have hx3l := hx3.1
  have hL3 := hL2.keep (Nat.le_refl _) hx3 (fun _ _ _ => by simp)
  have hO3 : OwnT H1.length H3 n sv' l B := hO2.keep (Nat.le_refl _) fun b hb => hx3.2 b (hO2.ge b hb).2.1 (by simp)
  have hb23 := (hx2.tr hx3).get hb2 (by simp)
  have hb43 := (hx2.tr hx3).get hb4 (by simp)
  have r33 := r3'.mono (agx_sub (hx2.tr hx3))
  obtain ⟨xs, hxs⟩ : ∃ xs, xs = blkOf (.slice al ls.length ls.length) := ⟨_, rfl⟩
  have hxin : ∀ b, b ∈ xs → H1.length ≤ b ∧ b < H2.length ∧ H3[b]? = some ⟨ls.flatMap fp, 2, 35, true, true⟩ := fun b hb => by
    subst hxs
    obtain ⟨q1, _, q3⟩ := hL3.blk hb
    obtain ⟨_, _, q4⟩ := hL2.blk hb
    exact ⟨q1, (List.getElem?_eq_some_iff.1 q4).1, q3⟩
  have hxB : ∀ b, b ∈ xs → b ∉ B := fun b hb hB => by
    obtain ⟨_, _, q3⟩ := hxin b hb
    obtain ⟨_, _, cs, q4⟩ := hO3.ge b hB
    rw [q3] at q4
    cases q4
  have hsv : SlR (Co.step n) (vwl H1.length xs H3) sv' l := hO3.slX hxB
  have hV : ∀ Hc, AgX xs H3 Hc → Sub (vwl H1.length xs H3) (vw 0 Hc) := fun Hc hx => (vwl_sub hx (lo' := H1.length) (xs' := []) (Nat.le_refl _) fun b' h1 h2 h3 => ⟨h3, by simp⟩).trans (vwl0 _ _ _)
  have hx0 : ∀ Hc, AgX xs H3 Hc → AgX [] H Hc := fun Hc hx => (hx1.tr (hx2.tr hx3)).trans hx (fun _ h _ => h) (fun b hb hlt => by have := (hxin b hb).1; omega)
  have hr3 : ∀ Hc, AgX xs H3 Hc → SlR Co.bool (vw 0 Hc) (.slice wa free.length free.length) free := fun Hc hx => r3.mono (agx_sub (hx0 Hc hx))
  have hget : ∀ Hc, AgX xs H3 Hc → ∀ (b : Nat) (k : Blk), H3[b]? = some k → k.app = false → Hc[b]? = some k := fun Hc hx b k hb hk => hx.get hb fun hm => by
    obtain ⟨_, _, q3⟩ := hxin b hm
    rw [hb] at q3
    cases q3
    cases hk
  refine seq_assoc (seq_reg ?_)
  simp only [go_sem, binC]
  refine seq_block (wpc_loop ?_)
  suffices h1 : ∀ (k i : Nat) (e : Env) (Hc : Heap) (cur : List (Int × Int)), i + k = free.length → cur = startL ls (free.take i) → AgX xs H3 Hc → LabV H1.length Hc (.slice al ls.length ls.length) cur → e 1 = .slice wa free.length free.length → e 4 = ptr (H.length + 1) 0 → e 6 = ptr H2.length 0 → e 28 = .slice wa free.length free.length → e 29 = .int .i64 free.length → e 30 = .int .i64 i → Go.Proofs.YtkmghcglmjehcaaI.W F H.length _ e Hc _ from
    h1 free.length 0 _ H3 ls (by omega) (by rw [List.take_zero, startL_none]) (AgX.refl _ _) hL3 (by simp only [go_sem, binC]) (by simp only [go_sem, binC]) (by simp only [go_sem, binC]) (by simp only [go_sem, binC]) (by simp only [go_sem, binC]) (by (simp only [go_sem, binC]) <;> rfl)
  intro k
  induction k with
  | zero =>
    intro i e Hc cur hi hcur hxc hLc e1 e4 e6 e28 e29 e30
    rw [List.take_of_length_le (by omega)] at hcur
    refine lp_step ?_
    refine seq_reg ?_
    simp only [go_sem, binC, e29, e30]
    refine seq_cond (t := false) (by simp only [go_sem, binC]; rw [decide_eq_false (by omega)]) ?_
    simp only [go_sem, binC]
    refine seq_exit ?_
    simp only [go_sem, binC, thenX_e, out_e, thenX_n]
    clear e28 e29 e30
    have hstl := startL_lab (free := free) hlab
    have hstv : ∀ t ∈ allL n l, varB (startL ls free).length t.2.1 = true := fun t ht => by rw [startL_len]; exact hvar t ht
    refine seq_assoc (seq_reg ?_)
    simp only [go_sem, binC]
    refine seq_block (wpc_loop ?_)
    suffices h2 : ∀ (m k : Nat) (fl : Bool) (e : Env) (Hd : Heap) (cur : List (Int × Int)), meas cur + (if fl = true then 1 else 0) = m → cur = Nat.repeat (pass n l (freeF free)) k (startL ls free) → (fl = false → pass n l (freeF free) cur = cur) → AgX xs H3 Hd → LabV H1.length Hd (.slice al ls.length ls.length) cur → e 1 = .slice wa free.length free.length → e 4 = ptr (H.length + 1) 0 → e 6 = ptr H2.length 0 → e 9 = .bool fl → Go.Proofs.YtkmghcglmjehcaaI.W F H.length _ e Hd _ from
      h2 _ 0 true _ Hc cur rfl (by rw [hcur]; rfl) (fun h => by cases h) hxc hLc (by simp only [go_sem, binC, e1]) (by simp only [go_sem, binC, e4]) (by simp only [go_sem, binC, e6]) (by (simp only [go_sem, binC]) <;> rfl)
    clear hcur hxc hLc e1 e4 e6
    intro m
    induction m using Nat.strongRecOn with
    | _ m ih =>
    intro k fl e Hd cur hm hck hfx hxd hLd e1 e4 e6 e9
    have hle : LeL cur (startL ls free) := hck ▸ passes_le hstl hstv k
    have hcl : cur.length = ls.length := by rw [hle.1, startL_len]
    have hclab := hle.lab
    have hPc : progB n (cur, l) = true := progB_ls hP hcl hclab
    have hsmc : (Co.prog n).sm (cur, l) := sm_ls hsm hcl
    have hb6d := hget Hd hxd _ _ hb6 rfl
    have hb4d := hget Hd hxd _ _ hb43 rfl
    have hb4dl := (List.getElem?_eq_some_iff.1 hb4d).1
    have hlcd : SlR Co.p2 (vw 0 Hd) (.slice al ls.length ls.length) cur := hLd.sl (lab_rg hclab) (by omega)
    have hsvd := hsv.mono (hV Hd hxd)
    have hxdl := hxd.1
    have hx0d : AgX [] H Hd := (hx1.tr (hx2.tr hx3)).trans hxd (fun _ h _ => h) (fun b hb hlt => by have := (hxin b hb).1; omega)
    refine lp_step ?_
    refine seq_assoc (seq_reg ?_)
    simp only [go_sem, binC, e9]
    cases fl with
    | false =>
      have hfix := hfx rfl
      have hinf : cur = infL n l free (startL ls free) := by
        have q := passes_inf (free := freeF free) hstl hstv (k := k) (by rw [← hck]; exact hfix)
        rw [← hck] at q
        exact q.unique (infL_inf free hP)
      refine seq_cond (t := false) (by simp only [go_sem, binC]) ?_
      simp only [go_sem, binC]
      refine seq_exit ?_
      simp only [go_sem, binC, thenX_e, out_e, thenX_n]
      refine seq_assoc (seq_reg ?_)
      simp only [go_sem, binC, e6, gc_of hb6d, inBlk_some, osv']
      refine op_callB (by simp only [go_sem, binC]; exact gty Hd n _ _ cur l hlcd hsvd hsmc) (fun hT => ?_) (fun hT => ?_)
      · have hN : inferV n (ls, l) free = some cur := by
          unfold inferV
          simp only
          rw [← hinf, if_pos ⟨hP, hfl, hT⟩]
        simp only [go_sem, binC]
        refine seq_cond (t := false) rfl ?_
        simp only [go_sem, binC]
        refine seq_skip (seq_reg ?_)
        simp only [go_sem, binC, e4, e6, gc_of hb6d, inBlk_some, osv', hb4d]
        have hxs2 : AgX [H.length + 1] Hd (Hd.set (H.length + 1) ⟨[.slice al ls.length ls.length, sv'], 0, 0, false, true⟩) := AgX.set _ _ _
        refine wpc_ret ⟨Or.inr rfl, .tuple #[.agg #[.slice al ls.length ls.length, sv'], .bool true], ?_, _, _, by rw [hN]; rfl, hx0d.setN (by omega) _, ?_, ?_⟩
        · simp [resV, resL, res1, putE_get, notT, ptr, gc_set hb4dl, inBlk_some, valOf, e4]
        · unfold inferO
          rw [hN]
          refine (hLd.keep (Nat.le_refl _) hxs2 fun b hb _ hm => ?_).sl (lab_rg hclab) (by omega)
          simp only [List.mem_singleton] at hm
          omega
        · unfold inferO
          rw [hN]
          refine hsv.mono ((vwl_sub (hxd.trans hxs2 (zs := xs ++ [H.length + 1]) (fun b hb _ => by simp [hb]) (fun b hb _ => by simp only [List.mem_singleton] at hb; simp [hb])) (lo := H1.length) (xs := xs) (lo' := H1.length) (xs' := []) (Nat.le_refl _) fun b' h1 h2 h3 => ⟨by simp only [List.mem_append, List.mem_singleton, not_or]; exact ⟨h3, by omega⟩, by simp⟩).trans (vwl0 _ _ _))
      · have hN : inferV n (ls, l) free = none := by
          unfold inferV
          simp only
          rw [← hinf, if_neg (fun h => by rw [hT] at h; cases h.2.2)]
        simp only [go_sem, binC]
        refine seq_cond (t := true) rfl ?_
        simp only [go_sem, binC]
        refine seq_assoc (seq_reg ?_)
        simp only [go_sem, binC, e4, hb4d]
        refine seq_ret ⟨Or.inr rfl, .tuple #[.agg #[nilS, nilS], .bool false], ?_, nilS, nilS, by rw [hN]; rfl, hx0d.setN (by omega) _, ?_, ?_⟩
        · simp [resV, resL, res1, putE_get, notT, ptr, gc_set hb4dl, inBlk_some, valOf, e4]
        all_goals (unfold inferO; rw [hN]; exact ⟨by simp, none, rfl, .inl rfl⟩)
    | true =>
      refine seq_cond (t := true) (by simp only [go_sem, binC]) ?_
      simp only [go_sem, binC]
      refine seq_skip (wpc_block (seq_reg ?_))
      simp only [go_sem, binC]
      refine seq_reg ?_
      simp only [go_sem, binC, e6, gc_of hb6d, inBlk_some, osv']
      obtain ⟨wt, H5, k5, hx5, oa⟩ := ga Hd n _ sv' cur l hlcd hsvd hsmc hPc
      refine op_callK (by simp only [go_sem, binC]; exact k5) ?_
      have hatl := atL_len cur (7, 7) l
      obtain ⟨at_, hat⟩ := oa.shape
      rw [hatl] at hat
      subst hat
      simp only [go_sem, binC]
      have hx35 : AgX xs H3 H5 := hxd.trans hx5 (fun _ h _ => h) (fun _ h _ => by cases h)
      have hx5l := hx5.1
      have hb65 := hx5.get hb6d (by simp)
      refine seq_reg ?_
      simp only [go_sem, binC, e6, gc_of hb65, inBlk_some]
      obtain ⟨wl, H6, k6, hx6, ol⟩ := gl n (vwl H1.length xs H3) H5 sv' l (hV H5 hx35) hsv (by omega)
      refine op_callK (by simp only [go_sem, binC]; exact k6) ?_
      obtain ⟨al6, hal6⟩ := ol.shape
      rw [hsl] at hal6
      subst hal6
      simp only [go_sem, binC]
      have hx6l := hx6.1
      have hx56 := hx5.tr hx6
      have hx36 : AgX xs H3 H6 := hx35.trans hx6 (fun _ h _ => h) (fun _ h _ => by cases h)
      have hL6 := hLd.keep (Nat.le_refl _) hx56 (fun _ _ _ => by simp)
      have oa6 := oa.keep (Nat.le_refl _) hx6 (fun _ _ => by simp)
      have hallat : (atL n cur (7, 7) l).all labB = true := atL_lab hclab rfl l
      have hxold : ∀ b, b ∈ xs → b < Hd.length := fun b hb => by have := (hxin b hb).2.1; omega
      refine wpc_block (wpc_loop ?_)
      suffices h3 : ∀ (q j : Nat) (e : Env) (Hf : Heap) (now : List (Int × Int)), j + q = (allL n l).length → now = (((allL n l).zip (atL n cur (7, 7) l)).take j).foldl (passS (freeF free)) cur → AgX xs H6 Hf → LabV H1.length Hf (.slice al ls.length ls.length) now → e 1 = .slice wa free.length free.length → e 4 = ptr (H.length + 1) 0 → e 6 = ptr H2.length 0 → e 9 = .bool (decide (now ≠ cur)) → e 10 = .slice at_ (allL n l).length (allL n l).length → e 47 = .slice al6 (allL n l).length (allL n l).length → e 48 = .int .i64 (allL n l).length → e 49 = .int .i64 j → Go.Proofs.YtkmghcglmjehcaaI.W F H.length _ e Hf _ from
        h3 (allL n l).length 0 _ H6 cur (by omega) rfl (AgX.refl _ _) hL6 (by simp only [go_sem, binC, e1]) (by simp only [go_sem, binC, e4]) (by simp only [go_sem, binC, e6]) (by (simp only [go_sem, binC]) <;> simp) (by simp only [go_sem, binC]) (by simp only [go_sem, binC]) (by simp only [go_sem, binC]) (by (simp only [go_sem, binC]) <;> rfl)
      clear e1 e4 e6 e9
      intro q
      induction q with
      | zero =>
        intro j e Hf now hj hnow hxf hLf e1 e4 e6 e9 e10 e47 e48 e49
        have hzl : ((allL n l).zip (atL n cur (7, 7) l)).length ≤ j := by rw [List.length_zip]; omega
        rw [List.take_of_length_le hzl] at hnow
        have hpa := pass_all (n := n) (l := l) (free := freeF free) hclab (by rw [hcl]; exact hvar)
        have hnp : now = pass n l (freeF free) cur := hnow
        have hml := meas_le now cur (hnp ▸ hpa.1)
        refine lp_step ?_
        refine seq_reg ?_
        simp only [go_sem, binC, e48, e49]
        refine seq_cond (t := false) (by simp only [go_sem, binC]; rw [decide_eq_false (by omega)]) ?_
        simp only [go_sem, binC]
        refine seq_exit ?_
        simp only [go_sem, binC, thenX_e, out_e, out_n, thenX_n]
        refine ih _ ?_ (k + 1) (decide (now ≠ cur)) _ Hf now rfl (by rw [hnp, hck]; rfl) (fun h => ?_) (hx36.trans hxf (fun _ h _ => h) (fun _ h _ => h)) hLf (by simp only [go_sem, binC, e1]) (by simp only [go_sem, binC, e4]) (by simp only [go_sem, binC, e6]) (by simp only [go_sem, binC, e9])
        · by_cases hnc : now = cur
          · simp only [hnc, ne_eq, not_true_eq_false, decide_false, Bool.false_eq_true, if_false]
            simp only [if_true] at hm
            omega
          · have : meas now ≠ meas cur := fun h => hnc (hml.2 h)
            simp only [hnc, ne_eq, not_false_eq_true, decide_true, if_true]
            simp only [if_true] at hm
            have := hml.1
            omega
        · have hnc : now = cur := by simpa using h
          rw [hnc, ← hnp, hnc]
      | succ q ihj =>
        intro j e Hf now hj hnow hxf hLf e1 e4 e6 e9 e10 e47 e48 e49
        have hjl : j < (allL n l).length := by omega
        have hja : j < (atL n cur (7, 7) l).length := by omega
        have hjs : j < (allSL n l).length := by omega
        have hjz : j < ((allL n l).zip (atL n cur (7, 7) l)).length := by rw [List.length_zip]; omega
        have hw1 : IntKind.i64.wrap ((j : Int) + 1) = ((j + 1 : Nat) : Int) := by rw [wrap_id (by omega) (by omega)]; omega
        have hpi := pass_ind (free := freeF free) (((allL n l).zip (atL n cur (7, 7) l)).take j) cur hclab (fun x hx => by
          obtain ⟨i, hi, rfl⟩ := List.getElem_of_mem (List.mem_of_mem_take hx)
          rw [List.getElem_zip]
          have := varB_i.1 (hvar _ (List.getElem_mem (show i < (allL n l).length by rw [List.length_zip] at hi; omega)))
          simp only
          omega)
        rw [← hnow] at hpi
        have hnlab := hpi.1.lab
        have hnl : now.length = ls.length := by rw [hpi.1.1, hcl]
        have hnext : (((allL n l).zip (atL n cur (7, 7) l)).take (j + 1)).foldl (passS (freeF free)) cur = passS (freeF free) now ((allL n l)[j], (atL n cur (7, 7) l)[j]) := by
          rw [List.take_add_one, List.getElem?_eq_getElem hjz, List.foldl_append, ← hnow, List.getElem_zip]
          rfl
        have hx3f : AgX xs H3 Hf := hx36.trans hxf (fun _ h _ => h) (fun _ h _ => h)
        have hxfl := hxf.1
        obtain ⟨ba, ca, hwa, gca, rda⟩ := (oa6.keep (Nat.le_refl _) hxf (fun b hb hm => by have := (oa6.blk hb).1; have := hxold b hm; omega)).at hja
        rw [hatl] at hwa
        simp only [Value.slice.injEq, and_true] at hwa
        subst hwa
        obtain ⟨bs, cs, hws, gcs, rds⟩ := (ol.keep (Nat.le_refl _) hxf (fun b hb hm => by have := (ol.blk hb).1; have := hxold b hm; omega)).at hjs
        rw [hsl] at hws
        simp only [Value.slice.injEq, and_true] at hws
        subst hws
        have hsame := allSL_at l hjs hjl
        obtain ⟨sk, sx, sa, sbb, sc, sg, tv, ev, tl, el, hs2, hcs, rg, otv, oev, _, _⟩ := anyS_rd rds
        have hsh' : shA (allSL n l)[j] = (sk, sx, (sa, sbb, sc), sg) := by unfold shA; rw [hs2]
        rw [hsh'] at hsame
        subst hcs
        have hokj := progB_okS hP _ (List.getElem_mem hjl)
        rw [← hsame] at hokj hnext
        have hoj : labB (atL n cur (7, 7) l)[j] = true := List.all_eq_true.1 hallat _ (List.getElem_mem hja)
        generalize (atL n cur (7, 7) l)[j] = hr at rda hoj hnext
        obtain ⟨ra, rb⟩ := hr
        obtain ⟨_, _, rfl, ⟨hq1, _⟩, ⟨hq2, _⟩⟩ := rda
        simp only at hq1 hq2
        subst hq1 hq2
        have hvx := varB_i.1 hokj.1
        simp only at hvx
        refine lp_step ?_
        refine seq_reg ?_
        simp only [go_sem, binC, e48, e49]
        refine seq_cond (t := true) (by simp only [go_sem, binC]; rw [decide_eq_true (by omega)]) ?_
        simp only [go_sem, binC]
        refine seq_skip (seq_block (seq_reg ?_))
        simp only [go_sem, binC, e47, e49]
        refine ⟨⟨by omega, by omega⟩, ?_⟩
        simp only [go_sem, binC, Int.toNat_natCast, Nat.zero_add, gcs, otv, oev]
        refine ⟨by omega, ?_⟩
        refine wpc_gen fun H7 hH7 => ?_
        have hx7 : AgX [] Hf H7 := hH7 ▸ AgX.app [] _ _
        have hs7 : H7[Hf.length]? = some ⟨[.int .i64 sk, .int .i64 sx, .int .i64 sa, .int .i64 sbb, .int .i64 sc, .int .i64 sg, tv, ev], 0, 0, false, true⟩ := hH7 ▸ get_new0 _ _
        have hl7 : H7.length = Hf.length + 1 := by rw [hH7, List.length_append]; rfl
        clear hH7
        have hx67 : AgX xs H6 H7 := hxf.trans hx7 (fun _ h _ => h) (fun _ h _ => by cases h)
        have hx37 : AgX xs H3 H7 := hx3f.trans hx7 (fun _ h _ => h) (fun _ h _ => by cases h)
        have hL7 := hLf.keep (Nat.le_refl _) hx7 (fun _ _ _ => by simp)
        have hb67 := hget H7 hx37 _ _ hb6 rfl
        have gca7 := gcK gca hx7
        refine seq_assoc (seq_reg ?_)
        simp only [go_sem, binC, gc_of hs7, inBlk_some]
        by_cases k1 : sk = 1
        case neg =>
          rw [show passS (freeF free) now ((sk, sx, (sa, sbb, sc), sg), (ra, rb)) = now from if_neg (fun h => k1 h.1)] at hnext
          simp only [go_sem, binC, bne_t k1]
          refine seq_cond (t := true) rfl ?_
          simp only [go_sem, binC]
          refine seq_exit ?_
          simp only [go_sem, binC, thenX_e, out_e, thenX_n]
          refine wpc_reg ?_
          simp only [go_sem, binC, e49, hw1]
          simp only [go_sem, binC, thenX_n]
          exact ihj (j + 1) _ H7 now (by omega) hnext.symm hx67 hL7 (by simp only [go_sem, binC, e1]) (by simp only [go_sem, binC, e4]) (by simp only [go_sem, binC, e6]) (by simp only [go_sem, binC, e9]) (by simp only [go_sem, binC, e10]) (by simp only [go_sem, binC, e47]) (by simp only [go_sem, binC, e48]) (by simp only [go_sem, binC])
        have hfx2 : sx.toNat < free.length := by omega
        obtain ⟨fb, fo, hfw, hgf⟩ := gcB (hr3 H7 hx37) hfx2
        simp only [Value.slice.injEq, and_true] at hfw
        subst hfw
        simp only [go_sem, binC, bne_f k1, e1, gc_of hs7, inBlk_some]
        refine ⟨⟨by omega, by omega⟩, ?_⟩
        simp only [go_sem, binC, Nat.mul_one, hgf]
        by_cases hfr : free[sx.toNat] = true
        case neg =>
          have hfr' : free[sx.toNat] = false := by simpa using hfr
          rw [show passS (freeF free) now ((sk, sx, (sa, sbb, sc), sg), (ra, rb)) = now from if_neg (fun h => hfr (by have := h.2; unfold freeF at this; simpa [List.getD, hfx2] using this))] at hnext
          simp only [go_sem, binC, hfr', Bool.not_false]
          refine seq_cond (t := true) rfl ?_
          simp only [go_sem, binC]
          refine seq_exit ?_
          simp only [go_sem, binC, thenX_e, out_e, thenX_n]
          refine wpc_reg ?_
          simp only [go_sem, binC, e49, hw1]
          simp only [go_sem, binC, thenX_n]
          exact ihj (j + 1) _ H7 now (by omega) hnext.symm hx67 hL7 (by simp only [go_sem, binC, e1]) (by simp only [go_sem, binC, e4]) (by simp only [go_sem, binC, e6]) (by simp only [go_sem, binC, e9]) (by simp only [go_sem, binC, e10]) (by simp only [go_sem, binC, e47]) (by simp only [go_sem, binC, e48]) (by simp only [go_sem, binC])
        have hval : valB now.length (sa, sbb, sc) = true := by rw [hnl]; exact hokj.2.2.1 k1
        have hsrc := srcL_val hnlab hoj hval
        have hlx := lab_getD hnlab sx.toNat
        rw [show passS (freeF free) now ((sk, sx, (sa, sbb, sc), sg), (ra, rb)) = now.set sx.toNat (lboth (now.getD sx.toNat (0, 0)) (srcL now (sa, sbb, sc) (ra, rb))) from by
          unfold passS
          rw [if_pos ⟨k1, by unfold freeF; simpa [List.getD, hfx2] using hfr⟩, hsrc]] at hnext
        have hlbl : labB (lboth (now.getD sx.toNat (0, 0)) (srcL now (sa, sbb, sc) (ra, rb))) = true := lboth_bd _ _
        have hstle := set_le hnlab (show sx.toNat < now.length by omega) (srcL_lab (ls := now) (v := (sa, sbb, sc)) hoj)
        obtain ⟨bl, hbl, hgl⟩ := hL7.getP (show sx.toNat < now.length by omega)
        rw [hnl] at hbl
        simp only [sli, Value.slice.injEq, and_true] at hbl
        subst hbl
        simp only [go_sem, binC, hfr, Bool.not_true]
        refine seq_cond (t := false) rfl ?_
        simp only [go_sem, binC]
        refine seq_skip (seq_regD ?_)
        simp only [go_sem, binC, e6, e10, gc_of hb67, gc_of hs7, inBlk_some, osv', otv, oev]
        refine ⟨⟨by omega, by omega⟩, ?_⟩
        simp only [go_sem, binC, Nat.zero_add, hgl, gc_of hb67, gc_of hs7, inBlk_some, osv', otv, oev, e10]
        refine ⟨⟨by omega, by omega⟩, ?_⟩
        simp only [go_sem, binC, Int.toNat_natCast, Nat.zero_add, gca7]
        refine op_callQ (by simp only [go_sem, binC]; exact gs H7 _ sv' tv ev now sk sx sa sbb sc sg (ra, rb) osv' otv oev rg.2.2.2.1 rg.2.2.2.2.1 (hL7.sl (lab_rg hnlab) (by omega)) hnlab hval hoj) ?_
        simp only [go_sem, binC]
        refine op_callQ (by simp only [go_sem, binC]; exact gb H7 _ _ hlx (srcL_lab hoj)) ?_
        generalize hnx : lboth (now.getD sx.toNat (0, 0)) (srcL now (sa, sbb, sc) (ra, rb)) = nx at *
        obtain ⟨n1, n2⟩ := nx
        simp only [go_sem, binC]
        refine ⟨by omega, ?_⟩
        refine wpc_gen fun H8 hH8 => ?_
        have hx8 : AgX [] H7 H8 := hH8 ▸ AgX.app [] _ _
        have ht8 : H8[H7.length]? = some ⟨[.int .i64 n1, .int .i64 n2], 0, 0, false, true⟩ := hH8 ▸ get_new0 _ _
        have hl8 : H8.length = H7.length + 1 := by rw [hH8, List.length_append]; rfl
        clear hH8
        have hx68 : AgX xs H6 H8 := hx67.trans hx8 (fun _ h _ => h) (fun _ h _ => by cases h)
        have hx38 : AgX xs H3 H8 := hx37.trans hx8 (fun _ h _ => h) (fun _ h _ => by cases h)
        have hL8 := hL7.keep (Nat.le_refl _) hx8 (fun _ _ _ => by simp)
        have hb68 := hx8.get hb67 (by simp)
        have hs8 := hx8.get hs7 (by simp)
        have hgl8 := gcK hgl hx8
        refine seq_regD ?_
        simp only [go_sem, binC, e6, gc_of hb68, gc_of hs8, gc_of ht8, inBlk_some]
        refine ⟨⟨by omega, by omega⟩, ?_⟩
        simp only [go_sem, binC, Nat.zero_add, hgl8, eqsV2]
        by_cases hsm2 : ((n1, n2) : Int × Int) = now.getD sx.toNat (0, 0)
        · have hset : now.set sx.toNat (n1, n2) = now := by
            rw [hsm2]
            refine List.ext_getElem (by simp) fun i h1 h2 => ?_
            rw [List.getElem_set]
            split
            · rename_i hii; subst hii; simp [List.getD, h2]
            · rfl
          rw [hset] at hnext
          have hd : decide (((n1, n2) : Int × Int) = ((now.getD sx.toNat (0, 0)).1, (now.getD sx.toNat (0, 0)).2)) = true := decide_eq_true hsm2
          simp only [go_sem, binC, hd, Bool.not_true]
          refine wpc_cond (t := false) rfl ?_
          simp only [go_sem, binC]
          refine wpc_skip ?_
          simp only [go_sem, binC, out_n, thenX_n]
          refine wpc_reg ?_
          simp only [go_sem, binC, e49, hw1]
          simp only [go_sem, binC, thenX_n]
          exact ihj (j + 1) _ H8 now (by omega) hnext.symm hx68 hL8 (by simp only [go_sem, binC, e1]) (by simp only [go_sem, binC, e4]) (by simp only [go_sem, binC, e6]) (by simp only [go_sem, binC, e9]) (by simp only [go_sem, binC, e10]) (by simp only [go_sem, binC, e47]) (by simp only [go_sem, binC, e48]) (by simp only [go_sem, binC])
        · have hd : decide (((n1, n2) : Int × Int) = ((now.getD sx.toNat (0, 0)).1, (now.getD sx.toNat (0, 0)).2)) = false := decide_eq_false hsm2
          simp only [go_sem, binC, hd, Bool.not_false]
          refine wpc_cond (t := true) rfl ?_
          simp only [go_sem, binC]
          refine seq_reg ?_
          simp only [go_sem, binC, e6, gc_of hb68, gc_of hs8, gc_of ht8, inBlk_some]
          refine ⟨⟨by omega, by omega⟩, ?_⟩
          obtain ⟨bl2, hbl2, hbl3, hbl4, hbl5, hL9⟩ := hL8.set (show sx.toNat < now.length by omega) (n1, n2)
          simp only [sli, hnl, Value.slice.injEq, and_true, Option.some.injEq, Addr.mk.injEq] at hbl2
          subst hbl2
          have hfl8 := flat_len (fl := fp) (w := 2) (fun _ => rfl) now
          simp only [go_sem, binC, Nat.zero_add, hbl5]
          refine ⟨⟨by omega, by omega⟩, ?_⟩
          rw [show ((now.flatMap fp).set (sx.toNat * 2) (.int .i64 n1)).set (sx.toNat * 2 + 1) (.int .i64 n2) = (now.set sx.toNat (n1, n2)).flatMap fp from flat_set _ _ (n1, n2) (by omega)]
          refine wpc_reg ?_
          simp only [go_sem, binC, out_n, thenX_n]
          refine wpc_reg ?_
          simp only [go_sem, binC, e49, hw1]
          simp only [go_sem, binC, thenX_n]
          have hxs9 : AgX [bl] H8 (H8.set bl ⟨(now.set sx.toNat (n1, n2)).flatMap fp, 2, 35, true, true⟩) := AgX.set _ _ _
          have hblx : bl ∈ xs := by rw [hxs]; simp [blkOf]
          have hne : now.set sx.toNat (n1, n2) ≠ cur := fun h => by
            have h1 := hstle
            rw [h] at h1
            have h2 : now = cur := hpi.1.antisymm h1
            have h3 : (now.set sx.toNat (n1, n2)).getD sx.toNat (0, 0) = cur.getD sx.toNat (0, 0) := by rw [h]
            rw [getD_setP (by omega), if_pos rfl, ← h2] at h3
            exact hsm2 h3
          refine ihj (j + 1) _ _ (now.set sx.toNat (n1, n2)) (by omega) hnext.symm (hx68.trans hxs9 (fun _ h _ => h) (fun b hb _ => by simp only [List.mem_singleton] at hb; subst hb; exact hblx)) hL9 (by simp only [go_sem, binC, e1]) (by simp only [go_sem, binC, e4]) (by simp only [go_sem, binC, e6]) (by simp only [go_sem, binC]; rw [decide_eq_true hne]) (by simp only [go_sem, binC, e10]) (by simp only [go_sem, binC, e47]) (by simp only [go_sem, binC, e48]) (by simp only [go_sem, binC])
  | succ k ih =>
    intro i e Hc cur hi hcur hxc hLc e1 e4 e6 e28 e29 e30
    have hif : i < free.length := by omega
    have hw1 : IntKind.i64.wrap ((i : Int) + 1) = ((i + 1 : Nat) : Int) := by rw [wrap_id (by omega) (by omega)]; omega
    have hcl : cur.length = ls.length := by rw [hcur, startL_len]
    have hb6c := hget Hc hxc _ _ hb6 rfl
    obtain ⟨fb, fo, hfw, hgf⟩ := gcB (hr3 Hc hxc) hif
    simp only [Value.slice.injEq, and_true] at hfw
    subst hfw
    have hxcl := hxc.1
    have hstep := startL_step (ls := ls) hif hfl
    rw [← hcur] at hstep
    refine lp_step ?_
    refine seq_reg ?_
    simp only [go_sem, binC, e29, e30]
    refine seq_cond (t := true) (by simp only [go_sem, binC]; rw [decide_eq_true (by omega)]) ?_
    simp only [go_sem, binC]
    refine seq_skip (seq_block (seq_reg ?_))
    simp only [go_sem, binC, e28, e30]
    refine ⟨⟨by omega, by omega⟩, ?_⟩
    simp only [go_sem, binC, Int.toNat_natCast, Nat.mul_one, hgf]
    refine seq_reg ?_
    simp only [go_sem, binC]
    by_cases hfr : free[i] = true
    · rw [show free.getD i false = true by simpa [List.getD, hif] using hfr, if_pos rfl] at hstep
      obtain ⟨bl2, hbl2, hbl3, hbl4, hbl5, hL9⟩ := hLc.set (show i < cur.length by omega) (7, 7)
      simp only [sli, hcl, Value.slice.injEq, and_true] at hbl2
      subst hbl2
      refine wpc_cond (t := true) (by simp only [go_sem, binC, hfr]) ?_
      simp only [go_sem, binC]
      refine wpc_regD ?_
      simp only [go_sem, binC, e6, gc_of hb6c, inBlk_some]
      refine op_callQ (by simp only [go_sem, binC]; exact ge Hc) ?_
      simp only [go_sem, binC]
      refine ⟨⟨by omega, by omega⟩, ?_⟩
      have hfl8 := flat_len (fl := fp) (w := 2) (fun _ => rfl) cur
      simp only [go_sem, binC, Int.toNat_natCast, Nat.zero_add, hbl5]
      refine ⟨⟨by omega, by omega⟩, ?_⟩
      rw [show ((cur.flatMap fp).set (i * 2) (.int .i64 7)).set (i * 2 + 1) (.int .i64 7) = (cur.set i (7, 7)).flatMap fp from flat_set _ _ (7, 7) (by omega)]
      simp only [go_sem, binC, out_n, thenX_n]
      refine wpc_reg ?_
      simp only [go_sem, binC, e30, hw1]
      simp only [go_sem, binC, thenX_n]
      have hxs9 : AgX [bl2] Hc (Hc.set bl2 ⟨(cur.set i (7, 7)).flatMap fp, 2, 35, true, true⟩) := AgX.set _ _ _
      have hblx : bl2 ∈ xs := by rw [hxs]; simp [blkOf]
      exact ih (i + 1) _ _ (cur.set i (7, 7)) (by omega) hstep.symm (hxc.trans hxs9 (fun _ h _ => h) (fun b hb _ => by simp only [List.mem_singleton] at hb; subst hb; exact hblx)) hL9 (by simp only [go_sem, binC, e1]) (by simp only [go_sem, binC, e4]) (by simp only [go_sem, binC, e6]) (by simp only [go_sem, binC, e28]) (by simp only [go_sem, binC, e29]) (by simp only [go_sem, binC])
    · have hfr' : free[i] = false := by simpa using hfr
      rw [if_neg (show ¬ free.getD i false = true by simp [List.getD, hif, hfr'])] at hstep
      refine wpc_cond (t := false) (by simp only [go_sem, binC, hfr']) ?_
      simp only [go_sem, binC]
      refine wpc_skip ?_
      simp only [go_sem, binC, out_n, thenX_n]
      refine wpc_reg ?_
      simp only [go_sem, binC, e30, hw1]
      simp only [go_sem, binC, thenX_n]
      exact ih (i + 1) _ Hc cur (by omega) hstep.symm hxc hLc (by simp only [go_sem, binC, e1]) (by simp only [go_sem, binC, e4]) (by simp only [go_sem, binC, e6]) (by simp only [go_sem, binC, e28]) (by simp only [go_sem, binC, e29]) (by simp only [go_sem, binC])
end Go.Proofs.YtkmghcglmjehcaaI
end
section
/- What a variable needs (the reference's). -/
set_option linter.unusedVariables false
set_option linter.unusedSimpArgs false
namespace Go.Proofs.YtkmghcglmjehcaaI
open Go Go.RowKit
def c_sNeed : IFn := ⟨2, 55, [.cell true 2 4],
 .seq (.reg none [
    ⟨(some 2), none, .box (.t 0)⟩,
    ⟨(some 4), none, .new [(.int .i64 0), (.int .i64 0)]⟩])
 (.seq (.reg none [
    ⟨(some 9), none, .fad 1 (.t 2)⟩,
    ⟨(some 10), none, .load false 1 (.t 9)⟩,
    ⟨(some 11), none, .call .k (.f 103) [(.t 10)]⟩,
    ⟨(some 5), none, .mov (.t 11)⟩])
 (.seq (.reg none [
    ⟨(some 12), none, .load true 2 (.t 2)⟩,
    ⟨(some 13), none, .call .k (.f 104) [(.t 12)]⟩,
    ⟨(some 6), none, .mov (.t 13)⟩])
 (.seq (.reg none [
    ⟨(some 14), none, .fad 0 (.t 2)⟩,
    ⟨(some 15), none, .load false 1 (.t 14)⟩,
    ⟨(some 16), none, .mov (.t 1)⟩,
    ⟨(some 17), none, .iad 2 (.t 15) (.t 16)⟩,
    ⟨(some 18), none, .load true 2 (.t 17)⟩,
    ⟨(some 7), none, .new [(.int .i64 0), (.int .i64 0)]⟩,
    ⟨none, none, .store 2 (.t 7) (.t 18)⟩])
 (.seq (.seq (.reg none [
     ⟨(some 8), none, .mov (.c (.int .i64 0))⟩])
  (.block 0 (.loop (.seq (.seq (.reg none [
        ⟨(some 19), none, .mov (.t 8)⟩,
        ⟨(some 20), none, .mov (.t 5)⟩,
        ⟨(some 21), none, .len (.t 20)⟩,
        ⟨(some 22), none, .bin .lss (.t 19) (.t 21)⟩])
     (.cond (.t 22) (.skip) (.exit 0)))
    (.seq (.block 1 (.seq (.reg none [
         ⟨(some 25), none, .mov (.t 5)⟩,
         ⟨(some 26), none, .mov (.t 8)⟩,
         ⟨(some 27), none, .iad 8 (.t 25) (.t 26)⟩,
         ⟨(some 28), none, .fad 0 (.t 27)⟩,
         ⟨(some 29), none, .load false 1 (.t 28)⟩,
         ⟨(some 30), none, .bin .eql (.t 29) (.c (.int .i64 1))⟩,
         ⟨(some 31), none, .mov (.t 30)⟩,
         ⟨(some 32), (some (31, true)), .mov (.t 5)⟩,
         ⟨(some 33), (some (31, true)), .mov (.t 8)⟩,
         ⟨(some 34), (some (31, true)), .iad 8 (.t 32) (.t 33)⟩,
         ⟨(some 35), (some (31, true)), .fad 1 (.t 34)⟩,
         ⟨(some 36), (some (31, true)), .load false 1 (.t 35)⟩,
         ⟨(some 37), (some (31, true)), .mov (.t 1)⟩,
         ⟨(some 38), (some (31, true)), .bin .eql (.t 36) (.t 37)⟩,
         ⟨(some 39), none, .pick (.t 31) (.t 38) (.c (.bool false))⟩])
      (.cond (.t 39) (.reg (some 13) [
         ⟨(some 40), none, .load true 2 (.t 7)⟩,
         ⟨(some 41), none, .mov (.t 6)⟩,
         ⟨(some 42), none, .mov (.t 8)⟩,
         ⟨(some 43), none, .iad 2 (.t 41) (.t 42)⟩,
         ⟨(some 44), none, .load true 2 (.t 43)⟩,
         ⟨(some 45), none, .load true 2 (.t 2)⟩,
         ⟨(some 46), none, .mov (.t 5)⟩,
         ⟨(some 47), none, .mov (.t 8)⟩,
         ⟨(some 48), none, .iad 8 (.t 46) (.t 47)⟩,
         ⟨(some 49), none, .fad 2 (.t 48)⟩,
         ⟨(some 50), none, .load true 3 (.t 49)⟩,
         ⟨(some 51), none, .call .q (.f 106) [(.t 45), (.t 50)]⟩,
         ⟨(some 52), none, .call .q (.f 105) [(.t 44), (.t 51)]⟩,
         ⟨(some 53), none, .call .q (.f 105) [(.t 40), (.t 52)]⟩,
         ⟨none, none, .store 2 (.t 7) (.t 53)⟩]) (.skip))))
    (.reg none [
      ⟨(some 23), none, .mov (.t 8)⟩,
      ⟨(some 24), none, .bin .add (.t 23) (.c (.int .i64 1))⟩,
      ⟨(some 8), none, .mov (.t 24)⟩]))))))
 (.seq (.reg none [
    ⟨(some 54), none, .load true 2 (.t 7)⟩,
    ⟨none, none, .store 2 (.t 4) (.t 54)⟩])
 (.ret))))))⟩
def NeedOk (F : Nat → Option IFn) (f : Nat) : Prop := ∀ (H : Heap) (n : Nat) (lv sv : Value) (ls : List (Int × Int)) (l : List (TStep n)) (v : Nat), SlR Co.p2 (vw 0 H) lv ls → SlR (Co.step n) (vw 0 H) sv l → (Co.prog n).sm (ls, l) → progB n (ls, l) = true → v < ls.length → QC F f [.agg #[lv, sv], .int .i64 v] H (.agg #[.int .i64 (needV n ls l v).1, .int .i64 (needV n ls l v).2])
theorem lab_rg1 {a : Int × Int} (h : labB a = true) : RgI a.1 ∧ RgI a.2 := by
  have q := labB_i.1 h
  unfold RgI
  exact ⟨by omega, by omega⟩
theorem sNeed_ok {F : Nat → Option IFn} {f : Nat} (hf : F f = some c_sNeed) (gall : ∀ n, AllOk F 103 n) (gta : TypeAtOk F 104) (gb : LBothOk F 105)
    (gv : ∀ (H : Heap) (lv sv : Value) (ls : List (Int × Int)) (k a b : Int), one sv = true → SlR Co.p2 (vw 0 H) lv ls → valB ls.length (k, a, b) = true → QC F 106 [.agg #[lv, sv], .agg #[.int .i64 k, .int .i64 a, .int .i64 b]] H (.agg #[.int .i64 (valL ls (k, a, b)).1, .int .i64 (valL ls (k, a, b)).2])) : NeedOk F f := by
  intro H n lv sv ls l v hlv hsv hsm hpb hvl
  have osv : one sv = true := by obtain ⟨_, a, rfl, _⟩ := hsv; rfl
  obtain ⟨_, la, rfl, _⟩ := id hlv
  have hcnt : (allL n l).length ≤ 8 := progB_cnt hpb hsm
  have hsh := progB_sh hpb
  have hlab := progB_lab hpb
  refine QC.mk hf rfl ?_
  refine seq_reg ?_
  simp only [go_sem, binC, osv]
  refine wpc_gen fun H1 hH1 => ?_
  have ht1 : AgX [] H H1 := hH1 ▸ AgX.app [] _ _
  have hp1 : H1[H.length]? = some ⟨[.slice la ls.length ls.length, sv], 0, 0, false, true⟩ := hH1 ▸ get_new0 _ _
  have hr1 : H1[H.length + 1]? = some ⟨[.int .i64 0, .int .i64 0], 0, 0, false, true⟩ := hH1 ▸ get_new _ _ 1
  clear hH1
  refine seq_reg ?_
  simp only [go_sem, binC, gc_of hp1, inBlk_some]
  obtain ⟨v2, H2, k2, x2, b2, so2, rfl, o2⟩ := gall n H1 sv l (hsv.mono (agx_sub ht1)) (by omega)
  refine op_callK (by simp only [go_sem, binC]; exact k2) ?_
  simp only [go_sem, binC]
  have hp2 := x2.get hp1 (by simp)
  have ht2 := ht1.tr x2
  refine seq_reg ?_
  simp only [go_sem, binC, gc_of hp2, inBlk_some, osv]
  obtain ⟨b3, so3, out, H3, k3, x3, o3, n3, a3, q3⟩ := gta H2 n _ sv ls l (hlv.mono (agx_sub ht2)) (hsv.mono (agx_sub ht2)) hsm hpb
  refine op_callK (by simp only [go_sem, binC]; exact k3) ?_
  simp only [go_sem, binC]
  have hp3 := x3.get hp2 (by simp)
  have hr3 := x3.get (x2.get hr1 (by simp)) (by simp)
  have ht3 := ht2.tr x3
  have ho2b : ∀ b, b = b2 → H1.length ≤ b ∧ b < H2.length := fun b hb => by subst hb; exact ⟨o2.1, by obtain ⟨_, _, cs, h, _⟩ := o2; exact (List.getElem?_eq_some_iff.1 h).1⟩
  have o23 := o2.sub x3 (xs' := []) (by simp) (fun _ _ _ _ _ => ⟨by simp, by simp⟩)
  obtain ⟨lb, lo', hla, hgl⟩ := gcP (hlv.mono (agx_sub ht3)) hvl
  simp only [Value.slice.injEq, and_true] at hla
  subst hla
  have hlx := lab_getD hlab v
  have hls : ls[v] = ls.getD v (0, 0) := by simp [List.getD, hvl]
  rw [hls] at hgl
  have hl3 := ht3.1
  refine seq_reg ?_
  simp only [go_sem, binC, gc_of hp3, inBlk_some]
  refine ⟨⟨by omega, by omega⟩, ?_⟩
  simp only [go_sem, binC, Int.toNat_natCast, hgl]
  refine ⟨by omega, ?_⟩
  refine wpc_gen fun H4 hH4 => ?_
  have x4 : AgX [] H3 H4 := hH4 ▸ AgX.app [] _ _
  have hb7 : H4[H3.length]? = some ⟨[.int .i64 (ls.getD v (0, 0)).1, .int .i64 (ls.getD v (0, 0)).2], 0, 0, false, true⟩ := hH4 ▸ get_new0 _ _
  clear hH4
  have hp4 := x4.get hp3 (by simp)
  have hr4 := x4.get hr3 (by simp)
  have ht4 := ht3.tr x4
  have o24 := o23.sub x4 (xs' := [H3.length]) (by simp) (fun b' h4 h5 h6 h7 => ⟨by simp, by simp; omega⟩)
  have o34 := o3.sub x4 (xs' := [H3.length]) (by simp) (fun b' h4 h5 h6 h7 => ⟨by simp, by simp; omega⟩)
  have hb2l : b2 < H3.length := by obtain ⟨_, _, cs, h, _⟩ := o23; exact (List.getElem?_eq_some_iff.1 h).1
  have hb3l : b3 < H3.length := by obtain ⟨_, _, cs, h, _⟩ := o3; exact (List.getElem?_eq_some_iff.1 h).1
  have hrl := (List.getElem?_eq_some_iff.1 hr3).1
  refine seq_assoc (seq_reg ?_)
  simp only [go_sem, binC]
  refine seq_block (wpc_loop ?_)
  suffices h : ∀ (k i : Nat) (e : Env) (Hc : Heap) (cur : Int × Int), i + k = (allL n l).length → cur = (((allL n l).zip out).take i).foldl (needS ls v) (ls.getD v (0, 0)) → AgX [H3.length] H4 Hc → Hc[H3.length]? = some ⟨[.int .i64 cur.1, .int .i64 cur.2], 0, 0, false, true⟩ → e 1 = .int .i64 v → e 2 = ptr H.length 0 → e 4 = ptr (H.length + 1) 0 → e 5 = sli b2 0 (allL n l).length → e 6 = sli b3 0 out.length → e 7 = ptr H3.length 0 → e 8 = .int .i64 i → Go.Proofs.YtkmghcglmjehcaaI.W F H.length _ e Hc _ from
    h (allL n l).length 0 _ H4 _ (by omega) rfl (AgX.refl _ _) hb7 (by simp only [go_sem, binC]) (by simp only [go_sem, binC]) (by simp only [go_sem, binC]) (by simp only [go_sem, binC]) (by simp only [go_sem, binC]) (by simp only [go_sem, binC]) (by (simp only [go_sem, binC]) <;> rfl)
  intro k
  induction k with
  | zero =>
    intro i e Hc cur hi hcur hxc hbc e1 e2 e4 e5 e6 e7 e8
    have hzl : ((allL n l).zip out).length ≤ i := by rw [List.length_zip]; omega
    rw [List.take_of_length_le hzl, q3] at hcur
    have hrc := hxc.get hr4 (by simp; omega)
    have hrcl := (List.getElem?_eq_some_iff.1 hrc).1
    refine lp_step ?_
    refine seq_assoc (seq_reg ?_)
    simp only [go_sem, binC, e5, e8]
    refine seq_cond (t := false) (by simp only [go_sem, binC]; rw [decide_eq_false (by omega)]) ?_
    simp only [go_sem, binC]
    refine seq_exit ?_
    simp only [go_sem, binC, thenX_e, out_e, thenX_n]
    refine seq_reg ?_
    simp only [go_sem, binC, e4, e7, gc_of hbc, inBlk_some, hrc]
    refine wpc_ret ⟨Or.inr rfl, .agg #[.int .i64 (needV n ls l v).1, .int .i64 (needV n ls l v).2], ?_, rfl, rfl⟩
    have hnv : needV n ls l v = cur := by rw [hcur]; rfl
    rw [hnv]
    simp [resV, res1, putE_get, ptr, gc_set hrcl, inBlk_some, valOf, e4]
  | succ k ih =>
    intro i e Hc cur hi hcur hxc hbc e1 e2 e4 e5 e6 e7 e8
    have hil : i < (allL n l).length := by omega
    have hio : i < out.length := by omega
    have hiz : i < ((allL n l).zip out).length := by rw [List.length_zip]; omega
    have hw1 : IntKind.i64.wrap ((i : Int) + 1) = ((i + 1 : Nat) : Int) := by rw [wrap_id (by omega) (by omega)]; omega
    have hclab : labB cur = true := by
      rw [hcur]
      exact (needS_fold ls v _ _ hlx).1.la
    have hnext : (((allL n l).zip out).take (i + 1)).foldl (needS ls v) (ls.getD v (0, 0)) = needS ls v cur ((allL n l)[i], out[i]) := by
      rw [List.take_add_one, List.getElem?_eq_getElem hiz, List.foldl_append, ← hcur, List.getElem_zip]
      rfl
    have hxcl := hxc.1
    have hpc := hxc.get hp4 (by simp; omega)
    have o2c := o24.sub hxc (xs' := [H3.length]) (by simp; omega) (fun b' _ _ _ h7 => ⟨h7, h7⟩)
    have o3c := o34.sub hxc (xs' := [H3.length]) (by simp; omega) (fun b' _ _ _ h7 => ⟨h7, h7⟩)
    obtain ⟨cs, g1, tv, ev, hcs, otv, oev, rg⟩ := o2c.at hil
    obtain ⟨cs2, g2, x1, y1, hxy, ⟨hx1, rx⟩, ⟨hy1, ry⟩⟩ := o3c.at hio
    have hshi := hsh _ (List.getElem_mem hil)
    have hoi : labB out[i] = true := List.all_eq_true.1 a3 _ (List.getElem_mem _)
    generalize (allL n l)[i] = s at hcs rg hshi hnext
    generalize out[i] = hr at hx1 hy1 rx ry hoi hnext
    obtain ⟨sk, sx, ⟨sa, sbb, sc⟩, sg⟩ := s
    obtain ⟨ra, rb⟩ := hr
    subst hx1 hy1
    subst hxy
    subst hcs
    have f0 := gc_part (off := 0) (k := 1) g1 (by omega)
    have f1 := gc_part (off := 1) (k := 1) g1 (by omega)
    have f2 := gc_part (off := 2) (k := 3) g1 (by omega)
    simp only [List.drop_zero, List.drop_succ_cons, List.take_succ_cons, List.take_zero, Nat.add_zero] at f0 f1 f2
    have hlvc : SlR Co.p2 (vw 0 Hc) (.slice (some ⟨lb, lo', none⟩) ls.length ls.length) ls := hlv.mono (agx_sub (ht4.trans hxc (zs := []) (fun _ h _ => h) (fun b hb hlt => by simp only [List.mem_singleton] at hb; subst hb; omega)))
    refine lp_step ?_
    refine seq_assoc (seq_reg ?_)
    simp only [go_sem, binC, e5, e8]
    refine seq_cond (t := true) (by simp only [go_sem, binC]; rw [decide_eq_true (by omega)]) ?_
    simp only [go_sem, binC]
    refine seq_skip (seq_block (seq_reg ?_))
    simp only [go_sem, binC, e5, e8]
    refine ⟨⟨by omega, by omega⟩, ?_⟩
    simp only [go_sem, binC, Int.toNat_natCast, f0]
    by_cases k1 : sk = 1
    case neg =>
      rw [show needS ls v cur ((sk, sx, (sa, sbb, sc), sg), (ra, rb)) = cur from if_neg (fun h => k1 h.1)] at hnext
      simp only [go_sem, binC, beq_f k1]
      refine wpc_cond (t := false) rfl ?_
      simp only [go_sem, binC]
      refine wpc_skip ?_
      simp only [go_sem, binC, out_n, thenX_n]
      refine wpc_reg ?_
      simp only [go_sem, binC, e8, hw1]
      simp only [go_sem, binC, thenX_n]
      exact ih (i + 1) _ Hc cur (by omega) hnext.symm hxc hbc (by simp only [go_sem, binC, e1]) (by simp only [go_sem, binC, e2]) (by simp only [go_sem, binC, e4]) (by simp only [go_sem, binC, e5]) (by simp only [go_sem, binC, e6]) (by simp only [go_sem, binC, e7]) (by simp only [go_sem, binC])
    simp only [go_sem, binC, beq_t k1, e5, e8]
    refine ⟨⟨by omega, by omega⟩, ?_⟩
    simp only [go_sem, binC, Int.toNat_natCast, f1, e1]
    by_cases k2 : sx = v
    case neg =>
      rw [show needS ls v cur ((sk, sx, (sa, sbb, sc), sg), (ra, rb)) = cur from if_neg (fun h => k2 h.2)] at hnext
      simp only [go_sem, binC, beq_f k2]
      refine wpc_cond (t := false) rfl ?_
      simp only [go_sem, binC]
      refine wpc_skip ?_
      simp only [go_sem, binC, out_n, thenX_n]
      refine wpc_reg ?_
      simp only [go_sem, binC, e8, hw1]
      simp only [go_sem, binC, thenX_n]
      exact ih (i + 1) _ Hc cur (by omega) hnext.symm hxc hbc (by simp only [go_sem, binC, e1]) (by simp only [go_sem, binC, e2]) (by simp only [go_sem, binC, e4]) (by simp only [go_sem, binC, e5]) (by simp only [go_sem, binC, e6]) (by simp only [go_sem, binC, e7]) (by simp only [go_sem, binC])
    rw [show needS ls v cur ((sk, sx, (sa, sbb, sc), sg), (ra, rb)) = lboth cur (lboth (ra, rb) (valL ls (sa, sbb, sc))) from if_pos ⟨k1, k2⟩] at hnext
    have hval : valB ls.length (sa, sbb, sc) = true := by
      simp only [shB, Bool.and_eq_true] at hshi
      have := hshi.2
      rwa [if_pos k1] at this
    simp only [go_sem, binC, beq_t k2]
    refine wpc_cond (t := true) rfl ?_
    simp only [go_sem, binC]
    refine wpc_regD ?_
    simp only [go_sem, binC, e2, e5, e6, e7, e8, gc_of hbc, gc_of hpc, inBlk_some, osv]
    refine ⟨⟨by omega, by omega⟩, ?_⟩
    simp only [go_sem, binC, Int.toNat_natCast, g2, e2, e5, e8, gc_of hpc, inBlk_some, osv]
    refine ⟨⟨by omega, by omega⟩, ?_⟩
    simp only [go_sem, binC, Int.toNat_natCast, f2]
    refine op_callQ (by simp only [go_sem, binC]; exact gv Hc _ sv ls sa sbb sc osv hlvc hval) ?_
    have hvL := valL_bd ls (sa, sbb, sc)
    generalize valL ls (sa, sbb, sc) = vl at hvL hnext
    obtain ⟨va, vb⟩ := vl
    simp only [go_sem, binC]
    refine op_callQ (by simp only [go_sem, binC]; exact gb Hc ra rb va vb (lab_rg1 hoi).1 (lab_rg1 hoi).2 (lab_rg1 hvL).1 (lab_rg1 hvL).2) ?_
    have hbb := lboth_bd (ra, rb) (va, vb)
    generalize lboth (ra, rb) (va, vb) = bb at hbb hnext
    obtain ⟨ba, bb⟩ := bb
    simp only [go_sem, binC]
    refine op_callQ (by simp only [go_sem, binC]; exact gb Hc cur.1 cur.2 ba bb (lab_rg1 hclab).1 (lab_rg1 hclab).2 (lab_rg1 hbb).1 (lab_rg1 hbb).2) ?_
    rw [show (cur.1, cur.2) = cur from rfl]
    generalize hnx : lboth cur (ba, bb) = nx at hnext
    simp only [go_sem, binC, e7, hbc]
    refine ⟨by omega, ?_⟩
    simp only [go_sem, binC, out_n, thenX_n]
    refine wpc_reg ?_
    simp only [go_sem, binC, e8, hw1]
    simp only [go_sem, binC, thenX_n]
    have hbcl := (List.getElem?_eq_some_iff.1 hbc).1
    exact ih (i + 1) _ _ nx (by omega) hnext.symm (hxc.trans (AgX.set Hc H3.length _) (fun _ h _ => h) (fun _ h _ => h)) (List.getElem?_set_self hbcl) (by simp only [go_sem, binC, e1]) (by simp only [go_sem, binC, e2]) (by simp only [go_sem, binC, e4]) (by simp only [go_sem, binC, e5]) (by simp only [go_sem, binC, e6]) (by simp only [go_sem, binC, e7]) (by simp only [go_sem, binC])
end Go.Proofs.YtkmghcglmjehcaaI
end
section
/- Labels that are found (the reference's). -/
set_option linter.unusedVariables false
set_option linter.unusedSimpArgs false
namespace Go.Proofs.YtkmghcglmjehcaaI
open Go Go.RowKit
def c_sTypeOk : IFn := ⟨1, 16, [.t 2],
 .seq (.reg none [
    ⟨(some 1), none, .box (.t 0)⟩,
    ⟨(some 2), none, .mov (.c (.bool false))⟩])
 (.seq (.reg none [
    ⟨(some 6), none, .load true 2 (.t 1)⟩,
    ⟨(some 7), none, .call .q (.f 64) [(.t 6)]⟩,
    ⟨(some 5), none, .mov (.t 7)⟩,
    ⟨(some 8), none, .ext (.t 5) 0⟩,
    ⟨(some 9), none, .ext (.t 5) 1⟩,
    ⟨(some 3), none, .mov (.t 8)⟩,
    ⟨(some 4), none, .mov (.t 9)⟩])
 (.seq (.reg none [
    ⟨(some 10), none, .load true 2 (.t 1)⟩,
    ⟨(some 11), none, .call .q (.f 19) [(.t 10)]⟩,
    ⟨(some 12), none, .mov (.t 11)⟩,
    ⟨(some 13), (some (12, true)), .mov (.t 4)⟩,
    ⟨(some 14), (some (12, true)), .un .not (.t 13)⟩,
    ⟨(some 15), none, .pick (.t 12) (.t 14) (.c (.bool false))⟩,
    ⟨(some 2), none, .mov (.t 15)⟩])
 (.ret)))⟩
theorem sTypeOk_ok {F : Nat → Option IFn} {f : Nat} (hf : F f = some c_sTypeOk) (gw : WhyV F 64) (gp : ProgOk F 19) : TypeP F f := by
  intro H n lv sv ls l r1 r2 hsm
  have olv : one lv = true := by obtain ⟨_, a, rfl, _⟩ := r1; rfl
  have osv : one sv = true := by obtain ⟨_, a, rfl, _⟩ := r2; rfl
  refine QC.mk hf rfl ?_
  refine seq_reg ?_
  simp only [go_sem, binC, olv, osv]
  refine wpc_gen fun H1 hH1 => ?_
  have hx1 : AgX [] H H1 := hH1 ▸ AgX.app [] _ _
  have hb : H1[H.length]? = some ⟨[lv, sv], 0, 0, false, true⟩ := hH1 ▸ get_new0 _ _
  clear hH1
  have hS := agx_sub hx1
  refine seq_reg ?_
  simp only [go_sem, binC, gc_of hb, inBlk_some, olv, osv]
  refine op_callQ (by simp only [go_sem, binC]; exact gw H1 n _ _ ls l (r1.mono hS) (r2.mono hS) hsm) ?_
  simp only [go_sem, binC]
  refine seq_reg ?_
  simp only [go_sem, binC, gc_of hb, inBlk_some, olv, osv]
  refine op_callQ (by simp only [go_sem, binC]; exact gp H1 n _ (ls, l) (prog_rd (r1.mono hS) (r2.mono hS)) hsm) ?_
  cases hP : progB n (ls, l) with
  | false =>
    simp only [go_sem, binC]
    refine wpc_ret ⟨Or.inr rfl, .bool false, (by (simp only [go_sem, binC]) <;> rfl), ?_, rfl⟩
    refine congrArg _ ?_
    show _ = typeP n (ls, l)
    unfold typeP
    rw [hP]
    rfl
  | true =>
    simp only [go_sem, binC]
    refine wpc_ret ⟨Or.inr rfl, .bool (!(whyV n (ls, l)).2), (by (simp only [go_sem, binC]) <;> rfl), ?_, rfl⟩
    refine congrArg _ ?_
    show _ = typeP n (ls, l)
    unfold typeP
    rw [hP]
    rfl
def c_sInferOf : IFn := ⟨2, 71, [.cell true 2 4, .t 5],
 .seq (.reg none [
    ⟨(some 2), none, .box (.t 0)⟩,
    ⟨(some 4), none, .new [(.slice none 0 0), (.slice none 0 0)]⟩,
    ⟨(some 5), none, .mov (.c (.bool false))⟩])
 (.seq (.seq (.reg none [
     ⟨(some 10), none, .load true 2 (.t 2)⟩,
     ⟨(some 11), none, .call .q (.f 19) [(.t 10)]⟩,
     ⟨(some 12), none, .un .not (.t 11)⟩,
     ⟨(some 13), none, .mov (.t 12)⟩,
     ⟨(some 14), (some (13, false)), .mov (.t 1)⟩,
     ⟨(some 15), (some (13, false)), .len (.t 14)⟩,
     ⟨(some 16), (some (13, false)), .fad 0 (.t 2)⟩,
     ⟨(some 17), (some (13, false)), .load false 1 (.t 16)⟩,
     ⟨(some 18), (some (13, false)), .len (.t 17)⟩,
     ⟨(some 19), (some (13, false)), .bin .neq (.t 15) (.t 18)⟩,
     ⟨(some 20), none, .pick (.t 13) (.c (.bool true)) (.t 19)⟩])
  (.cond (.t 20) (.seq (.reg none [
      ⟨(some 21), none, .build [(.slice none 0 0), (.slice none 0 0)] []⟩,
      ⟨none, none, .store 2 (.t 4) (.t 21)⟩,
      ⟨(some 5), none, .mov (.c (.bool false))⟩])
   (.ret)) (.skip)))
 (.seq (.reg (some 9) [
    ⟨(some 22), none, .lit 2 35 0 [] []⟩,
    ⟨(some 23), none, .fad 0 (.t 2)⟩,
    ⟨(some 24), none, .load false 1 (.t 23)⟩,
    ⟨(some 25), none, .app 2 35 16 false (.t 22) (.t 24)⟩,
    ⟨(some 26), none, .fad 1 (.t 2)⟩,
    ⟨(some 27), none, .load false 1 (.t 26)⟩,
    ⟨(some 28), none, .call .k (.f 51) [(.t 27)]⟩,
    ⟨(some 29), none, .build [(.slice none 0 0), (.slice none 0 0)] [(0, 1, (.t 25)), (1, 1, (.t 28))]⟩,
    ⟨(some 6), none, .new [(.slice none 0 0), (.slice none 0 0)]⟩,
    ⟨none, none, .store 2 (.t 6) (.t 29)⟩])
 (.seq (.seq (.reg none [
     ⟨(some 7), none, .mov (.c (.int .i64 0))⟩])
  (.block 0 (.loop (.seq (.seq (.reg none [
        ⟨(some 30), none, .mov (.t 7)⟩,
        ⟨(some 31), none, .mov (.t 1)⟩,
        ⟨(some 32), none, .len (.t 31)⟩,
        ⟨(some 33), none, .bin .lss (.t 30) (.t 32)⟩])
     (.cond (.t 33) (.skip) (.exit 0)))
    (.seq (.block 1 (.seq (.reg none [
         ⟨(some 36), none, .mov (.t 1)⟩,
         ⟨(some 37), none, .mov (.t 7)⟩,
         ⟨(some 38), none, .iad 1 (.t 36) (.t 37)⟩,
         ⟨(some 39), none, .load false 1 (.t 38)⟩])
      (.cond (.t 39) (.reg (some 4) [
         ⟨(some 40), none, .fad 0 (.t 6)⟩,
         ⟨(some 41), none, .load false 1 (.t 40)⟩,
         ⟨(some 42), none, .mov (.t 7)⟩,
         ⟨(some 43), none, .call .q (.f 52) []⟩,
         ⟨(some 44), none, .iad 2 (.t 41) (.t 42)⟩,
         ⟨none, none, .store 2 (.t 44) (.t 43)⟩]) (.skip))))
    (.reg none [
      ⟨(some 34), none, .mov (.t 7)⟩,
      ⟨(some 35), none, .bin .add (.t 34) (.c (.int .i64 1))⟩,
      ⟨(some 7), none, .mov (.t 35)⟩]))))))
 (.seq (.seq (.reg none [
     ⟨(some 8), none, .mov (.c (.int .i64 0))⟩])
  (.block 2 (.loop (.seq (.seq (.reg none [
        ⟨(some 45), none, .mov (.t 8)⟩,
        ⟨(some 46), none, .bin .lss (.t 45) (.c (.int .i64 25))⟩])
     (.cond (.t 46) (.skip) (.exit 2)))
    (.seq (.block 3 (.seq (.reg none [
         ⟨(some 9), none, .mov (.c (.int .i64 0))⟩])
      (.block 4 (.loop (.seq (.seq (.reg none [
            ⟨(some 49), none, .mov (.t 9)⟩,
            ⟨(some 50), none, .mov (.t 1)⟩,
            ⟨(some 51), none, .len (.t 50)⟩,
            ⟨(some 52), none, .bin .lss (.t 49) (.t 51)⟩])
         (.cond (.t 52) (.skip) (.exit 4)))
        (.seq (.block 5 (.seq (.reg none [
             ⟨(some 55), none, .mov (.t 1)⟩,
             ⟨(some 56), none, .mov (.t 9)⟩,
             ⟨(some 57), none, .iad 1 (.t 55) (.t 56)⟩,
             ⟨(some 58), none, .load false 1 (.t 57)⟩])
          (.cond (.t 58) (.reg (some 6) [
             ⟨(some 59), none, .fad 0 (.t 6)⟩,
             ⟨(some 60), none, .load false 1 (.t 59)⟩,
             ⟨(some 61), none, .mov (.t 9)⟩,
             ⟨(some 62), none, .load true 2 (.t 6)⟩,
             ⟨(some 63), none, .mov (.t 9)⟩,
             ⟨(some 64), none, .call .q (.f 53) [(.t 62), (.t 63)]⟩,
             ⟨(some 65), none, .iad 2 (.t 60) (.t 61)⟩,
             ⟨none, none, .store 2 (.t 65) (.t 64)⟩]) (.skip))))
        (.reg none [
          ⟨(some 53), none, .mov (.t 9)⟩,
          ⟨(some 54), none, .bin .add (.t 53) (.c (.int .i64 1))⟩,
          ⟨(some 9), none, .mov (.t 54)⟩])))))))
    (.reg none [
      ⟨(some 47), none, .mov (.t 8)⟩,
      ⟨(some 48), none, .bin .add (.t 47) (.c (.int .i64 1))⟩,
      ⟨(some 8), none, .mov (.t 48)⟩]))))))
 (.seq (.seq (.reg none [
     ⟨(some 66), none, .load true 2 (.t 6)⟩,
     ⟨(some 67), none, .call .q (.f 22) [(.t 66)]⟩,
     ⟨(some 68), none, .un .not (.t 67)⟩])
  (.cond (.t 68) (.seq (.reg none [
      ⟨(some 69), none, .build [(.slice none 0 0), (.slice none 0 0)] []⟩,
      ⟨none, none, .store 2 (.t 4) (.t 69)⟩,
      ⟨(some 5), none, .mov (.c (.bool false))⟩])
   (.ret)) (.skip)))
 (.seq (.reg none [
    ⟨(some 70), none, .load true 2 (.t 6)⟩,
    ⟨none, none, .store 2 (.t 4) (.t 70)⟩,
    ⟨(some 5), none, .mov (.c (.bool true))⟩])
 (.ret)))))))⟩
theorem infL_def (n : Nat) (l : List (TStep n)) (free : List Bool) (init : List (Int × Int)) : infL n l free init = Nat.repeat (rnd n l (freeF free)) 25 init := rfl
attribute [local irreducible] infL
theorem sInferOf_ok {F : Nat → Option IFn} {f : Nat} (hf : F f = some c_sInferOf) (gp : ProgOk F 19) (gc : ∀ n, CopyE F 51 n) (ge : ∀ H, QC F 52 [] H (.agg #[.int .i64 7, .int .i64 7])) (gn : NeedOk F 53) (gty : TypeP F 22) : InferOk F f := by
  intro H n lv sv w ls l free r1 r2 hsm r3
  suffices h : ∃ v H', KC F f [.agg #[lv, sv], w] H v H' ∧ (∃ lv' sv', v = .tuple #[.agg #[lv', sv'], .bool (inferV n (ls, l) free).isSome] ∧ AgX [] H H' ∧ SlR Co.p2 (vw 0 H') lv' (inferO n (ls, l) free).1 ∧ SlR (Co.step n) (vw 0 H') sv' (inferO n (ls, l) free).2) by
    obtain ⟨_, H', h1, lv', sv', rfl, h2⟩ := h
    exact ⟨lv', sv', H', h1, h2⟩
  have osv : one sv = true := by obtain ⟨_, a, rfl, _⟩ := r2; rfl
  obtain ⟨_, la, rfl, _⟩ := id r1
  obtain ⟨hwl, wa, rfl, _⟩ := id r3
  refine KC.mk hf rfl ?_
  refine seq_reg ?_
  simp only [go_sem, binC, osv]
  refine wpc_gen fun H1 hH1 => ?_
  have hx1 : AgX [] H H1 := hH1 ▸ AgX.app [] _ _
  have hb2 : H1[H.length]? = some ⟨[.slice la ls.length ls.length, sv], 0, 0, false, true⟩ := hH1 ▸ get_new0 _ _
  have hb4 : H1[H.length + 1]? = some ⟨[nilS, nilS], 0, 0, false, true⟩ := hH1 ▸ get_new _ _ 1
  have hln1 : H1.length = H.length + 2 := by rw [hH1]; simp
  clear hH1
  have r1' := r1.mono (agx_sub hx1)
  have r2' := r2.mono (agx_sub hx1)
  have r3' := r3.mono (agx_sub hx1)
  have hb4l := (List.getElem?_eq_some_iff.1 hb4).1
  refine seq_assoc (seq_reg ?_)
  simp only [go_sem, binC, gc_of hb2, inBlk_some, osv]
  refine op_callB (by simp only [go_sem, binC]; exact gp H1 n _ (ls, l) (prog_rd r1' r2') hsm) (fun hP => ?_) (fun hP => ?_)
  rotate_left
  · have hN : inferV n (ls, l) free = none := by unfold inferV; rw [if_neg (fun h => by rw [hP] at h; cases h.1)]
    simp only [go_sem, binC]
    refine seq_cond (t := true) rfl ?_
    simp only [go_sem, binC]
    refine seq_assoc (seq_reg ?_)
    simp only [go_sem, binC, hb4]
    refine seq_ret ⟨Or.inr rfl, .tuple #[.agg #[nilS, nilS], .bool false], ?_, nilS, nilS, by rw [hN]; rfl, hx1.setN (by omega) _, ?_, ?_⟩
    · simp [resV, resL, res1, putE_get, notT, ptr, gc_set hb4l, inBlk_some, valOf]
    all_goals (unfold inferO; rw [hN]; exact ⟨by simp, none, rfl, .inl rfl⟩)
  simp only [go_sem, binC, gc_of hb2, inBlk_some]
  by_cases hfl : free.length = ls.length
  case neg =>
    have hN : inferV n (ls, l) free = none := by unfold inferV; rw [if_neg (fun h => hfl h.2.1)]
    simp only [go_sem, binC, bne_t (show ¬ ((free.length : Int) = ls.length) by omega)]
    refine seq_cond (t := true) rfl ?_
    simp only [go_sem, binC]
    refine seq_assoc (seq_reg ?_)
    simp only [go_sem, binC, hb4]
    refine seq_ret ⟨Or.inr rfl, .tuple #[.agg #[nilS, nilS], .bool false], ?_, nilS, nilS, by rw [hN]; rfl, hx1.setN (by omega) _, ?_, ?_⟩
    · simp [resV, resL, res1, putE_get, notT, ptr, gc_set hb4l, inBlk_some, valOf]
    all_goals (unfold inferO; rw [hN]; exact ⟨by simp, none, rfl, .inl rfl⟩)
  have hls4 : ls.length ≤ 4 := progB_le4 hP
  have hlab : ls.all labB = true := progB_lab hP
  have hstl := startL_lab (free := free) hlab
  simp only [go_sem, binC, bne_f (show ((free.length : Int) = ls.length) by omega)]
  refine seq_cond (t := false) rfl ?_
  simp only [go_sem, binC]
  refine seq_skip (seq_regD ?_)
  simp only [go_sem, binC, gc_of hb2, inBlk_some, osv]
  generalize hHa : H1 ++ [(⟨[], 2, 35, true, true⟩ : Blk)] = Ha
  have hxa : AgX [] H1 Ha := hHa ▸ AgX.app [] _ _
  have hba : Ha[H1.length]? = some ⟨[], 2, 35, true, true⟩ := hHa ▸ get_new0 _ _
  have hla : Ha.length = H1.length + 1 := by rw [← hHa, List.length_append]; rfl
  clear hHa
  have hb2a := hxa.get hb2 (by simp)
  have happ : ∀ (e : Env) (K : Value → Heap → Prop), e 22 = sli H1.length 0 0 → e 24 = .slice la ls.length ls.length → (∀ b' L, H1.length ≤ b' → (Ha ++ L)[b']? = some ⟨ls.flatMap fp, 2, 35, true, true⟩ → K (sli b' 0 ls.length) (Ha ++ L)) → wpOp F (H1.length + 1) (.app 2 35 16 false (.t 22) (.t 24)) e Ha K := by
    intro e K e22 e24 k
    by_cases hl0 : ls = []
    · subst hl0
      refine op_app_zero _ _ _ _ _ (by (simp only [go_sem, binC, e22]) <;> rfl) (by (simp only [go_sem, binC, e24]) <;> rfl) ?_
      have := k H1.length [] (Nat.le_refl _)
      rw [List.append_nil] at this
      exact this hba
    · obtain ⟨b, o, hbo, hg⟩ := sl_p2s (r1'.mono (agx_sub hxa)) hl0
      have hne : ls.length ≠ 0 := fun h => hl0 (List.eq_nil_of_length_eq_zero h)
      exact op_app_lit (by (simp only [go_sem, binC, e22]) <;> rfl) (by simp only [go_sem, binC, e24]; exact hbo) hne hg hba (by omega) (by omega) (by omega) (k _ _ (by omega) (get_new0 _ _))
  simp only [go_sem, binC, gc_of hb2a, inBlk_some, osv]
  refine happ _ _ (by simp only [go_sem, binC]) (by simp only [go_sem, binC]) fun bl L hbl0 hbl => ?_
  generalize hHb : Ha ++ L = Hb at *
  have hxb : AgX [] Ha Hb := hHb ▸ AgX.app [] _ _
  clear hHb happ
  have hb2b := hxb.get hb2a (by simp)
  have hx1b := hxa.tr hxb
  simp only [go_sem, binC, gc_of hb2b, inBlk_some]
  obtain ⟨bs, sos, H2, k2, hx2, o2⟩ := gc n Hb sv l (r2'.mono (agx_sub hx1b)) hsm.2
  refine op_callK (by simp only [go_sem, binC]; exact k2) ?_
  have hx12 := hx1b.tr hx2
  have hx12l := hx12.1
  simp only [go_sem, binC]
  refine ⟨by omega, ?_⟩
  refine wpc_genH fun H3 hH3 => ?_
  have hx3 : AgX [] H2 H3 := hH3 ▸ AgX.app [] _ _
  have hb6 : H3[H2.length]? = some ⟨[sli bl 0 ls.length, sli bs 0 l.length], 0, 0, false, true⟩ := hH3 ▸ get_new0 _ _
  clear hH3 k2
  have hx13 := hx12.tr hx3
  have hb43 := hx13.get hb4 (by simp)
  have hbl3 := (hx2.tr hx3).get hbl (by simp)
  have hbll := (List.getElem?_eq_some_iff.1 hbl).1
  have hx2l := hx2.1
  have hx3l := hx3.1
  have hsv : SlR (Co.step n) (vwl Hb.length [] H3) (sli bs 0 l.length) l := (o2.slR (step_w n) (by simp)).mono (vwl_sub hx3 (Nat.le_refl _) fun _ _ _ _ => ⟨by simp, by simp⟩)
  have hV : ∀ Hc, AgX [bl] H3 Hc → SlR (Co.step n) (vw 0 Hc) (sli bs 0 l.length) l := fun Hc hx => hsv.mono ((vwl_sub hx (lo' := Hb.length) (xs' := []) (Nat.le_refl _) fun b' h1 h2 h3 => ⟨by simp; omega, by simp⟩).trans (vwl0 _ _ _))
  have hx0 : ∀ Hc, AgX [bl] H3 Hc → AgX [] H Hc := fun Hc hx => (hx1.tr hx13).trans hx (fun _ h _ => h) (fun b hb hlt => by simp only [List.mem_singleton] at hb; omega)
  have hr3 : ∀ Hc, AgX [bl] H3 Hc → SlR Co.bool (vw 0 Hc) (.slice wa free.length free.length) free := fun Hc hx => r3.mono (agx_sub (hx0 Hc hx))
  have hLsl : ∀ (Hc : Heap) (cur : List (Int × Int)), cur.length = ls.length → cur.all labB = true → Hc[bl]? = some ⟨cur.flatMap fp, 2, 35, true, true⟩ → SlR Co.p2 (vw 0 Hc) (sli bl 0 ls.length) cur := fun Hc cur hl ha hb => by
    have := blk_slP hb (lab_rg ha) (by omega)
    rwa [hl] at this
  refine seq_assoc (seq_reg ?_)
  simp only [go_sem, binC]
  refine seq_block (wpc_loop ?_)
  suffices h1 : ∀ (k i : Nat) (e : Env) (Hc : Heap) (cur : List (Int × Int)), i + k = free.length → cur = startL ls (free.take i) → AgX [bl] H3 Hc → Hc[bl]? = some ⟨cur.flatMap fp, 2, 35, true, true⟩ → e 1 = .slice wa free.length free.length → e 4 = ptr (H.length + 1) 0 → e 6 = ptr H2.length 0 → e 7 = .int .i64 i → Go.Proofs.YtkmghcglmjehcaaI.W F H.length _ e Hc _ from
    h1 free.length 0 _ H3 ls (by omega) (by rw [List.take_zero, startL_none]) (AgX.refl _ _) hbl3 (by simp only [go_sem, binC]) (by simp only [go_sem, binC]) (by simp only [go_sem, binC]) (by (simp only [go_sem, binC]) <;> rfl)
  intro k
  induction k with
  | zero =>
    intro i e Hc cur hi hcur hxc hLc e1 e4 e6 e7
    rw [List.take_of_length_le (by omega)] at hcur
    refine lp_step ?_
    refine seq_assoc (seq_reg ?_)
    simp only [go_sem, binC, e1, e7]
    refine seq_cond (t := false) (by simp only [go_sem, binC]; rw [decide_eq_false (by omega)]) ?_
    simp only [go_sem, binC]
    refine seq_exit ?_
    simp only [go_sem, binC, thenX_e, out_e, thenX_n]
    refine seq_assoc (seq_reg ?_)
    simp only [go_sem, binC]
    refine seq_block (wpc_loop ?_)
    suffices h2 : ∀ (k i : Nat) (e : Env) (Hd : Heap) (cur : List (Int × Int)), i + k = 25 → cur = Nat.repeat (rnd n l (freeF free)) i (startL ls free) → AgX [bl] H3 Hd → Hd[bl]? = some ⟨cur.flatMap fp, 2, 35, true, true⟩ → e 1 = .slice wa free.length free.length → e 4 = ptr (H.length + 1) 0 → e 6 = ptr H2.length 0 → e 8 = .int .i64 i → Go.Proofs.YtkmghcglmjehcaaI.W F H.length _ e Hd _ from
      h2 25 0 _ Hc cur rfl (by rw [hcur]; rfl) hxc hLc (by simp only [go_sem, binC, e1]) (by simp only [go_sem, binC, e4]) (by simp only [go_sem, binC, e6]) (by (simp only [go_sem, binC]) <;> rfl)
    clear hcur hxc hLc e1 e4 e6 e7
    intro k
    induction k with
    | zero =>
      intro i e Hd cur hi hck hxd hLd e1 e4 e6 e8
      obtain rfl : i = 25 := by omega
      have hle : LeL cur (startL ls free) := hck ▸ (rnds_ind hstl 25).1
      have hcl : cur.length = ls.length := by rw [hle.1, startL_len]
      have hinf : cur = infL n l free (startL ls free) := by rw [hck, infL_def]
      have hb6d := hxd.get hb6 (by simp; omega)
      have hb4d := hxd.get hb43 (by simp; omega)
      have hb4dl := (List.getElem?_eq_some_iff.1 hb4d).1
      refine lp_step ?_
      refine seq_assoc (seq_reg ?_)
      simp only [go_sem, binC, e8]
      refine seq_cond (t := false) (by simp only [go_sem, binC]; rfl) ?_
      simp only [go_sem, binC]
      refine seq_exit ?_
      simp only [go_sem, binC, thenX_e, out_e, thenX_n]
      refine seq_assoc (seq_reg ?_)
      simp only [go_sem, binC, e6, gc_of hb6d, inBlk_some]
      refine op_callB (by simp only [go_sem, binC]; exact gty Hd n _ _ cur l (hLsl Hd cur hcl hle.lab hLd) (hV Hd hxd) (sm_ls hsm hcl)) (fun hT => ?_) (fun hT => ?_)
      · have hN : inferV n (ls, l) free = some cur := by
          unfold inferV
          simp only
          rw [← hinf, if_pos ⟨hP, hfl, hT⟩]
        simp only [go_sem, binC]
        refine seq_cond (t := false) rfl ?_
        simp only [go_sem, binC]
        refine seq_skip (seq_reg ?_)
        simp only [go_sem, binC, e4, e6, gc_of hb6d, inBlk_some, hb4d]
        have hxs2 : AgX [H.length + 1] Hd (Hd.set (H.length + 1) ⟨[sli bl 0 ls.length, sli bs 0 l.length], 0, 0, false, true⟩) := AgX.set _ _ _
        refine wpc_ret ⟨Or.inr rfl, .tuple #[.agg #[sli bl 0 ls.length, sli bs 0 l.length], .bool true], ?_, _, _, by rw [hN]; rfl, (hx0 Hd hxd).setN (by omega) _, ?_, ?_⟩
        · simp [resV, resL, res1, putE_get, notT, ptr, gc_set hb4dl, inBlk_some, valOf, e4, sli]
        · unfold inferO
          rw [hN]
          exact hLsl _ cur hcl hle.lab (hxs2.get hLd (by simp; omega))
        · unfold inferO
          rw [hN]
          exact hsv.mono ((vwl_sub (hxd.trans hxs2 (zs := [bl, H.length + 1]) (fun b hb _ => by simp only [List.mem_singleton] at hb; simp [hb]) (fun b hb _ => by simp only [List.mem_singleton] at hb; simp [hb])) (lo := Hb.length) (xs := []) (lo' := Hb.length) (xs' := []) (Nat.le_refl _) fun b' h1 h2 h3 => ⟨by simp; omega, by simp⟩).trans (vwl0 _ _ _))
      · have hN : inferV n (ls, l) free = none := by
          unfold inferV
          simp only
          rw [← hinf, if_neg (fun h => by rw [hT] at h; cases h.2.2)]
        simp only [go_sem, binC]
        refine seq_cond (t := true) rfl ?_
        simp only [go_sem, binC]
        refine seq_assoc (seq_reg ?_)
        simp only [go_sem, binC, e4, hb4d]
        refine seq_ret ⟨Or.inr rfl, .tuple #[.agg #[nilS, nilS], .bool false], ?_, nilS, nilS, by rw [hN]; rfl, (hx0 Hd hxd).setN (by omega) _, ?_, ?_⟩
        · simp [resV, resL, res1, putE_get, notT, ptr, gc_set hb4dl, inBlk_some, valOf, e4]
        all_goals (unfold inferO; rw [hN]; exact ⟨by simp, none, rfl, .inl rfl⟩)
    | succ k ih =>
      intro i e Hd cur hi hck hxd hLd e1 e4 e6 e8
      have hw2 : IntKind.i64.wrap ((i : Int) + 1) = ((i + 1 : Nat) : Int) := by rw [wrap_id (by omega) (by omega)]; omega
      have hle : LeL cur (startL ls free) := hck ▸ (rnds_ind hstl i).1
      have hcl : cur.length = ls.length := by rw [hle.1, startL_len]
      refine lp_step ?_
      refine seq_assoc (seq_reg ?_)
      simp only [go_sem, binC, e8]
      refine seq_cond (t := true) (by simp only [go_sem, binC]; rw [decide_eq_true (by omega)]) ?_
      simp only [go_sem, binC]
      refine seq_skip (seq_block (seq_reg ?_))
      simp only [go_sem, binC]
      refine wpc_block (wpc_loop ?_)
      suffices h3 : ∀ (q v : Nat) (e : Env) (Hf : Heap) (now : List (Int × Int)), v + q = free.length → now = (List.range v).foldl (roundS n l (freeF free)) cur → AgX [bl] H3 Hf → Hf[bl]? = some ⟨now.flatMap fp, 2, 35, true, true⟩ → e 1 = .slice wa free.length free.length → e 4 = ptr (H.length + 1) 0 → e 6 = ptr H2.length 0 → e 8 = .int .i64 i → e 9 = .int .i64 v → Go.Proofs.YtkmghcglmjehcaaI.W F H.length _ e Hf _ from
        h3 free.length 0 _ Hd cur (by omega) rfl hxd hLd (by simp only [go_sem, binC, e1]) (by simp only [go_sem, binC, e4]) (by simp only [go_sem, binC, e6]) (by simp only [go_sem, binC, e8]) (by (simp only [go_sem, binC]) <;> rfl)
      clear e1 e4 e6 e8 hxd hLd
      intro q
      induction q with
      | zero =>
        intro v e Hf now hv hnow hxf hLf e1 e4 e6 e8 e9
        refine lp_step ?_
        refine seq_assoc (seq_reg ?_)
        simp only [go_sem, binC, e1, e9]
        refine seq_cond (t := false) (by simp only [go_sem, binC]; rw [decide_eq_false (by omega)]) ?_
        simp only [go_sem, binC]
        refine seq_exit ?_
        simp only [go_sem, binC, thenX_e, out_e, out_n, thenX_n]
        refine wpc_reg ?_
        simp only [go_sem, binC, e8, hw2]
        simp only [go_sem, binC, thenX_n]
        refine ih (i + 1) _ Hf now (by omega) ?_ hxf hLf (by simp only [go_sem, binC, e1]) (by simp only [go_sem, binC, e4]) (by simp only [go_sem, binC, e6]) (by simp only [go_sem, binC])
        rw [hnow, show v = cur.length by omega, hck]
        rfl
      | succ q ihq =>
        intro v e Hf now hv hnow hxf hLf e1 e4 e6 e8 e9
        have hvf : v < free.length := by omega
        have hw1 : IntKind.i64.wrap ((v : Int) + 1) = ((v + 1 : Nat) : Int) := by rw [wrap_id (by omega) (by omega)]; omega
        have hri := rounds_ind (n := n) (l := l) (free := freeF free) (List.range v) cur hle.lab (fun x hx => by have := List.mem_range.1 hx; omega)
        rw [← hnow] at hri
        have hnlab := hri.1.lab
        have hnl : now.length = ls.length := by rw [hri.1.1, hcl]
        have hnext : (List.range (v + 1)).foldl (roundS n l (freeF free)) cur = roundS n l (freeF free) now v := by
          rw [List.range_succ, List.foldl_append, ← hnow]
          rfl
        have hb6f := hxf.get hb6 (by simp; omega)
        obtain ⟨fb, fo, hfw, hgf⟩ := gcB (hr3 Hf hxf) hvf
        simp only [Value.slice.injEq, and_true] at hfw
        subst hfw
        have hblf := (List.getElem?_eq_some_iff.1 hLf).1
        refine lp_step ?_
        refine seq_assoc (seq_reg ?_)
        simp only [go_sem, binC, e1, e9]
        refine seq_cond (t := true) (by simp only [go_sem, binC]; rw [decide_eq_true (by omega)]) ?_
        simp only [go_sem, binC]
        refine seq_skip (seq_block (seq_reg ?_))
        simp only [go_sem, binC, e1, e9]
        refine ⟨⟨by omega, by omega⟩, ?_⟩
        simp only [go_sem, binC, Int.toNat_natCast, Nat.mul_one, hgf]
        by_cases hfr : free[v] = true
        · rw [show roundS n l (freeF free) now v = now.set v (needV n now l v) from if_pos (by unfold freeF; simpa [List.getD, hvf] using hfr)] at hnext
          refine wpc_cond (t := true) (by simp only [go_sem, binC, hfr]) ?_
          simp only [go_sem, binC]
          refine wpc_regD ?_
          simp only [go_sem, binC, e6, e9, gc_of hb6f, inBlk_some]
          refine op_callQ (by simp only [go_sem, binC]; exact gn Hf n _ _ now l v (hLsl Hf now hnl hnlab hLf) (hV Hf hxf) (sm_ls hsm hnl) (progB_ls hP hnl hnlab) (by omega)) ?_
          generalize needV n now l v = nd at hnext
          obtain ⟨n1, n2⟩ := nd
          simp only [go_sem, binC, sli]
          refine ⟨⟨by omega, by omega⟩, ?_⟩
          have hfl8 := flat_len (fl := fp) (w := 2) (fun _ => rfl) now
          simp only [go_sem, binC, Int.toNat_natCast, Nat.zero_add, hLf]
          refine ⟨⟨by omega, by omega⟩, ?_⟩
          rw [show ((now.flatMap fp).set (v * 2) (.int .i64 n1)).set (v * 2 + 1) (.int .i64 n2) = (now.set v (n1, n2)).flatMap fp from flat_set _ _ (n1, n2) (by omega)]
          simp only [go_sem, binC, out_n, thenX_n]
          refine wpc_reg ?_
          simp only [go_sem, binC, e9, hw1]
          simp only [go_sem, binC, thenX_n]
          exact ihq (v + 1) _ _ (now.set v (n1, n2)) (by omega) hnext.symm (hxf.trans (AgX.set Hf bl _) (fun _ h _ => h) (fun _ h _ => h)) (List.getElem?_set_self hblf) (by simp only [go_sem, binC, e1]) (by simp only [go_sem, binC, e4]) (by simp only [go_sem, binC, e6]) (by simp only [go_sem, binC, e8]) (by simp only [go_sem, binC])
        · have hfr' : free[v] = false := by simpa using hfr
          rw [show roundS n l (freeF free) now v = now from if_neg (by unfold freeF; simp [List.getD, hvf, hfr'])] at hnext
          refine wpc_cond (t := false) (by simp only [go_sem, binC, hfr']) ?_
          simp only [go_sem, binC]
          refine wpc_skip ?_
          simp only [go_sem, binC, out_n, thenX_n]
          refine wpc_reg ?_
          simp only [go_sem, binC, e9, hw1]
          simp only [go_sem, binC, thenX_n]
          exact ihq (v + 1) _ Hf now (by omega) hnext.symm hxf hLf (by simp only [go_sem, binC, e1]) (by simp only [go_sem, binC, e4]) (by simp only [go_sem, binC, e6]) (by simp only [go_sem, binC, e8]) (by simp only [go_sem, binC])
  | succ k ih =>
    intro i e Hc cur hi hcur hxc hLc e1 e4 e6 e7
    have hif : i < free.length := by omega
    have hw1 : IntKind.i64.wrap ((i : Int) + 1) = ((i + 1 : Nat) : Int) := by rw [wrap_id (by omega) (by omega)]; omega
    have hcl : cur.length = ls.length := by rw [hcur, startL_len]
    have hb6c := hxc.get hb6 (by simp; omega)
    obtain ⟨fb, fo, hfw, hgf⟩ := gcB (hr3 Hc hxc) hif
    simp only [Value.slice.injEq, and_true] at hfw
    subst hfw
    have hblc := (List.getElem?_eq_some_iff.1 hLc).1
    have hstep := startL_step (ls := ls) hif hfl
    rw [← hcur] at hstep
    refine lp_step ?_
    refine seq_assoc (seq_reg ?_)
    simp only [go_sem, binC, e1, e7]
    refine seq_cond (t := true) (by simp only [go_sem, binC]; rw [decide_eq_true (by omega)]) ?_
    simp only [go_sem, binC]
    refine seq_skip (seq_block (seq_reg ?_))
    simp only [go_sem, binC, e1, e7]
    refine ⟨⟨by omega, by omega⟩, ?_⟩
    simp only [go_sem, binC, Int.toNat_natCast, Nat.mul_one, hgf]
    by_cases hfr : free[i] = true
    · rw [show free.getD i false = true by simpa [List.getD, hif] using hfr, if_pos rfl] at hstep
      refine wpc_cond (t := true) (by simp only [go_sem, binC, hfr]) ?_
      simp only [go_sem, binC]
      refine wpc_regD ?_
      simp only [go_sem, binC, e6, e7, gc_of hb6c, inBlk_some]
      refine op_callQ (by simp only [go_sem, binC]; exact ge Hc) ?_
      simp only [go_sem, binC, sli]
      refine ⟨⟨by omega, by omega⟩, ?_⟩
      have hfl8 := flat_len (fl := fp) (w := 2) (fun _ => rfl) cur
      simp only [go_sem, binC, Int.toNat_natCast, Nat.zero_add, hLc]
      refine ⟨⟨by omega, by omega⟩, ?_⟩
      rw [show ((cur.flatMap fp).set (i * 2) (.int .i64 7)).set (i * 2 + 1) (.int .i64 7) = (cur.set i (7, 7)).flatMap fp from flat_set _ _ (7, 7) (by omega)]
      simp only [go_sem, binC, out_n, thenX_n]
      refine wpc_reg ?_
      simp only [go_sem, binC, e7, hw1]
      simp only [go_sem, binC, thenX_n]
      exact ih (i + 1) _ _ (cur.set i (7, 7)) (by omega) hstep.symm (hxc.trans (AgX.set Hc bl _) (fun _ h _ => h) (fun _ h _ => h)) (List.getElem?_set_self hblc) (by simp only [go_sem, binC, e1]) (by simp only [go_sem, binC, e4]) (by simp only [go_sem, binC, e6]) (by simp only [go_sem, binC])
    · have hfr' : free[i] = false := by simpa using hfr
      rw [if_neg (show ¬ free.getD i false = true by simp [List.getD, hif, hfr'])] at hstep
      refine wpc_cond (t := false) (by simp only [go_sem, binC, hfr']) ?_
      simp only [go_sem, binC]
      refine wpc_skip ?_
      simp only [go_sem, binC, out_n, thenX_n]
      refine wpc_reg ?_
      simp only [go_sem, binC, e7, hw1]
      simp only [go_sem, binC, thenX_n]
      exact ih (i + 1) _ Hc cur (by omega) hstep.symm hxc hLc (by simp only [go_sem, binC, e1]) (by simp only [go_sem, binC, e4]) (by simp only [go_sem, binC, e6]) (by simp only [go_sem, binC])
end Go.Proofs.YtkmghcglmjehcaaI
end
section
/- A program and which labels are free, drawn. -/
set_option linter.unusedVariables false
set_option linter.unusedSimpArgs false
namespace Go.Proofs.YtkmghcglmjehcaaI
open Go Go.RowKit
def c_drInfer : IFn := ⟨1, 32, [.cell true 2 2, .t 3],
 .seq (.reg none [
    ⟨(some 2), none, .new [(.slice none 0 0), (.slice none 0 0)]⟩,
    ⟨(some 3), none, .mov (.c (.slice none 0 0))⟩])
 (.seq (.reg none [
    ⟨(some 8), none, .mov (.t 0)⟩,
    ⟨(some 9), none, .call .n (.f 48) [(.t 8)]⟩,
    ⟨(some 4), none, .mov (.t 9)⟩])
 (.seq (.reg none [
    ⟨(some 10), none, .mov (.t 4)⟩,
    ⟨(some 11), none, .call .n (.f 49) [(.t 10)]⟩,
    ⟨(some 5), none, .new [(.slice none 0 0), (.slice none 0 0)]⟩,
    ⟨none, none, .store 2 (.t 5) (.t 11)⟩])
 (.seq (.reg none [
    ⟨(some 12), none, .lit 1 4 0 [] []⟩,
    ⟨(some 6), none, .mov (.t 12)⟩])
 (.seq (.seq (.reg none [
     ⟨(some 7), none, .mov (.c (.int .i64 0))⟩])
  (.block 0 (.loop (.seq (.seq (.reg (some 8) [
        ⟨(some 13), none, .mov (.t 7)⟩,
        ⟨(some 14), none, .fad 0 (.t 5)⟩,
        ⟨(some 15), none, .load false 1 (.t 14)⟩,
        ⟨(some 16), none, .len (.t 15)⟩,
        ⟨(some 17), none, .mov (.t 4)⟩,
        ⟨(some 18), none, .call .n (.f 50) [(.t 17), (.c (.int .i64 16))]⟩,
        ⟨(some 19), none, .bin .quo (.t 18) (.c (.int .i64 15))⟩,
        ⟨(some 20), none, .bin .add (.t 16) (.t 19)⟩,
        ⟨(some 21), none, .bin .lss (.t 13) (.t 20)⟩])
     (.cond (.t 21) (.skip) (.exit 0)))
    (.seq (.block 1 (.reg none [
        ⟨(some 24), none, .mov (.t 6)⟩,
        ⟨(some 25), none, .mov (.t 4)⟩,
        ⟨(some 26), none, .call .n (.f 50) [(.t 25), (.c (.int .i64 3))]⟩,
        ⟨(some 27), none, .bin .gtr (.t 26) (.c (.int .i64 0))⟩,
        ⟨(some 28), none, .lit 1 4 1 [(.bool false)] [(0, 1, (.t 27))]⟩,
        ⟨(some 29), none, .app 1 4 1 false (.t 24) (.t 28)⟩,
        ⟨(some 6), none, .mov (.t 29)⟩]))
    (.reg none [
      ⟨(some 22), none, .mov (.t 7)⟩,
      ⟨(some 23), none, .bin .add (.t 22) (.c (.int .i64 1))⟩,
      ⟨(some 7), none, .mov (.t 23)⟩]))))))
 (.seq (.reg none [
    ⟨(some 30), none, .load true 2 (.t 5)⟩,
    ⟨(some 31), none, .mov (.t 6)⟩,
    ⟨none, none, .store 2 (.t 2) (.t 30)⟩,
    ⟨(some 3), none, .mov (.t 31)⟩])
 (.ret))))))⟩
theorem quo_eqU {k : IntKind} {x y : Int} (h : y ≠ 0) : binI .quo k x y = some (.int k (k.wrap (x.tdiv y))) := if_neg h
def DrawInfer (F : Nat → Option IFn) (f : Nat) : Prop := ∀ (H : Heap) (v : Value) (code : List Int), SlR Co.byte (vw 0 H) v code → ∃ (d : Nat) (lv sv fv : Value) (ls : List (Int × Int)) (l : List (TStep d)) (free : List Bool) (H' : Heap), KC F f [v] H (.tuple #[.agg #[lv, sv], fv]) H' ∧ AgX [] H H' ∧ SlR Co.p2 (vw 0 H') lv ls ∧ SlR (Co.step d) (vw 0 H') sv l ∧ (Co.prog d).sm (ls, l) ∧ SlR Co.bool (vw 0 H') fv free ∧ free.length ≤ 2000
theorem drInfer_ok {F : Nat → Option IFn} {f : Nat} (hf : F f = some c_drInfer) (hop : F 48 = some c_l6Open) (hpk : F 50 = some c_pick) (gan : ∀ {H0 : Heap} {rb : Nat} {bv : Value} {code : List Int}, RdC H0 rb bv code → DrawS F H0 rb bv 49 [] 90000 ProgR) : DrawInfer F f := by
  intro H v code hv
  suffices h : ∃ w H', KC F f [v] H w H' ∧ (∃ (d : Nat) (lv sv fv : Value) (ls : List (Int × Int)) (l : List (TStep d)) (free : List Bool), w = .tuple #[.agg #[lv, sv], fv] ∧ (AgX [] H H' ∧ SlR Co.p2 (vw 0 H') lv ls ∧ SlR (Co.step d) (vw 0 H') sv l ∧ (Co.prog d).sm (ls, l) ∧ SlR Co.bool (vw 0 H') fv free ∧ free.length ≤ 2000)) by
    obtain ⟨w, H', h1, d, lv, sv, fv, ls, l, free, rfl, h2⟩ := h
    exact ⟨d, lv, sv, fv, ls, l, free, H', h1, h2⟩
  refine KC.mk hf rfl ?_
  refine seq_reg ?_
  simp only [go_sem, binC]
  refine wpc_gen fun H1 hH1 => ?_
  have ht1 : AgX [] H H1 := hH1 ▸ AgX.app [] _ _
  have hb1 : H1[H.length]? = some ⟨[nilS, nilS], 0, 0, false, true⟩ := hH1 ▸ get_new0 _ _
  have hn1 : H1.length = H.length + 1 := by rw [hH1, List.length_append]; rfl
  clear hH1
  refine seq_reg ?_
  simp only [go_sem, binC]
  obtain ⟨bv, code', k2, hc, hs2⟩ := l6Open_ok hop (hv.mono (agx_sub ht1)) H.length ht1.1
  refine op_callN (by simp only [go_sem, binC]; exact k2) ?_
  simp only [go_sem, binC]
  refine wpc_gen fun H2 hH2 => ?_
  rw [← hH2] at hs2
  have ht12 : AgX [] H1 H2 := hH2 ▸ AgX.app [] _ _
  have ht2 : AgX [] H H2 := ht1.tr ht12
  have hb2 : H2[H.length]? = some ⟨[nilS, nilS], 0, 0, false, true⟩ := ht12.get hb1 (by simp)
  have hn2 : H2.length = H1.length + 1 := by rw [hH2, List.length_append]; rfl
  clear hH2
  refine seq_reg ?_
  simp only [go_sem, binC]
  obtain ⟨v3, H3, p3, k3, x3, s3, c3, d, lv, sv, ls, l, rfl, r1, r2, r3, r4, r5⟩ := gan hc H2 0 H.length hs2 (by omega) (by omega) (by omega)
  refine op_callN (by simp only [go_sem, binC]; exact k3) ?_
  have osv : one sv = true := by obtain ⟨_, a, rfl, _⟩ := r2; rfl
  obtain ⟨_, la, rfl, _⟩ := id r1
  have hl3 := x3.1
  simp only [go_sem, binC, osv]
  refine ⟨by omega, ?_⟩
  refine wpc_gen fun H4 hH4 => ?_
  have x4 : AgX [] H3 H4 := hH4 ▸ AgX.app [] _ _
  have s4 : St H1 H1.length bv p3 H4 := s3.mono hc x4 (fun _ h => by cases h)
  have hb5 : H4[H3.length]? = some ⟨[.slice la ls.length ls.length, sv], 0, 0, false, true⟩ := hH4 ▸ get_new0 _ _
  have hn4 : H4.length = H3.length + 1 := by rw [hH4, List.length_append]; rfl
  clear hH4
  have x24 : AgX [H1.length] H2 H4 := x3.trans x4 (fun _ h _ => h) (fun _ h _ => by cases h)
  refine seq_reg ?_
  simp only [go_sem, binC]
  refine wpc_gen fun H5 hH5 => ?_
  have x5 : AgX [] H4 H5 := hH5 ▸ AgX.app [] _ _
  have o5 : OwnL Co.bool 1 4 H4.length [] H5 H4.length true [] := hH5 ▸ OwnG.nil (Nat.le_refl _)
  have hn5 : H5.length = H4.length + 1 := by rw [hH5, List.length_append]; rfl
  clear hH5
  have s5 := s4.mono hc x5 (fun _ h => by cases h)
  refine seq_assoc (seq_reg ?_)
  simp only [go_sem, binC]
  refine seq_block (wpc_loop ?_)
  suffices hh : ∀ (k i : Nat) (e : Env) (Hc : Heap) (b : Nat) (so : Bool) (free : List Bool) (q : Int), i + k = ls.length + 1 → free.length = i → St H1 H1.length bv q Hc → (0 ≤ q ∧ q ≤ 90000 + 3 * (i : Int)) → AgX [H1.length] H4 Hc → OwnL Co.bool 1 4 H4.length [] Hc b so free → e 2 = ptr H.length 0 → e 4 = ptr H1.length 0 → e 5 = ptr H3.length 0 → e 6 = sli b 0 free.length → e 7 = .int .i64 i → Go.Proofs.YtkmghcglmjehcaaI.W F H.length _ e Hc _ from
    hh (ls.length + 1) 0 _ H5 H4.length true [] p3 (by omega) rfl s5 (by omega) (x5.trans (AgX.refl [H1.length] _) (fun _ h _ => by cases h) (fun _ h _ => h)) o5 (by simp only [go_sem, binC]) (by simp only [go_sem, binC]) (by simp only [go_sem, binC]) (by (simp only [go_sem, binC]) <;> rfl) (by (simp only [go_sem, binC]) <;> rfl)
  intro k
  induction k using Nat.strongRecOn with
  | _ k ih =>
  intro i e Hc b so free q hik hfl hsc hq hxc ho e2 e4 e5 e6 e7
  have hw1 : IntKind.i64.wrap ((i : Int) + 1) = ((i + 1 : Nat) : Int) := by rw [wrap_id (by omega) (by omega)]; omega
  have hxcl := hxc.1
  have hb5c := hxc.get hb5 (by simp; omega)
  have hhid : ∀ L, getCells (hide [H1.length] Hc ++ L) H3.length 0 1 = some [.slice la ls.length ls.length] := fun L => gc_hidO L (by rw [gc_of hb5c]; rfl) (by simp; omega)
  have hhid0 : getCells (hide [H1.length] Hc) H3.length 0 1 = some [.slice la ls.length ls.length] := by
    have := hhid []
    rwa [List.append_nil] at this
  have hlc := hsc.lt
  have hob : b < Hc.length := by obtain ⟨_, _, cs, h, _⟩ := ho; exact (List.getElem?_eq_some_iff.1 h).1
  have hob4 := ho.1
  refine lp_step ?_
  refine seq_assoc ?_
  refine seq_regX [H1.length] (by simp; omega) ?_
  refine wpx_A rfl ?_
  simp only [go_sem, binC, e7]
  refine wpx_A rfl ?_
  simp only [go_sem, binC, e5]
  refine wpx_A rfl ?_
  simp only [go_sem, binC, hhid0]
  refine wpx_A rfl ?_
  simp only [go_sem, binC]
  refine wpx_A rfl ?_
  simp only [go_sem, binC, e4]
  refine wpx_pick (n := 16) hpk hc hsc (by omega) (by omega) (by omega) (by simp only [go_sem, binC]) (by simp only [go_sem, binC]) fun B1 hl1 hx1 hs1 => ?_
  have hk1 := pickV_bd code' q (n := 16) (by omega)
  generalize pickV code' q 16 = pk at hk1
  have hqd : binI .quo .i64 pk 15 = some (.int .i64 (pk / 15)) := by rw [quo_eqU (by omega), Int.tdiv_eq_ediv_of_nonneg hk1.1, wrap_id (by omega) (by omega)]
  have hwa : IntKind.i64.wrap ((ls.length : Int) + pk / 15) = (ls.length : Int) + pk / 15 := wrap_id (by omega) (by omega)
  refine wpx_A rfl ?_
  simp only [go_sem, binC, hqd]
  refine wpx_A rfl ?_
  simp only [go_sem, binC, hwa]
  refine wpx_zero ?_
  simp only [go_sem, binC]
  have ho1 := ho.sub hx1 (xs' := []) (by simp; omega) (fun b' _ h5 _ _ => ⟨by simp; omega, by simp⟩)
  have hxc1 : AgX [H1.length] H4 B1 := hxc.tr hx1
  by_cases hlt : (i : Int) < ls.length + pk / 15
  case neg =>
    refine seq_cond (t := false) (by simp only [go_sem, binC]; rw [decide_eq_false hlt]) ?_
    simp only [go_sem, binC]
    refine seq_exit ?_
    simp only [go_sem, binC, thenX_e, out_e, thenX_n]
    have hb2b : B1[H.length]? = some ⟨[nilS, nilS], 0, 0, false, true⟩ := hxc1.get (x24.get hb2 (by simp; omega)) (by simp; omega)
    have hb5b := hx1.get hb5c (by simp; omega)
    have hb2l := (List.getElem?_eq_some_iff.1 hb2b).1
    refine seq_reg ?_
    simp only [go_sem, binC, e2, e5, e6, gc_of hb5b, inBlk_some, osv, hb2b]
    have hxs : AgX [H.length] B1 (B1.set H.length ⟨[.slice la ls.length ls.length, sv], 0, 0, false, true⟩) := AgX.set _ _ _
    have hv3 : Sub (vwl H2.length [] H3) (vw 0 (B1.set H.length ⟨[.slice la ls.length ls.length, sv], 0, 0, false, true⟩)) := ((vwl_sub ((x4.trans hxc1 (zs := [H1.length]) (fun _ h _ => by cases h) (fun _ h _ => h)).trans hxs (zs := [H1.length, H.length]) (fun b hb _ => by simp only [List.mem_singleton] at hb; simp [hb]) (fun b hb _ => by simp only [List.mem_singleton] at hb; simp [hb])) (lo := H2.length) (xs := []) (lo' := H2.length) (xs' := []) (Nat.le_refl _) fun b' h1 h2 h3 => ⟨by simp; omega, by simp⟩).trans (vwl0 _ _ _))
    refine wpc_ret ⟨Or.inr rfl, .tuple #[.agg #[.slice la ls.length ls.length, sv], sli b 0 free.length], ?_, ?_⟩
    · simp [resV, resL, res1, putE_get, notT, ptr, gc_set hb2l, inBlk_some, valOf, e2, e6, sli]
    · refine ⟨d, _, sv, _, ls, l, free, rfl, ?_, r1.mono hv3, r2.mono hv3, r3, ?_, by omega⟩
      · exact (ht2.trans (x24.tr hxc1) (fun _ h _ => h) (fun b h1 h2 => by simp only [List.mem_singleton] at h1; omega)).setN (Nat.le_refl _) _
      · have ho2 := ho1.sub hxs (xs' := []) (by simp; omega) (fun b' _ h5 _ _ => ⟨by simp; omega, by simp⟩)
        exact (ho2.slR rfl (by simp)).mono (vwl0 _ _ _)
  refine seq_cond (t := true) (by simp only [go_sem, binC]; rw [decide_eq_true hlt]) ?_
  simp only [go_sem, binC]
  refine seq_skip (seq_block (wpc_reg ?_))
  simp only [go_sem, binC, e4, e6]
  refine op_draw (n := 3) hpk hc hs1 (by omega) (by omega) (by omega) (by simp only [go_sem, binC]) (by simp only [go_sem, binC]) fun H6 hl6 hx6 hs6 => ?_
  simp only [go_sem, binC]
  have ho6 := ho1.sub hx6 (xs' := []) (by simp; omega) (fun b' _ h5 _ _ => ⟨by simp; omega, by simp⟩)
  refine op_app_own (a := decide (0 < pickV code' (q + 1) 3)) ho6 (by simp only [go_sem, binC, e6]) (by simp only [go_sem, binC]) (by omega) rfl (by first | rfl | exact ⟨rfl⟩) (by omega) (by omega) (fun b' hb => by cases hb) fun H7 hx7 ho7 => ?_
  simp only [go_sem, binC]
  simp only [go_sem, binC, out_n, thenX_n]
  refine wpc_reg ?_
  simp only [go_sem, binC, e7, hw1]
  simp only [go_sem, binC, thenX_n]
  have hob6 : b < H6.length := by rw [hl6, hl1]; exact hob
  exact ih (k - 1) (by omega) (i + 1) _ H7 _ _ _ (q + 1 + 1) (by omega) (by rw [List.length_append]; simp; omega) (hs6.mono hc hx7 (fun b' hb => by simp only [List.mem_singleton] at hb; omega)) (by omega) ((hxc1.tr hx6).trans hx7 (fun _ h _ => h) (fun b' hb hlt2 => by simp only [List.mem_singleton] at hb; omega)) ho7 (by simp only [go_sem, binC, e2]) (by simp only [go_sem, binC, e4]) (by simp only [go_sem, binC, e5]) (by (simp only [go_sem, binC]) <;> (rw [List.length_append]; rfl)) (by simp only [go_sem, binC])
end Go.Proofs.YtkmghcglmjehcaaI
end
section
/- What the laws' functions say of steps and programs. -/
set_option linter.unusedVariables false
set_option linter.unusedSimpArgs false
namespace Go.Proofs.YtkmghcglmjehcaaI
open Go Go.RowKit
def lcsA : List IOper := [
    ⟨(some 17), none, .mov (.t 0)⟩,
    ⟨(some 18), none, .mov (.t 5)⟩,
    ⟨(some 19), none, .iad 8 (.t 17) (.t 18)⟩,
    ⟨(some 20), none, .fad 0 (.t 19)⟩,
    ⟨(some 21), none, .load false 1 (.t 20)⟩,
    ⟨(some 22), none, .mov (.t 1)⟩,
    ⟨(some 23), none, .mov (.t 5)⟩,
    ⟨(some 24), none, .iad 8 (.t 22) (.t 23)⟩,
    ⟨(some 25), none, .fad 0 (.t 24)⟩,
    ⟨(some 26), none, .load false 1 (.t 25)⟩,
    ⟨(some 27), none, .bin .neq (.t 21) (.t 26)⟩,
    ⟨(some 28), none, .mov (.t 27)⟩]
def lcsB : List IOper := [
    ⟨(some 29), (some (28, false)), .mov (.t 0)⟩,
    ⟨(some 30), (some (28, false)), .mov (.t 5)⟩,
    ⟨(some 31), (some (28, false)), .iad 8 (.t 29) (.t 30)⟩,
    ⟨(some 32), (some (28, false)), .fad 1 (.t 31)⟩,
    ⟨(some 33), (some (28, false)), .load false 1 (.t 32)⟩,
    ⟨(some 34), (some (28, false)), .mov (.t 1)⟩,
    ⟨(some 35), (some (28, false)), .mov (.t 5)⟩,
    ⟨(some 36), (some (28, false)), .iad 8 (.t 34) (.t 35)⟩,
    ⟨(some 37), (some (28, false)), .fad 1 (.t 36)⟩,
    ⟨(some 38), (some (28, false)), .load false 1 (.t 37)⟩,
    ⟨(some 39), (some (28, false)), .bin .neq (.t 33) (.t 38)⟩,
    ⟨(some 40), none, .pick (.t 28) (.c (.bool true)) (.t 39)⟩,
    ⟨(some 41), none, .mov (.t 40)⟩]
def lcsC : List IOper := [
    ⟨(some 42), (some (41, false)), .mov (.t 0)⟩,
    ⟨(some 43), (some (41, false)), .mov (.t 5)⟩,
    ⟨(some 44), (some (41, false)), .iad 8 (.t 42) (.t 43)⟩,
    ⟨(some 45), (some (41, false)), .fad 2 (.t 44)⟩,
    ⟨(some 46), (some (41, false)), .load true 3 (.t 45)⟩,
    ⟨(some 47), (some (41, false)), .mov (.t 1)⟩,
    ⟨(some 48), (some (41, false)), .mov (.t 5)⟩,
    ⟨(some 49), (some (41, false)), .iad 8 (.t 47) (.t 48)⟩,
    ⟨(some 50), (some (41, false)), .fad 2 (.t 49)⟩,
    ⟨(some 51), (some (41, false)), .load true 3 (.t 50)⟩,
    ⟨(some 52), (some (41, false)), .eqs true 3 (.t 46) (.t 51)⟩,
    ⟨(some 53), none, .pick (.t 41) (.c (.bool true)) (.t 52)⟩,
    ⟨(some 54), none, .mov (.t 53)⟩]
def lcsD : List IOper := [
    ⟨(some 55), (some (54, false)), .mov (.t 0)⟩,
    ⟨(some 56), (some (54, false)), .mov (.t 5)⟩,
    ⟨(some 57), (some (54, false)), .iad 8 (.t 55) (.t 56)⟩,
    ⟨(some 58), (some (54, false)), .fad 5 (.t 57)⟩,
    ⟨(some 59), (some (54, false)), .load false 1 (.t 58)⟩,
    ⟨(some 60), (some (54, false)), .mov (.t 1)⟩,
    ⟨(some 61), (some (54, false)), .mov (.t 5)⟩,
    ⟨(some 62), (some (54, false)), .iad 8 (.t 60) (.t 61)⟩,
    ⟨(some 63), (some (54, false)), .fad 5 (.t 62)⟩,
    ⟨(some 64), (some (54, false)), .load false 1 (.t 63)⟩,
    ⟨(some 65), (some (54, false)), .bin .neq (.t 59) (.t 64)⟩,
    ⟨(some 66), none, .pick (.t 54) (.c (.bool true)) (.t 65)⟩,
    ⟨(some 67), none, .mov (.t 66)⟩]
def lcsE : List IOper := [
    ⟨(some 68), (some (67, false)), .mov (.t 0)⟩,
    ⟨(some 69), (some (67, false)), .mov (.t 5)⟩,
    ⟨(some 70), (some (67, false)), .iad 8 (.t 68) (.t 69)⟩,
    ⟨(some 71), (some (67, false)), .fad 6 (.t 70)⟩,
    ⟨(some 72), (some (67, false)), .load false 1 (.t 71)⟩,
    ⟨(some 73), (some (67, false)), .mov (.t 1)⟩,
    ⟨(some 74), (some (67, false)), .mov (.t 5)⟩,
    ⟨(some 75), (some (67, false)), .iad 8 (.t 73) (.t 74)⟩,
    ⟨(some 76), (some (67, false)), .fad 6 (.t 75)⟩,
    ⟨(some 77), (some (67, false)), .load false 1 (.t 76)⟩,
    ⟨(some 78), (some (67, false)), .call .q (.f 21) [(.t 72), (.t 77)]⟩,
    ⟨(some 79), (some (67, false)), .un .not (.t 78)⟩,
    ⟨(some 80), none, .pick (.t 67) (.c (.bool true)) (.t 79)⟩,
    ⟨(some 81), none, .mov (.t 80)⟩]
def lcsF : List IOper := [
    ⟨(some 82), (some (81, false)), .mov (.t 0)⟩,
    ⟨(some 83), (some (81, false)), .mov (.t 5)⟩,
    ⟨(some 84), (some (81, false)), .iad 8 (.t 82) (.t 83)⟩,
    ⟨(some 85), (some (81, false)), .fad 7 (.t 84)⟩,
    ⟨(some 86), (some (81, false)), .load false 1 (.t 85)⟩,
    ⟨(some 87), (some (81, false)), .mov (.t 1)⟩,
    ⟨(some 88), (some (81, false)), .mov (.t 5)⟩,
    ⟨(some 89), (some (81, false)), .iad 8 (.t 87) (.t 88)⟩,
    ⟨(some 90), (some (81, false)), .fad 7 (.t 89)⟩,
    ⟨(some 91), (some (81, false)), .load false 1 (.t 90)⟩,
    ⟨(some 92), (some (81, false)), .call .q (.f 21) [(.t 86), (.t 91)]⟩,
    ⟨(some 93), (some (81, false)), .un .not (.t 92)⟩,
    ⟨(some 94), none, .pick (.t 81) (.c (.bool true)) (.t 93)⟩]
def c_lcSteps : IFn := ⟨2, 95, [.t 4],
 .seq (.reg none [
    ⟨(some 4), none, .mov (.c (.bool false))⟩])
 (.seq (.seq (.reg none [
     ⟨(some 6), none, .mov (.t 0)⟩,
     ⟨(some 7), none, .len (.t 6)⟩,
     ⟨(some 8), none, .mov (.t 1)⟩,
     ⟨(some 9), none, .len (.t 8)⟩,
     ⟨(some 10), none, .bin .neq (.t 7) (.t 9)⟩])
  (.cond (.t 10) (.seq (.reg none [
      ⟨(some 4), none, .mov (.c (.bool false))⟩])
   (.ret)) (.skip)))
 (.seq (.seq (.reg none [
     ⟨(some 5), none, .mov (.c (.int .i64 0))⟩])
  (.block 0 (.loop (.seq (.seq (.reg none [
        ⟨(some 11), none, .mov (.t 5)⟩,
        ⟨(some 12), none, .mov (.t 0)⟩,
        ⟨(some 13), none, .len (.t 12)⟩,
        ⟨(some 14), none, .bin .lss (.t 11) (.t 13)⟩])
     (.cond (.t 14) (.skip) (.exit 0)))
    (.seq (.block 1 (.seq (.reg (some 75) (lcsA ++ (lcsB ++ (lcsC ++ (lcsD ++ (lcsE ++ lcsF))))))
      (.cond (.t 94) (.seq (.reg none [
          ⟨(some 4), none, .mov (.c (.bool false))⟩])
       (.ret)) (.skip))))
    (.reg none [
      ⟨(some 15), none, .mov (.t 5)⟩,
      ⟨(some 16), none, .bin .add (.t 15) (.c (.int .i64 1))⟩,
      ⟨(some 5), none, .mov (.t 16)⟩]))))))
 (.seq (.reg none [
    ⟨(some 4), none, .mov (.c (.bool true))⟩])
 (.ret))))⟩
def c_lcProg : IFn := ⟨2, 36, [.t 4],
 .seq (.reg none [
    ⟨(some 2), none, .box (.t 0)⟩,
    ⟨(some 3), none, .box (.t 1)⟩,
    ⟨(some 4), none, .mov (.c (.bool false))⟩])
 (.seq (.seq (.reg none [
     ⟨(some 6), none, .fad 0 (.t 2)⟩,
     ⟨(some 7), none, .load false 1 (.t 6)⟩,
     ⟨(some 8), none, .len (.t 7)⟩,
     ⟨(some 9), none, .fad 0 (.t 3)⟩,
     ⟨(some 10), none, .load false 1 (.t 9)⟩,
     ⟨(some 11), none, .len (.t 10)⟩,
     ⟨(some 12), none, .bin .neq (.t 8) (.t 11)⟩])
  (.cond (.t 12) (.seq (.reg none [
      ⟨(some 4), none, .mov (.c (.bool false))⟩])
   (.ret)) (.skip)))
 (.seq (.seq (.reg none [
     ⟨(some 5), none, .mov (.c (.int .i64 0))⟩])
  (.block 0 (.loop (.seq (.seq (.reg none [
        ⟨(some 13), none, .mov (.t 5)⟩,
        ⟨(some 14), none, .fad 0 (.t 2)⟩,
        ⟨(some 15), none, .load false 1 (.t 14)⟩,
        ⟨(some 16), none, .len (.t 15)⟩,
        ⟨(some 17), none, .bin .lss (.t 13) (.t 16)⟩])
     (.cond (.t 17) (.skip) (.exit 0)))
    (.seq (.block 1 (.seq (.reg (some 10) [
         ⟨(some 20), none, .fad 0 (.t 2)⟩,
         ⟨(some 21), none, .load false 1 (.t 20)⟩,
         ⟨(some 22), none, .mov (.t 5)⟩,
         ⟨(some 23), none, .iad 2 (.t 21) (.t 22)⟩,
         ⟨(some 24), none, .load true 2 (.t 23)⟩,
         ⟨(some 25), none, .fad 0 (.t 3)⟩,
         ⟨(some 26), none, .load false 1 (.t 25)⟩,
         ⟨(some 27), none, .mov (.t 5)⟩,
         ⟨(some 28), none, .iad 2 (.t 26) (.t 27)⟩,
         ⟨(some 29), none, .load true 2 (.t 28)⟩,
         ⟨(some 30), none, .eqs true 2 (.t 24) (.t 29)⟩])
      (.cond (.t 30) (.seq (.reg none [
          ⟨(some 4), none, .mov (.c (.bool false))⟩])
       (.ret)) (.skip))))
    (.reg none [
      ⟨(some 18), none, .mov (.t 5)⟩,
      ⟨(some 19), none, .bin .add (.t 18) (.c (.int .i64 1))⟩,
      ⟨(some 5), none, .mov (.t 19)⟩]))))))
 (.seq (.reg none [
    ⟨(some 31), none, .fad 1 (.t 2)⟩,
    ⟨(some 32), none, .load false 1 (.t 31)⟩,
    ⟨(some 33), none, .fad 1 (.t 3)⟩,
    ⟨(some 34), none, .load false 1 (.t 33)⟩,
    ⟨(some 35), none, .call .q (.f 21) [(.t 32), (.t 34)]⟩,
    ⟨(some 4), none, .mov (.t 35)⟩])
 (.ret))))⟩
/-- Steps that are the same are told the same. -/
def SameSOk (F : Nat → Option IFn) (f n : Nat) : Prop := ∀ (H : Heap) (v w : Value) (l : List (TStep n)), SlR (Co.step n) (vw 0 H) v l → SlR (Co.step n) (vw 0 H) w l → (Co.sl (Co.step n)).sm l → QC F f [v, w] H (.bool true)
theorem eqsV3 (a b c : Int) : eqsV true 3 (.agg #[.int .i64 a, .int .i64 b, .int .i64 c]) (.agg #[.int .i64 a, .int .i64 b, .int .i64 c]) = some (.bool false) := by
  have h : eqCells [.int .i64 a, .int .i64 b, .int .i64 c] [.int .i64 a, .int .i64 b, .int .i64 c] = some true := by simp [eqCells]
  simp only [eqsV, List.length_cons, List.length_nil, h]
  rfl
theorem wpp_app2 {F : Nat → Option IFn} {lo p : Nat} (q : Nat) {K : Env → Heap → Prop} {l1 l2 : List IOper} {e : Env} {H : Heap} (hq : p = l1.length + q) (h : wpp F lo l1.length l1 e H fun e1 H1 => wpp F lo q l2 e1 H1 K) : wpp F lo p (l1 ++ l2) e H K := by
  rw [hq]
  exact wpp_app l1 e H h
theorem lcsA_ok {F : Nat → Option IFn} {lo : Nat} {e : Env} {H : Heap} {K : Env → Heap → Prop} {vb vo wb wo i len : Nat} {x : Int} (e0 : e 0 = .slice (some ⟨vb, vo, none⟩) len len) (e1 : e 1 = .slice (some ⟨wb, wo, none⟩) len len) (e5 : e 5 = .int .i64 i) (hi : i < len)
    (g : getCells H vb (vo + i * 8) 1 = some [.int .i64 x]) (g' : getCells H wb (wo + i * 8) 1 = some [.int .i64 x]) (k : ∀ e2 : Env, e2 0 = e 0 → e2 1 = e 1 → e2 5 = e 5 → e2 28 = .bool false → K e2 H) : wpp F lo lcsA.length lcsA e H K := by
  have hij : (0 ≤ (i : Int) ∧ (i : Int) < (len : Int)) = True := eq_true ⟨by omega, by omega⟩
  show wpp F lo 12 _ e H K
  unfold lcsA
  simp only [go_sem, binC, e0, e1, e5, hij, Int.toNat_natCast, g, g', bne_f (a := x) (b := x) rfl]
  exact k _ (by simp only [go_sem, binC]) (by simp only [go_sem, binC]) (by simp only [go_sem, binC]) (by simp only [go_sem, binC])
theorem lcsB_ok {F : Nat → Option IFn} {lo : Nat} {e : Env} {H : Heap} {K : Env → Heap → Prop} {vb vo wb wo i len : Nat} {x : Int} (e0 : e 0 = .slice (some ⟨vb, vo, none⟩) len len) (e1 : e 1 = .slice (some ⟨wb, wo, none⟩) len len) (e5 : e 5 = .int .i64 i) (eg : e 28 = .bool false) (hi : i < len)
    (g : getCells H vb (vo + i * 8 + 1) 1 = some [.int .i64 x]) (g' : getCells H wb (wo + i * 8 + 1) 1 = some [.int .i64 x]) (k : ∀ e2 : Env, e2 0 = e 0 → e2 1 = e 1 → e2 5 = e 5 → e2 41 = .bool false → K e2 H) : wpp F lo lcsB.length lcsB e H K := by
  have hij : (0 ≤ (i : Int) ∧ (i : Int) < (len : Int)) = True := eq_true ⟨by omega, by omega⟩
  show wpp F lo 13 _ e H K
  unfold lcsB
  simp only [go_sem, binC, e0, e1, e5, hij, Int.toNat_natCast, g, g', bne_f (a := x) (b := x) rfl, eg]
  exact k _ (by simp only [go_sem, binC]) (by simp only [go_sem, binC]) (by simp only [go_sem, binC]) (by simp only [go_sem, binC])
theorem lcsC_ok {F : Nat → Option IFn} {lo : Nat} {e : Env} {H : Heap} {K : Env → Heap → Prop} {vb vo wb wo i len : Nat} {x y z : Int} (e0 : e 0 = .slice (some ⟨vb, vo, none⟩) len len) (e1 : e 1 = .slice (some ⟨wb, wo, none⟩) len len) (e5 : e 5 = .int .i64 i) (eg : e 41 = .bool false) (hi : i < len)
    (g : getCells H vb (vo + i * 8 + 2) 3 = some [.int .i64 x, .int .i64 y, .int .i64 z]) (g' : getCells H wb (wo + i * 8 + 2) 3 = some [.int .i64 x, .int .i64 y, .int .i64 z]) (k : ∀ e2 : Env, e2 0 = e 0 → e2 1 = e 1 → e2 5 = e 5 → e2 54 = .bool false → K e2 H) : wpp F lo lcsC.length lcsC e H K := by
  have hij : (0 ≤ (i : Int) ∧ (i : Int) < (len : Int)) = True := eq_true ⟨by omega, by omega⟩
  show wpp F lo 13 _ e H K
  unfold lcsC
  simp only [go_sem, binC, e0, e1, e5, hij, Int.toNat_natCast, g, g', eqsV3, optP_some, eg]
  exact k _ (by simp only [go_sem, binC]) (by simp only [go_sem, binC]) (by simp only [go_sem, binC]) (by simp only [go_sem, binC])
theorem lcsD_ok {F : Nat → Option IFn} {lo : Nat} {e : Env} {H : Heap} {K : Env → Heap → Prop} {vb vo wb wo i len : Nat} {x : Int} (e0 : e 0 = .slice (some ⟨vb, vo, none⟩) len len) (e1 : e 1 = .slice (some ⟨wb, wo, none⟩) len len) (e5 : e 5 = .int .i64 i) (eg : e 54 = .bool false) (hi : i < len)
    (g : getCells H vb (vo + i * 8 + 5) 1 = some [.int .i64 x]) (g' : getCells H wb (wo + i * 8 + 5) 1 = some [.int .i64 x]) (k : ∀ e2 : Env, e2 0 = e 0 → e2 1 = e 1 → e2 5 = e 5 → e2 67 = .bool false → K e2 H) : wpp F lo lcsD.length lcsD e H K := by
  have hij : (0 ≤ (i : Int) ∧ (i : Int) < (len : Int)) = True := eq_true ⟨by omega, by omega⟩
  show wpp F lo 13 _ e H K
  unfold lcsD
  simp only [go_sem, binC, e0, e1, e5, hij, Int.toNat_natCast, g, g', bne_f (a := x) (b := x) rfl, eg]
  exact k _ (by simp only [go_sem, binC]) (by simp only [go_sem, binC]) (by simp only [go_sem, binC]) (by simp only [go_sem, binC])
theorem lcsE_ok {F : Nat → Option IFn} {lo : Nat} {e : Env} {H : Heap} {K : Env → Heap → Prop} {vb vo wb wo i len : Nat} {x y : Value} (e0 : e 0 = .slice (some ⟨vb, vo, none⟩) len len) (e1 : e 1 = .slice (some ⟨wb, wo, none⟩) len len) (e5 : e 5 = .int .i64 i) (eg : e 67 = .bool false) (hi : i < len)
    (g : getCells H vb (vo + i * 8 + 6) 1 = some [x]) (g' : getCells H wb (wo + i * 8 + 6) 1 = some [y]) (ox : one x = true) (oy : one y = true) (q : ∀ lo : Nat, QC F 21 [x, y] H (.bool true)) (k : ∀ e2 : Env, e2 0 = e 0 → e2 1 = e 1 → e2 5 = e 5 → e2 81 = .bool false → K e2 H) : wpp F lo lcsE.length lcsE e H K := by
  have hij : (0 ≤ (i : Int) ∧ (i : Int) < (len : Int)) = True := eq_true ⟨by omega, by omega⟩
  show wpp F lo 14 _ e H K
  unfold lcsE
  simp only [go_sem, binC, e0, e1, e5, eg, hij, Int.toNat_natCast, g, g', ox, oy]
  refine op_callQ (by simp only [go_sem, binC]; exact q 0) ?_
  simp only [go_sem, binC, eg]
  exact k _ (by simp only [go_sem, binC]) (by simp only [go_sem, binC]) (by simp only [go_sem, binC]) (by simp only [go_sem, binC])
theorem lcsF_ok {F : Nat → Option IFn} {lo : Nat} {e : Env} {H : Heap} {K : Env → Heap → Prop} {vb vo wb wo i len : Nat} {x y : Value} (e0 : e 0 = .slice (some ⟨vb, vo, none⟩) len len) (e1 : e 1 = .slice (some ⟨wb, wo, none⟩) len len) (e5 : e 5 = .int .i64 i) (eg : e 81 = .bool false) (hi : i < len)
    (g : getCells H vb (vo + i * 8 + 7) 1 = some [x]) (g' : getCells H wb (wo + i * 8 + 7) 1 = some [y]) (ox : one x = true) (oy : one y = true) (q : ∀ lo : Nat, QC F 21 [x, y] H (.bool true)) (k : ∀ e2 : Env, e2 0 = e 0 → e2 1 = e 1 → e2 5 = e 5 → e2 94 = .bool false → K e2 H) : wpp F lo 10 lcsF e H K := by
  have hij : (0 ≤ (i : Int) ∧ (i : Int) < (len : Int)) = True := eq_true ⟨by omega, by omega⟩
  unfold lcsF
  simp only [go_sem, binC, e0, e1, e5, eg, hij, Int.toNat_natCast, g, g', ox, oy]
  refine op_callQ (by simp only [go_sem, binC]; exact q 0) ?_
  simp only [go_sem, binC, eg]
  exact k _ (by simp only [go_sem, binC]) (by simp only [go_sem, binC]) (by simp only [go_sem, binC]) (by simp only [go_sem, binC])
theorem lcSteps_ok {F : Nat → Option IFn} {f n : Nat} (hf : F f = some c_lcSteps) (ih : ∀ m, n = m + 1 → SameSOk F 21 m) : SameSOk F f n := by
  intro H v w l hv hw hsm
  have hv0 := hv
  have hw0 := hw
  obtain ⟨h0, av, rfl, hv1⟩ := hv
  obtain ⟨_, aw, rfl, hw1⟩ := hw
  have hsm1 := hsm.1
  refine QC.mk hf rfl ?_
  refine seq_reg ?_
  simp only [go_sem, binC]
  refine seq_assoc (seq_reg ?_)
  simp only [go_sem, binC, bne_f (a := (l.length : Int)) (b := (l.length : Int)) rfl]
  refine seq_cond (t := false) rfl ?_
  simp only [go_sem, binC]
  refine seq_skip (seq_assoc (seq_reg ?_))
  simp only [go_sem, binC]
  refine seq_block (wpc_loop ?_)
  suffices h : ∀ (k i : Nat) (e : Env), i + k = l.length → e 0 = .slice av l.length l.length → e 1 = .slice aw l.length l.length → e 5 = .int .i64 i → W F H.length _ e H _ from
    h l.length 0 _ (by omega) (by simp only [go_sem, binC]) (by simp only [go_sem, binC]) (by (simp only [go_sem, binC]) <;> rfl)
  intro k
  induction k with
  | zero =>
    intro i e hi e0 e1 e5
    refine lp_step ?_
    refine seq_assoc (seq_reg ?_)
    simp only [go_sem, binC, e0, e5]
    refine seq_cond (t := false) (by simp only [go_sem, binC]; rw [decide_eq_false (by omega)]) ?_
    simp only [go_sem, binC]
    refine seq_exit ?_
    simp only [go_sem, binC, thenX_e, out_e, thenX_n]
    refine seq_reg ?_
    simp only [go_sem, binC]
    exact wpc_ret ⟨Or.inr rfl, _, (by (simp only [go_sem, binC]) <;> rfl), rfl, rfl⟩
  | succ k ihk =>
    intro i e hi e0 e1 e5
    have hil : i < l.length := by omega
    cases n with
    | zero => exact (l[i]).elim
    | succ n =>
    obtain ⟨vb, vo, sk, sx, sa, sbb, sc, sg, tv, ev, tl, el, hav, hs, rg, otv, oev, hgc, htl, hel⟩ := step_atV hv0 hil
    obtain ⟨wb, wo, sk', sx', sa', sbb', sc', sg', tv', ev', tl', el', haw, hs', rg', otv', oev', hgc', htl', hel'⟩ := step_atV hw0 hil
    rw [hs] at hs'
    replace hs' : ((sk, sx, (sa, sbb, sc), sg, tl, el) : Int × Int × (Int × Int × Int) × Int × List (TStep n) × List (TStep n)) = (sk', sx', (sa', sbb', sc'), sg', tl', el') := hs'
    simp only [Prod.mk.injEq] at hs'
    obtain ⟨rfl, rfl, ⟨rfl, rfl, rfl⟩, rfl, rfl, rfl⟩ := hs'
    simp only [Value.slice.injEq, and_true] at hav haw
    subst hav haw
    have hsmi := hsm.2 _ (List.getElem_mem hil)
    rw [hs] at hsmi
    obtain ⟨_, _, _, _, mtl, mel⟩ := hsmi
    have hw1 : IntKind.i64.wrap ((i : Int) + 1) = ((i + 1 : Nat) : Int) := by rw [wrap_id (by omega) (by omega)]; omega
    have hg := hgc H (Sub.refl _)
    have hg' := hgc' H (Sub.refl _)
    have gc0 : getCells H vb (vo + i * 8) 1 = some [.int .i64 sk] := gc_part (off := 0) (k := 1) hg (by omega)
    have gc1 : getCells H vb (vo + i * 8 + 1) 1 = some [.int .i64 sx] := gc_part (off := 1) (k := 1) hg (by omega)
    have gc2 : getCells H vb (vo + i * 8 + 2) 3 = some [.int .i64 sa, .int .i64 sbb, .int .i64 sc] := gc_part (off := 2) (k := 3) hg (by omega)
    have gc5 : getCells H vb (vo + i * 8 + 5) 1 = some [.int .i64 sg] := gc_part (off := 5) (k := 1) hg (by omega)
    have gc6 : getCells H vb (vo + i * 8 + 6) 1 = some [tv] := gc_part (off := 6) (k := 1) hg (by omega)
    have gc7 : getCells H vb (vo + i * 8 + 7) 1 = some [ev] := gc_part (off := 7) (k := 1) hg (by omega)
    have gd0 : getCells H wb (wo + i * 8) 1 = some [.int .i64 sk] := gc_part (off := 0) (k := 1) hg' (by omega)
    have gd1 : getCells H wb (wo + i * 8 + 1) 1 = some [.int .i64 sx] := gc_part (off := 1) (k := 1) hg' (by omega)
    have gd2 : getCells H wb (wo + i * 8 + 2) 3 = some [.int .i64 sa, .int .i64 sbb, .int .i64 sc] := gc_part (off := 2) (k := 3) hg' (by omega)
    have gd5 : getCells H wb (wo + i * 8 + 5) 1 = some [.int .i64 sg] := gc_part (off := 5) (k := 1) hg' (by omega)
    have gd6 : getCells H wb (wo + i * 8 + 6) 1 = some [tv'] := gc_part (off := 6) (k := 1) hg' (by omega)
    have gd7 : getCells H wb (wo + i * 8 + 7) 1 = some [ev'] := gc_part (off := 7) (k := 1) hg' (by omega)
    refine lp_step ?_
    refine seq_assoc (seq_reg ?_)
    simp only [go_sem, binC, e0, e5]
    refine seq_cond (t := true) (by simp only [go_sem, binC]; rw [decide_eq_true (by omega)]) ?_
    simp only [go_sem, binC]
    refine seq_skip (seq_block (seq_regD ?_))
    have hij : (0 ≤ (i : Int) ∧ (i : Int) < (l.length : Int)) = True := eq_true ⟨by omega, by omega⟩
    refine wpp_app2 63 rfl (lcsA_ok e0 e1 e5 hil gc0 gd0 fun ea a0 a1 a5 ag => ?_)
    refine wpp_app2 50 rfl (lcsB_ok (a0.trans e0) (a1.trans e1) (a5.trans e5) ag hil gc1 gd1 fun eb b0 b1 b5 bg => ?_)
    refine wpp_app2 37 rfl (lcsC_ok (b0.trans (a0.trans e0)) (b1.trans (a1.trans e1)) (b5.trans (a5.trans e5)) bg hil gc2 gd2 fun ec c0 c1 c5 cg => ?_)
    refine wpp_app2 24 rfl (lcsD_ok (c0.trans (b0.trans (a0.trans e0))) (c1.trans (b1.trans (a1.trans e1))) (c5.trans (b5.trans (a5.trans e5))) cg hil gc5 gd5 fun e2 d0 d1 d5 f67 => ?_)
    have f0 := d0.trans (c0.trans (b0.trans (a0.trans e0)))
    have f1 := d1.trans (c1.trans (b1.trans (a1.trans e1)))
    have f5 := d5.trans (c5.trans (b5.trans (a5.trans e5)))
    clear d0 d1 d5 c0 c1 c5 b0 b1 b5 a0 a1 a5 ag bg cg
    refine wpp_app2 10 rfl (lcsE_ok f0 f1 f5 f67 hil gc6 gd6 otv otv' (fun lo => ih n rfl H tv tv' tl htl htl' mtl) fun e3 k0 k1 k5 f81 => ?_)
    refine lcsF_ok (k0.trans f0) (k1.trans f1) (k5.trans f5) f81 hil gc7 gd7 oev oev' (fun lo => ih n rfl H ev ev' el hel hel' mel) fun e4 j0 j1 j5 f94 => ?_
    replace j0 := j0.trans (k0.trans f0)
    replace j1 := j1.trans (k1.trans f1)
    replace j5 := j5.trans (k5.trans f5)
    clear k0 k1 k5 f81 f67
    refine wpc_cond (t := false) (by simp only [go_sem, binC, f94]) ?_
    simp only [go_sem, binC, out_n, thenX_n]
    refine wpc_skip ?_
    simp only [go_sem, binC, out_n, thenX_n]
    refine wpc_reg ?_
    simp only [go_sem, binC, j5, hw1]
    simp only [go_sem, binC, thenX_n]
    exact ihk (i + 1) _ (by omega) (by simp only [go_sem, binC, j0]) (by simp only [go_sem, binC, j1]) (by simp only [go_sem, binC])
theorem lcSteps_all {F : Nat → Option IFn} (hf : F 21 = some c_lcSteps) : ∀ n, SameSOk F 21 n
  | 0 => lcSteps_ok hf fun m h => by cases h
  | n + 1 => lcSteps_ok hf fun m h => by cases h; exact lcSteps_all hf n
/-- Programs that are the same are told the same. -/
def SamePOk (F : Nat → Option IFn) (f : Nat) : Prop := ∀ (H : Heap) (n : Nat) (lv sv lw sw : Value) (ls : List (Int × Int)) (l : List (TStep n)), SlR Co.p2 (vw 0 H) lv ls → SlR (Co.step n) (vw 0 H) sv l → SlR Co.p2 (vw 0 H) lw ls → SlR (Co.step n) (vw 0 H) sw l → (Co.prog n).sm (ls, l) → QC F f [.agg #[lv, sv], .agg #[lw, sw]] H (.bool true)
theorem lcProg_ok {F : Nat → Option IFn} {f : Nat} (hf : F f = some c_lcProg) (gs : ∀ n, SameSOk F 21 n) : SamePOk F f := by
  intro H n lv sv lw sw ls l r1 r2 r3 r4 hsm
  have osv : one sv = true := by obtain ⟨_, a, rfl, _⟩ := r2; rfl
  have osw : one sw = true := by obtain ⟨_, a, rfl, _⟩ := r4; rfl
  obtain ⟨_, la, rfl, _⟩ := id r1
  obtain ⟨_, lb, rfl, _⟩ := id r3
  have hls0 : ls.length ≤ 1048576 := hsm.1.1
  refine QC.mk hf rfl ?_
  refine seq_reg ?_
  simp only [go_sem, binC, osv, osw]
  refine wpc_gen fun H1 hH1 => ?_
  have hx1 : AgX [] H H1 := hH1 ▸ AgX.app [] _ _
  have hb2 : H1[H.length]? = some ⟨[.slice la ls.length ls.length, sv], 0, 0, false, true⟩ := hH1 ▸ get_new0 _ _
  have hb3 : H1[H.length + 1]? = some ⟨[.slice lb ls.length ls.length, sw], 0, 0, false, true⟩ := hH1 ▸ get_new _ _ 1
  clear hH1
  have r1' := r1.mono (agx_sub hx1)
  have r2' := r2.mono (agx_sub hx1)
  have r3' := r3.mono (agx_sub hx1)
  have r4' := r4.mono (agx_sub hx1)
  have hl1 := hx1.1
  refine seq_assoc (seq_reg ?_)
  simp only [go_sem, binC, gc_of hb2, gc_of hb3, inBlk_some, bne_f (a := (ls.length : Int)) (b := (ls.length : Int)) rfl]
  refine seq_cond (t := false) rfl ?_
  simp only [go_sem, binC]
  refine seq_skip (seq_assoc (seq_reg ?_))
  simp only [go_sem, binC]
  refine seq_block (wpc_loop ?_)
  suffices h : ∀ (k i : Nat) (e : Env), i + k = ls.length → e 2 = ptr H.length 0 → e 3 = ptr (H.length + 1) 0 → e 5 = .int .i64 i → W F H.length _ e H1 _ from
    h ls.length 0 _ (by omega) (by simp only [go_sem, binC]) (by simp only [go_sem, binC]) (by (simp only [go_sem, binC]) <;> rfl)
  intro k
  induction k with
  | zero =>
    intro i e hi e2 e3 e5
    refine lp_step ?_
    refine seq_assoc (seq_reg ?_)
    simp only [go_sem, binC, e2, e5, gc_of hb2, inBlk_some]
    refine seq_cond (t := false) (by simp only [go_sem, binC]; rw [decide_eq_false (by omega)]) ?_
    simp only [go_sem, binC]
    refine seq_exit ?_
    simp only [go_sem, binC, thenX_e, out_e, thenX_n]
    refine seq_reg ?_
    simp only [go_sem, binC, e2, e3, gc_of hb2, gc_of hb3, inBlk_some, osv, osw]
    refine op_callQ (by simp only [go_sem, binC]; exact gs n H1 sv sw l r2' r4' hsm.2) ?_
    simp only [go_sem, binC]
    exact wpc_ret ⟨Or.inr rfl, _, (by (simp only [go_sem, binC]) <;> rfl), rfl, rfl⟩
  | succ k ih =>
    intro i e hi e2 e3 e5
    have hil : i < ls.length := by omega
    obtain ⟨b, o, hv1, hg⟩ := gcP r1' hil
    obtain ⟨b', o', hv2, hg'⟩ := gcP r3' hil
    simp only [Value.slice.injEq, and_true] at hv1 hv2
    subst hv1 hv2
    have hw1 : IntKind.i64.wrap ((i : Int) + 1) = ((i + 1 : Nat) : Int) := by rw [wrap_id (by omega) (by omega)]; omega
    refine lp_step ?_
    refine seq_assoc (seq_reg ?_)
    simp only [go_sem, binC, e2, e5, gc_of hb2, inBlk_some]
    refine seq_cond (t := true) (by simp only [go_sem, binC]; rw [decide_eq_true (by omega)]) ?_
    simp only [go_sem, binC]
    refine seq_skip (seq_block (seq_regD ?_))
    simp only [go_sem, binC, e2, e3, e5, gc_of hb2, gc_of hb3, inBlk_some]
    refine ⟨⟨by omega, by omega⟩, ?_⟩
    simp only [go_sem, binC, Int.toNat_natCast, hg]
    refine ⟨⟨by omega, by omega⟩, ?_⟩
    simp only [go_sem, binC, Int.toNat_natCast, hg', eqsV2, decide_true]
    refine wpc_cond (t := false) rfl ?_
    simp only [go_sem, binC]
    refine wpc_skip ?_
    simp only [go_sem, binC, out_n, thenX_n]
    refine wpc_reg ?_
    simp only [go_sem, binC, e5, hw1]
    simp only [go_sem, binC, thenX_n]
    exact ih (i + 1) _ (by omega) (by simp only [go_sem, binC, e2]) (by simp only [go_sem, binC, e3]) (by simp only [go_sem, binC])
end Go.Proofs.YtkmghcglmjehcaaI
end
section
/- The laws FnInferOf, FnInferTwice on the ideal machine. -/
set_option linter.unusedVariables false
set_option linter.unusedSimpArgs false
namespace Go.Proofs.YtkmghcglmjehcaaI
open Go Go.RowKit
attribute [local irreducible] infL
end Go.Proofs.YtkmghcglmjehcaaI
end
section
/- The laws FnInferNone, FnInferAll on the ideal machine. -/
set_option linter.unusedVariables false
set_option linter.unusedSimpArgs false
namespace Go.Proofs.YtkmghcglmjehcaaI
open Go Go.RowKit
attribute [local irreducible] infL
end Go.Proofs.YtkmghcglmjehcaaI
end
section
/- A label, drawn. -/
set_option linter.unusedVariables false
set_option linter.unusedSimpArgs false
namespace Go.Proofs.YtkmghcglmjehcaaI
open Go Go.RowKit
end Go.Proofs.YtkmghcglmjehcaaI
end
section
/- The laws FnInferMore, FnInferMost on the ideal machine. -/
set_option linter.unusedVariables false
set_option linter.unusedSimpArgs false
namespace Go.Proofs.YtkmghcglmjehcaaI
open Go Go.RowKit
attribute [local irreducible] infL
end Go.Proofs.YtkmghcglmjehcaaI
end
