/- Texts of this proof, merged: E9, E10, F3, F4. -/
import Derived.Test.YtpaoppgbgjnkmaaA1
import Derived.Test.YtpaoppgbgjnkmaaRows
section
/- The law FnRunVal on the ideal machine. -/
set_option linter.unusedVariables false
set_option linter.unusedSimpArgs false
namespace Go.Proofs.YtpaoppgbgjnkmaaI
open Go Go.RowKit
def c_lawRV : IFn := ⟨2, 142, [.t 4],
 .seq (.reg none [
    ⟨(some 4), none, .mov (.c (.bool false))⟩])
 (.seq (.seq (.reg none [
     ⟨(some 16), none, .mov (.t 0)⟩,
     ⟨(some 17), none, .len (.t 16)⟩,
     ⟨(some 18), none, .bin .gtr (.t 17) (.c (.int .i64 1048576))⟩,
     ⟨(some 19), none, .mov (.t 18)⟩,
     ⟨(some 20), (some (19, false)), .mov (.t 1)⟩,
     ⟨(some 21), (some (19, false)), .len (.t 20)⟩,
     ⟨(some 22), (some (19, false)), .bin .gtr (.t 21) (.c (.int .i64 1048576))⟩,
     ⟨(some 23), none, .pick (.t 19) (.c (.bool true)) (.t 22)⟩])
  (.cond (.t 23) (.seq (.reg none [
      ⟨(some 4), none, .mov (.c (.bool true))⟩])
   (.ret)) (.skip)))
 (.seq (.reg none [
    ⟨(some 25), none, .mov (.t 0)⟩,
    ⟨(some 26), none, .call .k (.f 12) [(.t 25)]⟩,
    ⟨(some 24), none, .mov (.t 26)⟩,
    ⟨(some 27), none, .ext (.t 24) 0⟩,
    ⟨(some 28), none, .ext (.t 24) 1⟩,
    ⟨(some 5), none, .new [(.slice none 0 0), (.slice none 0 0)]⟩,
    ⟨none, none, .store 2 (.t 5) (.t 27)⟩,
    ⟨(some 6), none, .mov (.t 28)⟩])
 (.seq (.reg none [
    ⟨(some 29), none, .load true 2 (.t 5)⟩,
    ⟨(some 30), none, .mov (.t 6)⟩,
    ⟨(some 31), none, .call .q (.f 13) [(.t 29), (.t 30)]⟩,
    ⟨(some 7), none, .mov (.t 31)⟩])
 (.seq (.seq (.reg none [
     ⟨(some 32), none, .mov (.t 7)⟩,
     ⟨(some 33), none, .load true 2 (.t 5)⟩,
     ⟨(some 34), none, .mov (.t 6)⟩,
     ⟨(some 35), none, .call .q (.f 15) [(.t 33), (.t 34)]⟩,
     ⟨(some 36), none, .beq true (.t 32) (.t 35)⟩,
     ⟨(some 37), none, .mov (.t 36)⟩,
     ⟨(some 38), (some (37, false)), .mov (.t 7)⟩,
     ⟨(some 39), (some (37, false)), .un .not (.t 38)⟩,
     ⟨(some 40), none, .pick (.t 37) (.c (.bool true)) (.t 39)⟩,
     ⟨(some 41), none, .mov (.t 40)⟩,
     ⟨(some 42), (some (41, false)), .mov (.t 6)⟩,
     ⟨(some 43), (some (41, false)), .len (.t 42)⟩,
     ⟨(some 44), (some (41, false)), .bin .eql (.t 43) (.c (.int .i64 0))⟩,
     ⟨(some 45), none, .pick (.t 41) (.c (.bool true)) (.t 44)⟩])
  (.cond (.t 45) (.seq (.reg none [
      ⟨(some 46), none, .mov (.t 7)⟩,
      ⟨(some 47), none, .load true 2 (.t 5)⟩,
      ⟨(some 48), none, .mov (.t 6)⟩,
      ⟨(some 49), none, .call .q (.f 15) [(.t 47), (.t 48)]⟩,
      ⟨(some 50), none, .beq false (.t 46) (.t 49)⟩,
      ⟨(some 4), none, .mov (.t 50)⟩])
   (.ret)) (.skip)))
 (.seq (.reg none [
    ⟨(some 51), none, .mov (.t 1)⟩,
    ⟨(some 52), none, .len (.t 51)⟩,
    ⟨(some 53), none, .mov (.t 6)⟩,
    ⟨(some 54), none, .len (.t 53)⟩,
    ⟨(some 55), none, .bin .rem (.t 52) (.t 54)⟩,
    ⟨(some 8), none, .mov (.t 55)⟩])
 (.seq (.reg none [
    ⟨(some 56), none, .mov (.t 1)⟩,
    ⟨(some 57), none, .len (.t 56)⟩,
    ⟨(some 58), none, .bin .quo (.t 57) (.c (.int .i64 2))⟩,
    ⟨(some 59), none, .mov (.t 6)⟩,
    ⟨(some 60), none, .len (.t 59)⟩,
    ⟨(some 61), none, .bin .rem (.t 58) (.t 60)⟩,
    ⟨(some 9), none, .mov (.t 61)⟩])
 (.seq (.reg none [
    ⟨(some 62), none, .mov (.t 1)⟩,
    ⟨(some 63), none, .len (.t 62)⟩,
    ⟨(some 64), none, .bin .rem (.t 63) (.c (.int .i64 10))⟩,
    ⟨(some 65), none, .build [(.int .i64 0), (.int .i64 0), (.int .i64 0)] [(0, 1, (.c (.int .i64 1))), (1, 1, (.t 64))]⟩,
    ⟨(some 66), none, .mov (.t 8)⟩,
    ⟨(some 67), none, .build [(.int .i64 0), (.int .i64 0), (.int .i64 0)] [(0, 1, (.c (.int .i64 2))), (1, 1, (.t 66))]⟩,
    ⟨(some 68), none, .mov (.t 8)⟩,
    ⟨(some 69), none, .mov (.t 9)⟩,
    ⟨(some 70), none, .build [(.int .i64 0), (.int .i64 0), (.int .i64 0)] [(0, 1, (.c (.int .i64 3))), (1, 1, (.t 68)), (2, 1, (.t 69))]⟩,
    ⟨(some 71), none, .mov (.t 8)⟩,
    ⟨(some 72), none, .mov (.t 9)⟩,
    ⟨(some 73), none, .build [(.int .i64 0), (.int .i64 0), (.int .i64 0)] [(0, 1, (.c (.int .i64 4))), (1, 1, (.t 71)), (2, 1, (.t 72))]⟩,
    ⟨(some 74), none, .lit 3 39 4 [(.int .i64 0), (.int .i64 0), (.int .i64 0), (.int .i64 0), (.int .i64 0), (.int .i64 0), (.int .i64 0), (.int .i64 0), (.int .i64 0), (.int .i64 0), (.int .i64 0), (.int .i64 0)] [(0, 3, (.t 65)), (3, 3, (.t 67)), (6, 3, (.t 70)), (9, 3, (.t 73))]⟩,
    ⟨(some 10), none, .mov (.t 74)⟩])
 (.seq (.reg none [
    ⟨(some 11), none, .mov (.c (.int .i64 0))⟩])
 (.seq (.seq (.reg (some 8) [
     ⟨(some 75), none, .mov (.t 6)⟩,
     ⟨(some 76), none, .mov (.t 8)⟩,
     ⟨(some 77), none, .iad 1 (.t 75) (.t 76)⟩,
     ⟨(some 78), none, .load false 1 (.t 77)⟩,
     ⟨(some 79), none, .mov (.t 6)⟩,
     ⟨(some 80), none, .mov (.t 9)⟩,
     ⟨(some 81), none, .iad 1 (.t 79) (.t 80)⟩,
     ⟨(some 82), none, .load false 1 (.t 81)⟩,
     ⟨(some 83), none, .bin .eql (.t 78) (.t 82)⟩])
  (.cond (.t 83) (.reg none [
     ⟨(some 11), none, .mov (.c (.int .i64 1))⟩]) (.skip)))
 (.seq (.reg (some 18) [
    ⟨(some 84), none, .mov (.t 1)⟩,
    ⟨(some 85), none, .len (.t 84)⟩,
    ⟨(some 86), none, .bin .rem (.t 85) (.c (.int .i64 10))⟩,
    ⟨(some 87), none, .mov (.t 6)⟩,
    ⟨(some 88), none, .mov (.t 8)⟩,
    ⟨(some 89), none, .iad 1 (.t 87) (.t 88)⟩,
    ⟨(some 90), none, .load false 1 (.t 89)⟩,
    ⟨(some 91), none, .mov (.t 6)⟩,
    ⟨(some 92), none, .mov (.t 8)⟩,
    ⟨(some 93), none, .iad 1 (.t 91) (.t 92)⟩,
    ⟨(some 94), none, .load false 1 (.t 93)⟩,
    ⟨(some 95), none, .mov (.t 6)⟩,
    ⟨(some 96), none, .mov (.t 9)⟩,
    ⟨(some 97), none, .iad 1 (.t 95) (.t 96)⟩,
    ⟨(some 98), none, .load false 1 (.t 97)⟩,
    ⟨(some 99), none, .bin .add (.t 94) (.t 98)⟩,
    ⟨(some 100), none, .bin .rem (.t 99) (.c (.int .i64 10))⟩,
    ⟨(some 101), none, .mov (.t 11)⟩,
    ⟨(some 102), none, .lit 1 3 4 [(.int .i64 0), (.int .i64 0), (.int .i64 0), (.int .i64 0)] [(0, 1, (.t 86)), (1, 1, (.t 90)), (2, 1, (.t 100)), (3, 1, (.t 101))]⟩,
    ⟨(some 12), none, .mov (.t 102)⟩])
 (.seq (.seq (.reg none [
     ⟨(some 13), none, .mov (.c (.int .i64 0))⟩])
  (.block 0 (.loop (.seq (.seq (.reg none [
        ⟨(some 103), none, .mov (.t 13)⟩,
        ⟨(some 104), none, .mov (.t 10)⟩,
        ⟨(some 105), none, .len (.t 104)⟩,
        ⟨(some 106), none, .bin .lss (.t 103) (.t 105)⟩])
     (.cond (.t 106) (.skip) (.exit 0)))
    (.seq (.block 1 (.seq (.regW 15 [
         ⟨(some 110), none, .fad 0 (.t 5)⟩,
         ⟨(some 111), none, .load false 1 (.t 110)⟩,
         ⟨(some 112), none, .mov (.t 10)⟩,
         ⟨(some 113), none, .mov (.t 13)⟩,
         ⟨(some 114), none, .iad 3 (.t 112) (.t 113)⟩,
         ⟨(some 115), none, .load true 3 (.t 114)⟩,
         ⟨(some 116), none, .build [(.int .i64 0), (.int .i64 0), (.int .i64 0), (.int .i64 0), (.int .i64 0), (.int .i64 0), (.slice none 0 0), (.slice none 0 0)] [(0, 1, (.c (.int .i64 1))), (2, 3, (.t 115))]⟩,
         ⟨(some 117), none, .lit 8 42 1 [(.int .i64 0), (.int .i64 0), (.int .i64 0), (.int .i64 0), (.int .i64 0), (.int .i64 0), (.slice none 0 0), (.slice none 0 0)] [(0, 8, (.t 116))]⟩,
         ⟨(some 118), none, .build [(.slice none 0 0), (.slice none 0 0)] [(0, 1, (.t 111)), (1, 1, (.t 117))]⟩,
         ⟨(some 119), none, .mov (.t 6)⟩,
         ⟨(some 120), none, .call .k (.f 14) [(.t 118), (.t 119)]⟩,
         ⟨(some 109), none, .mov (.t 120)⟩,
         ⟨(some 121), none, .ext (.t 109) 0⟩,
         ⟨(some 122), none, .ext (.t 109) 1⟩,
         ⟨(some 14), none, .new [(.slice none 0 0), (.slice none 0 0), (.slice none 0 0)]⟩,
         ⟨none, none, .store 3 (.t 14) (.t 121)⟩,
         ⟨(some 15), none, .mov (.t 122)⟩])
      (.seq (.reg (some 11) [
         ⟨(some 123), none, .mov (.t 15)⟩,
         ⟨(some 124), none, .un .not (.t 123)⟩,
         ⟨(some 125), none, .mov (.t 124)⟩,
         ⟨(some 126), (some (125, false)), .fad 0 (.t 14)⟩,
         ⟨(some 127), (some (125, false)), .load false 1 (.t 126)⟩,
         ⟨(some 128), (some (125, false)), .iad 1 (.t 127) (.c (.int .i64 0))⟩,
         ⟨(some 129), (some (125, false)), .load false 1 (.t 128)⟩,
         ⟨(some 130), (some (125, false)), .mov (.t 12)⟩,
         ⟨(some 131), (some (125, false)), .mov (.t 13)⟩,
         ⟨(some 132), (some (125, false)), .iad 1 (.t 130) (.t 131)⟩,
         ⟨(some 133), (some (125, false)), .load false 1 (.t 132)⟩,
         ⟨(some 134), (some (125, false)), .bin .neq (.t 129) (.t 133)⟩,
         ⟨(some 135), none, .pick (.t 125) (.c (.bool true)) (.t 134)⟩,
         ⟨(some 136), none, .mov (.t 135)⟩,
         ⟨(some 137), (some (136, false)), .fad 1 (.t 14)⟩,
         ⟨(some 138), (some (136, false)), .load false 1 (.t 137)⟩,
         ⟨(some 139), (some (136, false)), .len (.t 138)⟩,
         ⟨(some 140), (some (136, false)), .bin .neq (.t 139) (.c (.int .i64 1))⟩,
         ⟨(some 141), none, .pick (.t 136) (.c (.bool true)) (.t 140)⟩])
      (.cond (.t 141) (.seq (.reg none [
          ⟨(some 4), none, .mov (.c (.bool false))⟩])
       (.ret)) (.skip)))))
    (.reg none [
      ⟨(some 107), none, .mov (.t 13)⟩,
      ⟨(some 108), none, .bin .add (.t 107) (.c (.int .i64 1))⟩,
      ⟨(some 13), none, .mov (.t 108)⟩]))))))
 (.seq (.reg none [
    ⟨(some 4), none, .mov (.c (.bool true))⟩])
 (.ret)))))))))))))⟩
def LawB2 (F : Nat → Option IFn) (f : Nat) : Prop := ∀ (H : Heap) (v w : Value) (code more : List Int), SlR Co.byte (vw 0 H) v code → SlR Co.byte (vw 0 H) w more → QC F f [v, w] H (.bool true)
theorem numsB_new {d : Nat} {ls : List (Int × Int)} {l : List (TStep d)} {nums : List Int} (h : numsB d (ls, l) nums = true) {n : Nat} {l' : List (TStep n)} (h1 : l'.all (stepB ls.length n 3) = true) (h2 : cntL n l' ≤ 8) (h3 : 0 ≤ cntL n l') : numsB n (ls, l') nums = true := by
  simp only [numsB, progB, Bool.and_eq_true, decide_eq_true_eq] at h ⊢
  obtain ⟨⟨⟨⟨⟨a1, a2⟩, a3⟩, a4⟩, a5⟩, a6⟩ := h
  exact ⟨⟨⟨⟨⟨a1, a2⟩, h1⟩, by unfold Wr; rw [wrap_id (by omega) (by omega)]; exact h2⟩, a5⟩, a6⟩
theorem numsB_len {d : Nat} {ls : List (Int × Int)} {l : List (TStep d)} {nums : List Int} (h : numsB d (ls, l) nums = true) : nums.length = ls.length ∧ ls.length ≤ 4 ∧ ∀ x ∈ nums, 0 ≤ x ∧ x ≤ 9 := by
  simp only [numsB, progB, Bool.and_eq_true, decide_eq_true_eq, List.all_eq_true] at h
  obtain ⟨⟨⟨⟨⟨a1, a2⟩, a3⟩, a4⟩, a5⟩, a6⟩ := h
  exact ⟨a5, by omega, fun x hx => inB_iff'.1 (a6 x hx)⟩
theorem seq_sel {F : Nat → Option IFn} {lo : Nat} {e : Env} {H : Heap} {K : X → Env → Heap → Prop} {b : ICode} {c : Opd} {t : Bool} {d : Nat} {v v0 : Value} (hc : c.ev e = .bool t) (h0 : e d = v0) (h : wpc F lo b (putE e (some d) (if t then v else v0)) H K) : wpc F lo (.seq (.cond c (.reg none [⟨some d, none, .mov (.c v)⟩]) .skip) b) e H K := by
  refine seq_cond hc ?_
  cases t with
  | true =>
    refine seq_reg ?_
    refine wpo_cons ?_
    exact ⟨v, H, rfl, h⟩
  | false =>
    refine seq_skip ?_
    have : putE e (some d) v0 = e := by
      funext i
      by_cases hi : i = d
      · subst hi; simp [putE, h0]
      · simp [putE, hi]
    rw [show (if false = true then v else v0) = v0 from rfl, this] at h
    exact h
/-- One variable set. -/
def setS (x : Int) (v : Int × Int × Int) : TStep 1 := (1, x, v, 0, [], [])
theorem rone : Rg 1 := ⟨by omega, by omega⟩
theorem stepB_setS {k : Nat} {x : Int} {v : Int × Int × Int} (h0 : varB k x = true) (h : valB k v = true) : stepB k 1 3 (setS x v) = true := by
  simp [setS, stepB, h0, h]
theorem cntT_setS {x : Int} {v : Int × Int × Int} : cntT 1 (setS x v) = 1 := by simp [setS, cntT]
theorem runT_setS {x : Int} {v : Int × Int × Int} {r : RunS} : runT 1 (setS x v) r = (r.1.set x.toNat (valN r.1 v), r.2.1 ++ [(x, valN r.1 v)], r.2.2) := runT_set
theorem setS_sm {x : Int} {v : Int × Int × Int} : (Co.step 1).sm (setS x v) := step_smM ⟨by simp, fun a h => by cases h⟩ ⟨by simp, fun a h => by cases h⟩
theorem runOf_set {d : Nat} {ls : List (Int × Int)} {l : List (TStep d)} {nums : List Int} (h : numsB d (ls, l) nums = true) {v : Int × Int × Int} (hv : valB ls.length v = true) (h0 : 0 < ls.length) : numsB 1 (ls, [setS 0 v]) nums = true ∧ runOf 1 (ls, [setS 0 v]) nums = (nums.set 0 (valN nums v), [(0, valN nums v)], []) := by
  have h1 : numsB 1 (ls, [setS 0 v]) nums = true := by
    refine numsB_new h ?_ ?_ ?_
    · have : varB ls.length 0 = true := by unfold varB inB; simp; omega
      simp [stepB_setS this hv]
    · simp [cntL, cntT_setS]
    · simp [cntL, cntT_setS]
  refine ⟨h1, ?_⟩
  unfold runOf
  rw [if_pos h1]
  exact runT_setS
theorem step1_sl {H : Heap} {x a b c : Int} (es et : Nat) (ap so : Bool) (rx : RgI x) (ra : RgI a) (rb : RgI b) (rc : RgI c) : SlR (Co.step 1) (vw 0 (H ++ [⟨[.int .i64 1, .int .i64 x, .int .i64 a, .int .i64 b, .int .i64 c, .int .i64 0, nilS, nilS], es, et, ap, so⟩])) (sli H.length 0 1) [setS x (a, b, c)] := by
  have hn : SlR (Co.step 0) (vw 0 (H ++ [⟨[.int .i64 1, .int .i64 x, .int .i64 a, .int .i64 b, .int .i64 c, .int .i64 0, nilS, nilS], es, et, ap, so⟩])) nilS [] := ⟨by simp, none, rfl, .inl rfl⟩
  refine ⟨by simp, _, rfl, .inr ⟨H.length, 0, rfl, fun i hi => ?_⟩⟩
  have : i = 0 := by simpa using hi
  subst this
  refine ⟨_, ?_, step_rd rone rx ra rb rc ⟨by omega, by omega⟩ hn hn⟩
  unfold rng vw
  rw [if_pos (Nat.zero_le _), get_new0]
  rfl
theorem step1_sm {x : Int} {v : Int × Int × Int} {ls : List (Int × Int)} (h : ls.length ≤ 4) : (Co.prog 1).sm (ls, [setS x v]) := by
  refine ⟨⟨by simp only; omega, fun a _ => ⟨trivial, trivial⟩⟩, by simp, fun a ha => ?_⟩
  simp only [List.mem_singleton] at ha
  subst ha
  exact setS_sm
def vals4 (nd na nb : Nat) : List (Int × Int × Int) := [(1, nd, 0), (2, na, 0), (3, na, nb), (4, na, nb)]
def wants (nums : List Int) (nd na nb : Nat) : List Int := [nd, nums.getD na 0, (nums.getD na 0 + nums.getD nb 0) % 10, if nums.getD na 0 = nums.getD nb 0 then 1 else 0]
theorem vals4_ok {nums : List Int} {nd na nb k : Nat} (h0 : nd < 10) (h1 : na < k) (h2 : nb < k) (i : Nat) (hi : i < 4) : valB k ((vals4 nd na nb).getD i (0, 0, 0)) = true ∧ valN nums ((vals4 nd na nb).getD i (0, 0, 0)) = (wants nums nd na nb).getD i 0 := by
  have : i = 0 ∨ i = 1 ∨ i = 2 ∨ i = 3 := by omega
  rcases this with rfl | rfl | rfl | rfl <;> simp [vals4, wants, valB, valN, varB, inB] <;> omega
set_option maxHeartbeats 4000000 in
theorem lawRV_ok {F : Nat → Option IFn} {f : Nat} (hf : F f = some c_lawRV) (gd : DrawNumsOk F 12) (gi : NumsOk F 13) (gr : RunOk F 14) (gs : NumsOk F 15) : LawB2 F f := by
  intro H v w code more hv hw
  have hv0 := hv
  obtain ⟨h0, a, rfl, _⟩ := hv
  obtain ⟨hm0, am, rfl, _⟩ := hw
  refine QC.mk hf rfl ?_
  refine seq_reg ?_
  simp only [go_sem, binC]
  by_cases hbig : 1048576 < (code.length : Int)
  · refine seq_assoc (seq_reg ?_)
    simp only [go_sem, binC, decide_eq_true hbig]
    refine seq_cond (t := true) rfl ?_
    simp only [go_sem, binC]
    refine seq_assoc (seq_reg ?_)
    simp only [go_sem, binC]
    exact seq_ret ⟨Or.inr rfl, .bool true, by simp only [go_sem, binC], rfl, rfl⟩
  by_cases hbig2 : 1048576 < (more.length : Int)
  · refine seq_assoc (seq_reg ?_)
    simp only [go_sem, binC, decide_eq_false hbig, decide_eq_true hbig2]
    refine seq_cond (t := true) rfl ?_
    simp only [go_sem, binC]
    refine seq_assoc (seq_reg ?_)
    simp only [go_sem, binC]
    exact seq_ret ⟨Or.inr rfl, .bool true, by simp only [go_sem, binC], rfl, rfl⟩
  refine seq_assoc (seq_reg ?_)
  simp only [go_sem, binC, decide_eq_false hbig, decide_eq_false hbig2]
  refine seq_cond (t := false) rfl ?_
  simp only [go_sem, binC]
  refine seq_skip (seq_reg ?_)
  simp only [go_sem, binC]
  obtain ⟨d, lv, sv, nv, ls, l, nums, H1, k, hx, r1, r2, r3, r4⟩ := gd H _ code hv0
  have hl1 := hx.1
  have olv : one lv = true := by obtain ⟨_, a, rfl, _⟩ := r1; rfl
  have osv : one sv = true := by obtain ⟨_, a, rfl, _⟩ := r2; rfl
  refine op_callK (by simp only [go_sem, binC]; exact k) ?_
  simp only [go_sem, binC, olv, osv]
  refine ⟨by omega, ?_⟩
  refine wpc_gen fun H2 hH2 => ?_
  have hb : H2[H1.length]? = some ⟨[lv, sv], 0, 0, false, true⟩ := hH2 ▸ get_new0 _ _
  have hS : Sub (vw 0 H1) (vw 0 H2) := hH2 ▸ vw_app 0 H1 _
  have hl2 : H2.length = H1.length + 1 := by rw [hH2, List.length_append]; rfl
  replace r1 := r1.mono hS
  replace r2 := r2.mono hS
  replace r4 := r4.mono hS
  clear hH2 hS
  obtain ⟨hln, na0, hnv, _⟩ := id r4
  subst hnv
  obtain ⟨hlls, la0, hlv, _⟩ := id r1
  subst hlv
  refine seq_reg ?_
  simp only [go_sem, binC, gc_of hb, inBlk_some, osv]
  refine op_callQ (by simp only [go_sem, binC]; exact gi H2 d _ _ _ ls l nums r1 r2 r3 r4) ?_
  simp only [go_sem, binC]
  cases hB : numsB d (ls, l) nums with
  | false =>
    refine seq_assoc (seq_reg ?_)
    simp only [go_sem, binC, gc_of hb, inBlk_some, osv]
    refine op_callQ (by simp only [go_sem, binC]; exact gs H2 d _ _ _ ls l nums r1 r2 r3 r4) ?_
    simp only [go_sem, binC, hB, beq_self_eq_true]
    refine seq_cond (t := true) rfl ?_
    simp only [go_sem, binC]
    refine seq_assoc (seq_reg ?_)
    simp only [go_sem, binC, gc_of hb, inBlk_some, osv]
    refine op_callQ (by simp only [go_sem, binC]; exact gs H2 d _ _ _ ls l nums r1 r2 r3 r4) ?_
    simp only [go_sem, binC, hB, beq_self_eq_true]
    exact seq_ret ⟨Or.inr rfl, .bool true, by simp only [go_sem, binC], rfl, rfl⟩
  | true =>
  obtain ⟨hnl, hl4, hrg⟩ := numsB_len hB
  by_cases hz : nums.length = 0
  · refine seq_assoc (seq_reg ?_)
    simp only [go_sem, binC, gc_of hb, inBlk_some, osv]
    refine op_callQ (by simp only [go_sem, binC]; exact gs H2 d _ _ _ ls l nums r1 r2 r3 r4) ?_
    simp only [go_sem, binC, hB, beq_self_eq_true, beq_t (show (nums.length : Int) = 0 by omega)]
    refine seq_cond (t := true) rfl ?_
    simp only [go_sem, binC]
    refine seq_assoc (seq_reg ?_)
    simp only [go_sem, binC, gc_of hb, inBlk_some, osv]
    refine op_callQ (by simp only [go_sem, binC]; exact gs H2 d _ _ _ ls l nums r1 r2 r3 r4) ?_
    simp only [go_sem, binC, hB, beq_self_eq_true]
    exact seq_ret ⟨Or.inr rfl, .bool true, by simp only [go_sem, binC], rfl, rfl⟩
  have hz0 : ((nums.length : Int) == 0) = false := beq_f (by omega)
  refine seq_assoc (seq_reg ?_)
  simp only [go_sem, binC, gc_of hb, inBlk_some, osv]
  refine op_callQ (by simp only [go_sem, binC]; exact gs H2 d _ _ _ ls l nums r1 r2 r3 r4) ?_
  simp only [go_sem, binC, hB, beq_self_eq_true, hz0]
  refine seq_cond (t := false) rfl ?_
  simp only [go_sem, binC]
  have ea : binI .rem .i64 (more.length : Int) (nums.length : Int) = some (.int .i64 ((more.length % nums.length : Nat) : Int)) := by rw [rem_eq (by omega), Int.tmod_eq_emod_of_nonneg (by omega)]; rfl
  have eh : binI .quo .i64 (more.length : Int) 2 = some (.int .i64 ((more.length / 2 : Nat) : Int)) := by rw [quo_eq (by omega), Int.tdiv_eq_ediv_of_nonneg (by omega), wrap_id (by omega) (by omega)]; rfl
  have eb : binI .rem .i64 ((more.length / 2 : Nat) : Int) (nums.length : Int) = some (.int .i64 ((more.length / 2 % nums.length : Nat) : Int)) := by rw [rem_eq (by omega), Int.tmod_eq_emod_of_nonneg (by omega)]; rfl
  have ed : binI .rem .i64 (more.length : Int) 10 = some (.int .i64 ((more.length % 10 : Nat) : Int)) := by rw [rem_eq (by omega), Int.tmod_eq_emod_of_nonneg (by omega)]; rfl
  have hna := Nat.mod_lt more.length (show 0 < nums.length by omega)
  have hnb := Nat.mod_lt (more.length / 2) (show 0 < nums.length by omega)
  have hnd := Nat.mod_lt more.length (show 0 < 10 by omega)
  refine seq_skip (seq_reg ?_)
  simp only [go_sem, binC, ea]
  refine seq_reg ?_
  simp only [go_sem, binC, eh, eb]
  generalize more.length % nums.length = na at hna ea
  generalize more.length / 2 % nums.length = nb at hnb eb
  refine seq_reg ?_
  simp only [go_sem, binC, ed]
  generalize more.length % 10 = nd at hnd ed
  refine wpc_gen fun H3 hH3 => ?_
  have hx3 : AgX [] H2 H3 := hH3 ▸ AgX.app [] _ _
  have hbv : H3[H2.length]? = some ⟨[.int .i64 1, .int .i64 nd, .int .i64 0, .int .i64 2, .int .i64 na, .int .i64 0, .int .i64 3, .int .i64 na, .int .i64 nb, .int .i64 4, .int .i64 na, .int .i64 nb], 3, 39, true, true⟩ := hH3 ▸ get_new0 _ _
  have hl3 : H3.length = H2.length + 1 := by rw [hH3, List.length_append]; rfl
  clear hH3
  have hb3 := hx3.get hb (by simp)
  have r43 := r4.mono (agx_sub hx3)
  refine seq_reg ?_
  simp only [go_sem, binC]
  obtain ⟨nblk, no, hnv, _⟩ := gcI0 r43 (i := 0) (by omega)
  simp only [Value.slice.injEq, and_true] at hnv
  subst hnv
  have ga := gcI2 r43 hna
  have gb := gcI2 r43 hnb
  have ga' : nums.getD na 0 = nums[na] := by simp [List.getD, hna]
  have gb' : nums.getD nb 0 = nums[nb] := by simp [List.getD, hnb]
  have xa := hrg _ (List.getElem_mem hna)
  have xb := hrg _ (List.getElem_mem hnb)
  rw [← ga'] at ga xa
  rw [← gb'] at gb xb
  refine seq_assoc (seq_regD ?_)
  simp only [go_sem, binC]
  refine ⟨⟨by omega, by omega⟩, ?_⟩
  simp only [go_sem, binC, Int.toNat_natCast, Nat.mul_one, ga]
  refine ⟨⟨by omega, by omega⟩, ?_⟩
  simp only [go_sem, binC, Int.toNat_natCast, Nat.mul_one, gb]
  refine seq_sel (t := nums.getD na 0 == nums.getD nb 0) (by simp only [go_sem, binC]) (v0 := .int .i64 0) (by simp only [go_sem, binC]) ?_
  have hsel : (if (nums.getD na 0 == nums.getD nb 0) = true then Value.int .i64 1 else .int .i64 0) = .int .i64 (if nums.getD na 0 = nums.getD nb 0 then 1 else 0) := by
    by_cases h : nums.getD na 0 = nums.getD nb 0
    · rw [if_pos (beq_iff_eq.2 h), if_pos h]
    · rw [if_neg (by simpa using h), if_neg h]
  rw [hsel]
  have hwants : wants nums nd na nb = [(nd : Int), nums.getD na 0, (nums.getD na 0 + nums.getD nb 0) % 10, if nums.getD na 0 = nums.getD nb 0 then 1 else 0] := rfl
  generalize (if nums.getD na 0 = nums.getD nb 0 then (1 : Int) else 0) = sm at hwants
  refine seq_regD ?_
  simp only [go_sem, binC, ed]
  refine ⟨⟨by omega, by omega⟩, ?_⟩
  simp only [go_sem, binC, Int.toNat_natCast, Nat.mul_one, ga]
  refine ⟨⟨by omega, by omega⟩, ?_⟩
  refine ⟨⟨by omega, by omega⟩, ?_⟩
  simp only [go_sem, binC, Int.toNat_natCast, Nat.mul_one, gb]
  rw [wrap_id (x := nums.getD na 0 + nums.getD nb 0) (by omega) (by omega)]
  have e10 : binI .rem .i64 (nums.getD na 0 + nums.getD nb 0) 10 = some (.int .i64 ((nums.getD na 0 + nums.getD nb 0) % 10)) := by rw [rem_eq (by omega), Int.tmod_eq_emod_of_nonneg (by omega)]
  simp only [go_sem, binC, e10]
  refine wpc_gen fun H4 hH4 => ?_
  have hx4 : AgX [] H3 H4 := hH4 ▸ AgX.app [] _ _
  have hbw : H4[H3.length]? = some ⟨ints (wants nums nd na nb), 1, 3, true, true⟩ := by rw [hwants]; exact hH4 ▸ get_new0 _ _
  have hl4' : H4.length = H3.length + 1 := by rw [hH4, List.length_append]; rfl
  clear hH4
  have hb4 := hx4.get hb3 (by simp)
  have hbv4 := hx4.get hbv (by simp)
  have hx24 := hx3.tr hx4
  have rgw : ∀ x ∈ wants nums nd na nb, RgI x := by
    intro x hx
    have hsm : RgI sm := by
      have : sm = (wants nums nd na nb).getD 3 0 := by rw [hwants]; rfl
      rw [this]
      simp only [wants]
      show RgI (if nums.getD na 0 = nums.getD nb 0 then (1 : Int) else 0)
      unfold RgI; split <;> omega
    rw [hwants] at hx
    simp only [List.mem_cons, List.not_mem_nil, or_false] at hx
    rcases hx with rfl | rfl | rfl | rfl
    · unfold RgI; omega
    · unfold RgI; omega
    · unfold RgI; omega
    · exact hsm
  have hwl : (wants nums nd na nb).length = 4 := rfl
  have rw4 : SlR Co.int (vw 0 H4) (sli H3.length 0 4) (wants nums nd na nb) := ints_sl0 hbw rgw (by rw [hwl]; omega)
  clear hwants
  refine seq_assoc (seq_reg ?_)
  simp only [go_sem, binC]
  refine seq_block (wpc_loop ?_)
  suffices h : ∀ (k i : Nat) (e : Env) (Hc : Heap), i + k = 4 → AgX [] H4 Hc → e 5 = ptr H1.length 0 → e 6 = .slice (some ⟨nblk, no, none⟩) nums.length nums.length → e 10 = sli H2.length 0 4 → e 12 = sli H3.length 0 4 → e 13 = .int .i64 i → W F H.length _ e Hc _ from
    h 4 0 _ H4 rfl (AgX.refl [] _) (by simp only [go_sem, binC]) (by simp only [go_sem, binC]) (by (simp only [go_sem, binC]) <;> rfl) (by (simp only [go_sem, binC]) <;> rfl) (by (simp only [go_sem, binC]) <;> rfl)
  intro k
  induction k with
  | zero =>
    intro i e Hc hik hxc e5 e6 e10' e12 e13
    refine lp_step ?_
    refine seq_assoc (seq_reg ?_)
    simp only [go_sem, binC, e10', e13]
    refine seq_cond (t := false) (by simp only [go_sem, binC]; rw [decide_eq_false (by omega)]) ?_
    simp only [go_sem, binC]
    refine seq_exit ?_
    simp only [go_sem, binC, thenX_e, out_e, thenX_n]
    refine seq_reg ?_
    simp only [go_sem, binC]
    exact wpc_ret ⟨Or.inr rfl, .bool true, by simp only [go_sem, binC], rfl, rfl⟩
  | succ k ih =>
    intro i e Hc hik hxc e5 e6 e10' e12 e13
    have hi4 : i < 4 := by omega
    have hw1 : IntKind.i64.wrap ((i : Int) + 1) = ((i + 1 : Nat) : Int) := by rw [wrap_id (by omega) (by omega)]; omega
    have hbc := hxc.get hb4 (by simp)
    have hbvc := hxc.get hbv4 (by simp)
    obtain ⟨hvB, hvN⟩ := vals4_ok (nums := nums) (k := ls.length) hnd (by omega : na < ls.length) (by omega : nb < ls.length) i hi4
    have hgv : getCells Hc H2.length (i * 3) 3 = some [.int .i64 ((vals4 nd na nb).getD i (0, 0, 0)).1, .int .i64 ((vals4 nd na nb).getD i (0, 0, 0)).2.1, .int .i64 ((vals4 nd na nb).getD i (0, 0, 0)).2.2] := by
      rw [gc_of hbvc, inBlk_some]
      have : i = 0 ∨ i = 1 ∨ i = 2 ∨ i = 3 := by omega
      rcases this with rfl | rfl | rfl | rfl <;> rfl
    have hwi : (wants nums nd na nb).getD i 0 = (wants nums nd na nb)[i]'(by rw [hwl]; exact hi4) := by simp [List.getD, hwl, hi4]
    generalize (vals4 nd na nb).getD i (0, 0, 0) = u at hvB hvN hgv
    obtain ⟨u1, u2, u3⟩ := u
    simp only at hgv
    have hru : RgI u1 ∧ RgI u2 ∧ RgI u3 := by
      unfold valB at hvB
      simp only [varB, inB] at hvB
      unfold RgI
      split at hvB
      · simp at hvB; omega
      · split at hvB
        · simp at hvB; omega
        · split at hvB
          · simp at hvB; omega
          · cases hvB
    obtain ⟨hN, hrun⟩ := runOf_set hB hvB (by omega)
    refine lp_step ?_
    refine seq_assoc (seq_reg ?_)
    simp only [go_sem, binC, e10', e13]
    refine seq_cond (t := true) (by simp only [go_sem, binC]; rw [decide_eq_true (by omega)]) ?_
    simp only [go_sem, binC]
    refine seq_skip (seq_block ?_)
    refine seq_regW ?_
    simp only [go_sem, binC, e5, e6, e10', e13, gc_of hbc, inBlk_some]
    refine ⟨⟨by omega, by omega⟩, ?_⟩
    simp only [go_sem, binC, Int.toNat_natCast, Nat.zero_add, hgv]
    have hxb : AgX [] Hc (Hc ++ [⟨[.int .i64 1, .int .i64 0, .int .i64 u1, .int .i64 u2, .int .i64 u3, .int .i64 0, nilS, nilS], 8, 42, true, true⟩]) := AgX.app [] _ _
    have hS5 := agx_sub ((hx24.tr hxc).tr hxb)
    obtain ⟨nv5, wv5, tv5, H5, k5, x5, s1, s2, s3⟩ := gr _ 1 _ _ _ ls [setS 0 (u1, u2, u3)] nums (r1.mono hS5) (step1_sl 8 42 true true (by unfold RgI; omega) hru.1 hru.2.1 hru.2.2) (step1_sm hl4) (r4.mono hS5)
    have o1 : one nv5 = true := by obtain ⟨_, a, rfl, _⟩ := s1; rfl
    have o2 : one wv5 = true := by obtain ⟨_, a, rfl, _⟩ := s2; rfl
    have o3 : one tv5 = true := by obtain ⟨_, a, rfl, _⟩ := s3; rfl
    have hl5 := x5.1
    have hlc := hxc.1
    rw [List.length_append] at hl5
    refine op_callK (by simp only [go_sem, binC, e6]; exact k5) ?_
    simp only [go_sem, binC, hN, o1, o2, o3]
    refine ⟨by omega, ?_⟩
    refine wpc_gen fun H6 hH6 => ?_
    have hx56 : AgX [] H5 H6 := hH6 ▸ AgX.app [] _ _
    have hb6 : H6[H5.length]? = some ⟨[nv5, wv5, tv5], 0, 0, false, true⟩ := hH6 ▸ get_new0 _ _
    clear hH6
    rw [hrun] at s1 s2
    have s16 := s1.mono (agx_sub hx56)
    have hwr : SlR Co.int (vw 0 H6) (sli H3.length 0 4) (wants nums nd na nb) := rw4.mono (agx_sub (((hxc.tr hxb).tr x5).tr hx56))
    have hsl : (nums.set 0 (valN nums (u1, u2, u3))).length = nums.length := List.length_set
    obtain ⟨ob, oo, hnv5, _⟩ := gcI0 s16 (i := 0) (by simp only [hsl]; omega)
    subst hnv5
    have g5 := gcI2 s16 (i := 0) (by simp only [hsl]; omega)
    rw [Nat.add_zero] at g5
    simp only [List.getElem_set_self, hsl] at g5
    have gw := gcI2 hwr (i := i) (by rw [hwl]; exact hi4)
    rw [← hwi, ← hvN, Nat.zero_add] at gw
    obtain ⟨_, wa5, rfl, _⟩ := s2
    refine seq_regD ?_
    simp only [go_sem, binC, gc_of hb6, inBlk_some, hsl]
    refine ⟨⟨by omega, by omega⟩, ?_⟩
    simp only [go_sem, binC, show (0 : Int).toNat * 1 = 0 from rfl, Nat.add_zero, g5, e12, e13]
    refine ⟨⟨by omega, by omega⟩, ?_⟩
    simp only [go_sem, binC, Int.toNat_natCast, Nat.mul_one, Nat.zero_add, gw, gc_of hb6, inBlk_some, bne_self_eq_false, List.length_singleton]
    refine wpc_cond (t := false) (by rfl) ?_
    simp only [go_sem, binC]
    refine wpc_skip ?_
    simp only [go_sem, binC, out_n, thenX_n]
    refine wpc_reg ?_
    simp only [go_sem, binC, e13, hw1]
    simp only [go_sem, binC, thenX_n]
    exact ih (i + 1) _ H6 (by omega) ((hxc.tr hxb).tr (x5.tr hx56)) (by simp only [go_sem, binC, e5]) (by simp only [go_sem, binC, e6]) (by simp only [go_sem, binC, e10']) (by simp only [go_sem, binC, e12]) (by simp only [go_sem, binC])
end Go.Proofs.YtpaoppgbgjnkmaaI
end
section
/- The law FnRunSwap on the ideal machine. -/
set_option linter.unusedVariables false
set_option linter.unusedSimpArgs false
namespace Go.Proofs.YtpaoppgbgjnkmaaI
open Go Go.RowKit
def c_lawRS : IFn := ⟨2, 109, [.t 4],
 .seq (.reg none [
    ⟨(some 4), none, .mov (.c (.bool false))⟩])
 (.seq (.seq (.reg none [
     ⟨(some 14), none, .mov (.t 0)⟩,
     ⟨(some 15), none, .len (.t 14)⟩,
     ⟨(some 16), none, .bin .gtr (.t 15) (.c (.int .i64 1048576))⟩,
     ⟨(some 17), none, .mov (.t 16)⟩,
     ⟨(some 18), (some (17, false)), .mov (.t 1)⟩,
     ⟨(some 19), (some (17, false)), .len (.t 18)⟩,
     ⟨(some 20), (some (17, false)), .bin .gtr (.t 19) (.c (.int .i64 1048576))⟩,
     ⟨(some 21), none, .pick (.t 17) (.c (.bool true)) (.t 20)⟩])
  (.cond (.t 21) (.seq (.reg none [
      ⟨(some 4), none, .mov (.c (.bool true))⟩])
   (.ret)) (.skip)))
 (.seq (.reg none [
    ⟨(some 23), none, .mov (.t 0)⟩,
    ⟨(some 24), none, .call .k (.f 12) [(.t 23)]⟩,
    ⟨(some 22), none, .mov (.t 24)⟩,
    ⟨(some 25), none, .ext (.t 22) 0⟩,
    ⟨(some 26), none, .ext (.t 22) 1⟩,
    ⟨(some 5), none, .new [(.slice none 0 0), (.slice none 0 0)]⟩,
    ⟨none, none, .store 2 (.t 5) (.t 25)⟩,
    ⟨(some 6), none, .mov (.t 26)⟩])
 (.seq (.reg none [
    ⟨(some 27), none, .load true 2 (.t 5)⟩,
    ⟨(some 28), none, .mov (.t 6)⟩,
    ⟨(some 29), none, .call .q (.f 13) [(.t 27), (.t 28)]⟩,
    ⟨(some 7), none, .mov (.t 29)⟩])
 (.seq (.seq (.reg none [
     ⟨(some 30), none, .mov (.t 7)⟩,
     ⟨(some 31), none, .load true 2 (.t 5)⟩,
     ⟨(some 32), none, .mov (.t 6)⟩,
     ⟨(some 33), none, .call .q (.f 15) [(.t 31), (.t 32)]⟩,
     ⟨(some 34), none, .beq true (.t 30) (.t 33)⟩,
     ⟨(some 35), none, .mov (.t 34)⟩,
     ⟨(some 36), (some (35, false)), .mov (.t 7)⟩,
     ⟨(some 37), (some (35, false)), .un .not (.t 36)⟩,
     ⟨(some 38), none, .pick (.t 35) (.c (.bool true)) (.t 37)⟩,
     ⟨(some 39), none, .mov (.t 38)⟩,
     ⟨(some 40), (some (39, false)), .mov (.t 6)⟩,
     ⟨(some 41), (some (39, false)), .len (.t 40)⟩,
     ⟨(some 42), (some (39, false)), .bin .lss (.t 41) (.c (.int .i64 2))⟩,
     ⟨(some 43), none, .pick (.t 39) (.c (.bool true)) (.t 42)⟩])
  (.cond (.t 43) (.seq (.reg none [
      ⟨(some 44), none, .mov (.t 7)⟩,
      ⟨(some 45), none, .load true 2 (.t 5)⟩,
      ⟨(some 46), none, .mov (.t 6)⟩,
      ⟨(some 47), none, .call .q (.f 15) [(.t 45), (.t 46)]⟩,
      ⟨(some 48), none, .beq false (.t 44) (.t 47)⟩,
      ⟨(some 4), none, .mov (.t 48)⟩])
   (.ret)) (.skip)))
 (.seq (.reg none [
    ⟨(some 49), none, .mov (.t 1)⟩,
    ⟨(some 50), none, .len (.t 49)⟩,
    ⟨(some 51), none, .bin .rem (.t 50) (.c (.int .i64 10))⟩,
    ⟨(some 52), none, .build [(.int .i64 0), (.int .i64 0), (.int .i64 0)] [(0, 1, (.c (.int .i64 1))), (1, 1, (.t 51))]⟩,
    ⟨(some 53), none, .build [(.int .i64 0), (.int .i64 0), (.int .i64 0), (.int .i64 0), (.int .i64 0), (.int .i64 0), (.slice none 0 0), (.slice none 0 0)] [(0, 1, (.c (.int .i64 1))), (1, 1, (.c (.int .i64 0))), (2, 3, (.t 52))]⟩,
    ⟨(some 8), none, .new [(.int .i64 0), (.int .i64 0), (.int .i64 0), (.int .i64 0), (.int .i64 0), (.int .i64 0), (.slice none 0 0), (.slice none 0 0)]⟩,
    ⟨none, none, .store 8 (.t 8) (.t 53)⟩])
 (.seq (.reg none [
    ⟨(some 54), none, .build [(.int .i64 0), (.int .i64 0), (.int .i64 0)] [(0, 1, (.c (.int .i64 2))), (1, 1, (.c (.int .i64 1)))]⟩,
    ⟨(some 55), none, .build [(.int .i64 0), (.int .i64 0), (.int .i64 0), (.int .i64 0), (.int .i64 0), (.int .i64 0), (.slice none 0 0), (.slice none 0 0)] [(0, 1, (.c (.int .i64 1))), (1, 1, (.c (.int .i64 1))), (2, 3, (.t 54))]⟩,
    ⟨(some 9), none, .new [(.int .i64 0), (.int .i64 0), (.int .i64 0), (.int .i64 0), (.int .i64 0), (.int .i64 0), (.slice none 0 0), (.slice none 0 0)]⟩,
    ⟨none, none, .store 8 (.t 9) (.t 55)⟩])
 (.seq (.reg none [
    ⟨(some 57), none, .fad 0 (.t 5)⟩,
    ⟨(some 58), none, .load false 1 (.t 57)⟩,
    ⟨(some 59), none, .load true 8 (.t 8)⟩,
    ⟨(some 60), none, .load true 8 (.t 9)⟩,
    ⟨(some 61), none, .lit 8 42 2 [(.int .i64 0), (.int .i64 0), (.int .i64 0), (.int .i64 0), (.int .i64 0), (.int .i64 0), (.slice none 0 0), (.slice none 0 0), (.int .i64 0), (.int .i64 0), (.int .i64 0), (.int .i64 0), (.int .i64 0), (.int .i64 0), (.slice none 0 0), (.slice none 0 0)] [(0, 8, (.t 59)), (8, 8, (.t 60))]⟩,
    ⟨(some 62), none, .build [(.slice none 0 0), (.slice none 0 0)] [(0, 1, (.t 58)), (1, 1, (.t 61))]⟩,
    ⟨(some 63), none, .mov (.t 6)⟩,
    ⟨(some 64), none, .call .k (.f 14) [(.t 62), (.t 63)]⟩,
    ⟨(some 56), none, .mov (.t 64)⟩,
    ⟨(some 65), none, .ext (.t 56) 0⟩,
    ⟨(some 66), none, .ext (.t 56) 1⟩,
    ⟨(some 10), none, .new [(.slice none 0 0), (.slice none 0 0), (.slice none 0 0)]⟩,
    ⟨none, none, .store 3 (.t 10) (.t 65)⟩,
    ⟨(some 11), none, .mov (.t 66)⟩])
 (.seq (.reg none [
    ⟨(some 68), none, .fad 0 (.t 5)⟩,
    ⟨(some 69), none, .load false 1 (.t 68)⟩,
    ⟨(some 70), none, .load true 8 (.t 9)⟩,
    ⟨(some 71), none, .load true 8 (.t 8)⟩,
    ⟨(some 72), none, .lit 8 42 2 [(.int .i64 0), (.int .i64 0), (.int .i64 0), (.int .i64 0), (.int .i64 0), (.int .i64 0), (.slice none 0 0), (.slice none 0 0), (.int .i64 0), (.int .i64 0), (.int .i64 0), (.int .i64 0), (.int .i64 0), (.int .i64 0), (.slice none 0 0), (.slice none 0 0)] [(0, 8, (.t 70)), (8, 8, (.t 71))]⟩,
    ⟨(some 73), none, .build [(.slice none 0 0), (.slice none 0 0)] [(0, 1, (.t 69)), (1, 1, (.t 72))]⟩,
    ⟨(some 74), none, .mov (.t 6)⟩,
    ⟨(some 75), none, .call .k (.f 14) [(.t 73), (.t 74)]⟩,
    ⟨(some 67), none, .mov (.t 75)⟩,
    ⟨(some 76), none, .ext (.t 67) 0⟩,
    ⟨(some 77), none, .ext (.t 67) 1⟩,
    ⟨(some 12), none, .new [(.slice none 0 0), (.slice none 0 0), (.slice none 0 0)]⟩,
    ⟨none, none, .store 3 (.t 12) (.t 76)⟩,
    ⟨(some 13), none, .mov (.t 77)⟩])
 (.seq (.reg (some 29) [
    ⟨(some 78), none, .mov (.t 11)⟩,
    ⟨(some 79), none, .mov (.t 78)⟩,
    ⟨(some 80), (some (79, true)), .mov (.t 13)⟩,
    ⟨(some 81), none, .pick (.t 79) (.t 80) (.c (.bool false))⟩,
    ⟨(some 82), none, .mov (.t 81)⟩,
    ⟨(some 83), (some (82, true)), .fad 0 (.t 10)⟩,
    ⟨(some 84), (some (82, true)), .load false 1 (.t 83)⟩,
    ⟨(some 85), (some (82, true)), .fad 0 (.t 12)⟩,
    ⟨(some 86), (some (82, true)), .load false 1 (.t 85)⟩,
    ⟨(some 87), (some (82, true)), .call .q (.f 16) [(.t 84), (.t 86)]⟩,
    ⟨(some 88), none, .pick (.t 82) (.t 87) (.c (.bool false))⟩,
    ⟨(some 89), none, .mov (.t 88)⟩,
    ⟨(some 90), (some (89, true)), .fad 0 (.t 10)⟩,
    ⟨(some 91), (some (89, true)), .load false 1 (.t 90)⟩,
    ⟨(some 92), (some (89, true)), .iad 1 (.t 91) (.c (.int .i64 0))⟩,
    ⟨(some 93), (some (89, true)), .load false 1 (.t 92)⟩,
    ⟨(some 94), (some (89, true)), .mov (.t 1)⟩,
    ⟨(some 95), (some (89, true)), .len (.t 94)⟩,
    ⟨(some 96), (some (89, true)), .bin .rem (.t 95) (.c (.int .i64 10))⟩,
    ⟨(some 97), (some (89, true)), .bin .eql (.t 93) (.t 96)⟩,
    ⟨(some 98), none, .pick (.t 89) (.t 97) (.c (.bool false))⟩,
    ⟨(some 99), none, .mov (.t 98)⟩,
    ⟨(some 100), (some (99, true)), .fad 0 (.t 10)⟩,
    ⟨(some 101), (some (99, true)), .load false 1 (.t 100)⟩,
    ⟨(some 102), (some (99, true)), .iad 1 (.t 101) (.c (.int .i64 1))⟩,
    ⟨(some 103), (some (99, true)), .load false 1 (.t 102)⟩,
    ⟨(some 104), (some (99, true)), .mov (.t 6)⟩,
    ⟨(some 105), (some (99, true)), .iad 1 (.t 104) (.c (.int .i64 1))⟩,
    ⟨(some 106), (some (99, true)), .load false 1 (.t 105)⟩,
    ⟨(some 107), (some (99, true)), .bin .eql (.t 103) (.t 106)⟩,
    ⟨(some 108), none, .pick (.t 99) (.t 107) (.c (.bool false))⟩,
    ⟨(some 4), none, .mov (.t 108)⟩])
 (.ret))))))))))⟩
def c_lcInts : IFn := ⟨2, 26, [.t 4],
 .seq (.reg none [
    ⟨(some 4), none, .mov (.c (.bool false))⟩])
 (.seq (.seq (.reg none [
     ⟨(some 6), none, .mov (.t 0)⟩,
     ⟨(some 7), none, .len (.t 6)⟩,
     ⟨(some 8), none, .mov (.t 1)⟩,
     ⟨(some 9), none, .len (.t 8)⟩,
     ⟨(some 10), none, .bin .neq (.t 7) (.t 9)⟩])
  (.cond (.t 10) (.seq (.reg none [
      ⟨(some 4), none, .mov (.c (.bool false))⟩])
   (.ret)) (.skip)))
 (.seq (.seq (.reg none [
     ⟨(some 5), none, .mov (.c (.int .i64 0))⟩])
  (.block 0 (.loop (.seq (.seq (.reg none [
        ⟨(some 11), none, .mov (.t 5)⟩,
        ⟨(some 12), none, .mov (.t 0)⟩,
        ⟨(some 13), none, .len (.t 12)⟩,
        ⟨(some 14), none, .bin .lss (.t 11) (.t 13)⟩])
     (.cond (.t 14) (.skip) (.exit 0)))
    (.seq (.block 1 (.seq (.reg (some 8) [
         ⟨(some 17), none, .mov (.t 0)⟩,
         ⟨(some 18), none, .mov (.t 5)⟩,
         ⟨(some 19), none, .iad 1 (.t 17) (.t 18)⟩,
         ⟨(some 20), none, .load false 1 (.t 19)⟩,
         ⟨(some 21), none, .mov (.t 1)⟩,
         ⟨(some 22), none, .mov (.t 5)⟩,
         ⟨(some 23), none, .iad 1 (.t 21) (.t 22)⟩,
         ⟨(some 24), none, .load false 1 (.t 23)⟩,
         ⟨(some 25), none, .bin .neq (.t 20) (.t 24)⟩])
      (.cond (.t 25) (.seq (.reg none [
          ⟨(some 4), none, .mov (.c (.bool false))⟩])
       (.ret)) (.skip))))
    (.reg none [
      ⟨(some 15), none, .mov (.t 5)⟩,
      ⟨(some 16), none, .bin .add (.t 15) (.c (.int .i64 1))⟩,
      ⟨(some 5), none, .mov (.t 16)⟩]))))))
 (.seq (.reg none [
    ⟨(some 4), none, .mov (.c (.bool true))⟩])
 (.ret))))⟩
/-- A region in two pieces: what comes behind is out of the walk's sight. -/
theorem wpp_app {F : Nat → Option IFn} {lo : Nat} {K : Env → Heap → Prop} {p : Nat} {l2 : List IOper} : ∀ (l1 : List IOper) (e : Env) (H : Heap), wpp F lo l1.length l1 e H (fun e1 H1 => wpp F lo p l2 e1 H1 K) → wpp F lo (l1.length + p) (l1 ++ l2) e H K
  | [], e, H, h => by
    have h' : wpp F lo p l2 e H K := h
    simpa using h'
  | o :: r, e, H, h => by
    rw [List.length_cons, Nat.add_right_comm, List.cons_append]
    refine ⟨fun hr => ?_, fun hr => wpp_app r _ _ (h.2 hr)⟩
    exact wpOp_mono (h.1 hr) fun v H1 h1 => wpp_app r _ _ h1
theorem wpp_cut {F : Nat → Option IFn} {lo : Nat} {K : Env → Heap → Prop} {p : Nat} {l : List IOper} {e : Env} {H : Heap} (a : Nat) (ha : a ≤ p) (hl : a ≤ l.length)
    (h : ∀ Kc : Env → Heap → Prop, (∀ e1 H1, wpp F lo (p - a) (l.drop a) e1 H1 K → Kc e1 H1) → wpp F lo a (l.take a) e H Kc) : wpp F lo p l e H K := by
  have h1 := h (fun e1 H1 => wpp F lo (p - a) (l.drop a) e1 H1 K) fun _ _ h => h
  have h2 : (l.take a).length = a := by rw [List.length_take]; omega
  have h3 := wpp_app (p := p - a) (l2 := l.drop a) (l.take a) e H (by rw [h2]; exact h1)
  rw [h2, List.take_append_drop, show a + (p - a) = p by omega] at h3
  exact h3
def IntsOk (F : Nat → Option IFn) (f : Nat) : Prop := ∀ (H : Heap) (v w : Value) (l l' : List Int), SlR Co.int (vw 0 H) v l → SlR Co.int (vw 0 H) w l' → QC F f [v, w] H (.bool (decide (l = l')))
theorem lcInts_ok {F : Nat → Option IFn} {f : Nat} (hf : F f = some c_lcInts) : IntsOk F f := by
  intro H v w l l' hv hw
  obtain ⟨h0, a, rfl, _⟩ := id hv
  obtain ⟨h0', a', rfl, _⟩ := id hw
  refine QC.mk hf rfl ?_
  refine seq_reg ?_
  simp only [go_sem, binC]
  by_cases hl : l.length = l'.length
  rotate_left
  · have hne : ((l.length : Int) != (l'.length : Int)) = true := by simp; omega
    refine seq_assoc (seq_reg ?_)
    simp only [go_sem, binC, hne]
    refine seq_cond (t := true) rfl ?_
    simp only [go_sem, binC]
    refine seq_assoc (seq_reg ?_)
    simp only [go_sem, binC]
    refine seq_ret ⟨Or.inr rfl, .bool false, by simp only [go_sem, binC], ?_, rfl⟩
    rw [decide_eq_false (fun h => hl (by rw [h]))]
  have hne : ((l.length : Int) != (l'.length : Int)) = false := by simp; omega
  refine seq_assoc (seq_reg ?_)
  simp only [go_sem, binC, hne]
  refine seq_cond (t := false) rfl ?_
  simp only [go_sem, binC]
  refine seq_skip (seq_assoc (seq_reg ?_))
  simp only [go_sem, binC]
  refine seq_block (wpc_loop ?_)
  suffices h : ∀ (k i : Nat) (e : Env), i + k = l.length → e 0 = .slice a l.length l.length → e 1 = .slice a' l'.length l'.length → e 5 = .int .i64 i → (l = l' ↔ l.drop i = l'.drop i) → W F H.length _ e _ _ from
    h l.length 0 _ (by omega) (by simp only [go_sem, binC]) (by simp only [go_sem, binC]) (by (simp only [go_sem, binC]) <;> rfl) (by simp)
  intro k
  induction k with
  | zero =>
    intro i e hi e0 e1 e5 heq
    refine lp_step ?_
    refine seq_assoc (seq_reg ?_)
    simp only [go_sem, binC, e0, e5]
    refine seq_cond (t := false) (by simp only [go_sem, binC]; rw [decide_eq_false (by omega)]) ?_
    simp only [go_sem, binC]
    refine seq_exit ?_
    simp only [go_sem, binC, thenX_e, out_e, thenX_n]
    refine seq_reg ?_
    simp only [go_sem, binC]
    refine wpc_ret ⟨Or.inr rfl, .bool true, by simp only [go_sem, binC], ?_, rfl⟩
    rw [decide_eq_true (heq.2 (by rw [List.drop_of_length_le (by omega), List.drop_of_length_le (by omega)]))]
  | succ k ih =>
    intro i e hi e0 e1 e5 heq
    have hil : i < l.length := by omega
    have hil' : i < l'.length := by omega
    obtain ⟨b, o, hv1, hg⟩ := gcI0 hv hil
    obtain ⟨b', o', hv2, hg'⟩ := gcI0 hw hil'
    simp only [Value.slice.injEq, and_true] at hv1 hv2
    subst hv1 hv2
    have hw1 : IntKind.i64.wrap ((i : Int) + 1) = ((i + 1 : Nat) : Int) := by rw [wrap_id (by omega) (by omega)]; omega
    rw [List.drop_eq_getElem_cons hil, List.drop_eq_getElem_cons hil', List.cons.injEq] at heq
    refine lp_step ?_
    refine seq_assoc (seq_reg ?_)
    simp only [go_sem, binC, e0, e5]
    refine seq_cond (t := true) (by simp only [go_sem, binC]; rw [decide_eq_true (by omega)]) ?_
    simp only [go_sem, binC]
    refine seq_skip (seq_block (seq_regD ?_))
    simp only [go_sem, binC, e0, e5]
    refine ⟨⟨by omega, by omega⟩, ?_⟩
    simp only [go_sem, binC, Int.toNat_natCast, Nat.mul_one, hg, e1, e5]
    refine ⟨⟨by omega, by omega⟩, ?_⟩
    simp only [go_sem, binC, Int.toNat_natCast, Nat.mul_one, hg']
    by_cases hq : l[i] = l'[i]
    · have hb : (l[i] != l'[i]) = false := by rw [hq]; exact bne_self_eq_false _
      simp only [go_sem, binC, hb]
      refine wpc_cond (t := false) (by (simp only [go_sem, binC]) <;> rfl) ?_
      simp only [go_sem, binC]
      refine wpc_skip ?_
      simp only [go_sem, binC, out_n, thenX_n]
      refine wpc_reg ?_
      simp only [go_sem, binC, e5, hw1]
      simp only [go_sem, binC, thenX_n]
      exact ih (i + 1) _ (by omega) (by simp only [go_sem, binC, e0]) (by simp only [go_sem, binC, e1]) (by simp only [go_sem, binC]) (by rw [heq]; exact ⟨fun h => h.2, fun h => ⟨hq, h⟩⟩)
    · have hb : (l[i] != l'[i]) = true := by simpa using hq
      simp only [go_sem, binC, hb]
      refine wpc_cond (t := true) (by (simp only [go_sem, binC]) <;> rfl) ?_
      simp only [go_sem, binC]
      refine seq_reg ?_
      simp only [go_sem, binC]
      refine wpc_ret ?_
      simp only [go_sem, binC, out_r, thenX_r]
      refine ⟨Or.inr rfl, .bool false, by simp only [go_sem, binC], ?_, rfl⟩
      rw [decide_eq_false (fun h => hq (heq.1 h).1)]
theorem step2_sl {H : Heap} {x a b c x' a' b' c' : Int} (es et : Nat) (ap so : Bool) (r : RgI x ∧ RgI a ∧ RgI b ∧ RgI c) (r' : RgI x' ∧ RgI a' ∧ RgI b' ∧ RgI c') : SlR (Co.step 1) (vw 0 (H ++ [⟨[.int .i64 1, .int .i64 x, .int .i64 a, .int .i64 b, .int .i64 c, .int .i64 0, nilS, nilS, .int .i64 1, .int .i64 x', .int .i64 a', .int .i64 b', .int .i64 c', .int .i64 0, nilS, nilS], es, et, ap, so⟩])) (sli H.length 0 2) [setS x (a, b, c), setS x' (a', b', c')] := by
  have hn : ∀ V, SlR (Co.step 0) V nilS [] := fun V => ⟨by simp, none, rfl, .inl rfl⟩
  refine ⟨by simp, _, rfl, .inr ⟨H.length, 0, rfl, fun i hi => ?_⟩⟩
  have : i = 0 ∨ i = 1 := by simp at hi; omega
  rcases this with rfl | rfl
  · refine ⟨_, ?_, step_rd rone r.1 r.2.1 r.2.2.1 r.2.2.2 ⟨by omega, by omega⟩ (hn _) (hn _)⟩
    unfold rng vw
    rw [if_pos (Nat.zero_le _), get_new0]
    rfl
  · refine ⟨_, ?_, step_rd rone r'.1 r'.2.1 r'.2.2.1 r'.2.2.2 ⟨by omega, by omega⟩ (hn _) (hn _)⟩
    unfold rng vw
    rw [if_pos (Nat.zero_le _), get_new0]
    rfl
theorem step2_sm {x x' : Int} {v v' : Int × Int × Int} {ls : List (Int × Int)} (h : ls.length ≤ 4) : (Co.prog 1).sm (ls, [setS x v, setS x' v']) := by
  refine ⟨⟨by simp only; omega, fun a _ => ⟨trivial, trivial⟩⟩, by simp, fun a ha => ?_⟩
  simp only [List.mem_cons, List.not_mem_nil, or_false] at ha
  rcases ha with rfl | rfl
  · exact setS_sm
  · exact setS_sm
theorem runOf_swap {d : Nat} {ls : List (Int × Int)} {l : List (TStep d)} {nums : List Int} (h : numsB d (ls, l) nums = true) {nd : Nat} (hd : nd < 10) (h2 : 2 ≤ nums.length) :
    numsB 1 (ls, [setS 0 (1, nd, 0), setS 1 (2, 1, 0)]) nums = true ∧ (runOf 1 (ls, [setS 0 (1, nd, 0), setS 1 (2, 1, 0)]) nums).1 = nums.set 0 nd ∧
    numsB 1 (ls, [setS 1 (2, 1, 0), setS 0 (1, nd, 0)]) nums = true ∧ (runOf 1 (ls, [setS 1 (2, 1, 0), setS 0 (1, nd, 0)]) nums).1 = nums.set 0 nd := by
  obtain ⟨hl, _, _⟩ := numsB_len h
  have v0 : varB ls.length 0 = true := by unfold varB inB; simp; omega
  have v1 : varB ls.length 1 = true := by unfold varB inB; simp; omega
  have i9 : inB (nd : Int) 0 9 = true := by unfold inB; simp; omega
  have w0 : valB ls.length (1, (nd : Int), 0) = true := by simp [valB, i9]
  have w1 : valB ls.length (2, 1, 0) = true := by simp [valB, v1]
  have h1 : numsB 1 (ls, [setS 0 (1, nd, 0), setS 1 (2, 1, 0)]) nums = true := numsB_new h (by simp [stepB_setS v0 w0, stepB_setS v1 w1]) (by simp [cntL, cntT_setS]) (by simp [cntL, cntT_setS])
  have h3 : numsB 1 (ls, [setS 1 (2, 1, 0), setS 0 (1, nd, 0)]) nums = true := numsB_new h (by simp [stepB_setS v0 w0, stepB_setS v1 w1]) (by simp [cntL, cntT_setS]) (by simp [cntL, cntT_setS])
  refine ⟨h1, ?_, h3, ?_⟩
  all_goals
    unfold runOf
    rw [if_pos (by assumption), runL, List.foldl_cons, List.foldl_cons, List.foldl_nil, runT_setS, runT_setS]
    obtain ⟨x0, x1, r, rfl⟩ : ∃ x0 x1 r, nums = x0 :: x1 :: r := by
      cases nums with
      | nil => simp at h2
      | cons x0 r => cases r with
        | nil => simp at h2
        | cons x1 r => exact ⟨_, _, _, rfl⟩
    simp [valN]
set_option maxHeartbeats 4000000 in
theorem lawRS_ok {F : Nat → Option IFn} {f : Nat} (hf : F f = some c_lawRS) (gd : DrawNumsOk F 12) (gi : NumsOk F 13) (gr : RunOk F 14) (gs : NumsOk F 15) (gl : IntsOk F 16) : LawB2 F f := by
  intro H v w code more hv hw
  have hv0 := hv
  obtain ⟨h0, a, rfl, _⟩ := hv
  obtain ⟨hm0, am, rfl, _⟩ := hw
  refine QC.mk hf rfl ?_
  refine seq_reg ?_
  simp only [go_sem, binC]
  by_cases hbig : 1048576 < (code.length : Int)
  · refine seq_assoc (seq_reg ?_)
    simp only [go_sem, binC, decide_eq_true hbig]
    refine seq_cond (t := true) rfl ?_
    simp only [go_sem, binC]
    refine seq_assoc (seq_reg ?_)
    simp only [go_sem, binC]
    exact seq_ret ⟨Or.inr rfl, .bool true, by simp only [go_sem, binC], rfl, rfl⟩
  by_cases hbig2 : 1048576 < (more.length : Int)
  · refine seq_assoc (seq_reg ?_)
    simp only [go_sem, binC, decide_eq_false hbig, decide_eq_true hbig2]
    refine seq_cond (t := true) rfl ?_
    simp only [go_sem, binC]
    refine seq_assoc (seq_reg ?_)
    simp only [go_sem, binC]
    exact seq_ret ⟨Or.inr rfl, .bool true, by simp only [go_sem, binC], rfl, rfl⟩
  refine seq_assoc (seq_reg ?_)
  simp only [go_sem, binC, decide_eq_false hbig, decide_eq_false hbig2]
  refine seq_cond (t := false) rfl ?_
  simp only [go_sem, binC]
  refine seq_skip (seq_reg ?_)
  simp only [go_sem, binC]
  obtain ⟨d, lv, sv, nv, ls, l, nums, H1, k, hx, r1, r2, r3, r4⟩ := gd H _ code hv0
  have hl1 := hx.1
  have olv : one lv = true := by obtain ⟨_, a, rfl, _⟩ := r1; rfl
  have osv : one sv = true := by obtain ⟨_, a, rfl, _⟩ := r2; rfl
  refine op_callK (by simp only [go_sem, binC]; exact k) ?_
  simp only [go_sem, binC, olv, osv]
  refine ⟨by omega, ?_⟩
  refine wpc_gen fun H2 hH2 => ?_
  have hb : H2[H1.length]? = some ⟨[lv, sv], 0, 0, false, true⟩ := hH2 ▸ get_new0 _ _
  have hS : Sub (vw 0 H1) (vw 0 H2) := hH2 ▸ vw_app 0 H1 _
  have hl2 : H2.length = H1.length + 1 := by rw [hH2, List.length_append]; rfl
  replace r1 := r1.mono hS
  replace r2 := r2.mono hS
  replace r4 := r4.mono hS
  clear hH2 hS
  obtain ⟨hln, na0, hnv, _⟩ := id r4
  subst hnv
  obtain ⟨hlls, la0, hlv, _⟩ := id r1
  subst hlv
  refine seq_reg ?_
  simp only [go_sem, binC, gc_of hb, inBlk_some, osv]
  refine op_callQ (by simp only [go_sem, binC]; exact gi H2 d _ _ _ ls l nums r1 r2 r3 r4) ?_
  simp only [go_sem, binC]
  cases hB : numsB d (ls, l) nums with
  | false =>
    refine seq_assoc (seq_reg ?_)
    simp only [go_sem, binC, gc_of hb, inBlk_some, osv]
    refine op_callQ (by simp only [go_sem, binC]; exact gs H2 d _ _ _ ls l nums r1 r2 r3 r4) ?_
    simp only [go_sem, binC, hB, beq_self_eq_true]
    refine seq_cond (t := true) rfl ?_
    simp only [go_sem, binC]
    refine seq_assoc (seq_reg ?_)
    simp only [go_sem, binC, gc_of hb, inBlk_some, osv]
    refine op_callQ (by simp only [go_sem, binC]; exact gs H2 d _ _ _ ls l nums r1 r2 r3 r4) ?_
    simp only [go_sem, binC, hB, beq_self_eq_true]
    exact seq_ret ⟨Or.inr rfl, .bool true, by simp only [go_sem, binC], rfl, rfl⟩
  | true =>
  obtain ⟨hnl, hl4, hrg⟩ := numsB_len hB
  by_cases hz : nums.length < 2
  · have hz0 : decide ((nums.length : Int) < 2) = true := decide_eq_true (by omega)
    refine seq_assoc (seq_reg ?_)
    simp only [go_sem, binC, gc_of hb, inBlk_some, osv]
    refine op_callQ (by simp only [go_sem, binC]; exact gs H2 d _ _ _ ls l nums r1 r2 r3 r4) ?_
    simp only [go_sem, binC, hB, beq_self_eq_true, bne_self_eq_false, hz0]
    refine seq_cond (t := true) rfl ?_
    simp only [go_sem, binC]
    refine seq_assoc (seq_reg ?_)
    simp only [go_sem, binC, gc_of hb, inBlk_some, osv]
    refine op_callQ (by simp only [go_sem, binC]; exact gs H2 d _ _ _ ls l nums r1 r2 r3 r4) ?_
    simp only [go_sem, binC, hB, beq_self_eq_true]
    exact seq_ret ⟨Or.inr rfl, .bool true, by simp only [go_sem, binC], rfl, rfl⟩
  have hz0 : decide ((nums.length : Int) < 2) = false := decide_eq_false (by omega)
  refine seq_assoc (seq_reg ?_)
  simp only [go_sem, binC, gc_of hb, inBlk_some, osv]
  refine op_callQ (by simp only [go_sem, binC]; exact gs H2 d _ _ _ ls l nums r1 r2 r3 r4) ?_
  simp only [go_sem, binC, hB, beq_self_eq_true, bne_self_eq_false, hz0]
  refine seq_cond (t := false) rfl ?_
  simp only [go_sem, binC]
  have ed : binI .rem .i64 (more.length : Int) 10 = some (.int .i64 ((more.length % 10 : Nat) : Int)) := by rw [rem_eq (by omega), Int.tmod_eq_emod_of_nonneg (by omega)]; rfl
  have hnd := Nat.mod_lt more.length (show 0 < 10 by omega)
  refine seq_skip (seq_reg ?_)
  simp only [go_sem, binC, ed]
  generalize more.length % 10 = nd at hnd ed
  have rnd : RgI nd := by unfold RgI; omega
  have r0 : RgI 0 := by unfold RgI; omega
  have r11 : RgI 1 := by unfold RgI; omega
  have r22 : RgI 2 := by unfold RgI; omega
  obtain ⟨n1, q1, n2, q2⟩ := runOf_swap hB hnd (by omega)
  refine ⟨by omega, ?_⟩
  refine wpc_gen fun H3 hH3 => ?_
  have hx3 : AgX [] H2 H3 := hH3 ▸ AgX.app [] _ _
  have hba : H3[H2.length]? = some ⟨[.int .i64 1, .int .i64 0, .int .i64 1, .int .i64 nd, .int .i64 0, .int .i64 0, nilS, nilS], 0, 0, false, true⟩ := hH3 ▸ get_new0 _ _
  clear hH3
  have hl3 := hx3.1
  refine seq_reg ?_
  simp only [go_sem, binC]
  refine ⟨by omega, ?_⟩
  refine wpc_gen fun H4 hH4 => ?_
  have hx4 : AgX [] H3 H4 := hH4 ▸ AgX.app [] _ _
  have hbb4 : H4[H3.length]? = some ⟨[.int .i64 1, .int .i64 1, .int .i64 2, .int .i64 1, .int .i64 0, .int .i64 0, nilS, nilS], 0, 0, false, true⟩ := hH4 ▸ get_new0 _ _
  clear hH4
  have hba4 := hx4.get hba (by simp)
  have hx24 := hx3.tr hx4
  have hb4 := hx24.get hb (by simp)
  have hl4' := hx24.1
  refine seq_reg ?_
  simp only [go_sem, binC, gc_of hb4, gc_of hba4, gc_of hbb4, inBlk_some]
  have hxa : AgX [] H4 (H4 ++ [⟨[.int .i64 1, .int .i64 0, .int .i64 1, .int .i64 nd, .int .i64 0, .int .i64 0, nilS, nilS, .int .i64 1, .int .i64 1, .int .i64 2, .int .i64 1, .int .i64 0, .int .i64 0, nilS, nilS], 8, 42, true, true⟩]) := AgX.app [] _ _
  have hSa := agx_sub (hx24.tr hxa)
  obtain ⟨nv5, wv5, tv5, H5, k5, x5, s1, s2, s3⟩ := gr _ 1 _ _ _ ls _ nums (r1.mono hSa) (step2_sl 8 42 true true ⟨r0, r11, rnd, r0⟩ ⟨r11, r22, r11, r0⟩) (step2_sm hl4) (r4.mono hSa)
  have o1 : one nv5 = true := by obtain ⟨_, a, rfl, _⟩ := s1; rfl
  have o2 : one wv5 = true := by obtain ⟨_, a, rfl, _⟩ := s2; rfl
  have o3 : one tv5 = true := by obtain ⟨_, a, rfl, _⟩ := s3; rfl
  have hl5 := x5.1
  rw [List.length_append] at hl5
  refine op_callK (by simp only [go_sem, binC]; exact k5) ?_
  simp only [go_sem, binC, n1, o1, o2, o3]
  refine ⟨by omega, ?_⟩
  refine wpc_gen fun H6 hH6 => ?_
  have hx56 : AgX [] H5 H6 := hH6 ▸ AgX.app [] _ _
  have hb6x : H6[H5.length]? = some ⟨[nv5, wv5, tv5], 0, 0, false, true⟩ := hH6 ▸ get_new0 _ _
  have hl6 : H6.length = H5.length + 1 := by rw [hH6, List.length_append]; rfl
  clear hH6
  rw [q1] at s1
  have s16 := s1.mono (agx_sub hx56)
  have hx46 := hxa.tr (x5.tr hx56)
  have hba6 := hx46.get hba4 (by simp)
  have hbb6 := hx46.get hbb4 (by simp)
  have hb6 := hx46.get hb4 (by simp)
  refine seq_reg ?_
  simp only [go_sem, binC, gc_of hb6, gc_of hba6, gc_of hbb6, inBlk_some]
  have hxb : AgX [] H6 (H6 ++ [⟨[.int .i64 1, .int .i64 1, .int .i64 2, .int .i64 1, .int .i64 0, .int .i64 0, nilS, nilS, .int .i64 1, .int .i64 0, .int .i64 1, .int .i64 nd, .int .i64 0, .int .i64 0, nilS, nilS], 8, 42, true, true⟩]) := AgX.app [] _ _
  have hSb := agx_sub ((hx24.tr hx46).tr hxb)
  obtain ⟨nv7, wv7, tv7, H7, k7, x7, t1, t2, t3⟩ := gr _ 1 _ _ _ ls _ nums (r1.mono hSb) (step2_sl 8 42 true true ⟨r11, r22, r11, r0⟩ ⟨r0, r11, rnd, r0⟩) (step2_sm hl4) (r4.mono hSb)
  have p1 : one nv7 = true := by obtain ⟨_, a, rfl, _⟩ := t1; rfl
  have p2 : one wv7 = true := by obtain ⟨_, a, rfl, _⟩ := t2; rfl
  have p3 : one tv7 = true := by obtain ⟨_, a, rfl, _⟩ := t3; rfl
  have hl7 := x7.1
  rw [List.length_append] at hl7
  refine op_callK (by simp only [go_sem, binC]; exact k7) ?_
  simp only [go_sem, binC, n2, p1, p2, p3]
  refine ⟨by omega, ?_⟩
  refine wpc_gen fun H8 hH8 => ?_
  have hx78 : AgX [] H7 H8 := hH8 ▸ AgX.app [] _ _
  have hb8y : H8[H7.length]? = some ⟨[nv7, wv7, tv7], 0, 0, false, true⟩ := hH8 ▸ get_new0 _ _
  clear hH8
  rw [q2] at t1
  have hx68 := hxb.tr (x7.tr hx78)
  have s18 := s16.mono (agx_sub hx68)
  have t18 := t1.mono (agx_sub hx78)
  have hb8x := hx68.get hb6x (by simp)
  have r48 := r4.mono (agx_sub ((hx24.tr hx46).tr hx68))
  have hsl : (nums.set 0 (nd : Int)).length = nums.length := List.length_set
  obtain ⟨ob, oo, hnv5, g50⟩ := gcI0 s18 (i := 0) (by simp only [hsl]; omega)
  subst hnv5
  have g51 := gcI2 s18 (i := 1) (by simp only [hsl]; omega)
  obtain ⟨nblk, no, hnv, _⟩ := gcI0 r48 (i := 1) (by omega)
  simp only [Value.slice.injEq, and_true] at hnv
  subst hnv
  have g1 := gcI2 r48 (i := 1) (by omega)
  simp only [List.getElem_set_self, List.getElem_set_ne (show (0 : Nat) ≠ 1 by omega), Nat.add_zero, hsl] at g50 g51 g1
  obtain ⟨_, a7, rfl, _⟩ := id t1
  refine wpc_genE fun e0 he => ?_
  have e1 : e0 1 = .slice am more.length more.length := by rw [he]; simp only [go_sem, binC]
  have e6 : e0 6 = .slice (some ⟨nblk, no, none⟩) nums.length nums.length := by rw [he]; simp only [go_sem, binC]
  have e10 : e0 10 = ptr H5.length 0 := by rw [he]; simp only [go_sem, binC]
  have e11 : e0 11 = .bool true := by rw [he]; simp only [go_sem, binC]
  have e12 : e0 12 = ptr H7.length 0 := by rw [he]; simp only [go_sem, binC]
  have e13 : e0 13 = .bool true := by rw [he]; simp only [go_sem, binC]
  clear he
  refine seq_regD ?_
  refine wpp_cut 10 (by omega) (by simp only [List.length_cons, List.length_nil]; omega) fun Kc hK => ?_
  simp only [List.take_succ_cons, List.take_zero]
  simp only [go_sem, binC, e1, e6, e10, e11, e12, e13, gc_of hb8x, gc_of hb8y, inBlk_some]
  refine op_callQ (by simp only [go_sem, binC]; exact gl _ _ _ _ _ s18 t18) ?_
  simp only [go_sem, binC, decide_true]
  refine hK _ _ ?_
  simp only [List.drop_succ_cons, List.drop_zero]
  simp only [go_sem, binC, e1, e6, e10, gc_of hb8x, inBlk_some, hsl]
  refine ⟨⟨by omega, by omega⟩, ?_⟩
  simp only [go_sem, binC, show (0 : Int).toNat * 1 = 0 from rfl, Nat.add_zero, g50, ed, e1, e6, e10, beq_self_eq_true, gc_of hb8x, inBlk_some, hsl]
  refine ⟨⟨by omega, by omega⟩, ?_⟩
  simp only [go_sem, binC, show (1 : Int).toNat * 1 = 1 from rfl, g51, e6]
  refine ⟨⟨by omega, by omega⟩, ?_⟩
  simp only [go_sem, binC, show (1 : Int).toNat * 1 = 1 from rfl, g1, beq_self_eq_true]
  exact wpc_ret ⟨Or.inr rfl, .bool true, by simp only [go_sem, binC], rfl, rfl⟩
end Go.Proofs.YtpaoppgbgjnkmaaI
end
section
/- The functions that the laws FnRunVal and FnRunSwap reach, as ideal functions. -/
set_option linter.unusedVariables false
set_option linter.unusedSimpArgs false
namespace Go.Proofs.YtpaoppgbgjnkmaaI
open Go Go.RowKit
def fnOf : Nat → Option IFn
  | 4 => some (c_lawRV)
  | 5 => some (c_lawRS)
  | 12 => some (c_drNumsOk)
  | 13 => some (c_iNums)
  | 14 => some (c_iRunOf)
  | 15 => some (c_sNums)
  | 16 => some (c_lcInts)
  | 20 => some (c_sProg)
  | 40 => some (c_l6Open)
  | 41 => some (c_drAny)
  | 42 => some (c_drNums)
  | 43 => some (c_iNum)
  | 44 => some (c_iProg)
  | 45 => some (c_cloneInts)
  | 46 => some (c_do)
  | 47 => some (c_clone)
  | 48 => some (c_sIn)
  | 50 => some (c_sLabelOk)
  | 51 => some (c_sSteps)
  | 52 => some (c_sCount)
  | 53 => some (c_iSize)
  | 69 => some (c_sWhy)
  | 72 => some (c_iIn)
  | 74 => some (c_drProg)
  | 75 => some (c_pick)
  | 76 => some (c_drFine)
  | 77 => some (c_drBent)
  | 78 => some (c_con)
  | 79 => some (c_p1)
  | 80 => some (c_iLabelOk)
  | 81 => some (c_iSteps)
  | 82 => some (c_vars)
  | 83 => some (c_set)
  | 84 => some (c_of)
  | 86 => some (c_sSet)
  | 87 => some (c_sStep)
  | 95 => some (c_sAllSteps)
  | 96 => some (c_sTypeAt)
  | 97 => some (c_sFine)
  | 99 => some (c_drLabel)
  | 100 => some (c_drSteps)
  | 101 => some (c_sWithout)
  | 102 => some (c_sCopy)
  | 103 => some (c_idx)
  | 104 => some (c_iSet)
  | 105 => some (c_iVar)
  | 106 => some (c_iVal)
  | 107 => some (c_iHost)
  | 108 => some (c_sAll)
  | 109 => some (c_sVar)
  | 110 => some (c_sVal)
  | 113 => some (c_sAt)
  | 114 => some (c_sAny)
  | 115 => some (c_sFlows)
  | 116 => some (c_sLBoth)
  | 117 => some (c_sValL)
  | 118 => some (c_sHas)
  | 119 => some (c_sBoth)
  | 120 => some (c_drVal)
  | 121 => some (c_sWithin)
  | _ => none
def cmOf (f : Nat) : CM := ⟨fun g => if [4, 5, 13, 15, 16, 20, 43, 44, 48, 50, 51, 52, 53, 69, 72, 78, 79, 80, 81, 84, 86, 87, 97, 103, 104, 105, 106, 107, 108, 109, 110, 114, 115, 116, 117, 118, 119, 121].contains g then .q else if [40, 41, 42, 46, 74, 75, 76, 77, 83, 99, 100, 113, 120].contains g then .n else .k, if [40, 41, 42, 46, 74, 75, 76, 77, 83, 99, 100, 113, 120].contains f then .n else .q, [42].contains f⟩
theorem hF4 : cFn Try.prog cmOf 4 = some (c_lawRV) := by kernel_rfl
theorem hF5 : cFn Try.prog cmOf 5 = some (c_lawRS) := by kernel_rfl
theorem hF12 : cFn Try.prog cmOf 12 = some (c_drNumsOk) := by kernel_rfl
theorem hF13 : cFn Try.prog cmOf 13 = some (c_iNums) := by kernel_rfl
theorem hF14 : cFn Try.prog cmOf 14 = some (c_iRunOf) := by kernel_rfl
theorem hF15 : cFn Try.prog cmOf 15 = some (c_sNums) := by kernel_rfl
theorem hF16 : cFn Try.prog cmOf 16 = some (c_lcInts) := by kernel_rfl
theorem hF20 : cFn Try.prog cmOf 20 = some (c_sProg) := by kernel_rfl
theorem hF40 : cFn Try.prog cmOf 40 = some (c_l6Open) := by kernel_rfl
theorem hF41 : cFn Try.prog cmOf 41 = some (c_drAny) := by kernel_rfl
theorem hF42 : cFn Try.prog cmOf 42 = some (c_drNums) := by kernel_rfl
theorem hF43 : cFn Try.prog cmOf 43 = some (c_iNum) := by kernel_rfl
theorem hF44 : cFn Try.prog cmOf 44 = some (c_iProg) := by kernel_rfl
theorem hF45 : cFn Try.prog cmOf 45 = some (c_cloneInts) := by kernel_rfl
theorem hF46 : cFn Try.prog cmOf 46 = some (c_do) := by kernel_rfl
theorem hF47 : cFn Try.prog cmOf 47 = some (c_clone) := by kernel_rfl
theorem hF48 : cFn Try.prog cmOf 48 = some (c_sIn) := by kernel_rfl
theorem hF50 : cFn Try.prog cmOf 50 = some (c_sLabelOk) := by kernel_rfl
theorem hF51 : cFn Try.prog cmOf 51 = some (c_sSteps) := by kernel_rfl
theorem hF52 : cFn Try.prog cmOf 52 = some (c_sCount) := by kernel_rfl
theorem hF53 : cFn Try.prog cmOf 53 = some (c_iSize) := by kernel_rfl
theorem hF69 : cFn Try.prog cmOf 69 = some (c_sWhy) := by kernel_rfl
theorem hF72 : cFn Try.prog cmOf 72 = some (c_iIn) := by kernel_rfl
theorem hF74 : cFn Try.prog cmOf 74 = some (c_drProg) := by kernel_rfl
theorem hF75 : cFn Try.prog cmOf 75 = some (c_pick) := by kernel_rfl
theorem hF76 : cFn Try.prog cmOf 76 = some (c_drFine) := by kernel_rfl
theorem hF77 : cFn Try.prog cmOf 77 = some (c_drBent) := by kernel_rfl
theorem hF78 : cFn Try.prog cmOf 78 = some (c_con) := by kernel_rfl
theorem hF79 : cFn Try.prog cmOf 79 = some (c_p1) := by kernel_rfl
theorem hF80 : cFn Try.prog cmOf 80 = some (c_iLabelOk) := by kernel_rfl
theorem hF81 : cFn Try.prog cmOf 81 = some (c_iSteps) := by kernel_rfl
theorem hF82 : cFn Try.prog cmOf 82 = some (c_vars) := by kernel_rfl
theorem hF83 : cFn Try.prog cmOf 83 = some (c_set) := by kernel_rfl
theorem hF84 : cFn Try.prog cmOf 84 = some (c_of) := by kernel_rfl
theorem hF86 : cFn Try.prog cmOf 86 = some (c_sSet) := by kernel_rfl
theorem hF87 : cFn Try.prog cmOf 87 = some (c_sStep) := by kernel_rfl
theorem hF95 : cFn Try.prog cmOf 95 = some (c_sAllSteps) := by kernel_rfl
theorem hF96 : cFn Try.prog cmOf 96 = some (c_sTypeAt) := by kernel_rfl
theorem hF97 : cFn Try.prog cmOf 97 = some (c_sFine) := by kernel_rfl
theorem hF99 : cFn Try.prog cmOf 99 = some (c_drLabel) := by kernel_rfl
theorem hF100 : cFn Try.prog cmOf 100 = some (c_drSteps) := by kernel_rfl
theorem hF101 : cFn Try.prog cmOf 101 = some (c_sWithout) := by kernel_rfl
theorem hF102 : cFn Try.prog cmOf 102 = some (c_sCopy) := by kernel_rfl
theorem hF103 : cFn Try.prog cmOf 103 = some (c_idx) := by kernel_rfl
theorem hF104 : cFn Try.prog cmOf 104 = some (c_iSet) := by kernel_rfl
theorem hF105 : cFn Try.prog cmOf 105 = some (c_iVar) := by kernel_rfl
theorem hF106 : cFn Try.prog cmOf 106 = some (c_iVal) := by kernel_rfl
theorem hF107 : cFn Try.prog cmOf 107 = some (c_iHost) := by kernel_rfl
theorem hF108 : cFn Try.prog cmOf 108 = some (c_sAll) := by kernel_rfl
theorem hF109 : cFn Try.prog cmOf 109 = some (c_sVar) := by kernel_rfl
theorem hF110 : cFn Try.prog cmOf 110 = some (c_sVal) := by kernel_rfl
theorem hF113 : cFn Try.prog cmOf 113 = some (c_sAt) := by kernel_rfl
theorem hF114 : cFn Try.prog cmOf 114 = some (c_sAny) := by kernel_rfl
theorem hF115 : cFn Try.prog cmOf 115 = some (c_sFlows) := by kernel_rfl
theorem hF116 : cFn Try.prog cmOf 116 = some (c_sLBoth) := by kernel_rfl
theorem hF117 : cFn Try.prog cmOf 117 = some (c_sValL) := by kernel_rfl
theorem hF118 : cFn Try.prog cmOf 118 = some (c_sHas) := by kernel_rfl
theorem hF119 : cFn Try.prog cmOf 119 = some (c_sBoth) := by kernel_rfl
theorem hF120 : cFn Try.prog cmOf 120 = some (c_drVal) := by kernel_rfl
theorem hF121 : cFn Try.prog cmOf 121 = some (c_sWithin) := by kernel_rfl
theorem hF (g : Nat) (fn : IFn) (h : fnOf g = some fn) : cFn Try.prog cmOf g = some fn := by
  unfold fnOf at h
  split at h
  · rw [← h]; exact hF4
  · rw [← h]; exact hF5
  · rw [← h]; exact hF12
  · rw [← h]; exact hF13
  · rw [← h]; exact hF14
  · rw [← h]; exact hF15
  · rw [← h]; exact hF16
  · rw [← h]; exact hF20
  · rw [← h]; exact hF40
  · rw [← h]; exact hF41
  · rw [← h]; exact hF42
  · rw [← h]; exact hF43
  · rw [← h]; exact hF44
  · rw [← h]; exact hF45
  · rw [← h]; exact hF46
  · rw [← h]; exact hF47
  · rw [← h]; exact hF48
  · rw [← h]; exact hF50
  · rw [← h]; exact hF51
  · rw [← h]; exact hF52
  · rw [← h]; exact hF53
  · rw [← h]; exact hF69
  · rw [← h]; exact hF72
  · rw [← h]; exact hF74
  · rw [← h]; exact hF75
  · rw [← h]; exact hF76
  · rw [← h]; exact hF77
  · rw [← h]; exact hF78
  · rw [← h]; exact hF79
  · rw [← h]; exact hF80
  · rw [← h]; exact hF81
  · rw [← h]; exact hF82
  · rw [← h]; exact hF83
  · rw [← h]; exact hF84
  · rw [← h]; exact hF86
  · rw [← h]; exact hF87
  · rw [← h]; exact hF95
  · rw [← h]; exact hF96
  · rw [← h]; exact hF97
  · rw [← h]; exact hF99
  · rw [← h]; exact hF100
  · rw [← h]; exact hF101
  · rw [← h]; exact hF102
  · rw [← h]; exact hF103
  · rw [← h]; exact hF104
  · rw [← h]; exact hF105
  · rw [← h]; exact hF106
  · rw [← h]; exact hF107
  · rw [← h]; exact hF108
  · rw [← h]; exact hF109
  · rw [← h]; exact hF110
  · rw [← h]; exact hF113
  · rw [← h]; exact hF114
  · rw [← h]; exact hF115
  · rw [← h]; exact hF116
  · rw [← h]; exact hF117
  · rw [← h]; exact hF118
  · rw [← h]; exact hF119
  · rw [← h]; exact hF120
  · rw [← h]; exact hF121
  · cases h
theorem hMixed : Try.prog.follows .mixedOrders = true := by kernel_rfl
theorem ok_iIn : ∀ (H : Heap) (a b c : Int), QC fnOf 72 [.int .i64 a, .int .i64 b, .int .i64 c] H (.bool (inB a b c)) := iIn_ok rfl
theorem ok_sIn : ∀ (H : Heap) (a b c : Int), QC fnOf 48 [.int .i64 a, .int .i64 b, .int .i64 c] H (.bool (inB a b c)) := sIn_ok rfl
theorem ok_iSet : ∀ (H : Heap) (a : Int), QC fnOf 104 [.int .i64 a] H (.bool (inB a 0 7)) := iSet_ok rfl ok_iIn
theorem ok_iHost : ∀ (H : Heap) (a : Int), QC fnOf 107 [.int .i64 a] H (.bool (inB a 0 2)) := iHost_ok rfl ok_iIn
theorem ok_iNum : ∀ (H : Heap) (a : Int), QC fnOf 43 [.int .i64 a] H (.bool (inB a 0 9)) := iNum_ok rfl ok_iIn
theorem ok_sAll : ∀ H, QC fnOf 108 [] H (.int .i64 7) := sAll_ok rfl
theorem ok_sSet : ∀ (H : Heap) (a : Int), QC fnOf 86 [.int .i64 a] H (.bool (inB a 0 7)) := sSet_ok rfl ok_sIn ok_sAll
theorem ok_iLabelOk : LabOk fnOf 80 := iLabelOk_ok rfl ok_iSet
theorem ok_sLabelOk : LabOk fnOf 50 := sLabelOk_ok rfl ok_sSet
theorem ok_iVar : VarOk fnOf 105 := iVar_ok rfl ok_iIn
theorem ok_sVar : VarOk fnOf 109 := sVar_ok rfl ok_sIn
theorem ok_iVal : ValOk fnOf 106 := iVal_ok rfl ok_iNum ok_iVar
theorem ok_sVal : ValOk fnOf 110 := sVal_ok rfl ok_sIn ok_sVar
theorem ok_sSteps : ∀ n, StepsOk fnOf 51 n := fun n => (sSteps_all rfl rfl ok_sIn ok_sVar ok_sVal n).1
theorem ok_iSteps : ∀ n, StepsOk fnOf 81 n := iSteps_all rfl ok_iVar ok_iVal ok_iHost
theorem ok_sCount : ∀ n, CntOk fnOf 52 n := cnt_all (fun _ h => sCount_ok rfl h) (sCount_z rfl)
theorem ok_iSize : ∀ n, CntOk fnOf 53 n := cnt_all (fun _ h => iSize_ok rfl h) (iSize_z rfl)
theorem ok_sProg : ProgOk fnOf 20 := sProg_ok rfl ok_sLabelOk ok_sSteps ok_sCount
theorem ok_iProg : ProgOk fnOf 44 := iProg_ok rfl (con_ok rfl (idx_ok rfl (p1_ok rfl ok_iLabelOk))) ok_iSteps ok_iSize
theorem ok_sHas : HasOk fnOf 118 := sHas_ok rfl
theorem ok_sWit : WitOk fnOf 121 := sWithin_ok rfl ok_sHas
theorem ok_sBoth : BothOk fnOf 119 := sBoth_ok rfl ok_sHas
theorem ok_sLBoth : LBothOk fnOf 116 := sLBoth_ok rfl ok_sLabelOk ok_sBoth
theorem ok_sFlows : FlowsOk fnOf 115 := sFlows_ok rfl ok_sLabelOk ok_sWit
theorem ok_sAny : ∀ H, QC fnOf 114 [] H (.agg #[.int .i64 7, .int .i64 7]) := sAny_ok rfl ok_sAll
theorem ok_sFine : FineOk fnOf 97 := sFine_ok rfl (sValL_ok rfl ok_sAny ok_sLBoth) ok_sLBoth ok_sFlows ok_sBoth ok_sHas
theorem ok_sAllSteps : ∀ n, AllOk fnOf 95 n := sAllSteps_all rfl
theorem ok_sAt : ∀ n, AtOk fnOf 113 n := sAt_all rfl ok_sLBoth
theorem ok_sTypeAt : TypeAtOk fnOf 96 := sTypeAt_ok rfl ok_sProg ok_sAny ok_sAt
theorem ok_sWhy : WhyOk fnOf 69 := sWhy_ok rfl ok_sProg ok_sAllSteps ok_sTypeAt ok_sFine
theorem ok_sCopy : ∀ n, CopyOk fnOf 102 n := sCopy_all rfl
theorem ok_sWithout : ∀ n, WoOk fnOf 101 n := sWithout_all rfl ok_sCount
theorem ok_drProg {H0 : Heap} {rb : Nat} {bv : Value} {code : List Int} (hc : RdC H0 rb bv code) : DrawS fnOf H0 rb bv 74 [] 40000 (ProgQ 3) := drProg_ok rfl rfl rfl rfl rfl ok_sProg hc
theorem ok_drFine {H0 : Heap} {rb : Nat} {bv : Value} {code : List Int} (hc : RdC H0 rb bv code) : DrawS fnOf H0 rb bv 76 [] 40000 (ProgQ 3) := drFine_ok rfl hc (ok_drProg hc) ok_sWhy ok_sWithout
theorem ok_drAny {H0 : Heap} {rb : Nat} {bv : Value} {code : List Int} (hc : RdC H0 rb bv code) : DrawS fnOf H0 rb bv 41 [] 90000 ProgR := drAny_ok rfl rfl hc (ok_drProg hc) (ok_drFine hc) (drBent_ok rfl rfl ok_sCopy hc)
theorem ok_iNums : NumsOk fnOf 13 := iNums_ok rfl ok_iNum ok_iProg
theorem ok_sNums : NumsOk fnOf 15 := sNums_ok rfl ok_sIn ok_sProg
theorem ok_do : ∀ n, DoOk fnOf 46 n := do_all rfl rfl rfl rfl
theorem ok_iRunOf : RunOk fnOf 14 := iRunOf_ok rfl ok_iNums rfl ok_do rfl
theorem ok_drNumsOk : DrawNumsOk fnOf 12 := drNumsOk_ok rfl rfl rfl rfl ok_drAny
theorem ok_lcInts : IntsOk fnOf 16 := lcInts_ok rfl
theorem ok_lawRV : LawB2 fnOf 4 := lawRV_ok rfl ok_drNumsOk ok_iNums ok_iRunOf ok_sNums
theorem ok_lawRS : LawB2 fnOf 5 := lawRS_ok rfl ok_drNumsOk ok_iNums ok_iRunOf ok_sNums ok_lcInts
end Go.Proofs.YtpaoppgbgjnkmaaI
end
section
/- Laws of two arguments, lists of bytes, called in the model. -/
set_option linter.unusedVariables false
set_option linter.unusedSimpArgs false
namespace Go.Proofs.YtpaoppgbgjnkmaaI
open Go Go.RowKit
theorem Good.byte {w : World} {n : Int} (h : (Lit.int .u8 n).wf = true) : Good Co.byte w [.int .u8 n] := fun H m s =>
  ⟨n, [], m, [.int .u8 n], by simpa using s, sub_refl m, ⟨rfl, by simpa [Lit.wf, IntKind.min, IntKind.max, IntKind.signed, IntKind.bits] using h⟩, All2.cons (.inl rfl) All2.nil⟩
theorem good_5 {T : Type} {enc : TypeId × Value → T} {w : World} {spare : Nat → Bool} {held : Bool} {n : Nat} {cs : List Value} {x : DataW T × List MemPlace} (h : DataW.trod enc Try.prog w 0 spare held n 5 cs = some x) : Good Co.byte w cs := by
  obtain ⟨m, rfl, _, hw⟩ := DataW.trod_int Try.underlying5 h
  exact Good.byte hw
theorem good_22 {T : Type} {enc : TypeId × Value → T} {w : World} {spare : Nat → Bool} {held : Bool} {n : Nat} {cs : List Value} {x : DataW T × List MemPlace} (h : DataW.trod enc Try.prog w 0 spare held n 22 cs = some x) : Good (Co.sl Co.byte) w cs :=
  Good.sl Try.underlying22 (by kernel_rfl) (by decide) h fun _ _ _ _ h => good_5 h
theorem lawB2_calls {n : Nat} (hl : LawB2 fnOf n) {W : World} {a b : Option Addr} {l c l' c' : Nat} (g0 : Good (Co.sl Co.byte) W [.slice a l c]) (g1 : Good (Co.sl Co.byte) W [.slice b l' c']) :
    Calls Try.prog n #[.slice a l c, .slice b l' c'] W fun e w' => e = .returned (.bool true) ∧ Below W.heap.size W w' := by
  obtain ⟨ts, L, m, cs0, s, q, r, e⟩ := g0 [] (fun _ => none) (SL.none _)
  rw [List.nil_append] at s r
  obtain ⟨ts', L2, m2, cs1, s2, q2, r2, e2⟩ := g1 L m s
  obtain ⟨u, rfl, hu⟩ := r
  obtain ⟨u', rfl, hu'⟩ := r2
  exact law_core hF hMixed s2 (vals := [u, u']) (All2.cons (VR.one_mk (e.mono fun _ _ _ h => VR1.mono q2 h)) (All2.cons (VR.one_mk e2) All2.nil)) (hl _ u u' ts ts' (hu.mono (vw_app 0 L L2)) hu')
end Go.Proofs.YtpaoppgbgjnkmaaI
end
