/- Texts of this proof, merged: E9, E10, E11, E12. -/
import Derived.Test.YtpaoppgbgjnkmaaB1
section
/- The law FnRunVal on the ideal machine. -/
set_option linter.unusedVariables false
set_option linter.unusedSimpArgs false
namespace Go.Proofs.YtpaoppgbgjnkmaaI
open Go Go.RowKit
def c_lawRV : IFn := ⟨2, 142, [.t 4],
 .seq (.reg none [
    ⟨(some 4), none, .mov (.c (.bool false))⟩])
 (.seq (.seq (.reg none [
     ⟨(some 16), none, .mov (.t 0)⟩,
     ⟨(some 17), none, .len (.t 16)⟩,
     ⟨(some 18), none, .bin .gtr (.t 17) (.c (.int .i64 1048576))⟩,
     ⟨(some 19), none, .mov (.t 18)⟩,
     ⟨(some 20), (some (19, false)), .mov (.t 1)⟩,
     ⟨(some 21), (some (19, false)), .len (.t 20)⟩,
     ⟨(some 22), (some (19, false)), .bin .gtr (.t 21) (.c (.int .i64 1048576))⟩,
     ⟨(some 23), none, .pick (.t 19) (.c (.bool true)) (.t 22)⟩])
  (.cond (.t 23) (.seq (.reg none [
      ⟨(some 4), none, .mov (.c (.bool true))⟩])
   (.ret)) (.skip)))
 (.seq (.reg none [
    ⟨(some 25), none, .mov (.t 0)⟩,
    ⟨(some 26), none, .call .k (.f 12) [(.t 25)]⟩,
    ⟨(some 24), none, .mov (.t 26)⟩,
    ⟨(some 27), none, .ext (.t 24) 0⟩,
    ⟨(some 28), none, .ext (.t 24) 1⟩,
    ⟨(some 5), none, .new [(.slice none 0 0), (.slice none 0 0)]⟩,
    ⟨none, none, .store 2 (.t 5) (.t 27)⟩,
    ⟨(some 6), none, .mov (.t 28)⟩])
 (.seq (.reg none [
    ⟨(some 29), none, .load true 2 (.t 5)⟩,
    ⟨(some 30), none, .mov (.t 6)⟩,
    ⟨(some 31), none, .call .q (.f 13) [(.t 29), (.t 30)]⟩,
    ⟨(some 7), none, .mov (.t 31)⟩])
 (.seq (.seq (.reg none [
     ⟨(some 32), none, .mov (.t 7)⟩,
     ⟨(some 33), none, .load true 2 (.t 5)⟩,
     ⟨(some 34), none, .mov (.t 6)⟩,
     ⟨(some 35), none, .call .q (.f 15) [(.t 33), (.t 34)]⟩,
     ⟨(some 36), none, .beq true (.t 32) (.t 35)⟩,
     ⟨(some 37), none, .mov (.t 36)⟩,
     ⟨(some 38), (some (37, false)), .mov (.t 7)⟩,
     ⟨(some 39), (some (37, false)), .un .not (.t 38)⟩,
     ⟨(some 40), none, .pick (.t 37) (.c (.bool true)) (.t 39)⟩,
     ⟨(some 41), none, .mov (.t 40)⟩,
     ⟨(some 42), (some (41, false)), .mov (.t 6)⟩,
     ⟨(some 43), (some (41, false)), .len (.t 42)⟩,
     ⟨(some 44), (some (41, false)), .bin .eql (.t 43) (.c (.int .i64 0))⟩,
     ⟨(some 45), none, .pick (.t 41) (.c (.bool true)) (.t 44)⟩])
  (.cond (.t 45) (.seq (.reg none [
      ⟨(some 46), none, .mov (.t 7)⟩,
      ⟨(some 47), none, .load true 2 (.t 5)⟩,
      ⟨(some 48), none, .mov (.t 6)⟩,
      ⟨(some 49), none, .call .q (.f 15) [(.t 47), (.t 48)]⟩,
      ⟨(some 50), none, .beq false (.t 46) (.t 49)⟩,
      ⟨(some 4), none, .mov (.t 50)⟩])
   (.ret)) (.skip)))
 (.seq (.reg none [
    ⟨(some 51), none, .mov (.t 1)⟩,
    ⟨(some 52), none, .len (.t 51)⟩,
    ⟨(some 53), none, .mov (.t 6)⟩,
    ⟨(some 54), none, .len (.t 53)⟩,
    ⟨(some 55), none, .bin .rem (.t 52) (.t 54)⟩,
    ⟨(some 8), none, .mov (.t 55)⟩])
 (.seq (.reg none [
    ⟨(some 56), none, .mov (.t 1)⟩,
    ⟨(some 57), none, .len (.t 56)⟩,
    ⟨(some 58), none, .bin .quo (.t 57) (.c (.int .i64 2))⟩,
    ⟨(some 59), none, .mov (.t 6)⟩,
    ⟨(some 60), none, .len (.t 59)⟩,
    ⟨(some 61), none, .bin .rem (.t 58) (.t 60)⟩,
    ⟨(some 9), none, .mov (.t 61)⟩])
 (.seq (.reg none [
    ⟨(some 62), none, .mov (.t 1)⟩,
    ⟨(some 63), none, .len (.t 62)⟩,
    ⟨(some 64), none, .bin .rem (.t 63) (.c (.int .i64 10))⟩,
    ⟨(some 65), none, .build [(.int .i64 0), (.int .i64 0), (.int .i64 0)] [(0, 1, (.c (.int .i64 1))), (1, 1, (.t 64))]⟩,
    ⟨(some 66), none, .mov (.t 8)⟩,
    ⟨(some 67), none, .build [(.int .i64 0), (.int .i64 0), (.int .i64 0)] [(0, 1, (.c (.int .i64 2))), (1, 1, (.t 66))]⟩,
    ⟨(some 68), none, .mov (.t 8)⟩,
    ⟨(some 69), none, .mov (.t 9)⟩,
    ⟨(some 70), none, .build [(.int .i64 0), (.int .i64 0), (.int .i64 0)] [(0, 1, (.c (.int .i64 3))), (1, 1, (.t 68)), (2, 1, (.t 69))]⟩,
    ⟨(some 71), none, .mov (.t 8)⟩,
    ⟨(some 72), none, .mov (.t 9)⟩,
    ⟨(some 73), none, .build [(.int .i64 0), (.int .i64 0), (.int .i64 0)] [(0, 1, (.c (.int .i64 4))), (1, 1, (.t 71)), (2, 1, (.t 72))]⟩,
    ⟨(some 74), none, .lit 3 39 4 [(.int .i64 0), (.int .i64 0), (.int .i64 0), (.int .i64 0), (.int .i64 0), (.int .i64 0), (.int .i64 0), (.int .i64 0), (.int .i64 0), (.int .i64 0), (.int .i64 0), (.int .i64 0)] [(0, 3, (.t 65)), (3, 3, (.t 67)), (6, 3, (.t 70)), (9, 3, (.t 73))]⟩,
    ⟨(some 10), none, .mov (.t 74)⟩])
 (.seq (.reg none [
    ⟨(some 11), none, .mov (.c (.int .i64 0))⟩])
 (.seq (.seq (.reg (some 8) [
     ⟨(some 75), none, .mov (.t 6)⟩,
     ⟨(some 76), none, .mov (.t 8)⟩,
     ⟨(some 77), none, .iad 1 (.t 75) (.t 76)⟩,
     ⟨(some 78), none, .load false 1 (.t 77)⟩,
     ⟨(some 79), none, .mov (.t 6)⟩,
     ⟨(some 80), none, .mov (.t 9)⟩,
     ⟨(some 81), none, .iad 1 (.t 79) (.t 80)⟩,
     ⟨(some 82), none, .load false 1 (.t 81)⟩,
     ⟨(some 83), none, .bin .eql (.t 78) (.t 82)⟩])
  (.cond (.t 83) (.reg none [
     ⟨(some 11), none, .mov (.c (.int .i64 1))⟩]) (.skip)))
 (.seq (.reg (some 18) [
    ⟨(some 84), none, .mov (.t 1)⟩,
    ⟨(some 85), none, .len (.t 84)⟩,
    ⟨(some 86), none, .bin .rem (.t 85) (.c (.int .i64 10))⟩,
    ⟨(some 87), none, .mov (.t 6)⟩,
    ⟨(some 88), none, .mov (.t 8)⟩,
    ⟨(some 89), none, .iad 1 (.t 87) (.t 88)⟩,
    ⟨(some 90), none, .load false 1 (.t 89)⟩,
    ⟨(some 91), none, .mov (.t 6)⟩,
    ⟨(some 92), none, .mov (.t 8)⟩,
    ⟨(some 93), none, .iad 1 (.t 91) (.t 92)⟩,
    ⟨(some 94), none, .load false 1 (.t 93)⟩,
    ⟨(some 95), none, .mov (.t 6)⟩,
    ⟨(some 96), none, .mov (.t 9)⟩,
    ⟨(some 97), none, .iad 1 (.t 95) (.t 96)⟩,
    ⟨(some 98), none, .load false 1 (.t 97)⟩,
    ⟨(some 99), none, .bin .add (.t 94) (.t 98)⟩,
    ⟨(some 100), none, .bin .rem (.t 99) (.c (.int .i64 10))⟩,
    ⟨(some 101), none, .mov (.t 11)⟩,
    ⟨(some 102), none, .lit 1 3 4 [(.int .i64 0), (.int .i64 0), (.int .i64 0), (.int .i64 0)] [(0, 1, (.t 86)), (1, 1, (.t 90)), (2, 1, (.t 100)), (3, 1, (.t 101))]⟩,
    ⟨(some 12), none, .mov (.t 102)⟩])
 (.seq (.seq (.reg none [
     ⟨(some 13), none, .mov (.c (.int .i64 0))⟩])
  (.block 0 (.loop (.seq (.seq (.reg none [
        ⟨(some 103), none, .mov (.t 13)⟩,
        ⟨(some 104), none, .mov (.t 10)⟩,
        ⟨(some 105), none, .len (.t 104)⟩,
        ⟨(some 106), none, .bin .lss (.t 103) (.t 105)⟩])
     (.cond (.t 106) (.skip) (.exit 0)))
    (.seq (.block 1 (.seq (.regW 15 [
         ⟨(some 110), none, .fad 0 (.t 5)⟩,
         ⟨(some 111), none, .load false 1 (.t 110)⟩,
         ⟨(some 112), none, .mov (.t 10)⟩,
         ⟨(some 113), none, .mov (.t 13)⟩,
         ⟨(some 114), none, .iad 3 (.t 112) (.t 113)⟩,
         ⟨(some 115), none, .load true 3 (.t 114)⟩,
         ⟨(some 116), none, .build [(.int .i64 0), (.int .i64 0), (.int .i64 0), (.int .i64 0), (.int .i64 0), (.int .i64 0), (.slice none 0 0), (.slice none 0 0)] [(0, 1, (.c (.int .i64 1))), (2, 3, (.t 115))]⟩,
         ⟨(some 117), none, .lit 8 42 1 [(.int .i64 0), (.int .i64 0), (.int .i64 0), (.int .i64 0), (.int .i64 0), (.int .i64 0), (.slice none 0 0), (.slice none 0 0)] [(0, 8, (.t 116))]⟩,
         ⟨(some 118), none, .build [(.slice none 0 0), (.slice none 0 0)] [(0, 1, (.t 111)), (1, 1, (.t 117))]⟩,
         ⟨(some 119), none, .mov (.t 6)⟩,
         ⟨(some 120), none, .call .k (.f 14) [(.t 118), (.t 119)]⟩,
         ⟨(some 109), none, .mov (.t 120)⟩,
         ⟨(some 121), none, .ext (.t 109) 0⟩,
         ⟨(some 122), none, .ext (.t 109) 1⟩,
         ⟨(some 14), none, .new [(.slice none 0 0), (.slice none 0 0), (.slice none 0 0)]⟩,
         ⟨none, none, .store 3 (.t 14) (.t 121)⟩,
         ⟨(some 15), none, .mov (.t 122)⟩])
      (.seq (.reg (some 11) [
         ⟨(some 123), none, .mov (.t 15)⟩,
         ⟨(some 124), none, .un .not (.t 123)⟩,
         ⟨(some 125), none, .mov (.t 124)⟩,
         ⟨(some 126), (some (125, false)), .fad 0 (.t 14)⟩,
         ⟨(some 127), (some (125, false)), .load false 1 (.t 126)⟩,
         ⟨(some 128), (some (125, false)), .iad 1 (.t 127) (.c (.int .i64 0))⟩,
         ⟨(some 129), (some (125, false)), .load false 1 (.t 128)⟩,
         ⟨(some 130), (some (125, false)), .mov (.t 12)⟩,
         ⟨(some 131), (some (125, false)), .mov (.t 13)⟩,
         ⟨(some 132), (some (125, false)), .iad 1 (.t 130) (.t 131)⟩,
         ⟨(some 133), (some (125, false)), .load false 1 (.t 132)⟩,
         ⟨(some 134), (some (125, false)), .bin .neq (.t 129) (.t 133)⟩,
         ⟨(some 135), none, .pick (.t 125) (.c (.bool true)) (.t 134)⟩,
         ⟨(some 136), none, .mov (.t 135)⟩,
         ⟨(some 137), (some (136, false)), .fad 1 (.t 14)⟩,
         ⟨(some 138), (some (136, false)), .load false 1 (.t 137)⟩,
         ⟨(some 139), (some (136, false)), .len (.t 138)⟩,
         ⟨(some 140), (some (136, false)), .bin .neq (.t 139) (.c (.int .i64 1))⟩,
         ⟨(some 141), none, .pick (.t 136) (.c (.bool true)) (.t 140)⟩])
      (.cond (.t 141) (.seq (.reg none [
          ⟨(some 4), none, .mov (.c (.bool false))⟩])
       (.ret)) (.skip)))))
    (.reg none [
      ⟨(some 107), none, .mov (.t 13)⟩,
      ⟨(some 108), none, .bin .add (.t 107) (.c (.int .i64 1))⟩,
      ⟨(some 13), none, .mov (.t 108)⟩]))))))
 (.seq (.reg none [
    ⟨(some 4), none, .mov (.c (.bool true))⟩])
 (.ret)))))))))))))⟩
def LawB2 (F : Nat → Option IFn) (f : Nat) : Prop := ∀ (H : Heap) (v w : Value) (code more : List Int), SlR Co.byte (vw 0 H) v code → SlR Co.byte (vw 0 H) w more → QC F f [v, w] H (.bool true)
theorem numsB_new {d : Nat} {ls : List (Int × Int)} {l : List (TStep d)} {nums : List Int} (h : numsB d (ls, l) nums = true) {n : Nat} {l' : List (TStep n)} (h1 : l'.all (stepB ls.length n 3) = true) (h2 : cntL n l' ≤ 8) (h3 : 0 ≤ cntL n l') : numsB n (ls, l') nums = true := by
  simp only [numsB, progB, Bool.and_eq_true, decide_eq_true_eq] at h ⊢
  obtain ⟨⟨⟨⟨⟨a1, a2⟩, a3⟩, a4⟩, a5⟩, a6⟩ := h
  exact ⟨⟨⟨⟨⟨a1, a2⟩, h1⟩, by unfold Wr; rw [wrap_id (by omega) (by omega)]; exact h2⟩, a5⟩, a6⟩
theorem numsB_len {d : Nat} {ls : List (Int × Int)} {l : List (TStep d)} {nums : List Int} (h : numsB d (ls, l) nums = true) : nums.length = ls.length ∧ ls.length ≤ 4 ∧ ∀ x ∈ nums, 0 ≤ x ∧ x ≤ 9 := by
  simp only [numsB, progB, Bool.and_eq_true, decide_eq_true_eq, List.all_eq_true] at h
  obtain ⟨⟨⟨⟨⟨a1, a2⟩, a3⟩, a4⟩, a5⟩, a6⟩ := h
  exact ⟨a5, by omega, fun x hx => inB_iff'.1 (a6 x hx)⟩
theorem seq_sel {F : Nat → Option IFn} {lo : Nat} {e : Env} {H : Heap} {K : X → Env → Heap → Prop} {b : ICode} {c : Opd} {t : Bool} {d : Nat} {v v0 : Value} (hc : c.ev e = .bool t) (h0 : e d = v0) (h : wpc F lo b (putE e (some d) (if t then v else v0)) H K) : wpc F lo (.seq (.cond c (.reg none [⟨some d, none, .mov (.c v)⟩]) .skip) b) e H K := by
  refine seq_cond hc ?_
  cases t with
  | true =>
    refine seq_reg ?_
    refine wpo_cons ?_
    exact ⟨v, H, rfl, h⟩
  | false =>
    refine seq_skip ?_
    have : putE e (some d) v0 = e := by
      funext i
      by_cases hi : i = d
      · subst hi; simp [putE, h0]
      · simp [putE, hi]
    rw [show (if false = true then v else v0) = v0 from rfl, this] at h
    exact h
/-- One variable set. -/
def setS (x : Int) (v : Int × Int × Int) : TStep 1 := (1, x, v, 0, [], [])
theorem rone : Rg 1 := ⟨by omega, by omega⟩
theorem stepB_setS {k : Nat} {x : Int} {v : Int × Int × Int} (h0 : varB k x = true) (h : valB k v = true) : stepB k 1 3 (setS x v) = true := by
  simp [setS, stepB, h0, h]
theorem cntT_setS {x : Int} {v : Int × Int × Int} : cntT 1 (setS x v) = 1 := by simp [setS, cntT]
theorem runT_setS {x : Int} {v : Int × Int × Int} {r : RunS} : runT 1 (setS x v) r = (r.1.set x.toNat (valN r.1 v), r.2.1 ++ [(x, valN r.1 v)], r.2.2) := runT_set
theorem setS_sm {x : Int} {v : Int × Int × Int} : (Co.step 1).sm (setS x v) := step_smM ⟨by simp, fun a h => by cases h⟩ ⟨by simp, fun a h => by cases h⟩
theorem runOf_set {d : Nat} {ls : List (Int × Int)} {l : List (TStep d)} {nums : List Int} (h : numsB d (ls, l) nums = true) {v : Int × Int × Int} (hv : valB ls.length v = true) (h0 : 0 < ls.length) : numsB 1 (ls, [setS 0 v]) nums = true ∧ runOf 1 (ls, [setS 0 v]) nums = (nums.set 0 (valN nums v), [(0, valN nums v)], []) := by
  have h1 : numsB 1 (ls, [setS 0 v]) nums = true := by
    refine numsB_new h ?_ ?_ ?_
    · have : varB ls.length 0 = true := by unfold varB inB; simp; omega
      simp [stepB_setS this hv]
    · simp [cntL, cntT_setS]
    · simp [cntL, cntT_setS]
  refine ⟨h1, ?_⟩
  unfold runOf
  rw [if_pos h1]
  exact runT_setS
theorem step1_sl {H : Heap} {x a b c : Int} (es et : Nat) (ap so : Bool) (rx : RgI x) (ra : RgI a) (rb : RgI b) (rc : RgI c) : SlR (Co.step 1) (vw 0 (H ++ [⟨[.int .i64 1, .int .i64 x, .int .i64 a, .int .i64 b, .int .i64 c, .int .i64 0, nilS, nilS], es, et, ap, so⟩])) (sli H.length 0 1) [setS x (a, b, c)] := by
  have hn : SlR (Co.step 0) (vw 0 (H ++ [⟨[.int .i64 1, .int .i64 x, .int .i64 a, .int .i64 b, .int .i64 c, .int .i64 0, nilS, nilS], es, et, ap, so⟩])) nilS [] := ⟨by simp, none, rfl, .inl rfl⟩
  refine ⟨by simp, _, rfl, .inr ⟨H.length, 0, rfl, fun i hi => ?_⟩⟩
  have : i = 0 := by simpa using hi
  subst this
  refine ⟨_, ?_, step_rd rone rx ra rb rc ⟨by omega, by omega⟩ hn hn⟩
  unfold rng vw
  rw [if_pos (Nat.zero_le _), get_new0]
  rfl
theorem step1_sm {x : Int} {v : Int × Int × Int} {ls : List (Int × Int)} (h : ls.length ≤ 4) : (Co.prog 1).sm (ls, [setS x v]) := by
  refine ⟨⟨by simp only; omega, fun a _ => ⟨trivial, trivial⟩⟩, by simp, fun a ha => ?_⟩
  simp only [List.mem_singleton] at ha
  subst ha
  exact setS_sm
def vals4 (nd na nb : Nat) : List (Int × Int × Int) := [(1, nd, 0), (2, na, 0), (3, na, nb), (4, na, nb)]
def wants (nums : List Int) (nd na nb : Nat) : List Int := [nd, nums.getD na 0, (nums.getD na 0 + nums.getD nb 0) % 10, if nums.getD na 0 = nums.getD nb 0 then 1 else 0]
theorem vals4_ok {nums : List Int} {nd na nb k : Nat} (h0 : nd < 10) (h1 : na < k) (h2 : nb < k) (i : Nat) (hi : i < 4) : valB k ((vals4 nd na nb).getD i (0, 0, 0)) = true ∧ valN nums ((vals4 nd na nb).getD i (0, 0, 0)) = (wants nums nd na nb).getD i 0 := by
  have : i = 0 ∨ i = 1 ∨ i = 2 ∨ i = 3 := by omega
  rcases this with rfl | rfl | rfl | rfl <;> simp [vals4, wants, valB, valN, varB, inB] <;> omega
set_option maxHeartbeats 4000000 in
theorem lawRV_ok {F : Nat → Option IFn} {f : Nat} (hf : F f = some c_lawRV) (gd : DrawNumsOk F 12) (gi : NumsOk F 13) (gr : RunOk F 14) (gs : NumsOk F 15) : LawB2 F f := by
  intro H v w code more hv hw
  have hv0 := hv
  obtain ⟨h0, a, rfl, _⟩ := hv
  obtain ⟨hm0, am, rfl, _⟩ := hw
  refine QC.mk hf rfl ?_
  refine seq_reg ?_
  simp only [go_sem, binC]
  by_cases hbig : 1048576 < (code.length : Int)
  · refine seq_assoc (seq_reg ?_)
    simp only [go_sem, binC, decide_eq_true hbig]
    refine seq_cond (t := true) rfl ?_
    simp only [go_sem, binC]
    refine seq_assoc (seq_reg ?_)
    simp only [go_sem, binC]
    exact seq_ret ⟨Or.inr rfl, .bool true, by simp only [go_sem, binC], rfl, rfl⟩
  by_cases hbig2 : 1048576 < (more.length : Int)
  · refine seq_assoc (seq_reg ?_)
    simp only [go_sem, binC, decide_eq_false hbig, decide_eq_true hbig2]
    refine seq_cond (t := true) rfl ?_
    simp only [go_sem, binC]
    refine seq_assoc (seq_reg ?_)
    simp only [go_sem, binC]
    exact seq_ret ⟨Or.inr rfl, .bool true, by simp only [go_sem, binC], rfl, rfl⟩
  refine seq_assoc (seq_reg ?_)
  simp only [go_sem, binC, decide_eq_false hbig, decide_eq_false hbig2]
  refine seq_cond (t := false) rfl ?_
  simp only [go_sem, binC]
  refine seq_skip (seq_reg ?_)
  simp only [go_sem, binC]
  obtain ⟨d, lv, sv, nv, ls, l, nums, H1, k, hx, r1, r2, r3, r4⟩ := gd H _ code hv0
  have hl1 := hx.1
  have olv : one lv = true := by obtain ⟨_, a, rfl, _⟩ := r1; rfl
  have osv : one sv = true := by obtain ⟨_, a, rfl, _⟩ := r2; rfl
  refine op_callK (by simp only [go_sem, binC]; exact k) ?_
  simp only [go_sem, binC, olv, osv]
  refine ⟨by omega, ?_⟩
  refine wpc_gen fun H2 hH2 => ?_
  have hb : H2[H1.length]? = some ⟨[lv, sv], 0, 0, false, true⟩ := hH2 ▸ get_new0 _ _
  have hS : Sub (vw 0 H1) (vw 0 H2) := hH2 ▸ vw_app 0 H1 _
  have hl2 : H2.length = H1.length + 1 := by rw [hH2, List.length_append]; rfl
  replace r1 := r1.mono hS
  replace r2 := r2.mono hS
  replace r4 := r4.mono hS
  clear hH2 hS
  obtain ⟨hln, na0, hnv, _⟩ := id r4
  subst hnv
  obtain ⟨hlls, la0, hlv, _⟩ := id r1
  subst hlv
  refine seq_reg ?_
  simp only [go_sem, binC, gc_of hb, inBlk_some, osv]
  refine op_callQ (by simp only [go_sem, binC]; exact gi H2 d _ _ _ ls l nums r1 r2 r3 r4) ?_
  simp only [go_sem, binC]
  cases hB : numsB d (ls, l) nums with
  | false =>
    refine seq_assoc (seq_reg ?_)
    simp only [go_sem, binC, gc_of hb, inBlk_some, osv]
    refine op_callQ (by simp only [go_sem, binC]; exact gs H2 d _ _ _ ls l nums r1 r2 r3 r4) ?_
    simp only [go_sem, binC, hB, beq_self_eq_true]
    refine seq_cond (t := true) rfl ?_
    simp only [go_sem, binC]
    refine seq_assoc (seq_reg ?_)
    simp only [go_sem, binC, gc_of hb, inBlk_some, osv]
    refine op_callQ (by simp only [go_sem, binC]; exact gs H2 d _ _ _ ls l nums r1 r2 r3 r4) ?_
    simp only [go_sem, binC, hB, beq_self_eq_true]
    exact seq_ret ⟨Or.inr rfl, .bool true, by simp only [go_sem, binC], rfl, rfl⟩
  | true =>
  obtain ⟨hnl, hl4, hrg⟩ := numsB_len hB
  by_cases hz : nums.length = 0
  · refine seq_assoc (seq_reg ?_)
    simp only [go_sem, binC, gc_of hb, inBlk_some, osv]
    refine op_callQ (by simp only [go_sem, binC]; exact gs H2 d _ _ _ ls l nums r1 r2 r3 r4) ?_
    simp only [go_sem, binC, hB, beq_self_eq_true, beq_t (show (nums.length : Int) = 0 by omega)]
    refine seq_cond (t := true) rfl ?_
    simp only [go_sem, binC]
    refine seq_assoc (seq_reg ?_)
    simp only [go_sem, binC, gc_of hb, inBlk_some, osv]
    refine op_callQ (by simp only [go_sem, binC]; exact gs H2 d _ _ _ ls l nums r1 r2 r3 r4) ?_
    simp only [go_sem, binC, hB, beq_self_eq_true]
    exact seq_ret ⟨Or.inr rfl, .bool true, by simp only [go_sem, binC], rfl, rfl⟩
  have hz0 : ((nums.length : Int) == 0) = false := beq_f (by omega)
  refine seq_assoc (seq_reg ?_)
  simp only [go_sem, binC, gc_of hb, inBlk_some, osv]
  refine op_callQ (by simp only [go_sem, binC]; exact gs H2 d _ _ _ ls l nums r1 r2 r3 r4) ?_
  simp only [go_sem, binC, hB, beq_self_eq_true, hz0]
  refine seq_cond (t := false) rfl ?_
  simp only [go_sem, binC]
  have ea : binI .rem .i64 (more.length : Int) (nums.length : Int) = some (.int .i64 ((more.length % nums.length : Nat) : Int)) := by rw [rem_eq (by omega), Int.tmod_eq_emod_of_nonneg (by omega)]; rfl
  have eh : binI .quo .i64 (more.length : Int) 2 = some (.int .i64 ((more.length / 2 : Nat) : Int)) := by rw [quo_eq (by omega), Int.tdiv_eq_ediv_of_nonneg (by omega), wrap_id (by omega) (by omega)]; rfl
  have eb : binI .rem .i64 ((more.length / 2 : Nat) : Int) (nums.length : Int) = some (.int .i64 ((more.length / 2 % nums.length : Nat) : Int)) := by rw [rem_eq (by omega), Int.tmod_eq_emod_of_nonneg (by omega)]; rfl
  have ed : binI .rem .i64 (more.length : Int) 10 = some (.int .i64 ((more.length % 10 : Nat) : Int)) := by rw [rem_eq (by omega), Int.tmod_eq_emod_of_nonneg (by omega)]; rfl
  have hna := Nat.mod_lt more.length (show 0 < nums.length by omega)
  have hnb := Nat.mod_lt (more.length / 2) (show 0 < nums.length by omega)
  have hnd := Nat.mod_lt more.length (show 0 < 10 by omega)
  refine seq_skip (seq_reg ?_)
  simp only [go_sem, binC, ea]
  refine seq_reg ?_
  simp only [go_sem, binC, eh, eb]
  generalize more.length % nums.length = na at hna ea
  generalize more.length / 2 % nums.length = nb at hnb eb
  refine seq_reg ?_
  simp only [go_sem, binC, ed]
  generalize more.length % 10 = nd at hnd ed
  refine wpc_gen fun H3 hH3 => ?_
  have hx3 : AgX [] H2 H3 := hH3 ▸ AgX.app [] _ _
  have hbv : H3[H2.length]? = some ⟨[.int .i64 1, .int .i64 nd, .int .i64 0, .int .i64 2, .int .i64 na, .int .i64 0, .int .i64 3, .int .i64 na, .int .i64 nb, .int .i64 4, .int .i64 na, .int .i64 nb], 3, 39, true, true⟩ := hH3 ▸ get_new0 _ _
  have hl3 : H3.length = H2.length + 1 := by rw [hH3, List.length_append]; rfl
  clear hH3
  have hb3 := hx3.get hb (by simp)
  have r43 := r4.mono (agx_sub hx3)
  refine seq_reg ?_
  simp only [go_sem, binC]
  obtain ⟨nblk, no, hnv, _⟩ := gcI0 r43 (i := 0) (by omega)
  simp only [Value.slice.injEq, and_true] at hnv
  subst hnv
  have ga := gcI2 r43 hna
  have gb := gcI2 r43 hnb
  have ga' : nums.getD na 0 = nums[na] := by simp [List.getD, hna]
  have gb' : nums.getD nb 0 = nums[nb] := by simp [List.getD, hnb]
  have xa := hrg _ (List.getElem_mem hna)
  have xb := hrg _ (List.getElem_mem hnb)
  rw [← ga'] at ga xa
  rw [← gb'] at gb xb
  refine seq_assoc (seq_regD ?_)
  simp only [go_sem, binC]
  refine ⟨⟨by omega, by omega⟩, ?_⟩
  simp only [go_sem, binC, Int.toNat_natCast, Nat.mul_one, ga]
  refine ⟨⟨by omega, by omega⟩, ?_⟩
  simp only [go_sem, binC, Int.toNat_natCast, Nat.mul_one, gb]
  refine seq_sel (t := nums.getD na 0 == nums.getD nb 0) (by simp only [go_sem, binC]) (v0 := .int .i64 0) (by simp only [go_sem, binC]) ?_
  have hsel : (if (nums.getD na 0 == nums.getD nb 0) = true then Value.int .i64 1 else .int .i64 0) = .int .i64 (if nums.getD na 0 = nums.getD nb 0 then 1 else 0) := by
    by_cases h : nums.getD na 0 = nums.getD nb 0
    · rw [if_pos (beq_iff_eq.2 h), if_pos h]
    · rw [if_neg (by simpa using h), if_neg h]
  rw [hsel]
  have hwants : wants nums nd na nb = [(nd : Int), nums.getD na 0, (nums.getD na 0 + nums.getD nb 0) % 10, if nums.getD na 0 = nums.getD nb 0 then 1 else 0] := rfl
  generalize (if nums.getD na 0 = nums.getD nb 0 then (1 : Int) else 0) = sm at hwants
  refine seq_regD ?_
  simp only [go_sem, binC, ed]
  refine ⟨⟨by omega, by omega⟩, ?_⟩
  simp only [go_sem, binC, Int.toNat_natCast, Nat.mul_one, ga]
  refine ⟨⟨by omega, by omega⟩, ?_⟩
  refine ⟨⟨by omega, by omega⟩, ?_⟩
  simp only [go_sem, binC, Int.toNat_natCast, Nat.mul_one, gb]
  rw [wrap_id (x := nums.getD na 0 + nums.getD nb 0) (by omega) (by omega)]
  have e10 : binI .rem .i64 (nums.getD na 0 + nums.getD nb 0) 10 = some (.int .i64 ((nums.getD na 0 + nums.getD nb 0) % 10)) := by rw [rem_eq (by omega), Int.tmod_eq_emod_of_nonneg (by omega)]
  simp only [go_sem, binC, e10]
  refine wpc_gen fun H4 hH4 => ?_
  have hx4 : AgX [] H3 H4 := hH4 ▸ AgX.app [] _ _
  have hbw : H4[H3.length]? = some ⟨ints (wants nums nd na nb), 1, 3, true, true⟩ := by rw [hwants]; exact hH4 ▸ get_new0 _ _
  have hl4' : H4.length = H3.length + 1 := by rw [hH4, List.length_append]; rfl
  clear hH4
  have hb4 := hx4.get hb3 (by simp)
  have hbv4 := hx4.get hbv (by simp)
  have hx24 := hx3.tr hx4
  have rgw : ∀ x ∈ wants nums nd na nb, RgI x := by
    intro x hx
    have hsm : RgI sm := by
      have : sm = (wants nums nd na nb).getD 3 0 := by rw [hwants]; rfl
      rw [this]
      simp only [wants]
      show RgI (if nums.getD na 0 = nums.getD nb 0 then (1 : Int) else 0)
      unfold RgI; split <;> omega
    rw [hwants] at hx
    simp only [List.mem_cons, List.not_mem_nil, or_false] at hx
    rcases hx with rfl | rfl | rfl | rfl
    · unfold RgI; omega
    · unfold RgI; omega
    · unfold RgI; omega
    · exact hsm
  have hwl : (wants nums nd na nb).length = 4 := rfl
  have rw4 : SlR Co.int (vw 0 H4) (sli H3.length 0 4) (wants nums nd na nb) := ints_sl0 hbw rgw (by rw [hwl]; omega)
  clear hwants
  refine seq_assoc (seq_reg ?_)
  simp only [go_sem, binC]
  refine seq_block (wpc_loop ?_)
  suffices h : ∀ (k i : Nat) (e : Env) (Hc : Heap), i + k = 4 → AgX [] H4 Hc → e 5 = ptr H1.length 0 → e 6 = .slice (some ⟨nblk, no, none⟩) nums.length nums.length → e 10 = sli H2.length 0 4 → e 12 = sli H3.length 0 4 → e 13 = .int .i64 i → W F H.length _ e Hc _ from
    h 4 0 _ H4 rfl (AgX.refl [] _) (by simp only [go_sem, binC]) (by simp only [go_sem, binC]) (by (simp only [go_sem, binC]) <;> rfl) (by (simp only [go_sem, binC]) <;> rfl) (by (simp only [go_sem, binC]) <;> rfl)
  intro k
  induction k with
  | zero =>
    intro i e Hc hik hxc e5 e6 e10' e12 e13
    refine lp_step ?_
    refine seq_assoc (seq_reg ?_)
    simp only [go_sem, binC, e10', e13]
    refine seq_cond (t := false) (by simp only [go_sem, binC]; rw [decide_eq_false (by omega)]) ?_
    simp only [go_sem, binC]
    refine seq_exit ?_
    simp only [go_sem, binC, thenX_e, out_e, thenX_n]
    refine seq_reg ?_
    simp only [go_sem, binC]
    exact wpc_ret ⟨Or.inr rfl, .bool true, by simp only [go_sem, binC], rfl, rfl⟩
  | succ k ih =>
    intro i e Hc hik hxc e5 e6 e10' e12 e13
    have hi4 : i < 4 := by omega
    have hw1 : IntKind.i64.wrap ((i : Int) + 1) = ((i + 1 : Nat) : Int) := by rw [wrap_id (by omega) (by omega)]; omega
    have hbc := hxc.get hb4 (by simp)
    have hbvc := hxc.get hbv4 (by simp)
    obtain ⟨hvB, hvN⟩ := vals4_ok (nums := nums) (k := ls.length) hnd (by omega : na < ls.length) (by omega : nb < ls.length) i hi4
    have hgv : getCells Hc H2.length (i * 3) 3 = some [.int .i64 ((vals4 nd na nb).getD i (0, 0, 0)).1, .int .i64 ((vals4 nd na nb).getD i (0, 0, 0)).2.1, .int .i64 ((vals4 nd na nb).getD i (0, 0, 0)).2.2] := by
      rw [gc_of hbvc, inBlk_some]
      have : i = 0 ∨ i = 1 ∨ i = 2 ∨ i = 3 := by omega
      rcases this with rfl | rfl | rfl | rfl <;> rfl
    have hwi : (wants nums nd na nb).getD i 0 = (wants nums nd na nb)[i]'(by rw [hwl]; exact hi4) := by simp [List.getD, hwl, hi4]
    generalize (vals4 nd na nb).getD i (0, 0, 0) = u at hvB hvN hgv
    obtain ⟨u1, u2, u3⟩ := u
    simp only at hgv
    have hru : RgI u1 ∧ RgI u2 ∧ RgI u3 := by
      unfold valB at hvB
      simp only [varB, inB] at hvB
      unfold RgI
      split at hvB
      · simp at hvB; omega
      · split at hvB
        · simp at hvB; omega
        · split at hvB
          · simp at hvB; omega
          · cases hvB
    obtain ⟨hN, hrun⟩ := runOf_set hB hvB (by omega)
    refine lp_step ?_
    refine seq_assoc (seq_reg ?_)
    simp only [go_sem, binC, e10', e13]
    refine seq_cond (t := true) (by simp only [go_sem, binC]; rw [decide_eq_true (by omega)]) ?_
    simp only [go_sem, binC]
    refine seq_skip (seq_block ?_)
    refine seq_regW ?_
    simp only [go_sem, binC, e5, e6, e10', e13, gc_of hbc, inBlk_some]
    refine ⟨⟨by omega, by omega⟩, ?_⟩
    simp only [go_sem, binC, Int.toNat_natCast, Nat.zero_add, hgv]
    have hxb : AgX [] Hc (Hc ++ [⟨[.int .i64 1, .int .i64 0, .int .i64 u1, .int .i64 u2, .int .i64 u3, .int .i64 0, nilS, nilS], 8, 42, true, true⟩]) := AgX.app [] _ _
    have hS5 := agx_sub ((hx24.tr hxc).tr hxb)
    obtain ⟨nv5, wv5, tv5, H5, k5, x5, s1, s2, s3⟩ := gr _ 1 _ _ _ ls [setS 0 (u1, u2, u3)] nums (r1.mono hS5) (step1_sl 8 42 true true (by unfold RgI; omega) hru.1 hru.2.1 hru.2.2) (step1_sm hl4) (r4.mono hS5)
    have o1 : one nv5 = true := by obtain ⟨_, a, rfl, _⟩ := s1; rfl
    have o2 : one wv5 = true := by obtain ⟨_, a, rfl, _⟩ := s2; rfl
    have o3 : one tv5 = true := by obtain ⟨_, a, rfl, _⟩ := s3; rfl
    have hl5 := x5.1
    have hlc := hxc.1
    rw [List.length_append] at hl5
    refine op_callK (by simp only [go_sem, binC, e6]; exact k5) ?_
    simp only [go_sem, binC, hN, o1, o2, o3]
    refine ⟨by omega, ?_⟩
    refine wpc_gen fun H6 hH6 => ?_
    have hx56 : AgX [] H5 H6 := hH6 ▸ AgX.app [] _ _
    have hb6 : H6[H5.length]? = some ⟨[nv5, wv5, tv5], 0, 0, false, true⟩ := hH6 ▸ get_new0 _ _
    clear hH6
    rw [hrun] at s1 s2
    have s16 := s1.mono (agx_sub hx56)
    have hwr : SlR Co.int (vw 0 H6) (sli H3.length 0 4) (wants nums nd na nb) := rw4.mono (agx_sub (((hxc.tr hxb).tr x5).tr hx56))
    have hsl : (nums.set 0 (valN nums (u1, u2, u3))).length = nums.length := List.length_set
    obtain ⟨ob, oo, hnv5, _⟩ := gcI0 s16 (i := 0) (by simp only [hsl]; omega)
    subst hnv5
    have g5 := gcI2 s16 (i := 0) (by simp only [hsl]; omega)
    rw [Nat.add_zero] at g5
    simp only [List.getElem_set_self, hsl] at g5
    have gw := gcI2 hwr (i := i) (by rw [hwl]; exact hi4)
    rw [← hwi, ← hvN, Nat.zero_add] at gw
    obtain ⟨_, wa5, rfl, _⟩ := s2
    refine seq_regD ?_
    simp only [go_sem, binC, gc_of hb6, inBlk_some, hsl]
    refine ⟨⟨by omega, by omega⟩, ?_⟩
    simp only [go_sem, binC, show (0 : Int).toNat * 1 = 0 from rfl, Nat.add_zero, g5, e12, e13]
    refine ⟨⟨by omega, by omega⟩, ?_⟩
    simp only [go_sem, binC, Int.toNat_natCast, Nat.mul_one, Nat.zero_add, gw, gc_of hb6, inBlk_some, bne_self_eq_false, List.length_singleton]
    refine wpc_cond (t := false) (by rfl) ?_
    simp only [go_sem, binC]
    refine wpc_skip ?_
    simp only [go_sem, binC, out_n, thenX_n]
    refine wpc_reg ?_
    simp only [go_sem, binC, e13, hw1]
    simp only [go_sem, binC, thenX_n]
    exact ih (i + 1) _ H6 (by omega) ((hxc.tr hxb).tr (x5.tr hx56)) (by simp only [go_sem, binC, e5]) (by simp only [go_sem, binC, e6]) (by simp only [go_sem, binC, e10']) (by simp only [go_sem, binC, e12]) (by simp only [go_sem, binC])
end Go.Proofs.YtpaoppgbgjnkmaaI
end
section
/- The law FnRunSwap on the ideal machine. -/
set_option linter.unusedVariables false
set_option linter.unusedSimpArgs false
namespace Go.Proofs.YtpaoppgbgjnkmaaI
open Go Go.RowKit
def c_lawRS : IFn := ⟨2, 109, [.t 4],
 .seq (.reg none [
    ⟨(some 4), none, .mov (.c (.bool false))⟩])
 (.seq (.seq (.reg none [
     ⟨(some 14), none, .mov (.t 0)⟩,
     ⟨(some 15), none, .len (.t 14)⟩,
     ⟨(some 16), none, .bin .gtr (.t 15) (.c (.int .i64 1048576))⟩,
     ⟨(some 17), none, .mov (.t 16)⟩,
     ⟨(some 18), (some (17, false)), .mov (.t 1)⟩,
     ⟨(some 19), (some (17, false)), .len (.t 18)⟩,
     ⟨(some 20), (some (17, false)), .bin .gtr (.t 19) (.c (.int .i64 1048576))⟩,
     ⟨(some 21), none, .pick (.t 17) (.c (.bool true)) (.t 20)⟩])
  (.cond (.t 21) (.seq (.reg none [
      ⟨(some 4), none, .mov (.c (.bool true))⟩])
   (.ret)) (.skip)))
 (.seq (.reg none [
    ⟨(some 23), none, .mov (.t 0)⟩,
    ⟨(some 24), none, .call .k (.f 12) [(.t 23)]⟩,
    ⟨(some 22), none, .mov (.t 24)⟩,
    ⟨(some 25), none, .ext (.t 22) 0⟩,
    ⟨(some 26), none, .ext (.t 22) 1⟩,
    ⟨(some 5), none, .new [(.slice none 0 0), (.slice none 0 0)]⟩,
    ⟨none, none, .store 2 (.t 5) (.t 25)⟩,
    ⟨(some 6), none, .mov (.t 26)⟩])
 (.seq (.reg none [
    ⟨(some 27), none, .load true 2 (.t 5)⟩,
    ⟨(some 28), none, .mov (.t 6)⟩,
    ⟨(some 29), none, .call .q (.f 13) [(.t 27), (.t 28)]⟩,
    ⟨(some 7), none, .mov (.t 29)⟩])
 (.seq (.seq (.reg none [
     ⟨(some 30), none, .mov (.t 7)⟩,
     ⟨(some 31), none, .load true 2 (.t 5)⟩,
     ⟨(some 32), none, .mov (.t 6)⟩,
     ⟨(some 33), none, .call .q (.f 15) [(.t 31), (.t 32)]⟩,
     ⟨(some 34), none, .beq true (.t 30) (.t 33)⟩,
     ⟨(some 35), none, .mov (.t 34)⟩,
     ⟨(some 36), (some (35, false)), .mov (.t 7)⟩,
     ⟨(some 37), (some (35, false)), .un .not (.t 36)⟩,
     ⟨(some 38), none, .pick (.t 35) (.c (.bool true)) (.t 37)⟩,
     ⟨(some 39), none, .mov (.t 38)⟩,
     ⟨(some 40), (some (39, false)), .mov (.t 6)⟩,
     ⟨(some 41), (some (39, false)), .len (.t 40)⟩,
     ⟨(some 42), (some (39, false)), .bin .lss (.t 41) (.c (.int .i64 2))⟩,
     ⟨(some 43), none, .pick (.t 39) (.c (.bool true)) (.t 42)⟩])
  (.cond (.t 43) (.seq (.reg none [
      ⟨(some 44), none, .mov (.t 7)⟩,
      ⟨(some 45), none, .load true 2 (.t 5)⟩,
      ⟨(some 46), none, .mov (.t 6)⟩,
      ⟨(some 47), none, .call .q (.f 15) [(.t 45), (.t 46)]⟩,
      ⟨(some 48), none, .beq false (.t 44) (.t 47)⟩,
      ⟨(some 4), none, .mov (.t 48)⟩])
   (.ret)) (.skip)))
 (.seq (.reg none [
    ⟨(some 49), none, .mov (.t 1)⟩,
    ⟨(some 50), none, .len (.t 49)⟩,
    ⟨(some 51), none, .bin .rem (.t 50) (.c (.int .i64 10))⟩,
    ⟨(some 52), none, .build [(.int .i64 0), (.int .i64 0), (.int .i64 0)] [(0, 1, (.c (.int .i64 1))), (1, 1, (.t 51))]⟩,
    ⟨(some 53), none, .build [(.int .i64 0), (.int .i64 0), (.int .i64 0), (.int .i64 0), (.int .i64 0), (.int .i64 0), (.slice none 0 0), (.slice none 0 0)] [(0, 1, (.c (.int .i64 1))), (1, 1, (.c (.int .i64 0))), (2, 3, (.t 52))]⟩,
    ⟨(some 8), none, .new [(.int .i64 0), (.int .i64 0), (.int .i64 0), (.int .i64 0), (.int .i64 0), (.int .i64 0), (.slice none 0 0), (.slice none 0 0)]⟩,
    ⟨none, none, .store 8 (.t 8) (.t 53)⟩])
 (.seq (.reg none [
    ⟨(some 54), none, .build [(.int .i64 0), (.int .i64 0), (.int .i64 0)] [(0, 1, (.c (.int .i64 2))), (1, 1, (.c (.int .i64 1)))]⟩,
    ⟨(some 55), none, .build [(.int .i64 0), (.int .i64 0), (.int .i64 0), (.int .i64 0), (.int .i64 0), (.int .i64 0), (.slice none 0 0), (.slice none 0 0)] [(0, 1, (.c (.int .i64 1))), (1, 1, (.c (.int .i64 1))), (2, 3, (.t 54))]⟩,
    ⟨(some 9), none, .new [(.int .i64 0), (.int .i64 0), (.int .i64 0), (.int .i64 0), (.int .i64 0), (.int .i64 0), (.slice none 0 0), (.slice none 0 0)]⟩,
    ⟨none, none, .store 8 (.t 9) (.t 55)⟩])
 (.seq (.reg none [
    ⟨(some 57), none, .fad 0 (.t 5)⟩,
    ⟨(some 58), none, .load false 1 (.t 57)⟩,
    ⟨(some 59), none, .load true 8 (.t 8)⟩,
    ⟨(some 60), none, .load true 8 (.t 9)⟩,
    ⟨(some 61), none, .lit 8 42 2 [(.int .i64 0), (.int .i64 0), (.int .i64 0), (.int .i64 0), (.int .i64 0), (.int .i64 0), (.slice none 0 0), (.slice none 0 0), (.int .i64 0), (.int .i64 0), (.int .i64 0), (.int .i64 0), (.int .i64 0), (.int .i64 0), (.slice none 0 0), (.slice none 0 0)] [(0, 8, (.t 59)), (8, 8, (.t 60))]⟩,
    ⟨(some 62), none, .build [(.slice none 0 0), (.slice none 0 0)] [(0, 1, (.t 58)), (1, 1, (.t 61))]⟩,
    ⟨(some 63), none, .mov (.t 6)⟩,
    ⟨(some 64), none, .call .k (.f 14) [(.t 62), (.t 63)]⟩,
    ⟨(some 56), none, .mov (.t 64)⟩,
    ⟨(some 65), none, .ext (.t 56) 0⟩,
    ⟨(some 66), none, .ext (.t 56) 1⟩,
    ⟨(some 10), none, .new [(.slice none 0 0), (.slice none 0 0), (.slice none 0 0)]⟩,
    ⟨none, none, .store 3 (.t 10) (.t 65)⟩,
    ⟨(some 11), none, .mov (.t 66)⟩])
 (.seq (.reg none [
    ⟨(some 68), none, .fad 0 (.t 5)⟩,
    ⟨(some 69), none, .load false 1 (.t 68)⟩,
    ⟨(some 70), none, .load true 8 (.t 9)⟩,
    ⟨(some 71), none, .load true 8 (.t 8)⟩,
    ⟨(some 72), none, .lit 8 42 2 [(.int .i64 0), (.int .i64 0), (.int .i64 0), (.int .i64 0), (.int .i64 0), (.int .i64 0), (.slice none 0 0), (.slice none 0 0), (.int .i64 0), (.int .i64 0), (.int .i64 0), (.int .i64 0), (.int .i64 0), (.int .i64 0), (.slice none 0 0), (.slice none 0 0)] [(0, 8, (.t 70)), (8, 8, (.t 71))]⟩,
    ⟨(some 73), none, .build [(.slice none 0 0), (.slice none 0 0)] [(0, 1, (.t 69)), (1, 1, (.t 72))]⟩,
    ⟨(some 74), none, .mov (.t 6)⟩,
    ⟨(some 75), none, .call .k (.f 14) [(.t 73), (.t 74)]⟩,
    ⟨(some 67), none, .mov (.t 75)⟩,
    ⟨(some 76), none, .ext (.t 67) 0⟩,
    ⟨(some 77), none, .ext (.t 67) 1⟩,
    ⟨(some 12), none, .new [(.slice none 0 0), (.slice none 0 0), (.slice none 0 0)]⟩,
    ⟨none, none, .store 3 (.t 12) (.t 76)⟩,
    ⟨(some 13), none, .mov (.t 77)⟩])
 (.seq (.reg (some 29) [
    ⟨(some 78), none, .mov (.t 11)⟩,
    ⟨(some 79), none, .mov (.t 78)⟩,
    ⟨(some 80), (some (79, true)), .mov (.t 13)⟩,
    ⟨(some 81), none, .pick (.t 79) (.t 80) (.c (.bool false))⟩,
    ⟨(some 82), none, .mov (.t 81)⟩,
    ⟨(some 83), (some (82, true)), .fad 0 (.t 10)⟩,
    ⟨(some 84), (some (82, true)), .load false 1 (.t 83)⟩,
    ⟨(some 85), (some (82, true)), .fad 0 (.t 12)⟩,
    ⟨(some 86), (some (82, true)), .load false 1 (.t 85)⟩,
    ⟨(some 87), (some (82, true)), .call .q (.f 16) [(.t 84), (.t 86)]⟩,
    ⟨(some 88), none, .pick (.t 82) (.t 87) (.c (.bool false))⟩,
    ⟨(some 89), none, .mov (.t 88)⟩,
    ⟨(some 90), (some (89, true)), .fad 0 (.t 10)⟩,
    ⟨(some 91), (some (89, true)), .load false 1 (.t 90)⟩,
    ⟨(some 92), (some (89, true)), .iad 1 (.t 91) (.c (.int .i64 0))⟩,
    ⟨(some 93), (some (89, true)), .load false 1 (.t 92)⟩,
    ⟨(some 94), (some (89, true)), .mov (.t 1)⟩,
    ⟨(some 95), (some (89, true)), .len (.t 94)⟩,
    ⟨(some 96), (some (89, true)), .bin .rem (.t 95) (.c (.int .i64 10))⟩,
    ⟨(some 97), (some (89, true)), .bin .eql (.t 93) (.t 96)⟩,
    ⟨(some 98), none, .pick (.t 89) (.t 97) (.c (.bool false))⟩,
    ⟨(some 99), none, .mov (.t 98)⟩,
    ⟨(some 100), (some (99, true)), .fad 0 (.t 10)⟩,
    ⟨(some 101), (some (99, true)), .load false 1 (.t 100)⟩,
    ⟨(some 102), (some (99, true)), .iad 1 (.t 101) (.c (.int .i64 1))⟩,
    ⟨(some 103), (some (99, true)), .load false 1 (.t 102)⟩,
    ⟨(some 104), (some (99, true)), .mov (.t 6)⟩,
    ⟨(some 105), (some (99, true)), .iad 1 (.t 104) (.c (.int .i64 1))⟩,
    ⟨(some 106), (some (99, true)), .load false 1 (.t 105)⟩,
    ⟨(some 107), (some (99, true)), .bin .eql (.t 103) (.t 106)⟩,
    ⟨(some 108), none, .pick (.t 99) (.t 107) (.c (.bool false))⟩,
    ⟨(some 4), none, .mov (.t 108)⟩])
 (.ret))))))))))⟩
def c_lcInts : IFn := ⟨2, 26, [.t 4],
 .seq (.reg none [
    ⟨(some 4), none, .mov (.c (.bool false))⟩])
 (.seq (.seq (.reg none [
     ⟨(some 6), none, .mov (.t 0)⟩,
     ⟨(some 7), none, .len (.t 6)⟩,
     ⟨(some 8), none, .mov (.t 1)⟩,
     ⟨(some 9), none, .len (.t 8)⟩,
     ⟨(some 10), none, .bin .neq (.t 7) (.t 9)⟩])
  (.cond (.t 10) (.seq (.reg none [
      ⟨(some 4), none, .mov (.c (.bool false))⟩])
   (.ret)) (.skip)))
 (.seq (.seq (.reg none [
     ⟨(some 5), none, .mov (.c (.int .i64 0))⟩])
  (.block 0 (.loop (.seq (.seq (.reg none [
        ⟨(some 11), none, .mov (.t 5)⟩,
        ⟨(some 12), none, .mov (.t 0)⟩,
        ⟨(some 13), none, .len (.t 12)⟩,
        ⟨(some 14), none, .bin .lss (.t 11) (.t 13)⟩])
     (.cond (.t 14) (.skip) (.exit 0)))
    (.seq (.block 1 (.seq (.reg (some 8) [
         ⟨(some 17), none, .mov (.t 0)⟩,
         ⟨(some 18), none, .mov (.t 5)⟩,
         ⟨(some 19), none, .iad 1 (.t 17) (.t 18)⟩,
         ⟨(some 20), none, .load false 1 (.t 19)⟩,
         ⟨(some 21), none, .mov (.t 1)⟩,
         ⟨(some 22), none, .mov (.t 5)⟩,
         ⟨(some 23), none, .iad 1 (.t 21) (.t 22)⟩,
         ⟨(some 24), none, .load false 1 (.t 23)⟩,
         ⟨(some 25), none, .bin .neq (.t 20) (.t 24)⟩])
      (.cond (.t 25) (.seq (.reg none [
          ⟨(some 4), none, .mov (.c (.bool false))⟩])
       (.ret)) (.skip))))
    (.reg none [
      ⟨(some 15), none, .mov (.t 5)⟩,
      ⟨(some 16), none, .bin .add (.t 15) (.c (.int .i64 1))⟩,
      ⟨(some 5), none, .mov (.t 16)⟩]))))))
 (.seq (.reg none [
    ⟨(some 4), none, .mov (.c (.bool true))⟩])
 (.ret))))⟩
/-- A region in two pieces: what comes behind is out of the walk's sight. -/
theorem wpp_app {F : Nat → Option IFn} {lo : Nat} {K : Env → Heap → Prop} {p : Nat} {l2 : List IOper} : ∀ (l1 : List IOper) (e : Env) (H : Heap), wpp F lo l1.length l1 e H (fun e1 H1 => wpp F lo p l2 e1 H1 K) → wpp F lo (l1.length + p) (l1 ++ l2) e H K
  | [], e, H, h => by
    have h' : wpp F lo p l2 e H K := h
    simpa using h'
  | o :: r, e, H, h => by
    rw [List.length_cons, Nat.add_right_comm, List.cons_append]
    refine ⟨fun hr => ?_, fun hr => wpp_app r _ _ (h.2 hr)⟩
    exact wpOp_mono (h.1 hr) fun v H1 h1 => wpp_app r _ _ h1
theorem wpp_cut {F : Nat → Option IFn} {lo : Nat} {K : Env → Heap → Prop} {p : Nat} {l : List IOper} {e : Env} {H : Heap} (a : Nat) (ha : a ≤ p) (hl : a ≤ l.length)
    (h : ∀ Kc : Env → Heap → Prop, (∀ e1 H1, wpp F lo (p - a) (l.drop a) e1 H1 K → Kc e1 H1) → wpp F lo a (l.take a) e H Kc) : wpp F lo p l e H K := by
  have h1 := h (fun e1 H1 => wpp F lo (p - a) (l.drop a) e1 H1 K) fun _ _ h => h
  have h2 : (l.take a).length = a := by rw [List.length_take]; omega
  have h3 := wpp_app (p := p - a) (l2 := l.drop a) (l.take a) e H (by rw [h2]; exact h1)
  rw [h2, List.take_append_drop, show a + (p - a) = p by omega] at h3
  exact h3
def IntsOk (F : Nat → Option IFn) (f : Nat) : Prop := ∀ (H : Heap) (v w : Value) (l l' : List Int), SlR Co.int (vw 0 H) v l → SlR Co.int (vw 0 H) w l' → QC F f [v, w] H (.bool (decide (l = l')))
theorem lcInts_ok {F : Nat → Option IFn} {f : Nat} (hf : F f = some c_lcInts) : IntsOk F f := by
  intro H v w l l' hv hw
  obtain ⟨h0, a, rfl, _⟩ := id hv
  obtain ⟨h0', a', rfl, _⟩ := id hw
  refine QC.mk hf rfl ?_
  refine seq_reg ?_
  simp only [go_sem, binC]
  by_cases hl : l.length = l'.length
  rotate_left
  · have hne : ((l.length : Int) != (l'.length : Int)) = true := by simp; omega
    refine seq_assoc (seq_reg ?_)
    simp only [go_sem, binC, hne]
    refine seq_cond (t := true) rfl ?_
    simp only [go_sem, binC]
    refine seq_assoc (seq_reg ?_)
    simp only [go_sem, binC]
    refine seq_ret ⟨Or.inr rfl, .bool false, by simp only [go_sem, binC], ?_, rfl⟩
    rw [decide_eq_false (fun h => hl (by rw [h]))]
  have hne : ((l.length : Int) != (l'.length : Int)) = false := by simp; omega
  refine seq_assoc (seq_reg ?_)
  simp only [go_sem, binC, hne]
  refine seq_cond (t := false) rfl ?_
  simp only [go_sem, binC]
  refine seq_skip (seq_assoc (seq_reg ?_))
  simp only [go_sem, binC]
  refine seq_block (wpc_loop ?_)
  suffices h : ∀ (k i : Nat) (e : Env), i + k = l.length → e 0 = .slice a l.length l.length → e 1 = .slice a' l'.length l'.length → e 5 = .int .i64 i → (l = l' ↔ l.drop i = l'.drop i) → W F H.length _ e _ _ from
    h l.length 0 _ (by omega) (by simp only [go_sem, binC]) (by simp only [go_sem, binC]) (by (simp only [go_sem, binC]) <;> rfl) (by simp)
  intro k
  induction k with
  | zero =>
    intro i e hi e0 e1 e5 heq
    refine lp_step ?_
    refine seq_assoc (seq_reg ?_)
    simp only [go_sem, binC, e0, e5]
    refine seq_cond (t := false) (by simp only [go_sem, binC]; rw [decide_eq_false (by omega)]) ?_
    simp only [go_sem, binC]
    refine seq_exit ?_
    simp only [go_sem, binC, thenX_e, out_e, thenX_n]
    refine seq_reg ?_
    simp only [go_sem, binC]
    refine wpc_ret ⟨Or.inr rfl, .bool true, by simp only [go_sem, binC], ?_, rfl⟩
    rw [decide_eq_true (heq.2 (by rw [List.drop_of_length_le (by omega), List.drop_of_length_le (by omega)]))]
  | succ k ih =>
    intro i e hi e0 e1 e5 heq
    have hil : i < l.length := by omega
    have hil' : i < l'.length := by omega
    obtain ⟨b, o, hv1, hg⟩ := gcI0 hv hil
    obtain ⟨b', o', hv2, hg'⟩ := gcI0 hw hil'
    simp only [Value.slice.injEq, and_true] at hv1 hv2
    subst hv1 hv2
    have hw1 : IntKind.i64.wrap ((i : Int) + 1) = ((i + 1 : Nat) : Int) := by rw [wrap_id (by omega) (by omega)]; omega
    rw [List.drop_eq_getElem_cons hil, List.drop_eq_getElem_cons hil', List.cons.injEq] at heq
    refine lp_step ?_
    refine seq_assoc (seq_reg ?_)
    simp only [go_sem, binC, e0, e5]
    refine seq_cond (t := true) (by simp only [go_sem, binC]; rw [decide_eq_true (by omega)]) ?_
    simp only [go_sem, binC]
    refine seq_skip (seq_block (seq_regD ?_))
    simp only [go_sem, binC, e0, e5]
    refine ⟨⟨by omega, by omega⟩, ?_⟩
    simp only [go_sem, binC, Int.toNat_natCast, Nat.mul_one, hg, e1, e5]
    refine ⟨⟨by omega, by omega⟩, ?_⟩
    simp only [go_sem, binC, Int.toNat_natCast, Nat.mul_one, hg']
    by_cases hq : l[i] = l'[i]
    · have hb : (l[i] != l'[i]) = false := by rw [hq]; exact bne_self_eq_false _
      simp only [go_sem, binC, hb]
      refine wpc_cond (t := false) (by (simp only [go_sem, binC]) <;> rfl) ?_
      simp only [go_sem, binC]
      refine wpc_skip ?_
      simp only [go_sem, binC, out_n, thenX_n]
      refine wpc_reg ?_
      simp only [go_sem, binC, e5, hw1]
      simp only [go_sem, binC, thenX_n]
      exact ih (i + 1) _ (by omega) (by simp only [go_sem, binC, e0]) (by simp only [go_sem, binC, e1]) (by simp only [go_sem, binC]) (by rw [heq]; exact ⟨fun h => h.2, fun h => ⟨hq, h⟩⟩)
    · have hb : (l[i] != l'[i]) = true := by simpa using hq
      simp only [go_sem, binC, hb]
      refine wpc_cond (t := true) (by (simp only [go_sem, binC]) <;> rfl) ?_
      simp only [go_sem, binC]
      refine seq_reg ?_
      simp only [go_sem, binC]
      refine wpc_ret ?_
      simp only [go_sem, binC, out_r, thenX_r]
      refine ⟨Or.inr rfl, .bool false, by simp only [go_sem, binC], ?_, rfl⟩
      rw [decide_eq_false (fun h => hq (heq.1 h).1)]
theorem step2_sl {H : Heap} {x a b c x' a' b' c' : Int} (es et : Nat) (ap so : Bool) (r : RgI x ∧ RgI a ∧ RgI b ∧ RgI c) (r' : RgI x' ∧ RgI a' ∧ RgI b' ∧ RgI c') : SlR (Co.step 1) (vw 0 (H ++ [⟨[.int .i64 1, .int .i64 x, .int .i64 a, .int .i64 b, .int .i64 c, .int .i64 0, nilS, nilS, .int .i64 1, .int .i64 x', .int .i64 a', .int .i64 b', .int .i64 c', .int .i64 0, nilS, nilS], es, et, ap, so⟩])) (sli H.length 0 2) [setS x (a, b, c), setS x' (a', b', c')] := by
  have hn : ∀ V, SlR (Co.step 0) V nilS [] := fun V => ⟨by simp, none, rfl, .inl rfl⟩
  refine ⟨by simp, _, rfl, .inr ⟨H.length, 0, rfl, fun i hi => ?_⟩⟩
  have : i = 0 ∨ i = 1 := by simp at hi; omega
  rcases this with rfl | rfl
  · refine ⟨_, ?_, step_rd rone r.1 r.2.1 r.2.2.1 r.2.2.2 ⟨by omega, by omega⟩ (hn _) (hn _)⟩
    unfold rng vw
    rw [if_pos (Nat.zero_le _), get_new0]
    rfl
  · refine ⟨_, ?_, step_rd rone r'.1 r'.2.1 r'.2.2.1 r'.2.2.2 ⟨by omega, by omega⟩ (hn _) (hn _)⟩
    unfold rng vw
    rw [if_pos (Nat.zero_le _), get_new0]
    rfl
theorem step2_sm {x x' : Int} {v v' : Int × Int × Int} {ls : List (Int × Int)} (h : ls.length ≤ 4) : (Co.prog 1).sm (ls, [setS x v, setS x' v']) := by
  refine ⟨⟨by simp only; omega, fun a _ => ⟨trivial, trivial⟩⟩, by simp, fun a ha => ?_⟩
  simp only [List.mem_cons, List.not_mem_nil, or_false] at ha
  rcases ha with rfl | rfl
  · exact setS_sm
  · exact setS_sm
theorem runOf_swap {d : Nat} {ls : List (Int × Int)} {l : List (TStep d)} {nums : List Int} (h : numsB d (ls, l) nums = true) {nd : Nat} (hd : nd < 10) (h2 : 2 ≤ nums.length) :
    numsB 1 (ls, [setS 0 (1, nd, 0), setS 1 (2, 1, 0)]) nums = true ∧ (runOf 1 (ls, [setS 0 (1, nd, 0), setS 1 (2, 1, 0)]) nums).1 = nums.set 0 nd ∧
    numsB 1 (ls, [setS 1 (2, 1, 0), setS 0 (1, nd, 0)]) nums = true ∧ (runOf 1 (ls, [setS 1 (2, 1, 0), setS 0 (1, nd, 0)]) nums).1 = nums.set 0 nd := by
  obtain ⟨hl, _, _⟩ := numsB_len h
  have v0 : varB ls.length 0 = true := by unfold varB inB; simp; omega
  have v1 : varB ls.length 1 = true := by unfold varB inB; simp; omega
  have i9 : inB (nd : Int) 0 9 = true := by unfold inB; simp; omega
  have w0 : valB ls.length (1, (nd : Int), 0) = true := by simp [valB, i9]
  have w1 : valB ls.length (2, 1, 0) = true := by simp [valB, v1]
  have h1 : numsB 1 (ls, [setS 0 (1, nd, 0), setS 1 (2, 1, 0)]) nums = true := numsB_new h (by simp [stepB_setS v0 w0, stepB_setS v1 w1]) (by simp [cntL, cntT_setS]) (by simp [cntL, cntT_setS])
  have h3 : numsB 1 (ls, [setS 1 (2, 1, 0), setS 0 (1, nd, 0)]) nums = true := numsB_new h (by simp [stepB_setS v0 w0, stepB_setS v1 w1]) (by simp [cntL, cntT_setS]) (by simp [cntL, cntT_setS])
  refine ⟨h1, ?_, h3, ?_⟩
  all_goals
    unfold runOf
    rw [if_pos (by assumption), runL, List.foldl_cons, List.foldl_cons, List.foldl_nil, runT_setS, runT_setS]
    obtain ⟨x0, x1, r, rfl⟩ : ∃ x0 x1 r, nums = x0 :: x1 :: r := by
      cases nums with
      | nil => simp at h2
      | cons x0 r => cases r with
        | nil => simp at h2
        | cons x1 r => exact ⟨_, _, _, rfl⟩
    simp [valN]
set_option maxHeartbeats 4000000 in
theorem lawRS_ok {F : Nat → Option IFn} {f : Nat} (hf : F f = some c_lawRS) (gd : DrawNumsOk F 12) (gi : NumsOk F 13) (gr : RunOk F 14) (gs : NumsOk F 15) (gl : IntsOk F 16) : LawB2 F f := by
  intro H v w code more hv hw
  have hv0 := hv
  obtain ⟨h0, a, rfl, _⟩ := hv
  obtain ⟨hm0, am, rfl, _⟩ := hw
  refine QC.mk hf rfl ?_
  refine seq_reg ?_
  simp only [go_sem, binC]
  by_cases hbig : 1048576 < (code.length : Int)
  · refine seq_assoc (seq_reg ?_)
    simp only [go_sem, binC, decide_eq_true hbig]
    refine seq_cond (t := true) rfl ?_
    simp only [go_sem, binC]
    refine seq_assoc (seq_reg ?_)
    simp only [go_sem, binC]
    exact seq_ret ⟨Or.inr rfl, .bool true, by simp only [go_sem, binC], rfl, rfl⟩
  by_cases hbig2 : 1048576 < (more.length : Int)
  · refine seq_assoc (seq_reg ?_)
    simp only [go_sem, binC, decide_eq_false hbig, decide_eq_true hbig2]
    refine seq_cond (t := true) rfl ?_
    simp only [go_sem, binC]
    refine seq_assoc (seq_reg ?_)
    simp only [go_sem, binC]
    exact seq_ret ⟨Or.inr rfl, .bool true, by simp only [go_sem, binC], rfl, rfl⟩
  refine seq_assoc (seq_reg ?_)
  simp only [go_sem, binC, decide_eq_false hbig, decide_eq_false hbig2]
  refine seq_cond (t := false) rfl ?_
  simp only [go_sem, binC]
  refine seq_skip (seq_reg ?_)
  simp only [go_sem, binC]
  obtain ⟨d, lv, sv, nv, ls, l, nums, H1, k, hx, r1, r2, r3, r4⟩ := gd H _ code hv0
  have hl1 := hx.1
  have olv : one lv = true := by obtain ⟨_, a, rfl, _⟩ := r1; rfl
  have osv : one sv = true := by obtain ⟨_, a, rfl, _⟩ := r2; rfl
  refine op_callK (by simp only [go_sem, binC]; exact k) ?_
  simp only [go_sem, binC, olv, osv]
  refine ⟨by omega, ?_⟩
  refine wpc_gen fun H2 hH2 => ?_
  have hb : H2[H1.length]? = some ⟨[lv, sv], 0, 0, false, true⟩ := hH2 ▸ get_new0 _ _
  have hS : Sub (vw 0 H1) (vw 0 H2) := hH2 ▸ vw_app 0 H1 _
  have hl2 : H2.length = H1.length + 1 := by rw [hH2, List.length_append]; rfl
  replace r1 := r1.mono hS
  replace r2 := r2.mono hS
  replace r4 := r4.mono hS
  clear hH2 hS
  obtain ⟨hln, na0, hnv, _⟩ := id r4
  subst hnv
  obtain ⟨hlls, la0, hlv, _⟩ := id r1
  subst hlv
  refine seq_reg ?_
  simp only [go_sem, binC, gc_of hb, inBlk_some, osv]
  refine op_callQ (by simp only [go_sem, binC]; exact gi H2 d _ _ _ ls l nums r1 r2 r3 r4) ?_
  simp only [go_sem, binC]
  cases hB : numsB d (ls, l) nums with
  | false =>
    refine seq_assoc (seq_reg ?_)
    simp only [go_sem, binC, gc_of hb, inBlk_some, osv]
    refine op_callQ (by simp only [go_sem, binC]; exact gs H2 d _ _ _ ls l nums r1 r2 r3 r4) ?_
    simp only [go_sem, binC, hB, beq_self_eq_true]
    refine seq_cond (t := true) rfl ?_
    simp only [go_sem, binC]
    refine seq_assoc (seq_reg ?_)
    simp only [go_sem, binC, gc_of hb, inBlk_some, osv]
    refine op_callQ (by simp only [go_sem, binC]; exact gs H2 d _ _ _ ls l nums r1 r2 r3 r4) ?_
    simp only [go_sem, binC, hB, beq_self_eq_true]
    exact seq_ret ⟨Or.inr rfl, .bool true, by simp only [go_sem, binC], rfl, rfl⟩
  | true =>
  obtain ⟨hnl, hl4, hrg⟩ := numsB_len hB
  by_cases hz : nums.length < 2
  · have hz0 : decide ((nums.length : Int) < 2) = true := decide_eq_true (by omega)
    refine seq_assoc (seq_reg ?_)
    simp only [go_sem, binC, gc_of hb, inBlk_some, osv]
    refine op_callQ (by simp only [go_sem, binC]; exact gs H2 d _ _ _ ls l nums r1 r2 r3 r4) ?_
    simp only [go_sem, binC, hB, beq_self_eq_true, bne_self_eq_false, hz0]
    refine seq_cond (t := true) rfl ?_
    simp only [go_sem, binC]
    refine seq_assoc (seq_reg ?_)
    simp only [go_sem, binC, gc_of hb, inBlk_some, osv]
    refine op_callQ (by simp only [go_sem, binC]; exact gs H2 d _ _ _ ls l nums r1 r2 r3 r4) ?_
    simp only [go_sem, binC, hB, beq_self_eq_true]
    exact seq_ret ⟨Or.inr rfl, .bool true, by simp only [go_sem, binC], rfl, rfl⟩
  have hz0 : decide ((nums.length : Int) < 2) = false := decide_eq_false (by omega)
  refine seq_assoc (seq_reg ?_)
  simp only [go_sem, binC, gc_of hb, inBlk_some, osv]
  refine op_callQ (by simp only [go_sem, binC]; exact gs H2 d _ _ _ ls l nums r1 r2 r3 r4) ?_
  simp only [go_sem, binC, hB, beq_self_eq_true, bne_self_eq_false, hz0]
  refine seq_cond (t := false) rfl ?_
  simp only [go_sem, binC]
  have ed : binI .rem .i64 (more.length : Int) 10 = some (.int .i64 ((more.length % 10 : Nat) : Int)) := by rw [rem_eq (by omega), Int.tmod_eq_emod_of_nonneg (by omega)]; rfl
  have hnd := Nat.mod_lt more.length (show 0 < 10 by omega)
  refine seq_skip (seq_reg ?_)
  simp only [go_sem, binC, ed]
  generalize more.length % 10 = nd at hnd ed
  have rnd : RgI nd := by unfold RgI; omega
  have r0 : RgI 0 := by unfold RgI; omega
  have r11 : RgI 1 := by unfold RgI; omega
  have r22 : RgI 2 := by unfold RgI; omega
  obtain ⟨n1, q1, n2, q2⟩ := runOf_swap hB hnd (by omega)
  refine ⟨by omega, ?_⟩
  refine wpc_gen fun H3 hH3 => ?_
  have hx3 : AgX [] H2 H3 := hH3 ▸ AgX.app [] _ _
  have hba : H3[H2.length]? = some ⟨[.int .i64 1, .int .i64 0, .int .i64 1, .int .i64 nd, .int .i64 0, .int .i64 0, nilS, nilS], 0, 0, false, true⟩ := hH3 ▸ get_new0 _ _
  clear hH3
  have hl3 := hx3.1
  refine seq_reg ?_
  simp only [go_sem, binC]
  refine ⟨by omega, ?_⟩
  refine wpc_gen fun H4 hH4 => ?_
  have hx4 : AgX [] H3 H4 := hH4 ▸ AgX.app [] _ _
  have hbb4 : H4[H3.length]? = some ⟨[.int .i64 1, .int .i64 1, .int .i64 2, .int .i64 1, .int .i64 0, .int .i64 0, nilS, nilS], 0, 0, false, true⟩ := hH4 ▸ get_new0 _ _
  clear hH4
  have hba4 := hx4.get hba (by simp)
  have hx24 := hx3.tr hx4
  have hb4 := hx24.get hb (by simp)
  have hl4' := hx24.1
  refine seq_reg ?_
  simp only [go_sem, binC, gc_of hb4, gc_of hba4, gc_of hbb4, inBlk_some]
  have hxa : AgX [] H4 (H4 ++ [⟨[.int .i64 1, .int .i64 0, .int .i64 1, .int .i64 nd, .int .i64 0, .int .i64 0, nilS, nilS, .int .i64 1, .int .i64 1, .int .i64 2, .int .i64 1, .int .i64 0, .int .i64 0, nilS, nilS], 8, 42, true, true⟩]) := AgX.app [] _ _
  have hSa := agx_sub (hx24.tr hxa)
  obtain ⟨nv5, wv5, tv5, H5, k5, x5, s1, s2, s3⟩ := gr _ 1 _ _ _ ls _ nums (r1.mono hSa) (step2_sl 8 42 true true ⟨r0, r11, rnd, r0⟩ ⟨r11, r22, r11, r0⟩) (step2_sm hl4) (r4.mono hSa)
  have o1 : one nv5 = true := by obtain ⟨_, a, rfl, _⟩ := s1; rfl
  have o2 : one wv5 = true := by obtain ⟨_, a, rfl, _⟩ := s2; rfl
  have o3 : one tv5 = true := by obtain ⟨_, a, rfl, _⟩ := s3; rfl
  have hl5 := x5.1
  rw [List.length_append] at hl5
  refine op_callK (by simp only [go_sem, binC]; exact k5) ?_
  simp only [go_sem, binC, n1, o1, o2, o3]
  refine ⟨by omega, ?_⟩
  refine wpc_gen fun H6 hH6 => ?_
  have hx56 : AgX [] H5 H6 := hH6 ▸ AgX.app [] _ _
  have hb6x : H6[H5.length]? = some ⟨[nv5, wv5, tv5], 0, 0, false, true⟩ := hH6 ▸ get_new0 _ _
  have hl6 : H6.length = H5.length + 1 := by rw [hH6, List.length_append]; rfl
  clear hH6
  rw [q1] at s1
  have s16 := s1.mono (agx_sub hx56)
  have hx46 := hxa.tr (x5.tr hx56)
  have hba6 := hx46.get hba4 (by simp)
  have hbb6 := hx46.get hbb4 (by simp)
  have hb6 := hx46.get hb4 (by simp)
  refine seq_reg ?_
  simp only [go_sem, binC, gc_of hb6, gc_of hba6, gc_of hbb6, inBlk_some]
  have hxb : AgX [] H6 (H6 ++ [⟨[.int .i64 1, .int .i64 1, .int .i64 2, .int .i64 1, .int .i64 0, .int .i64 0, nilS, nilS, .int .i64 1, .int .i64 0, .int .i64 1, .int .i64 nd, .int .i64 0, .int .i64 0, nilS, nilS], 8, 42, true, true⟩]) := AgX.app [] _ _
  have hSb := agx_sub ((hx24.tr hx46).tr hxb)
  obtain ⟨nv7, wv7, tv7, H7, k7, x7, t1, t2, t3⟩ := gr _ 1 _ _ _ ls _ nums (r1.mono hSb) (step2_sl 8 42 true true ⟨r11, r22, r11, r0⟩ ⟨r0, r11, rnd, r0⟩) (step2_sm hl4) (r4.mono hSb)
  have p1 : one nv7 = true := by obtain ⟨_, a, rfl, _⟩ := t1; rfl
  have p2 : one wv7 = true := by obtain ⟨_, a, rfl, _⟩ := t2; rfl
  have p3 : one tv7 = true := by obtain ⟨_, a, rfl, _⟩ := t3; rfl
  have hl7 := x7.1
  rw [List.length_append] at hl7
  refine op_callK (by simp only [go_sem, binC]; exact k7) ?_
  simp only [go_sem, binC, n2, p1, p2, p3]
  refine ⟨by omega, ?_⟩
  refine wpc_gen fun H8 hH8 => ?_
  have hx78 : AgX [] H7 H8 := hH8 ▸ AgX.app [] _ _
  have hb8y : H8[H7.length]? = some ⟨[nv7, wv7, tv7], 0, 0, false, true⟩ := hH8 ▸ get_new0 _ _
  clear hH8
  rw [q2] at t1
  have hx68 := hxb.tr (x7.tr hx78)
  have s18 := s16.mono (agx_sub hx68)
  have t18 := t1.mono (agx_sub hx78)
  have hb8x := hx68.get hb6x (by simp)
  have r48 := r4.mono (agx_sub ((hx24.tr hx46).tr hx68))
  have hsl : (nums.set 0 (nd : Int)).length = nums.length := List.length_set
  obtain ⟨ob, oo, hnv5, g50⟩ := gcI0 s18 (i := 0) (by simp only [hsl]; omega)
  subst hnv5
  have g51 := gcI2 s18 (i := 1) (by simp only [hsl]; omega)
  obtain ⟨nblk, no, hnv, _⟩ := gcI0 r48 (i := 1) (by omega)
  simp only [Value.slice.injEq, and_true] at hnv
  subst hnv
  have g1 := gcI2 r48 (i := 1) (by omega)
  simp only [List.getElem_set_self, List.getElem_set_ne (show (0 : Nat) ≠ 1 by omega), Nat.add_zero, hsl] at g50 g51 g1
  obtain ⟨_, a7, rfl, _⟩ := id t1
  refine wpc_genE fun e0 he => ?_
  have e1 : e0 1 = .slice am more.length more.length := by rw [he]; simp only [go_sem, binC]
  have e6 : e0 6 = .slice (some ⟨nblk, no, none⟩) nums.length nums.length := by rw [he]; simp only [go_sem, binC]
  have e10 : e0 10 = ptr H5.length 0 := by rw [he]; simp only [go_sem, binC]
  have e11 : e0 11 = .bool true := by rw [he]; simp only [go_sem, binC]
  have e12 : e0 12 = ptr H7.length 0 := by rw [he]; simp only [go_sem, binC]
  have e13 : e0 13 = .bool true := by rw [he]; simp only [go_sem, binC]
  clear he
  refine seq_regD ?_
  refine wpp_cut 10 (by omega) (by simp only [List.length_cons, List.length_nil]; omega) fun Kc hK => ?_
  simp only [List.take_succ_cons, List.take_zero]
  simp only [go_sem, binC, e1, e6, e10, e11, e12, e13, gc_of hb8x, gc_of hb8y, inBlk_some]
  refine op_callQ (by simp only [go_sem, binC]; exact gl _ _ _ _ _ s18 t18) ?_
  simp only [go_sem, binC, decide_true]
  refine hK _ _ ?_
  simp only [List.drop_succ_cons, List.drop_zero]
  simp only [go_sem, binC, e1, e6, e10, gc_of hb8x, inBlk_some, hsl]
  refine ⟨⟨by omega, by omega⟩, ?_⟩
  simp only [go_sem, binC, show (0 : Int).toNat * 1 = 0 from rfl, Nat.add_zero, g50, ed, e1, e6, e10, beq_self_eq_true, gc_of hb8x, inBlk_some, hsl]
  refine ⟨⟨by omega, by omega⟩, ?_⟩
  simp only [go_sem, binC, show (1 : Int).toNat * 1 = 1 from rfl, g51, e6]
  refine ⟨⟨by omega, by omega⟩, ?_⟩
  simp only [go_sem, binC, show (1 : Int).toNat * 1 = 1 from rfl, g1, beq_self_eq_true]
  exact wpc_ret ⟨Or.inr rfl, .bool true, by simp only [go_sem, binC], rfl, rfl⟩
end Go.Proofs.YtpaoppgbgjnkmaaI
end
section
/- Steps are done (the reference). -/
set_option linter.unusedVariables false
set_option linter.unusedSimpArgs false
namespace Go.Proofs.YtpaoppgbgjnkmaaI
open Go Go.RowKit
def c_sNum : IFn := ⟨2, 43, [.t 4],
 .seq (.reg none [
    ⟨(some 2), none, .box (.t 0)⟩,
    ⟨(some 4), none, .mov (.c (.int .i64 0))⟩])
 (.seq (.seq (.reg none [
     ⟨(some 5), none, .fad 0 (.t 2)⟩,
     ⟨(some 6), none, .load false 1 (.t 5)⟩])
  (.block 0 (.seq (.reg none [
      ⟨(some 8), none, .bin .eql (.t 6) (.c (.int .i64 1))⟩,
      ⟨(some 7), none, .mov (.t 8)⟩])
   (.cond (.t 7) (.seq (.reg none [
       ⟨(some 9), none, .fad 1 (.t 2)⟩,
       ⟨(some 10), none, .load false 1 (.t 9)⟩,
       ⟨(some 4), none, .mov (.t 10)⟩])
    (.ret)) (.seq (.reg none [
       ⟨(some 12), none, .bin .eql (.t 6) (.c (.int .i64 2))⟩,
       ⟨(some 11), none, .mov (.t 12)⟩])
    (.cond (.t 11) (.seq (.reg none [
        ⟨(some 13), none, .mov (.t 1)⟩,
        ⟨(some 14), none, .fad 1 (.t 2)⟩,
        ⟨(some 15), none, .load false 1 (.t 14)⟩,
        ⟨(some 16), none, .iad 1 (.t 13) (.t 15)⟩,
        ⟨(some 17), none, .load false 1 (.t 16)⟩,
        ⟨(some 4), none, .mov (.t 17)⟩])
     (.ret)) (.seq (.reg none [
        ⟨(some 19), none, .bin .eql (.t 6) (.c (.int .i64 3))⟩,
        ⟨(some 18), none, .mov (.t 19)⟩])
     (.cond (.t 18) (.seq (.reg (some 10) [
         ⟨(some 20), none, .mov (.t 1)⟩,
         ⟨(some 21), none, .fad 1 (.t 2)⟩,
         ⟨(some 22), none, .load false 1 (.t 21)⟩,
         ⟨(some 23), none, .iad 1 (.t 20) (.t 22)⟩,
         ⟨(some 24), none, .load false 1 (.t 23)⟩,
         ⟨(some 25), none, .mov (.t 1)⟩,
         ⟨(some 26), none, .fad 2 (.t 2)⟩,
         ⟨(some 27), none, .load false 1 (.t 26)⟩,
         ⟨(some 28), none, .iad 1 (.t 25) (.t 27)⟩,
         ⟨(some 29), none, .load false 1 (.t 28)⟩,
         ⟨(some 30), none, .bin .add (.t 24) (.t 29)⟩,
         ⟨(some 31), none, .bin .rem (.t 30) (.c (.int .i64 10))⟩,
         ⟨(some 4), none, .mov (.t 31)⟩])
      (.ret)) (.skip)))))))))
 (.seq (.seq (.reg (some 10) [
     ⟨(some 32), none, .mov (.t 1)⟩,
     ⟨(some 33), none, .fad 1 (.t 2)⟩,
     ⟨(some 34), none, .load false 1 (.t 33)⟩,
     ⟨(some 35), none, .iad 1 (.t 32) (.t 34)⟩,
     ⟨(some 36), none, .load false 1 (.t 35)⟩,
     ⟨(some 37), none, .mov (.t 1)⟩,
     ⟨(some 38), none, .fad 2 (.t 2)⟩,
     ⟨(some 39), none, .load false 1 (.t 38)⟩,
     ⟨(some 40), none, .iad 1 (.t 37) (.t 39)⟩,
     ⟨(some 41), none, .load false 1 (.t 40)⟩,
     ⟨(some 42), none, .bin .eql (.t 36) (.t 41)⟩])
  (.cond (.t 42) (.seq (.reg none [
      ⟨(some 4), none, .mov (.c (.int .i64 1))⟩])
   (.ret)) (.skip)))
 (.seq (.reg none [
    ⟨(some 4), none, .mov (.c (.int .i64 0))⟩])
 (.ret))))⟩
def c_sDo : IFn := ⟨2, 74, [.cell true 3 4],
 .seq (.reg none [
    ⟨(some 3), none, .box (.t 1)⟩,
    ⟨(some 4), none, .new [(.slice none 0 0), (.slice none 0 0), (.slice none 0 0)]⟩])
 (.seq (.seq (.reg none [
     ⟨(some 5), none, .mov (.c (.int .i64 0))⟩])
  (.block 0 (.loop (.seq (.seq (.reg none [
        ⟨(some 8), none, .mov (.t 5)⟩,
        ⟨(some 9), none, .mov (.t 0)⟩,
        ⟨(some 10), none, .len (.t 9)⟩,
        ⟨(some 11), none, .bin .lss (.t 8) (.t 10)⟩])
     (.cond (.t 11) (.skip) (.exit 0)))
    (.seq (.block 1 (.seq (.reg none [
         ⟨(some 14), none, .mov (.t 0)⟩,
         ⟨(some 15), none, .mov (.t 5)⟩,
         ⟨(some 16), none, .iad 8 (.t 14) (.t 15)⟩,
         ⟨(some 17), none, .load true 8 (.t 16)⟩,
         ⟨(some 6), none, .new [(.int .i64 0), (.int .i64 0), (.int .i64 0), (.int .i64 0), (.int .i64 0), (.int .i64 0), (.slice none 0 0), (.slice none 0 0)]⟩,
         ⟨none, none, .store 8 (.t 6) (.t 17)⟩])
      (.seq (.reg none [
         ⟨(some 18), none, .fad 0 (.t 6)⟩,
         ⟨(some 19), none, .load false 1 (.t 18)⟩])
      (.block 2 (.seq (.reg none [
          ⟨(some 36), none, .bin .eql (.t 19) (.c (.int .i64 1))⟩,
          ⟨(some 35), none, .mov (.t 36)⟩])
       (.cond (.t 35) (.seq (.reg none [
           ⟨(some 37), none, .fad 2 (.t 6)⟩,
           ⟨(some 38), none, .load true 3 (.t 37)⟩,
           ⟨(some 39), none, .fad 0 (.t 3)⟩,
           ⟨(some 40), none, .load false 1 (.t 39)⟩,
           ⟨(some 41), none, .call .q (.f 85) [(.t 38), (.t 40)]⟩,
           ⟨(some 7), none, .mov (.t 41)⟩])
        (.seq (.reg none [
           ⟨(some 42), none, .fad 0 (.t 3)⟩,
           ⟨(some 43), none, .load false 1 (.t 42)⟩,
           ⟨(some 44), none, .fad 1 (.t 6)⟩,
           ⟨(some 45), none, .load false 1 (.t 44)⟩,
           ⟨(some 46), none, .mov (.t 7)⟩,
           ⟨(some 47), none, .iad 1 (.t 43) (.t 45)⟩,
           ⟨none, none, .store 1 (.t 47) (.t 46)⟩])
        (.reg none [
          ⟨(some 48), none, .fad 1 (.t 3)⟩,
          ⟨(some 49), none, .load false 1 (.t 48)⟩,
          ⟨(some 50), none, .fad 1 (.t 6)⟩,
          ⟨(some 51), none, .load false 1 (.t 50)⟩,
          ⟨(some 52), none, .mov (.t 7)⟩,
          ⟨(some 53), none, .build [(.int .i64 0), (.int .i64 0)] [(0, 1, (.t 51)), (1, 1, (.t 52))]⟩,
          ⟨(some 54), none, .lit 2 48 1 [(.int .i64 0), (.int .i64 0)] [(0, 2, (.t 53))]⟩,
          ⟨(some 55), none, .app 2 48 16 false (.t 49) (.t 54)⟩,
          ⟨(some 56), none, .fad 1 (.t 3)⟩,
          ⟨none, none, .store 1 (.t 56) (.t 55)⟩]))) (.seq (.reg none [
           ⟨(some 58), none, .bin .eql (.t 19) (.c (.int .i64 3))⟩,
           ⟨(some 57), none, .mov (.t 58)⟩])
        (.cond (.t 57) (.reg (some 12) [
           ⟨(some 59), none, .fad 2 (.t 3)⟩,
           ⟨(some 60), none, .load false 1 (.t 59)⟩,
           ⟨(some 61), none, .fad 5 (.t 6)⟩,
           ⟨(some 62), none, .load false 1 (.t 61)⟩,
           ⟨(some 63), none, .fad 0 (.t 3)⟩,
           ⟨(some 64), none, .load false 1 (.t 63)⟩,
           ⟨(some 65), none, .fad 1 (.t 6)⟩,
           ⟨(some 66), none, .load false 1 (.t 65)⟩,
           ⟨(some 67), none, .iad 1 (.t 64) (.t 66)⟩,
           ⟨(some 68), none, .load false 1 (.t 67)⟩,
           ⟨(some 69), none, .build [(.int .i64 0), (.int .i64 0)] [(0, 1, (.t 62)), (1, 1, (.t 68))]⟩,
           ⟨(some 70), none, .lit 2 79 1 [(.int .i64 0), (.int .i64 0)] [(0, 2, (.t 69))]⟩,
           ⟨(some 71), none, .app 2 79 16 false (.t 60) (.t 70)⟩,
           ⟨(some 72), none, .fad 2 (.t 3)⟩,
           ⟨none, none, .store 1 (.t 72) (.t 71)⟩]) (.seq (.reg none [
            ⟨(some 20), none, .fad 0 (.t 3)⟩,
            ⟨(some 21), none, .load false 1 (.t 20)⟩,
            ⟨(some 22), none, .fad 1 (.t 6)⟩,
            ⟨(some 23), none, .load false 1 (.t 22)⟩,
            ⟨(some 24), none, .iad 1 (.t 21) (.t 23)⟩,
            ⟨(some 25), none, .load false 1 (.t 24)⟩,
            ⟨(some 26), none, .bin .neq (.t 25) (.c (.int .i64 0))⟩])
         (.cond (.t 26) (.reg none [
            ⟨(some 27), none, .fad 6 (.t 6)⟩,
            ⟨(some 28), none, .load false 1 (.t 27)⟩,
            ⟨(some 29), none, .load true 3 (.t 3)⟩,
            ⟨(some 30), none, .call .n (.f 49) [(.t 28), (.t 29)]⟩,
            ⟨none, none, .store 3 (.t 3) (.t 30)⟩]) (.reg none [
            ⟨(some 31), none, .fad 7 (.t 6)⟩,
            ⟨(some 32), none, .load false 1 (.t 31)⟩,
            ⟨(some 33), none, .load true 3 (.t 3)⟩,
            ⟨(some 34), none, .call .n (.f 49) [(.t 32), (.t 33)]⟩,
            ⟨none, none, .store 3 (.t 3) (.t 34)⟩])))))))))))
    (.reg none [
      ⟨(some 12), none, .mov (.t 5)⟩,
      ⟨(some 13), none, .bin .add (.t 12) (.c (.int .i64 1))⟩,
      ⟨(some 5), none, .mov (.t 13)⟩]))))))
 (.seq (.reg none [
    ⟨(some 73), none, .load true 3 (.t 3)⟩,
    ⟨none, none, .store 3 (.t 4) (.t 73)⟩])
 (.ret)))⟩
theorem sNum_ok {F : Nat → Option IFn} {f : Nat} (hf : F f = some c_sNum) : ∀ (H : Heap) (k a b : Int) (w : Value) (xs : List Int), SlR Co.int (vw 0 H) w xs → (∀ x ∈ xs, 0 ≤ x ∧ x ≤ 9) → valB xs.length (k, a, b) = true → QC F f [.agg #[.int .i64 k, .int .i64 a, .int .i64 b], w] H (.int .i64 (valN xs (k, a, b))) := by
  intro H k a b w xs hw hx hv
  obtain ⟨_, wa, rfl, _⟩ := id hw
  have hS : ∀ L, Sub (vw 0 H) (vw 0 (H ++ L)) := fun L => vw_app 0 H L
  refine QC.mk hf rfl ?_
  refine seq_reg ?_
  simp only [go_sem, binC]
  refine seq_assoc (seq_reg ?_)
  simp only [go_sem, binC]
  refine seq_block (seq_reg ?_)
  simp only [go_sem, binC]
  unfold valB at hv
  by_cases h1 : k = 1
  · simp only [go_sem, binC, beq_t h1]
    refine wpc_cond (t := true) rfl ?_
    simp only [go_sem, binC]
    refine seq_reg ?_
    simp only [go_sem, binC]
    refine wpc_ret ?_
    simp only [go_sem, binC, out_r, thenX_r]
    refine ⟨Or.inr rfl, _, (by (simp only [go_sem, binC]) <;> rfl), ?_, rfl⟩
    simp [valN, h1]
  rw [if_neg h1] at hv
  simp only [go_sem, binC, beq_f h1]
  refine wpc_cond (t := false) rfl ?_
  simp only [go_sem, binC]
  refine seq_reg ?_
  simp only [go_sem, binC]
  by_cases h2 : k = 2
  · rw [if_pos h2] at hv
    simp only [Bool.and_eq_true, varB, inB_iff'] at hv
    have hal : a.toNat < xs.length := by omega
    obtain ⟨wb, wo, hwv, _⟩ := gcI0 hw hal
    simp only [Value.slice.injEq, and_true] at hwv
    subst hwv
    have g0 := fun L => (gcI2 (hw.mono (hS L)) hal)
    simp only [go_sem, binC, beq_t h2]
    refine wpc_cond (t := true) rfl ?_
    simp only [go_sem, binC]
    refine seq_reg ?_
    simp only [go_sem, binC]
    refine ⟨⟨by omega, by omega⟩, ?_⟩
    simp only [go_sem, binC, Nat.mul_one, g0]
    refine wpc_ret ?_
    simp only [go_sem, binC, out_r, thenX_r]
    refine ⟨Or.inr rfl, _, (by (simp only [go_sem, binC]) <;> rfl), ?_, rfl⟩
    simp [valN, h2, List.getD, List.getElem?_eq_getElem hal]
  rw [if_neg h2] at hv
  simp only [go_sem, binC, beq_f h2]
  refine wpc_cond (t := false) rfl ?_
  simp only [go_sem, binC]
  refine seq_reg ?_
  simp only [go_sem, binC]
  have h34 : k = 3 ∨ k = 4 := by
    by_cases h : k = 3 ∨ k = 4
    · exact h
    · simp [h] at hv
  rw [if_pos h34] at hv
  simp only [Bool.and_eq_true, varB, inB_iff'] at hv
  have hal : a.toNat < xs.length := by omega
  have hbl : b.toNat < xs.length := by omega
  obtain ⟨wb, wo, hwv, _⟩ := gcI0 hw hal
  simp only [Value.slice.injEq, and_true] at hwv
  subst hwv
  have g0 := fun L => (gcI2 (hw.mono (hS L)) hal)
  have g1 := fun L => (gcI2 (hw.mono (hS L)) hbl)
  have x0 := hx xs[a.toNat] (List.getElem_mem _)
  have x1 := hx xs[b.toNat] (List.getElem_mem _)
  have e0 : xs.getD a.toNat 0 = xs[a.toNat] := by simp [List.getD, List.getElem?_eq_getElem hal]
  have e1 : xs.getD b.toNat 0 = xs[b.toNat] := by simp [List.getD, List.getElem?_eq_getElem hbl]
  by_cases h3 : k = 3
  · simp only [go_sem, binC, beq_t h3]
    refine wpc_cond (t := true) rfl ?_
    simp only [go_sem, binC]
    refine seq_regD ?_
    simp only [go_sem, binC]
    refine ⟨⟨by omega, by omega⟩, ?_⟩
    simp only [go_sem, binC, Nat.mul_one, g0]
    refine ⟨⟨by omega, by omega⟩, ?_⟩
    simp only [go_sem, binC, Nat.mul_one, g1]
    rw [wrap_id (x := xs[a.toNat] + xs[b.toNat]) (by omega) (by omega)]
    refine rem10_rule ?_
    refine wpc_ret ?_
    simp only [go_sem, binC, out_r, thenX_r]
    refine ⟨Or.inr rfl, _, (by (simp only [go_sem, binC]) <;> rfl), ?_, rfl⟩
    rw [Int.tmod_eq_emod_of_nonneg (by omega)]
    simp only [valN, h3, e0, e1, if_true]
    rfl
  simp only [go_sem, binC, beq_f h3]
  refine wpc_cond (t := false) rfl ?_
  simp only [go_sem, binC]
  refine wpc_skip ?_
  simp only [go_sem, binC, out_n, thenX_n]
  refine seq_assoc (seq_regD ?_)
  simp only [go_sem, binC]
  refine ⟨⟨by omega, by omega⟩, ?_⟩
  simp only [go_sem, binC, Nat.mul_one, g0]
  refine ⟨⟨by omega, by omega⟩, ?_⟩
  simp only [go_sem, binC, Nat.mul_one, g1]
  by_cases h4 : xs[a.toNat] = xs[b.toNat]
  · refine seq_cond (t := true) (by simp only [go_sem, binC]; rw [beq_t h4]) ?_
    simp only [go_sem, binC]
    refine seq_assoc (seq_reg ?_)
    simp only [go_sem, binC]
    refine seq_ret ⟨Or.inr rfl, .int .i64 1, (by (simp only [go_sem, binC]) <;> rfl), ?_, rfl⟩
    simp only [valN, h1, h2, h3, e0, e1, if_false, if_pos h4]
  · refine seq_cond (t := false) (by simp only [go_sem, binC]; rw [beq_f h4]) ?_
    simp only [go_sem, binC]
    refine seq_skip (seq_reg ?_)
    simp only [go_sem, binC]
    refine wpc_ret ⟨Or.inr rfl, .int .i64 0, (by (simp only [go_sem, binC]) <;> rfl), ?_, rfl⟩
    simp only [valN, h1, h2, h3, e0, e1, if_false, if_neg h4]
/-- Boxes stay. -/
def Bx (H H' : Heap) : Prop := H.length ≤ H'.length ∧ ∀ (b : Nat) (cs : List Value), H[b]? = some ⟨cs, 0, 0, false, true⟩ → H'[b]? = some ⟨cs, 0, 0, false, true⟩
theorem Bx.refl (H : Heap) : Bx H H := ⟨Nat.le_refl _, fun _ _ h => h⟩
theorem Bx.tr {H H1 H2 : Heap} (h : Bx H H1) (h' : Bx H1 H2) : Bx H H2 := ⟨Nat.le_trans h.1 h'.1, fun b cs k => h'.2 b cs (h.2 b cs k)⟩
theorem AgX.bx {xs : List Nat} {H H' : Heap} (h : AgX xs H H') (hx : ∀ b, b ∈ xs → ∀ cs, H[b]? ≠ some ⟨cs, 0, 0, false, true⟩) : Bx H H' := ⟨h.1, fun b cs k => h.get k fun hb => hx b hb cs k⟩
theorem Bx.setN {H H' : Heap} (h : Bx H H') {b : Nat} (hb : H.length ≤ b) (k : Blk) : Bx H (H'.set b k) := by
  refine ⟨by rw [List.length_set]; exact h.1, fun b' cs h1 => ?_⟩
  have := (List.getElem?_eq_some_iff.1 h1).1
  rw [List.getElem?_set_ne (by omega)]
  exact h.2 b' cs h1
theorem NumV.keep' {lo : Nat} {H H' : Heap} {v : Value} {l : List Int} {xs : List Nat} (h : NumV lo H v l) (hx : AgX xs H H') (hn : ∀ b, lo ≤ b → v = sli b 0 l.length → H[b]? = some ⟨ints l, 1, 3, true, true⟩ → b ∉ xs) : NumV lo H' v l := by
  rcases h with h | ⟨b, h1, h2, h3, h4⟩
  · exact .inl h
  · exact .inr ⟨b, h1, h2, h3, hx.get h4 (hn b h1 h2 h4)⟩
/-- What comes of a program, told by value. -/
structure RunV (Hb : Heap) (r : RunS) (M : Nat) (H : Heap) (nv wv sv : Value) : Prop where
  ag : AgX [] Hb H
  n : NumV Hb.length H nv r.1
  w : GLi fp 2 48 Hb.length H wv r.2.1
  s : GLi fp 2 79 Hb.length H sv r.2.2
  rg : ∀ x ∈ r.1, 0 ≤ x ∧ x ≤ 9
  pr : ∀ p, p ∈ r.2.1 ∨ p ∈ r.2.2 → RgI p.1 ∧ RgI p.2
  sm : r.2.1.length + r.2.2.length ≤ M
  ln : r.1.length ≤ 1000
theorem RunI.v {Hb : Heap} {rb : Nat} {r : RunS} {M : Nat} {H : Heap} (h : RunI Hb rb r M H) : ∃ nv wv sv, H[rb]? = some ⟨[nv, wv, sv], 0, 0, false, true⟩ ∧ RunV Hb r M H nv wv sv := by
  obtain ⟨nv, wv, sv, h1, h2, h3, h4⟩ := h.ex
  exact ⟨nv, wv, sv, h1, h.ag, h2, h3, h4, h.rg, h.pr, h.sm, h.ln⟩
theorem RunV.box {Hb : Heap} {rb : Nat} {r : RunS} {M : Nat} {H : Heap} {nv wv sv : Value} (h : RunV Hb r M H nv wv sv) (hb : H[rb]? = some ⟨[nv, wv, sv], 0, 0, false, true⟩) (hl : Hb.length ≤ rb) : RunI Hb rb r M H := ⟨h.ag, hl, ⟨nv, wv, sv, hb, h.n, h.w, h.s⟩, h.rg, h.pr, h.sm, h.ln⟩
theorem RunV.box' {Hb : Heap} {rb : Nat} {r : RunS} {M : Nat} {H : Heap} {nv wv sv : Value} {cs : List Value} (h : RunV Hb r M H nv wv sv) (hb : H[rb]? = some ⟨cs, 0, 0, false, true⟩) (hl : Hb.length ≤ rb) : RunI Hb rb r M (H.set rb ⟨[nv, wv, sv], 0, 0, false, true⟩) := by
  have hbl := (List.getElem?_eq_some_iff.1 hb).1
  have hx : AgX [rb] H (H.set rb ⟨[nv, wv, sv], 0, 0, false, true⟩) := AgX.set _ _ _
  refine RunV.box ⟨h.ag.setN hl _, h.n.keep' hx (fun b _ _ q h => ?_), h.w.keep hx (fun b so _ _ q h => ?_), h.s.keep hx (fun b so _ _ q h => ?_), h.rg, h.pr, h.sm, h.ln⟩ (List.getElem?_set_self hbl) hl
  all_goals (simp only [List.mem_singleton] at h; subst h; rw [hb] at q; simp at q)
theorem GLi.blk {α : Type} {fl : α → List Value} {es et lo : Nat} {H : Heap} {v : Value} {l : List α} (h : GLi fl es et lo H v l) (b : Nat) (hb : b ∈ blkOf v) : lo ≤ b ∧ ∃ cs so, H[b]? = some ⟨cs, es, et, true, so⟩ := by
  rcases h with ⟨rfl, _⟩ | ⟨b', so, q1, rfl, q3, q4⟩
  · cases hb
  · simp only [blkOf, sli, List.mem_singleton] at hb
    subst hb
    exact ⟨q1, _, _, q4⟩
def DoSOk (F : Nat → Option IFn) (f n : Nat) : Prop := ∀ (Hb H : Heap) (lo M : Nat) (r : RunS) (nv wv sv v : Value) (l : List (TStep n)) (d : Int), lo ≤ Hb.length → RunV Hb r M H nv wv sv → SlR (Co.step n) (vw 0 Hb) v l → l.all (stepB r.1.length n d) = true → M + (allL n l).length ≤ 1000 →
  ∃ nv' wv' sv' H', NC F lo f [v, .agg #[nv, wv, sv]] H (.agg #[nv', wv', sv']) H' ∧ RunV Hb (runL n l r) (M + (allL n l).length) H' nv' wv' sv' ∧ Bx H H'
set_option maxHeartbeats 4000000 in
set_option maxRecDepth 20000 in
theorem sDo_ok {F : Nat → Option IFn} {f n : Nat} (hf : F f = some c_sDo) (hnu : F 85 = some c_sNum) (ih : ∀ m, n = m + 1 → DoSOk F 49 m) : DoSOk F f n := by
  intro Hb H lo M r nv0 wv0 sv0 v l d hlo hR hv hall hM
  suffices h : ∃ w H', NC F lo f [v, .agg #[nv0, wv0, sv0]] H w H' ∧ (∃ nv' wv' sv', w = .agg #[nv', wv', sv'] ∧ RunV Hb (runL n l r) (M + (allL n l).length) H' nv' wv' sv' ∧ Bx H H') by
    obtain ⟨w, H', h1, nv', wv', sv', rfl, h2⟩ := h
    exact ⟨nv', wv', sv', H', h1, h2⟩
  have hv0 := hv
  obtain ⟨h0, av, rfl, _⟩ := hv
  have o1 := hR.n.one
  have o2 := hR.w.one
  have o3 := hR.s.one
  have hHb := hR.ag.1
  refine NC.mk hf rfl ?_
  refine seq_reg ?_
  simp only [go_sem, binC, o1, o2, o3]
  refine wpc_gen fun H1 hH1 => ?_
  have hx1 : AgX [] H H1 := hH1 ▸ AgX.app [] _ _
  have hb3 : H1[H.length]? = some ⟨[nv0, wv0, sv0], 0, 0, false, true⟩ := hH1 ▸ get_new0 _ _
  have hb4 : H1[H.length + 1]? = some ⟨[nilS, nilS, nilS], 0, 0, false, true⟩ := hH1 ▸ get_new _ _ 1
  clear hH1
  have hR1 : RunI Hb H.length r M H1 := by
    refine RunV.box ⟨hR.ag.tr hx1, ?_, hR.w.keep hx1 (fun _ _ _ _ _ => by simp), hR.s.keep hx1 (fun _ _ _ _ _ => by simp), hR.rg, hR.pr, hR.sm, hR.ln⟩ hb3 hHb
    exact hR.n.keep hx1 (fun _ _ _ => by simp)
  have hB1 : Bx H H1 := hx1.bx (fun _ h => by cases h)
  refine seq_assoc (seq_reg ?_)
  simp only [go_sem, binC]
  refine seq_block (wpc_loop ?_)
  suffices h : ∀ (k i : Nat) (e : Env) (Hc : Heap) (rc : RunS) (Mc : Nat), i + k = l.length → RunI Hb H.length rc Mc Hc → Bx H Hc → Hc[H.length + 1]? = some ⟨[nilS, nilS, nilS], 0, 0, false, true⟩ → rc.1.length = r.1.length → runL n (l.drop i) rc = runL n l r → Mc + (allL n (l.drop i)).length = M + (allL n l).length →
      e 0 = .slice av l.length l.length → e 3 = ptr H.length 0 → e 4 = ptr (H.length + 1) 0 → e 5 = .int .i64 i → W F lo _ e Hc _ from
    h l.length 0 _ H1 r M (by omega) hR1 hB1 hb4 rfl rfl rfl (by simp only [go_sem, binC]) (by (simp only [go_sem, binC]) <;> rfl) (by (simp only [go_sem, binC]) <;> rfl) (by (simp only [go_sem, binC]) <;> rfl)
  intro k
  induction k with
  | zero =>
    intro i e Hc rc Mc hi hRc hBc hb4c hlen hrun hcnt e0 e3 e4 e5
    refine lp_step ?_
    refine seq_assoc (seq_reg ?_)
    simp only [go_sem, binC, e0, e5]
    refine seq_cond (t := false) (by simp only [go_sem, binC]; rw [decide_eq_false (by omega)]) ?_
    simp only [go_sem, binC]
    refine seq_exit ?_
    simp only [go_sem, binC, thenX_e, out_e, thenX_n]
    have hd : l.drop i = [] := List.drop_of_length_le (by omega)
    rw [hd] at hrun hcnt
    have hrun' : rc = runL n l r := hrun
    have hcnt' : Mc = M + (allL n l).length := by simpa [allL] using hcnt
    obtain ⟨nv, wv, sv, hbox, hV⟩ := hRc.v
    have p1 := hV.n.one
    have p2 := hV.w.one
    have p3 := hV.s.one
    have hb4l := (List.getElem?_eq_some_iff.1 hb4c).1
    refine seq_reg ?_
    simp only [go_sem, binC, e3, e4, gc_of hbox, inBlk_some, p1, p2, p3, hb4c]
    refine ⟨by omega, ?_⟩
    have hxs : AgX [H.length + 1] Hc (Hc.set (H.length + 1) ⟨[nv, wv, sv], 0, 0, false, true⟩) := AgX.set _ _ _
    refine wpc_ret ⟨Or.inr rfl, .agg #[nv, wv, sv], ?_, nv, wv, sv, rfl, ?_, hBc.setN (by omega) _⟩
    · simp [resV, resL, res1, putE_get, e4, ptr, gc_set hb4l, inBlk_some, valOf]
    · rw [hrun'] at hV
      rw [← hcnt']
      refine ⟨hV.ag.setN (by omega) _, hV.n.keep' hxs (fun b _ _ h1 h2 => ?_), hV.w.keep hxs (fun b so _ _ q h => ?_), hV.s.keep hxs (fun b so _ _ q h => ?_), hV.rg, hV.pr, hV.sm, hV.ln⟩
      · simp only [List.mem_singleton] at h2; subst h2; rw [hb4c] at h1; simp at h1
      · simp only [List.mem_singleton] at h; subst h; rw [hb4c] at q; simp at q
      · simp only [List.mem_singleton] at h; subst h; rw [hb4c] at q; simp at q
  | succ k ihk =>
    intro i e Hc rc Mc hi hRc hBc hb4c hlen hrun hcnt e0 e3 e4 e5
    have hil : i < l.length := by omega
    cases n with
    | zero => exact (l[i]).elim
    | succ n =>
    obtain ⟨vb, vo, kd, vr, va, vbb, vc, ho, tv, ev, tl, el, hav, hs, rg, otv, oev, hgc, htl, hel⟩ := step_at hv0 hil
    simp only [Value.slice.injEq, and_true] at hav
    subst hav
    have hst1 : stepB r.1.length (n + 1) d (kd, vr, (va, vbb, vc), ho, tl, el) = true := by rw [← hs]; exact List.all_eq_true.1 hall _ (List.getElem_mem hil)
    obtain ⟨hvr, hk1, hk2, hk3, hkn⟩ := stepB_f hst1
    have hagc := hRc.ag
    have hHl := hagc.1
    have hg8 := hgc Hc (agx_sub hagc)
    rw [List.drop_eq_getElem_cons hil] at hrun hcnt
    have hcnt2 : Mc + (1 + ((allL n tl).length + (allL n el).length) + (allL (n + 1) (l.drop (i + 1))).length) = M + (allL (n + 1) l).length := by
      have hc2 : (allL (n + 1) (l[i] :: l.drop (i + 1))).length = (allT (n + 1) l[i]).length + (allL (n + 1) (l.drop (i + 1))).length := by unfold allL; rw [List.map_cons, List.flatten_cons, List.length_append]
      rw [hc2, hs, allT_succ, List.length_cons, List.length_append] at hcnt
      omega
    have hw1 : IntKind.i64.wrap ((i : Int) + 1) = ((i + 1 : Nat) : Int) := by rw [wrap_id (by omega) (by omega)]; omega
    have hHHc := hBc.1
    refine lp_step ?_
    refine seq_assoc (seq_reg ?_)
    simp only [go_sem, binC, e0, e5]
    refine seq_cond (t := true) (by simp only [go_sem, binC]; rw [decide_eq_true (by omega)]) ?_
    simp only [go_sem, binC]
    refine seq_skip (seq_block (seq_reg ?_))
    simp only [go_sem, binC, e0, e5]
    refine ⟨⟨by omega, by omega⟩, ?_⟩
    simp only [go_sem, binC, Int.toNat_natCast, hg8, otv, oev]
    refine ⟨by omega, ?_⟩
    refine wpc_gen fun H1 hH1 => ?_
    have hx1 : AgX [] Hc H1 := hH1 ▸ AgX.app [] _ _
    have hbx : H1[Hc.length]? = some ⟨[.int .i64 kd, .int .i64 vr, .int .i64 va, .int .i64 vbb, .int .i64 vc, .int .i64 ho, tv, ev], 0, 0, false, true⟩ := hH1 ▸ get_new0 _ _
    have hl1 : H1.length = Hc.length + 1 := by rw [hH1, List.length_append]; rfl
    clear hH1
    have hR1 := hRc.keep hx1
    have hB1 : Bx H H1 := hBc.tr (hx1.bx (fun _ h => by cases h))
    have hb41 := hx1.get hb4c (by simp)
    refine seq_reg ?_
    simp only [go_sem, binC, gc_of hbx, inBlk_some]
    refine wpc_genK fun KK hKK => ?_
    have hnext : ∀ (e' : Env) (H' : Heap) (r' : RunS) (M' : Nat), RunI Hb H.length r' M' H' → Bx H H' → H'[H.length + 1]? = some ⟨[nilS, nilS, nilS], 0, 0, false, true⟩ → r'.1.length = r.1.length → r' = runT (n + 1) l[i] rc → M' = Mc + (1 + ((allL n tl).length + (allL n el).length)) → e' 0 = .slice (some ⟨vb, vo, none⟩) l.length l.length → e' 3 = ptr H.length 0 → e' 4 = ptr (H.length + 1) 0 → e' 5 = .int .i64 i → KK .n e' H' := by
      intro e' H' r' M' hR' hB' hb4' hlen' hr' hM' e0' e3' e4' e5'
      rw [hKK]
      simp only [go_sem, binC, out_n, thenX_n]
      refine wpc_reg ?_
      simp only [go_sem, binC, e5', hw1]
      simp only [go_sem, binC, thenX_n]
      refine ihk (i + 1) _ H' r' M' (by omega) hR' hB' hb4' hlen' ?_ (by omega) (by simp only [go_sem, binC, e0']) (by simp only [go_sem, binC, e3']) (by simp only [go_sem, binC, e4']) (by simp only [go_sem, binC])
      rw [hr', ← hrun]; rfl
    clear hKK
    refine wpc_block (seq_reg ?_)
    simp only [go_sem, binC]
    by_cases h1 : kd = 1
    · subst h1
      have hvb := hk1 rfl
      rw [← hlen] at hvb
      obtain ⟨rfl, rfl⟩ := hkn (by decide)
      rw [hs, runT_set] at hnext
      obtain ⟨nv, wv, sv, hbox, hV⟩ := hR1.v
      have hn := hV.n
      rcases hn with ⟨_, _, hn0⟩ | ⟨nb, hnb, rfl, hne, hnc⟩
      · rw [← hlen, hn0] at hvr; simp at hvr; omega
      have sI := hV.n.slI (fun x hx => by have := hV.rg x hx; unfold RgI; omega) hV.ln
      refine wpc_cond (t := true) rfl ?_
      simp only [go_sem, binC]
      refine seq_reg ?_
      simp only [go_sem, binC, e3, gc_of hbx, gc_of hbox, inBlk_some]
      refine op_callQ (by simp only [go_sem, binC]; exact sNum_ok hnu H1 va vbb vc _ _ sI hV.rg hvb) ?_
      simp only [go_sem, binC]
      generalize hx : valN rc.1 (va, vbb, vc) = x at hnext
      have hxr : 0 ≤ x ∧ x ≤ 9 := hx ▸ valN_rg hvb hV.rg
      have hnr : H.length ≠ nb := fun h => by rw [h, hnc] at hbox; simp at hbox
      have hnl := (List.getElem?_eq_some_iff.1 hnc).1
      have hsm := hV.sm
      have hln := hV.ln
      refine seq_reg ?_
      simp only [go_sem, binC, e3, gc_of hbx, gc_of hbox, inBlk_some]
      refine ⟨⟨by omega, by omega⟩, ?_⟩
      simp only [go_sem, binC, hnc, Nat.mul_one, Nat.zero_add]
      refine ⟨⟨by omega, by simp [ints]; omega⟩, ?_⟩
      rw [ints_set]
      have hx2 : AgX [nb] H1 (H1.set nb ⟨ints (rc.1.set vr.toNat x), 1, 3, true, true⟩) := AgX.set _ _ _
      refine wpc_genH fun H2 hH2 => ?_
      rw [← hH2] at hx2
      have hbox2 := hx2.get hbox (by simpa using hnr)
      have hnc2 : H2[nb]? = some ⟨ints (rc.1.set vr.toNat x), 1, 3, true, true⟩ := by rw [hH2]; exact List.getElem?_set_self hnl
      have hbx2 := hx2.get hbx (fun h => by simp only [List.mem_singleton] at h; rw [h, hnc] at hbx; simp at hbx)
      have hB2 : Bx H H2 := hB1.tr (hx2.bx (fun b h cs q => by simp only [List.mem_singleton] at h; rw [h, hnc] at q; simp at q))
      have hb42 := hx2.get hb41 (fun h => by simp only [List.mem_singleton] at h; rw [h, hnc] at hb41; simp at hb41)
      have hw2 : GLi fp 2 48 Hb.length H2 wv rc.2.1 := hV.w.keep hx2 (fun b so _ _ q h => by simp only [List.mem_singleton] at h; subst h; rw [hnc] at q; simp at q)
      have hs2 : GLi fp 2 79 Hb.length H2 sv rc.2.2 := hV.s.keep hx2 (fun b so _ _ q h => by simp only [List.mem_singleton] at h; subst h; rw [hnc] at q; simp at q)
      have hag2 : AgX [] Hb H2 := hV.ag.trans hx2 (fun _ h _ => h) (fun b h1 h2 => by simp only [List.mem_singleton] at h1; omega)
      have hl2 : H2.length = H1.length := by rw [hH2, List.length_set]
      clear hH2
      refine wpc_reg ?_
      simp only [go_sem, binC, e3, gc_of hbox2, gc_of hbx2, inBlk_some]
      refine op_app_fl (fl := fp) (a := (vr, x)) (lo := Hb.length) (fun _ => rfl) hw2 (by simp only [go_sem, binC]) (by (simp only [go_sem, binC]) <;> rfl) hlo (by omega) (by omega) (by omega) fun H3 w3 hx3 hw3 => ?_
      have hblk := hw2.blk
      have hbox3 := hx3.get hbox2 (fun h => by obtain ⟨_, cs, so, q⟩ := hblk _ h; rw [hbox2] at q; simp at q)
      have hnc3 := hx3.get hnc2 (fun h => by obtain ⟨_, cs, so, q⟩ := hblk _ h; rw [hnc2] at q; simp at q)
      have hs3 : GLi fp 2 79 Hb.length H3 sv rc.2.2 := hs2.keep hx3 (fun b so _ _ q h => by obtain ⟨_, cs, so, q2⟩ := hblk _ h; rw [q2] at q; simp at q)
      have hag3 : AgX [] Hb H3 := hag2.trans hx3 (fun _ h _ => h) (fun b h1 h2 => by have := hblk b h1; omega)
      have hB3 : Bx H H3 := hB2.tr (hx3.bx (fun b h cs q => by obtain ⟨_, cs, so, q2⟩ := hblk _ h; rw [q2] at q; simp at q))
      have hb43 := hx3.get hb42 (fun h => by obtain ⟨_, cs, so, q2⟩ := hblk _ h; rw [hb42] at q2; simp at q2)
      obtain ⟨b3, so3, _, hw3e, _, _⟩ := (id hw3).resolve_left (by simp)
      subst hw3e
      have hl3 := hx3.1
      simp only [go_sem, binC, e3, gc_of hbox3, hbox3, inBlk_some]
      refine ⟨by omega, ?_⟩
      simp only [go_sem, binC, out_n]
      refine hnext _ _ _ (Mc + 1) (hR1.put (r' := (rc.1.set vr.toNat x, rc.2.1 ++ [(vr, x)], rc.2.2)) hag3 (by omega) (.inr ⟨nb, hnb, by rw [List.length_set], by simpa using hne, hnc3⟩) hw3 hs3 ⟨_, hbox3⟩ (fun y hy => ?_) (fun p hp => ?_) (by show (rc.2.1 ++ [(vr, x)]).length + rc.2.2.length ≤ Mc + 1; rw [List.length_append, List.length_singleton]; omega) (by show (rc.1.set vr.toNat x).length ≤ 1000; rw [List.length_set]; exact hV.ln)) (hB3.setN (Nat.le_refl _) _) (by rw [List.getElem?_set_ne (by omega)]; exact hb43) (by show (rc.1.set vr.toNat x).length = _; rw [List.length_set]; exact hlen) rfl (by simp [allL]) (by simp only [go_sem, binC, e0]) (by simp only [go_sem, binC, e3]) (by simp only [go_sem, binC, e4]) (by simp only [go_sem, binC, e5])
      · rcases List.mem_or_eq_of_mem_set hy with h | rfl
        · exact hV.rg y h
        · exact hxr
      · simp only [List.mem_append, List.mem_singleton] at hp
        rcases hp with (h | rfl) | h
        · exact hV.pr p (.inl h)
        · exact ⟨by unfold RgI; omega, by unfold RgI; omega⟩
        · exact hV.pr p (.inr h)
    simp only [go_sem, binC, beq_f h1]
    refine wpc_cond (t := false) rfl ?_
    simp only [go_sem, binC]
    refine seq_reg ?_
    simp only [go_sem, binC]
    obtain ⟨nv, wv, sv, hbox, hV⟩ := hR1.v
    have hn := hV.n
    rcases hn with ⟨_, _, hn0⟩ | ⟨nb, hnb, rfl, hne, hnc⟩
    · rw [← hlen, hn0] at hvr; simp at hvr; omega
    have hgn := gc_ints hnc (i := vr.toNat) (by omega)
    by_cases h2 : kd = 2
    · subst h2
      obtain ⟨ht1, he1⟩ := hk2 rfl
      rw [← hlen] at ht1 he1
      rw [hs, runT_if] at hnext
      have h23 : ((2 : Int) == 3) = false := rfl
      have ow := hV.w.one
      have os := hV.s.one
      simp only [go_sem, binC, h23]
      refine wpc_cond (t := false) rfl ?_
      simp only [go_sem, binC]
      refine seq_reg ?_
      simp only [go_sem, binC, e3, gc_of hbx, gc_of hbox, inBlk_some]
      refine ⟨⟨by omega, by omega⟩, ?_⟩
      simp only [go_sem, binC, Nat.mul_one, Nat.zero_add, hgn]
      have hfin : ∀ (H4 : Heap) (nv4 wv4 sv4 : Value) (r4 : RunS) (M4 : Nat), RunV Hb r4 M4 H4 nv4 wv4 sv4 → Bx H1 H4 → M4 ≤ Mc + (1 + ((allL n tl).length + (allL n el).length)) → H4[H.length]? = some ⟨[sli nb 0 rc.1.length, wv, sv], 0, 0, false, true⟩ ∧ Bx H (H4.set H.length ⟨[nv4, wv4, sv4], 0, 0, false, true⟩) ∧ (H4.set H.length ⟨[nv4, wv4, sv4], 0, 0, false, true⟩)[H.length + 1]? = some ⟨[nilS, nilS, nilS], 0, 0, false, true⟩ ∧ RunI Hb H.length r4 (Mc + (1 + ((allL n tl).length + (allL n el).length))) (H4.set H.length ⟨[nv4, wv4, sv4], 0, 0, false, true⟩) := by
        intro H4 nv4 wv4 sv4 r4 M4 hV4 hB4 hM4
        have hbox4 := hB4.2 _ _ hbox
        have hb44 := hB4.2 _ _ hb41
        have hbl4 := (List.getElem?_eq_some_iff.1 hbox4).1
        refine ⟨hbox4, (hB1.tr hB4).setN (Nat.le_refl _) _, by rw [List.getElem?_set_ne (by omega)]; exact hb44, ?_⟩
        exact (hV4.box' hbox4 hHb).mono hM4
      by_cases hz : rc.1.getD vr.toNat 0 = 0
      · have hz2 : (rc.1.getD vr.toNat 0 != 0) = false := by rw [hz]; rfl
        simp only [go_sem, binC, hz2]
        refine wpc_cond (t := false) rfl ?_
        simp only [go_sem, binC]
        refine wpc_reg ?_
        simp only [go_sem, binC, e3, gc_of hbx, gc_of hbox, inBlk_some, ow, os]
        obtain ⟨nv4, wv4, sv4, H4, k4, hV4, hB4⟩ := ih n rfl Hb H1 lo Mc rc _ wv sv ev el (d - 1) hlo hV hel he1 (by omega)
        refine op_callN (by simp only [go_sem, binC]; exact k4) ?_
        obtain ⟨hb4x, q1, q2, q3⟩ := hfin H4 _ _ _ _ _ hV4 hB4 (by omega)
        have p1 := hV4.n.one
        have p2 := hV4.w.one
        have p3 := hV4.s.one
        simp only [go_sem, binC, e3, hb4x, p1, p2, p3]
        refine ⟨by omega, ?_⟩
        simp only [go_sem, binC, out_n]
        rw [if_pos hz] at hnext
        exact hnext _ _ _ _ q3 q1 q2 (by rw [runL_len he1]; exact hlen) rfl rfl (by simp only [go_sem, binC, e0]) (by simp only [go_sem, binC, e3]) (by simp only [go_sem, binC, e4]) (by simp only [go_sem, binC, e5])
      · have hz2 : (rc.1.getD vr.toNat 0 != 0) = true := by simpa using hz
        simp only [go_sem, binC, hz2]
        refine wpc_cond (t := true) rfl ?_
        simp only [go_sem, binC]
        refine wpc_reg ?_
        simp only [go_sem, binC, e3, gc_of hbx, gc_of hbox, inBlk_some, ow, os]
        obtain ⟨nv4, wv4, sv4, H4, k4, hV4, hB4⟩ := ih n rfl Hb H1 lo Mc rc _ wv sv tv tl (d - 1) hlo hV htl ht1 (by omega)
        refine op_callN (by simp only [go_sem, binC]; exact k4) ?_
        obtain ⟨hb4x, q1, q2, q3⟩ := hfin H4 _ _ _ _ _ hV4 hB4 (by omega)
        have p1 := hV4.n.one
        have p2 := hV4.w.one
        have p3 := hV4.s.one
        simp only [go_sem, binC, e3, hb4x, p1, p2, p3]
        refine ⟨by omega, ?_⟩
        simp only [go_sem, binC, out_n]
        rw [if_neg hz] at hnext
        exact hnext _ _ _ _ q3 q1 q2 (by rw [runL_len ht1]; exact hlen) rfl rfl (by simp only [go_sem, binC, e0]) (by simp only [go_sem, binC, e3]) (by simp only [go_sem, binC, e4]) (by simp only [go_sem, binC, e5])
    have h3 : kd = 3 := (hk3 h1 h2).1
    obtain ⟨rfl, rfl⟩ := hkn h2
    rw [hs, runT_tell h1 h2] at hnext
    have hsm := hV.sm
    have hrbl := (List.getElem?_eq_some_iff.1 hbox).1
    simp only [go_sem, binC, beq_t h3]
    refine wpc_cond (t := true) rfl ?_
    simp only [go_sem, binC]
    refine wpc_regD ?_
    simp only [go_sem, binC, e3, gc_of hbx, gc_of hbox, inBlk_some]
    refine ⟨⟨by omega, by omega⟩, ?_⟩
    simp only [go_sem, binC, Nat.mul_one, Nat.zero_add, hgn]
    refine op_app_fl (fl := fp) (a := (ho, rc.1.getD vr.toNat 0)) (lo := Hb.length) (fun _ => rfl) hV.s (by simp only [go_sem, binC]) (by (simp only [go_sem, binC]) <;> rfl) hlo (by omega) (by omega) (by omega) fun H2 w2 hx2 hw2 => ?_
    have hblk := hV.s.blk
    have hbox2 := hx2.get hbox (fun h => by obtain ⟨_, cs, so, q⟩ := hblk _ h; rw [hbox] at q; simp at q)
    have hnc2 := hx2.get hnc (fun h => by obtain ⟨_, cs, so, q⟩ := hblk _ h; rw [hnc] at q; simp at q)
    have hb42 := hx2.get hb41 (fun h => by obtain ⟨_, cs, so, q⟩ := hblk _ h; rw [hb41] at q; simp at q)
    have hww : GLi fp 2 48 Hb.length H2 wv rc.2.1 := hV.w.keep hx2 (fun b so _ _ q h => by obtain ⟨_, cs, so, q2⟩ := hblk _ h; rw [q2] at q; simp at q)
    have hag2 : AgX [] Hb H2 := hR1.ag.trans hx2 (fun _ h _ => h) (fun b h1 h2 => by have := hblk b h1; omega)
    have hB2 : Bx H H2 := hB1.tr (hx2.bx (fun b h cs q => by obtain ⟨_, cs, so, q2⟩ := hblk _ h; rw [q2] at q; simp at q))
    obtain ⟨b2, so2, _, hw2e, _, _⟩ := (id hw2).resolve_left (by simp)
    subst hw2e
    have hl2 := hx2.1
    simp only [go_sem, binC, e3, gc_of hbox2, hbox2, inBlk_some]
    refine ⟨by omega, ?_⟩
    simp only [go_sem, binC, out_n]
    refine hnext _ _ _ (Mc + 1) (hR1.put (r' := (rc.1, rc.2.1, rc.2.2 ++ [(ho, rc.1.getD vr.toNat 0)])) hag2 (by omega) (.inr ⟨nb, hnb, rfl, hne, hnc2⟩) hww hw2 ⟨_, hbox2⟩ hV.rg (fun p hp => ?_) (by show rc.2.1.length + (rc.2.2 ++ [_]).length ≤ Mc + 1; rw [List.length_append, List.length_singleton]; omega) hV.ln) (hB2.setN (Nat.le_refl _) _) (by rw [List.getElem?_set_ne (by omega)]; exact hb42) hlen rfl (by simp [allL]) (by simp only [go_sem, binC, e0]) (by simp only [go_sem, binC, e3]) (by simp only [go_sem, binC, e4]) (by simp only [go_sem, binC, e5])
    simp only [List.mem_append, List.mem_singleton] at hp
    rcases hp with h | h | rfl
    · exact hV.pr p (.inl h)
    · exact hV.pr p (.inr h)
    · exact ⟨rg.2.2.2.2.2, by have := getD_rg hV.rg vr.toNat; unfold RgI; omega⟩
theorem sDo_all {F : Nat → Option IFn} (hf : F 49 = some c_sDo) (hnu : F 85 = some c_sNum) : ∀ n, DoSOk F 49 n
  | 0 => sDo_ok hf hnu fun m h => by cases h
  | n + 1 => sDo_ok hf hnu fun m h => by cases h; exact sDo_all hf hnu n
end Go.Proofs.YtpaoppgbgjnkmaaI
end
section
/- What comes of a program (the reference); what comes compared. -/
set_option linter.unusedVariables false
set_option linter.unusedSimpArgs false
namespace Go.Proofs.YtpaoppgbgjnkmaaI
open Go Go.RowKit
def c_sRunOf : IFn := ⟨2, 18, [.cell true 3 4, .t 5],
 .seq (.reg none [
    ⟨(some 2), none, .box (.t 0)⟩,
    ⟨(some 4), none, .new [(.slice none 0 0), (.slice none 0 0), (.slice none 0 0)]⟩,
    ⟨(some 5), none, .mov (.c (.bool false))⟩])
 (.seq (.seq (.reg none [
     ⟨(some 6), none, .load true 2 (.t 2)⟩,
     ⟨(some 7), none, .mov (.t 1)⟩,
     ⟨(some 8), none, .call .q (.f 15) [(.t 6), (.t 7)]⟩,
     ⟨(some 9), none, .un .not (.t 8)⟩])
  (.cond (.t 9) (.seq (.reg none [
      ⟨(some 10), none, .build [(.slice none 0 0), (.slice none 0 0), (.slice none 0 0)] []⟩,
      ⟨none, none, .store 3 (.t 4) (.t 10)⟩,
      ⟨(some 5), none, .mov (.c (.bool false))⟩])
   (.ret)) (.skip)))
 (.seq (.reg (some 6) [
    ⟨(some 11), none, .fad 1 (.t 2)⟩,
    ⟨(some 12), none, .load false 1 (.t 11)⟩,
    ⟨(some 13), none, .lit 1 3 0 [] []⟩,
    ⟨(some 14), none, .mov (.t 1)⟩,
    ⟨(some 15), none, .app 1 3 8 false (.t 13) (.t 14)⟩,
    ⟨(some 16), none, .build [(.slice none 0 0), (.slice none 0 0), (.slice none 0 0)] [(0, 1, (.t 15))]⟩,
    ⟨(some 17), none, .call .n (.f 49) [(.t 12), (.t 16)]⟩,
    ⟨none, none, .store 3 (.t 4) (.t 17)⟩,
    ⟨(some 5), none, .mov (.c (.bool true))⟩])
 (.ret)))⟩
def c_lcWrites : IFn := ⟨2, 26, [.t 4],
 .seq (.reg none [
    ⟨(some 4), none, .mov (.c (.bool false))⟩])
 (.seq (.seq (.reg none [
     ⟨(some 6), none, .mov (.t 0)⟩,
     ⟨(some 7), none, .len (.t 6)⟩,
     ⟨(some 8), none, .mov (.t 1)⟩,
     ⟨(some 9), none, .len (.t 8)⟩,
     ⟨(some 10), none, .bin .neq (.t 7) (.t 9)⟩])
  (.cond (.t 10) (.seq (.reg none [
      ⟨(some 4), none, .mov (.c (.bool false))⟩])
   (.ret)) (.skip)))
 (.seq (.seq (.reg none [
     ⟨(some 5), none, .mov (.c (.int .i64 0))⟩])
  (.block 0 (.loop (.seq (.seq (.reg none [
        ⟨(some 11), none, .mov (.t 5)⟩,
        ⟨(some 12), none, .mov (.t 0)⟩,
        ⟨(some 13), none, .len (.t 12)⟩,
        ⟨(some 14), none, .bin .lss (.t 11) (.t 13)⟩])
     (.cond (.t 14) (.skip) (.exit 0)))
    (.seq (.block 1 (.seq (.reg (some 8) [
         ⟨(some 17), none, .mov (.t 0)⟩,
         ⟨(some 18), none, .mov (.t 5)⟩,
         ⟨(some 19), none, .iad 2 (.t 17) (.t 18)⟩,
         ⟨(some 20), none, .load true 2 (.t 19)⟩,
         ⟨(some 21), none, .mov (.t 1)⟩,
         ⟨(some 22), none, .mov (.t 5)⟩,
         ⟨(some 23), none, .iad 2 (.t 21) (.t 22)⟩,
         ⟨(some 24), none, .load true 2 (.t 23)⟩,
         ⟨(some 25), none, .eqs true 2 (.t 20) (.t 24)⟩])
      (.cond (.t 25) (.seq (.reg none [
          ⟨(some 4), none, .mov (.c (.bool false))⟩])
       (.ret)) (.skip))))
    (.reg none [
      ⟨(some 15), none, .mov (.t 5)⟩,
      ⟨(some 16), none, .bin .add (.t 15) (.c (.int .i64 1))⟩,
      ⟨(some 5), none, .mov (.t 16)⟩]))))))
 (.seq (.reg none [
    ⟨(some 4), none, .mov (.c (.bool true))⟩])
 (.ret))))⟩
def c_lcRun : IFn := ⟨2, 47, [.t 4],
 .seq (.reg none [
    ⟨(some 2), none, .box (.t 0)⟩,
    ⟨(some 3), none, .box (.t 1)⟩,
    ⟨(some 4), none, .mov (.c (.bool false))⟩])
 (.seq (.seq (.reg none [
     ⟨(some 6), none, .fad 0 (.t 2)⟩,
     ⟨(some 7), none, .load false 1 (.t 6)⟩,
     ⟨(some 8), none, .fad 0 (.t 3)⟩,
     ⟨(some 9), none, .load false 1 (.t 8)⟩,
     ⟨(some 10), none, .call .q (.f 16) [(.t 7), (.t 9)]⟩,
     ⟨(some 11), none, .un .not (.t 10)⟩,
     ⟨(some 12), none, .mov (.t 11)⟩,
     ⟨(some 13), (some (12, false)), .fad 1 (.t 2)⟩,
     ⟨(some 14), (some (12, false)), .load false 1 (.t 13)⟩,
     ⟨(some 15), (some (12, false)), .fad 1 (.t 3)⟩,
     ⟨(some 16), (some (12, false)), .load false 1 (.t 15)⟩,
     ⟨(some 17), (some (12, false)), .call .q (.f 36) [(.t 14), (.t 16)]⟩,
     ⟨(some 18), (some (12, false)), .un .not (.t 17)⟩,
     ⟨(some 19), none, .pick (.t 12) (.c (.bool true)) (.t 18)⟩,
     ⟨(some 20), none, .mov (.t 19)⟩,
     ⟨(some 21), (some (20, false)), .fad 2 (.t 2)⟩,
     ⟨(some 22), (some (20, false)), .load false 1 (.t 21)⟩,
     ⟨(some 23), (some (20, false)), .len (.t 22)⟩,
     ⟨(some 24), (some (20, false)), .fad 2 (.t 3)⟩,
     ⟨(some 25), (some (20, false)), .load false 1 (.t 24)⟩,
     ⟨(some 26), (some (20, false)), .len (.t 25)⟩,
     ⟨(some 27), (some (20, false)), .bin .neq (.t 23) (.t 26)⟩,
     ⟨(some 28), none, .pick (.t 20) (.c (.bool true)) (.t 27)⟩])
  (.cond (.t 28) (.seq (.reg none [
      ⟨(some 4), none, .mov (.c (.bool false))⟩])
   (.ret)) (.skip)))
 (.seq (.seq (.reg none [
     ⟨(some 5), none, .mov (.c (.int .i64 0))⟩])
  (.block 0 (.loop (.seq (.seq (.reg none [
        ⟨(some 29), none, .mov (.t 5)⟩,
        ⟨(some 30), none, .fad 2 (.t 2)⟩,
        ⟨(some 31), none, .load false 1 (.t 30)⟩,
        ⟨(some 32), none, .len (.t 31)⟩,
        ⟨(some 33), none, .bin .lss (.t 29) (.t 32)⟩])
     (.cond (.t 33) (.skip) (.exit 0)))
    (.seq (.block 1 (.seq (.reg (some 10) [
         ⟨(some 36), none, .fad 2 (.t 2)⟩,
         ⟨(some 37), none, .load false 1 (.t 36)⟩,
         ⟨(some 38), none, .mov (.t 5)⟩,
         ⟨(some 39), none, .iad 2 (.t 37) (.t 38)⟩,
         ⟨(some 40), none, .load true 2 (.t 39)⟩,
         ⟨(some 41), none, .fad 2 (.t 3)⟩,
         ⟨(some 42), none, .load false 1 (.t 41)⟩,
         ⟨(some 43), none, .mov (.t 5)⟩,
         ⟨(some 44), none, .iad 2 (.t 42) (.t 43)⟩,
         ⟨(some 45), none, .load true 2 (.t 44)⟩,
         ⟨(some 46), none, .eqs true 2 (.t 40) (.t 45)⟩])
      (.cond (.t 46) (.seq (.reg none [
          ⟨(some 4), none, .mov (.c (.bool false))⟩])
       (.ret)) (.skip))))
    (.reg none [
      ⟨(some 34), none, .mov (.t 5)⟩,
      ⟨(some 35), none, .bin .add (.t 34) (.c (.int .i64 1))⟩,
      ⟨(some 5), none, .mov (.t 35)⟩]))))))
 (.seq (.reg none [
    ⟨(some 4), none, .mov (.c (.bool true))⟩])
 (.ret))))⟩
theorem op_app_nums {F : Nat → Option IFn} {lo lo0 : Nat} {e : Env} {H : Heap} {K : Value → Heap → Prop} {x y : Opd} {b : Nat} {so : Bool} {v : Value} {l : List Int} (hx : x.ev e = .slice (some ⟨b, 0, none⟩) 0 0) (hy : y.ev e = v) (hv : SlR Co.int (vw 0 H) v l) (hk : H[b]? = some ⟨[], 1, 3, true, so⟩) (hlt : b < lo) (hl : l.length ≤ 1048576) (h0 : lo0 ≤ H.length)
    (k : ∀ w L, NumV lo0 (H ++ L) w l → K w (H ++ L)) : wpOp F lo (.app 1 3 8 false x y) e H K := by
  by_cases hl0 : l = []
  · obtain ⟨_, a, rfl, _⟩ := hv
    subst hl0
    refine op_app_zero _ _ _ _ _ hx hy ?_
    have := k (.slice (some ⟨b, 0, none⟩) 0 0) []
    rw [List.append_nil] at this
    exact this (.inl ⟨_, rfl, rfl⟩)
  · obtain ⟨b', o', rfl, hg⟩ := sl_ints hv hl0
    have hne : l.length ≠ 0 := fun h => hl0 (List.eq_nil_of_length_eq_zero h)
    exact op_app_lit hx hy hne hg hk hlt (by omega) (by omega) (k _ _ (.inr ⟨H.length, h0, rfl, hl0, get_new0 _ _⟩))
theorem op_app_numsN {F : Nat → Option IFn} {lo lo0 : Nat} {e : Env} {H : Heap} {K : Value → Heap → Prop} {x y : Opd} {b : Nat} {v : Value} {l : List Int} (hx : x.ev e = .slice (some ⟨b, 0, none⟩) 0 0) (hy : y.ev e = v) (hv : SlR Co.int (vw 0 H) v l) (hk : H[b]? = some ⟨[], 1, 3, true, true⟩) (hlt : lo ≤ b) (hl : l.length ≤ 1048576) (h0 : lo0 ≤ H.length)
    (k : ∀ w H', AgX [b] H H' → NumV lo0 H' w l → K w H') : wpOp F lo (.app 1 3 8 false x y) e H K := by
  by_cases hl0 : l = []
  · obtain ⟨_, a, rfl, _⟩ := hv
    subst hl0
    refine op_app_zero _ _ _ _ _ hx hy ?_
    exact k _ _ (AgX.refl _ _) (.inl ⟨_, rfl, rfl⟩)
  · obtain ⟨b', o', rfl, hg⟩ := sl_ints hv hl0
    have hne : l.length ≠ 0 := fun h => hl0 (List.eq_nil_of_length_eq_zero h)
    refine op_app _ _ _ _ _ (b := ⟨b, 0, none⟩) (n := 0) (c := 0) (a := ⟨b', o', none⟩) (kb := ⟨[], 1, 3, true, true⟩) hx hy hne hg hk ⟨hlt, rfl, rfl, rfl, rfl, rfl, by omega, by omega⟩ ?_
    rw [Nat.zero_add]
    have key : ∀ k k', (H.set b k ++ [k'])[H.length]? = some k' := fun k k' => by
      have := get_new0 (H.set b k) [k']
      rw [List.length_set] at this
      exact this
    refine k _ _ ((AgX.set H b _).trans (AgX.app [] _ _) (fun b h _ => h) (fun b h _ => by cases h)) (.inr ⟨H.length, h0, rfl, hl0, key _ _⟩)
theorem sRunOf_ok {F : Nat → Option IFn} {f : Nat} (hf : F f = some c_sRunOf) (gn : NumsOk F 15) (gdo : ∀ n, DoSOk F 49 n) : RunOk F f := by
  intro H n lv sv w ls l nums r1 r2 hsm r3
  suffices h : ∃ v H', KC F f [.agg #[lv, sv], w] H v H' ∧ (∃ nv wv tv, v = .tuple #[.agg #[nv, wv, tv], .bool (numsB n (ls, l) nums)] ∧ AgX [] H H' ∧
      SlR Co.int (vw 0 H') nv (runOf n (ls, l) nums).1 ∧ SlR Co.p2 (vw 0 H') wv (runOf n (ls, l) nums).2.1 ∧ SlR Co.p2 (vw 0 H') tv (runOf n (ls, l) nums).2.2) by
    obtain ⟨_, H', h1, nv, wv, tv, rfl, h2⟩ := h
    exact ⟨nv, wv, tv, H', h1, h2⟩
  have olv : one lv = true := by obtain ⟨_, a, rfl, _⟩ := r1; rfl
  have osv : one sv = true := by obtain ⟨_, a, rfl, _⟩ := r2; rfl
  refine KC.mk hf rfl ?_
  refine seq_reg ?_
  simp only [go_sem, binC, olv, osv]
  refine wpc_gen fun H1 hH1 => ?_
  have hx1 : AgX [] H H1 := hH1 ▸ AgX.app [] _ _
  have hb2 : H1[H.length]? = some ⟨[lv, sv], 0, 0, false, true⟩ := hH1 ▸ get_new0 _ _
  have hb4 : H1[H.length + 1]? = some ⟨[nilS, nilS, nilS], 0, 0, false, true⟩ := hH1 ▸ get_new _ _ 1
  clear hH1
  have r1' := r1.mono (agx_sub hx1)
  have r2' := r2.mono (agx_sub hx1)
  have r3' := r3.mono (agx_sub hx1)
  have hb4l := (List.getElem?_eq_some_iff.1 hb4).1
  refine seq_assoc (seq_reg ?_)
  simp only [go_sem, binC, gc_of hb2, inBlk_some, olv, osv]
  refine op_callB (by simp only [go_sem, binC]; exact gn H1 n _ _ _ ls l nums r1' r2' hsm r3') (fun hB => ?_) (fun hB => ?_)
  rotate_left
  · simp only [go_sem, binC]
    refine seq_cond (t := true) rfl ?_
    simp only [go_sem, binC]
    refine seq_assoc (seq_reg ?_)
    simp only [go_sem, binC, hb4]
    have hr : runOf n (ls, l) nums = ([], [], []) := if_neg (by rw [hB]; simp)
    refine seq_ret ⟨Or.inr rfl, .tuple #[.agg #[nilS, nilS, nilS], .bool false], ?_, nilS, nilS, nilS, by rw [hB], hx1.setN (by omega) _, ?_, ?_, ?_⟩
    · simp [resV, resL, res1, putE_get, notT, ptr, gc_set hb4l, inBlk_some, valOf]
    all_goals (rw [hr]; exact ⟨by simp, none, rfl, .inl rfl⟩)
  have hB2 := hB
  simp only [numsB, Bool.and_eq_true, decide_eq_true_eq, List.all_eq_true] at hB2
  obtain ⟨⟨hP, hln⟩, hall⟩ := hB2
  have hrun : runOf n (ls, l) nums = runL n l (nums, [], []) := if_pos hB
  have hcnt := progB_cnt hP hsm
  have hst : l.all (stepB ls.length n 3) = true := by
    simp only [progB, Bool.and_eq_true] at hP; exact hP.1.2
  have hls : ls.length ≤ 4 := by
    simp only [progB, Bool.and_eq_true, decide_eq_true_eq] at hP; have := hP.1.1.1; omega
  simp only at hln hcnt
  have rg : ∀ x ∈ nums, 0 ≤ x ∧ x ≤ 9 := fun x hx => inB_iff'.1 (hall x hx)
  simp only [go_sem, binC]
  refine seq_cond (t := false) rfl ?_
  simp only [go_sem, binC]
  refine seq_skip (seq_regD ?_)
  simp only [go_sem, binC, gc_of hb2, inBlk_some]
  have hxl : AgX [] H1 (H1 ++ [⟨[], 1, 3, true, true⟩]) := AgX.app [] _ _
  refine op_app_nums (b := H1.length) (lo0 := H1.length) (by (simp only [go_sem, binC]) <;> rfl) (by simp only [go_sem, binC]) (r3'.mono (agx_sub hxl)) (get_new0 _ _) (by omega) (by omega) (by rw [List.length_append]; omega) fun nv L q1 => ?_
  have on := q1.one
  obtain ⟨na, rfl⟩ := q1.shape
  simp only [go_sem, binC]
  have hx2 : AgX [] H1 (H1 ++ [⟨[], 1, 3, true, true⟩] ++ L) := hxl.tr (AgX.app [] _ _)
  simp only [List.append_assoc, List.cons_append, List.nil_append] at hx2 q1 ⊢
  generalize H1 ++ ⟨[], 1, 3, true, true⟩ :: L = H2 at hx2 q1 ⊢
  have hV : RunV H1 (nums, [], []) 0 H2 (.slice na nums.length nums.length) nilS nilS := ⟨hx2, q1, .inl ⟨rfl, rfl⟩, .inl ⟨rfl, rfl⟩, rg, (fun p hp => by simp at hp), Nat.le_refl _, (show nums.length ≤ 1000 by omega)⟩
  obtain ⟨nv3, wv3, sv3, H3, k3, hV3, hB3⟩ := gdo n H1 H2 H.length 0 (nums, [], []) _ _ _ sv l 3 hx1.1 hV r2' (by show l.all (stepB nums.length n 3) = true; rw [hln]; exact hst) (by omega)
  refine op_callN (by simp only [go_sem, binC]; exact k3) ?_
  have o1 := hV3.n.one
  have o2 := hV3.w.one
  have o3 := hV3.s.one
  have hb43 := hV3.ag.get hb4 (by simp)
  have hb43l := (List.getElem?_eq_some_iff.1 hb43).1
  simp only [go_sem, binC, hb43, o1, o2, o3]
  have hxs : AgX [H.length + 1] H3 (H3.set (H.length + 1) ⟨[nv3, wv3, sv3], 0, 0, false, true⟩) := AgX.set _ _ _
  have hn4 := hV3.n.keep' hxs (fun b _ _ h1 h2 => by simp only [List.mem_singleton] at h2; subst h2; rw [hb43] at h1; simp at h1)
  have hw4 := hV3.w.keep hxs (fun b so _ _ q h => by simp only [List.mem_singleton] at h; subst h; rw [hb43] at q; simp at q)
  have hs4 := hV3.s.keep hxs (fun b so _ _ q h => by simp only [List.mem_singleton] at h; subst h; rw [hb43] at q; simp at q)
  have hsm3 := hV3.sm
  refine wpc_ret ⟨Or.inr rfl, .tuple #[.agg #[nv3, wv3, sv3], .bool true], ?_, nv3, wv3, sv3, by rw [hB], (hx1.tr hV3.ag).setN (by omega) _, ?_, ?_, ?_⟩
  · simp [resV, resL, res1, putE_get, notT, ptr, gc_set hb43l, inBlk_some, valOf]
  · rw [hrun]; exact hn4.slI (fun x hx => by have := hV3.rg x hx; unfold RgI; omega) hV3.ln
  · rw [hrun]; exact hw4.slP (es := 2) (fun p hp => hV3.pr p (.inl hp)) (by omega)
  · rw [hrun]; exact hs4.slP (es := 2) (fun p hp => hV3.pr p (.inr hp)) (by omega)
theorem gcP {H : Heap} {v : Value} {l : List (Int × Int)} (h : SlR Co.p2 (vw 0 H) v l) {i : Nat} (hi : i < l.length) : ∃ b o, v = .slice (some ⟨b, o, none⟩) l.length l.length ∧ getCells H b (o + i * 2) 2 = some [.int .i64 l[i].1, .int .i64 l[i].2] := by
  obtain ⟨_, a, rfl, h2⟩ := h
  rcases h2 with h2 | ⟨b, o, rfl, h2⟩
  · rw [h2] at hi; simp at hi
  · obtain ⟨cs, h3, h4⟩ := h2 i hi
    have h5 := rng_gc h3
    rw [show Co.p2.w = 2 from rfl] at h5
    obtain ⟨_, _, rfl, ⟨rfl, _⟩, ⟨rfl, _⟩⟩ := h4
    exact ⟨b, o, rfl, h5⟩
def PairsOk (F : Nat → Option IFn) (f : Nat) : Prop := ∀ (H : Heap) (v w : Value) (l l' : List (Int × Int)), SlR Co.p2 (vw 0 H) v l → SlR Co.p2 (vw 0 H) w l' → QC F f [v, w] H (.bool (decide (l = l')))
theorem eqC2 (a b c d : Int) : eqCells [.int .i64 a, .int .i64 b] [.int .i64 c, .int .i64 d] = some (decide ((a, b) = (c, d))) := by
  simp only [eqCells, if_true, Option.map_some, Bool.and_true, Prod.mk.injEq]
  congr 1
  rw [Bool.eq_iff_iff]
  simp
theorem eqsV2 (a b c d : Int) : eqsV true 2 (.agg #[.int .i64 a, .int .i64 b]) (.agg #[.int .i64 c, .int .i64 d]) = some (.bool (!decide ((a, b) = (c, d)))) := by
  have h := eqC2 a b c d
  simp only [eqsV, List.length_cons, List.length_nil, h] 
  rfl
theorem lcWrites_ok {F : Nat → Option IFn} {f : Nat} (hf : F f = some c_lcWrites) : PairsOk F f := by
  intro H v w l l' hv hw
  obtain ⟨h0, a, rfl, _⟩ := id hv
  obtain ⟨h0', a', rfl, _⟩ := id hw
  refine QC.mk hf rfl ?_
  refine seq_reg ?_
  simp only [go_sem, binC]
  by_cases hl : l.length = l'.length
  rotate_left
  · have hne : ((l.length : Int) != (l'.length : Int)) = true := by simp; omega
    refine seq_assoc (seq_reg ?_)
    simp only [go_sem, binC, hne]
    refine seq_cond (t := true) rfl ?_
    simp only [go_sem, binC]
    refine seq_assoc (seq_reg ?_)
    simp only [go_sem, binC]
    refine seq_ret ⟨Or.inr rfl, .bool false, by simp only [go_sem, binC], ?_, rfl⟩
    rw [decide_eq_false (fun h => hl (by rw [h]))]
  have hne : ((l.length : Int) != (l'.length : Int)) = false := by simp; omega
  refine seq_assoc (seq_reg ?_)
  simp only [go_sem, binC, hne]
  refine seq_cond (t := false) rfl ?_
  simp only [go_sem, binC]
  refine seq_skip (seq_assoc (seq_reg ?_))
  simp only [go_sem, binC]
  refine seq_block (wpc_loop ?_)
  suffices h : ∀ (k i : Nat) (e : Env), i + k = l.length → e 0 = .slice a l.length l.length → e 1 = .slice a' l'.length l'.length → e 5 = .int .i64 i → (l = l' ↔ l.drop i = l'.drop i) → W F H.length _ e _ _ from
    h l.length 0 _ (by omega) (by simp only [go_sem, binC]) (by simp only [go_sem, binC]) (by (simp only [go_sem, binC]) <;> rfl) (by simp)
  intro k
  induction k with
  | zero =>
    intro i e hi e0 e1 e5 heq
    refine lp_step ?_
    refine seq_assoc (seq_reg ?_)
    simp only [go_sem, binC, e0, e5]
    refine seq_cond (t := false) (by simp only [go_sem, binC]; rw [decide_eq_false (by omega)]) ?_
    simp only [go_sem, binC]
    refine seq_exit ?_
    simp only [go_sem, binC, thenX_e, out_e, thenX_n]
    refine seq_reg ?_
    simp only [go_sem, binC]
    refine wpc_ret ⟨Or.inr rfl, .bool true, by simp only [go_sem, binC], ?_, rfl⟩
    rw [decide_eq_true (heq.2 (by rw [List.drop_of_length_le (by omega), List.drop_of_length_le (by omega)]))]
  | succ k ih =>
    intro i e hi e0 e1 e5 heq
    have hil : i < l.length := by omega
    have hil' : i < l'.length := by omega
    obtain ⟨b, o, hv1, hg⟩ := gcP hv hil
    obtain ⟨b', o', hv2, hg'⟩ := gcP hw hil'
    simp only [Value.slice.injEq, and_true] at hv1 hv2
    subst hv1 hv2
    have hw1 : IntKind.i64.wrap ((i : Int) + 1) = ((i + 1 : Nat) : Int) := by rw [wrap_id (by omega) (by omega)]; omega
    rw [List.drop_eq_getElem_cons hil, List.drop_eq_getElem_cons hil', List.cons.injEq] at heq
    refine lp_step ?_
    refine seq_assoc (seq_reg ?_)
    simp only [go_sem, binC, e0, e5]
    refine seq_cond (t := true) (by simp only [go_sem, binC]; rw [decide_eq_true (by omega)]) ?_
    simp only [go_sem, binC]
    refine seq_skip (seq_block (seq_regD ?_))
    simp only [go_sem, binC, e0, e5]
    refine ⟨⟨by omega, by omega⟩, ?_⟩
    simp only [go_sem, binC, Int.toNat_natCast, hg, e1, e5]
    refine ⟨⟨by omega, by omega⟩, ?_⟩
    simp only [go_sem, binC, Int.toNat_natCast, hg', eqsV2]
    by_cases hq : l[i] = l'[i]
    · have hb : (!decide ((l[i].1, l[i].2) = (l'[i].1, l'[i].2))) = false := by simp [hq]
      simp only [go_sem, binC, hb]
      refine wpc_cond (t := false) (by (simp only [go_sem, binC]) <;> rfl) ?_
      simp only [go_sem, binC]
      refine wpc_skip ?_
      simp only [go_sem, binC, out_n, thenX_n]
      refine wpc_reg ?_
      simp only [go_sem, binC, e5, hw1]
      simp only [go_sem, binC, thenX_n]
      exact ih (i + 1) _ (by omega) (by simp only [go_sem, binC, e0]) (by simp only [go_sem, binC, e1]) (by simp only [go_sem, binC]) (by rw [heq]; exact ⟨fun h => h.2, fun h => ⟨hq, h⟩⟩)
    · have hb : (!decide ((l[i].1, l[i].2) = (l'[i].1, l'[i].2))) = true := by
        rw [decide_eq_false (fun h => hq (Prod.ext (by simpa using congrArg Prod.fst h) (by simpa using congrArg Prod.snd h)))]; rfl
      simp only [go_sem, binC, hb]
      refine wpc_cond (t := true) (by (simp only [go_sem, binC]) <;> rfl) ?_
      simp only [go_sem, binC]
      refine seq_reg ?_
      simp only [go_sem, binC]
      refine wpc_ret ?_
      simp only [go_sem, binC, out_r, thenX_r]
      refine ⟨Or.inr rfl, .bool false, by simp only [go_sem, binC], ?_, rfl⟩
      rw [decide_eq_false (fun h => hq (heq.1 h).1)]
def RunsOk (F : Nat → Option IFn) (f : Nat) : Prop := ∀ (H : Heap) (nv wv sv nv' wv' sv' : Value) (r r' : RunS), SlR Co.int (vw 0 H) nv r.1 → SlR Co.p2 (vw 0 H) wv r.2.1 → SlR Co.p2 (vw 0 H) sv r.2.2 → SlR Co.int (vw 0 H) nv' r'.1 → SlR Co.p2 (vw 0 H) wv' r'.2.1 → SlR Co.p2 (vw 0 H) sv' r'.2.2 → QC F f [.agg #[nv, wv, sv], .agg #[nv', wv', sv']] H (.bool (decide (r = r')))
theorem lcRun_ok {F : Nat → Option IFn} {f : Nat} (hf : F f = some c_lcRun) (gi : IntsOk F 16) (gw : PairsOk F 36) : RunsOk F f := by
  intro H nv wv sv nv' wv' sv' r r' h1 h2 h3 h1' h2' h3'
  obtain ⟨_, na, rfl, _⟩ := id h1
  obtain ⟨_, wa, rfl, _⟩ := id h2
  obtain ⟨_, sa, rfl, _⟩ := id h3
  obtain ⟨_, na', rfl, _⟩ := id h1'
  obtain ⟨_, wa', rfl, _⟩ := id h2'
  obtain ⟨_, sa', rfl, _⟩ := id h3'
  refine QC.mk hf rfl ?_
  refine seq_reg ?_
  simp only [go_sem, binC]
  refine wpc_gen fun H1 hH1 => ?_
  have hx1 : AgX [] H H1 := hH1 ▸ AgX.app [] _ _
  have hba : H1[H.length]? = some ⟨[.slice na r.1.length r.1.length, .slice wa r.2.1.length r.2.1.length, .slice sa r.2.2.length r.2.2.length], 0, 0, false, true⟩ := hH1 ▸ get_new0 _ _
  have hbb : H1[H.length + 1]? = some ⟨[.slice na' r'.1.length r'.1.length, .slice wa' r'.2.1.length r'.2.1.length, .slice sa' r'.2.2.length r'.2.2.length], 0, 0, false, true⟩ := hH1 ▸ get_new _ _ 1
  clear hH1
  have hS := agx_sub hx1
  replace h1 := h1.mono hS
  replace h2 := h2.mono hS
  replace h3 := h3.mono hS
  replace h1' := h1'.mono hS
  replace h2' := h2'.mono hS
  replace h3' := h3'.mono hS
  obtain ⟨rn, rw, rs⟩ := r
  obtain ⟨rn', rw', rs'⟩ := r'
  simp only at h1 h2 h3 h1' h2' h3' hba hbb
  have hno : ∀ e, rn ≠ rn' ∨ rw ≠ rw' ∨ rs.length ≠ rs'.length → e 4 = .bool false → fin [.t 4] (fun w' _ => w' = .bool (decide ((rn, rw, rs) = (rn', rw', rs'))) ∧ scal w' = true) .r e H1 := by
    intro e hne h4
    refine ⟨Or.inr rfl, .bool false, by simp only [resV, res1, h4], ?_, rfl⟩
    rw [decide_eq_false (fun h => by
      simp only [Prod.mk.injEq] at h
      obtain ⟨p1, p2, p3⟩ := h
      subst p1 p2 p3
      simp at hne)]
  refine seq_assoc (seq_reg ?_)
  simp only [go_sem, binC, gc_of hba, gc_of hbb, inBlk_some]
  refine op_callB (by simp only [go_sem, binC]; exact gi H1 _ _ _ _ h1 h1') (fun hb1 => ?_) (fun hb1 => ?_)
  rotate_left
  · simp only [go_sem, binC]
    refine seq_cond (t := true) rfl ?_
    simp only [go_sem, binC]
    refine seq_assoc (seq_reg ?_)
    simp only [go_sem, binC]
    exact seq_ret (hno _ (.inl (of_decide_eq_false hb1)) (by simp only [go_sem, binC]))
  simp only [go_sem, binC, gc_of hba, gc_of hbb, inBlk_some]
  refine op_callB (by simp only [go_sem, binC]; exact gw H1 _ _ _ _ h2 h2') (fun hb2 => ?_) (fun hb2 => ?_)
  rotate_left
  · simp only [go_sem, binC]
    refine seq_cond (t := true) rfl ?_
    simp only [go_sem, binC]
    refine seq_assoc (seq_reg ?_)
    simp only [go_sem, binC]
    exact seq_ret (hno _ (.inr (.inl (of_decide_eq_false hb2))) (by simp only [go_sem, binC]))
  replace hb1 := of_decide_eq_true hb1
  replace hb2 := of_decide_eq_true hb2
  by_cases hl : rs.length = rs'.length
  rotate_left
  · have hne : ((rs.length : Int) != (rs'.length : Int)) = true := by simp; omega
    simp only [go_sem, binC, gc_of hba, gc_of hbb, inBlk_some, hne]
    refine seq_cond (t := true) rfl ?_
    simp only [go_sem, binC]
    refine seq_assoc (seq_reg ?_)
    simp only [go_sem, binC]
    exact seq_ret (hno _ (.inr (.inr hl)) (by simp only [go_sem, binC]))
  have hne : ((rs.length : Int) != (rs'.length : Int)) = false := by simp; omega
  simp only [go_sem, binC, gc_of hba, gc_of hbb, inBlk_some, hne]
  refine seq_cond (t := false) rfl ?_
  simp only [go_sem, binC]
  refine seq_skip (seq_assoc (seq_reg ?_))
  simp only [go_sem, binC]
  refine seq_block (wpc_loop ?_)
  suffices h : ∀ (k i : Nat) (e : Env), i + k = rs.length → e 2 = ptr H.length 0 → e 3 = ptr (H.length + 1) 0 → e 5 = .int .i64 i → (rs = rs' ↔ rs.drop i = rs'.drop i) → W F H.length _ e _ _ from
    h rs.length 0 _ (by omega) (by (simp only [go_sem, binC]) <;> rfl) (by (simp only [go_sem, binC]) <;> rfl) (by (simp only [go_sem, binC]) <;> rfl) (by simp)
  intro k
  induction k with
  | zero =>
    intro i e hi e2 e3 e5 heq
    refine lp_step ?_
    refine seq_assoc (seq_reg ?_)
    simp only [go_sem, binC, e2, e5, gc_of hba, inBlk_some]
    refine seq_cond (t := false) (by simp only [go_sem, binC]; rw [decide_eq_false (by omega)]) ?_
    simp only [go_sem, binC]
    refine seq_exit ?_
    simp only [go_sem, binC, thenX_e, out_e, thenX_n]
    refine seq_reg ?_
    simp only [go_sem, binC]
    refine wpc_ret ⟨Or.inr rfl, .bool true, by simp only [go_sem, binC], ?_, rfl⟩
    rw [hb1, hb2, heq.2 (by rw [List.drop_of_length_le (by omega), List.drop_of_length_le (by omega)]), decide_eq_true rfl]
  | succ k ih =>
    intro i e hi e2 e3 e5 heq
    have hil : i < rs.length := by omega
    have hil' : i < rs'.length := by omega
    have hrl : rs.length ≤ 9223372036854775807 := h3.1
    obtain ⟨b, o, hv1, hg⟩ := gcP h3 hil
    obtain ⟨b', o', hv2, hg'⟩ := gcP h3' hil'
    simp only [Value.slice.injEq, and_true] at hv1 hv2
    subst hv1 hv2
    have hw1 : IntKind.i64.wrap ((i : Int) + 1) = ((i + 1 : Nat) : Int) := by rw [wrap_id (by omega) (by omega)]; omega
    rw [List.drop_eq_getElem_cons hil, List.drop_eq_getElem_cons hil', List.cons.injEq] at heq
    refine lp_step ?_
    refine seq_assoc (seq_reg ?_)
    simp only [go_sem, binC, e2, e5, gc_of hba, inBlk_some]
    refine seq_cond (t := true) (by simp only [go_sem, binC]; rw [decide_eq_true (by omega)]) ?_
    simp only [go_sem, binC]
    refine seq_skip (seq_block (seq_regD ?_))
    simp only [go_sem, binC, e2, e3, e5, gc_of hba, gc_of hbb, inBlk_some]
    refine ⟨⟨by omega, by omega⟩, ?_⟩
    simp only [go_sem, binC, Int.toNat_natCast, hg, e3, e5, gc_of hbb, inBlk_some]
    refine ⟨⟨by omega, by omega⟩, ?_⟩
    simp only [go_sem, binC, Int.toNat_natCast, hg', eqsV2]
    by_cases hq : rs[i] = rs'[i]
    · have hb : (!decide ((rs[i].1, rs[i].2) = (rs'[i].1, rs'[i].2))) = false := by simp [hq]
      simp only [go_sem, binC, hb]
      refine wpc_cond (t := false) (by (simp only [go_sem, binC]) <;> rfl) ?_
      simp only [go_sem, binC]
      refine wpc_skip ?_
      simp only [go_sem, binC, out_n, thenX_n]
      refine wpc_reg ?_
      simp only [go_sem, binC, e5, hw1]
      simp only [go_sem, binC, thenX_n]
      exact ih (i + 1) _ (by omega) (by simp only [go_sem, binC, e2]) (by simp only [go_sem, binC, e3]) (by simp only [go_sem, binC]) (by rw [heq]; exact ⟨fun h => h.2, fun h => ⟨hq, h⟩⟩)
    · have hb : (!decide ((rs[i].1, rs[i].2) = (rs'[i].1, rs'[i].2))) = true := by
        rw [decide_eq_false (fun h => hq (Prod.ext (by simpa using congrArg Prod.fst h) (by simpa using congrArg Prod.snd h)))]; rfl
      simp only [go_sem, binC, hb]
      refine wpc_cond (t := true) (by (simp only [go_sem, binC]) <;> rfl) ?_
      simp only [go_sem, binC]
      refine seq_reg ?_
      simp only [go_sem, binC]
      refine wpc_ret ?_
      simp only [go_sem, binC, out_r, thenX_r]
      refine ⟨Or.inr rfl, .bool false, by simp only [go_sem, binC], ?_, rfl⟩
      rw [decide_eq_false (fun h => hq (heq.1 (by simp only [Prod.mk.injEq] at h; exact h.2.2)).1)]
end Go.Proofs.YtpaoppgbgjnkmaaI
end
