/- Texts of this proof, merged: M8, M9, E0m, E1, E2, E3, E4, E5, H0, H1, H2, H3, H4, H5. -/
import Derived.Test.YtmakdcbpohlacaaXb5
import Derived.Test.YtmakdcbpohlacaaXb6
section
/- Texts of this proof, merged: D12, D13, D14, D15, D17, D18, D19, D20, D21, I17, Q5n, Q5r. -/
section
/- The first step that is not fine (the reference's). -/
set_option linter.unusedVariables false
set_option linter.unusedSimpArgs false
namespace Go.Proofs.YtmakdcbpohlacaaI
open Go Go.RowKit
theorem prog_rd {n : Nat} {V : Vw} {lv sv : Value} {ls : List (Int × Int)} {l : List (TStep n)} (h1 : SlR Co.p2 V lv ls) (h2 : SlR (Co.step n) V sv l) : Rd (Co.prog n) true V (.agg #[lv, sv]) (ls, l) := ⟨_, rfl, [lv], [sv], rfl, ⟨lv, rfl, h1⟩, ⟨sv, rfl, h2⟩⟩
end Go.Proofs.YtmakdcbpohlacaaI
end
section
/- Steps copied, and steps without one. -/
set_option linter.unusedVariables false
set_option linter.unusedSimpArgs false
namespace Go.Proofs.YtmakdcbpohlacaaI
open Go Go.RowKit
theorem step_atV {n : Nat} {V : Vw} {v : Value} {l : List (TStep (n + 1))} (h : SlR (Co.step (n + 1)) V v l) {i : Nat} (hi : i < l.length) : ∃ (b o : Nat) (k x a bb c g : Int) (tv ev : Value) (tl el : List (TStep n)), v = .slice (some ⟨b, o, none⟩) l.length l.length ∧ l[i] = (k, x, (a, bb, c), g, tl, el) ∧
    (Rg k ∧ Rg x ∧ Rg a ∧ Rg bb ∧ Rg c ∧ Rg g) ∧ one tv = true ∧ one ev = true ∧ (∀ H', Sub V (vw 0 H') → getCells H' b (o + i * 8) 8 = some [.int .i64 k, .int .i64 x, .int .i64 a, .int .i64 bb, .int .i64 c, .int .i64 g, tv, ev]) ∧ SlR (Co.step n) V tv tl ∧ SlR (Co.step n) V ev el := by
  obtain ⟨_, a, rfl, h2⟩ := h
  obtain ⟨b, o, rfl, h3⟩ := h2.resolve_left (fun h => by rw [h] at hi; simp at hi)
  obtain ⟨cs, h4, h5⟩ := h3 i hi
  generalize hs : l[i] = s at h5
  obtain ⟨k, x, ⟨a, bb, c⟩, g, tl, el⟩ := s
  obtain ⟨_, _, rfl, ⟨rfl, r1⟩, _, _, rfl, ⟨rfl, r2⟩, _, _, rfl, ⟨_, _, rfl, ⟨rfl, r3⟩, _, _, rfl, ⟨rfl, r4⟩, ⟨rfl, r5⟩⟩, _, _, rfl, ⟨rfl, r6⟩, _, _, rfl, ⟨tv, rfl, h6⟩, ⟨ev, rfl, h7⟩⟩ := h5
  have o6 : one tv = true := by obtain ⟨_, _, rfl, _⟩ := h6; rfl
  have o7 : one ev = true := by obtain ⟨_, _, rfl, _⟩ := h7; rfl
  exact ⟨b, o, k, x, a, bb, c, g, tv, ev, tl, el, rfl, rfl, ⟨r1, r2, r3, r4, r5, r6⟩, o6, o7, fun H' hs => rng_gc (rng_sub hs h4), h6, h7⟩
/-- A list that grows, and a step's box. -/
structure Cd (H : Heap) (vl : Nat) (xs0 : List Nat) (d b : Nat) (so : Bool) (acc : List (TStep (d + 1))) (bs : Nat) (cells : List Value) (Hc : Heap) : Prop where
  ag : AgX [] H Hc
  own : OwnG (Co.step (d + 1)) 8 68 H.length vl (bs :: xs0) Hc b so acc
  box : Hc[bs]? = some ⟨cells, 0, 0, false, true⟩
  lo : H.length ≤ bs
  ne : b < bs
  xs : ∀ b', b' ∈ xs0 → b' < H.length
  vl : vl ≤ H.length
section
variable {H : Heap} {vl : Nat} {xs0 : List Nat} {d b : Nat} {so : Bool} {acc : List (TStep (d + 1))} {bs : Nat} {cells cells' : List Value} {Hc Hc' : Heap}
theorem Cd.grow (h : Cd H vl xs0 d b so acc bs cells Hc) (hx : AgX [] Hc Hc') : Cd H vl xs0 d b so acc bs cells Hc' :=
  ⟨h.ag.tr hx, h.own.sub hx (by simp) (fun b' _ h5 h6 h7 => ⟨by simp, h7⟩), hx.get h.box (by simp), h.lo, h.ne, h.xs, h.vl⟩
theorem Cd.store (h : Cd H vl xs0 d b so acc bs cells Hc) : Cd H vl xs0 d b so acc bs cells' (Hc.set bs ⟨cells', 0, 0, false, true⟩) := by
  have h3 := h.ne
  refine ⟨h.ag.setN h.lo _, h.own.sub (AgX.set _ _ _) (by simp; omega) (fun b' _ h5 h6 h7 => ⟨by simp only [List.mem_cons, not_or] at h7 ⊢; exact ⟨h7.1, List.not_mem_nil⟩, h7⟩), List.getElem?_set_self (List.getElem?_eq_some_iff.1 h.box).1, h.lo, h3, h.xs, h.vl⟩
/-- What is new is seen. -/
theorem Cd.new (h : Cd H vl xs0 d b so acc bs cells Hc) (hx : AgX [] Hc Hc') (k : Blk) : Sub (vwl Hc.length [] Hc') (vwl vl (b :: bs :: xs0) (Hc'.set bs k)) := by
  have h1 := h.own.1
  have h2 := h.lo
  have h3 := h.ne
  have h4 := (List.getElem?_eq_some_iff.1 h.box).1
  have h5 := h.xs
  have h6 := h.vl
  refine vwl_sub (AgX.set _ _ _) (by omega) fun b' h7 h8 _ => ⟨by simp; omega, ?_⟩
  simp only [List.mem_cons, not_or]
  exact ⟨by omega, by omega, fun hm => by have := h5 _ hm; omega⟩
end
end Go.Proofs.YtmakdcbpohlacaaI
end
section
/- Steps without one. -/
set_option linter.unusedVariables false
set_option linter.unusedSimpArgs false
namespace Go.Proofs.YtmakdcbpohlacaaI
open Go Go.RowKit
theorem vwl0 (lo : Nat) (xs : List Nat) (H : Heap) : Sub (vwl lo xs H) (vw 0 H) := (vwl_vw _ _ _).trans (vw_grow (Nat.zero_le _) fun _ _ _ => rfl)
end Go.Proofs.YtmakdcbpohlacaaI
end
section
/- Programs that are drawn so that most are fine. -/
set_option linter.unusedVariables false
set_option linter.unusedSimpArgs false
namespace Go.Proofs.YtmakdcbpohlacaaI
open Go Go.RowKit
end Go.Proofs.YtmakdcbpohlacaaI
end
section
/- Programs in which something is not as it was: what is kept. -/
set_option linter.unusedVariables false
set_option linter.unusedSimpArgs false
namespace Go.Proofs.YtmakdcbpohlacaaI
open Go Go.RowKit
section
variable {H0 : Heap} {rb : Nat} {bv : Value} {code : List Int} {H : Heap} {d bl bs : Nat} {sol sos so' : Bool} {ls : List (Int × Int)} {l : List (TStep (d + 1))} {b5 : Nat} {p q : Int} {Hc Hc' H' : Heap}
end
end Go.Proofs.YtmakdcbpohlacaaI
end
section
/- Programs in which something is not as it was. -/
set_option linter.unusedVariables false
set_option linter.unusedSimpArgs false
namespace Go.Proofs.YtmakdcbpohlacaaI
open Go Go.RowKit
end Go.Proofs.YtmakdcbpohlacaaI
end
section
/- Programs in which something is not as it was: the walk. -/
set_option linter.unusedVariables false
set_option linter.unusedSimpArgs false
namespace Go.Proofs.YtmakdcbpohlacaaI
open Go Go.RowKit
section
variable {H0 : Heap} {rb : Nat} {bv : Value} {code : List Int} {H : Heap} {d bl bs : Nat} {sol sos so' : Bool} {ls : List (Int × Int)} {l : List (TStep (d + 1))} {b5 : Nat} {p q : Int} {Hc Hc' H' : Heap}
end
end Go.Proofs.YtmakdcbpohlacaaI
end
section
/- Programs in which something is not as it was: the whole. -/
set_option linter.unusedVariables false
set_option linter.unusedSimpArgs false
namespace Go.Proofs.YtmakdcbpohlacaaI
open Go Go.RowKit
end Go.Proofs.YtmakdcbpohlacaaI
end
section
/- Programs that are drawn, some spoilt. -/
set_option linter.unusedVariables false
set_option linter.unusedSimpArgs false
namespace Go.Proofs.YtmakdcbpohlacaaI
open Go Go.RowKit
end Go.Proofs.YtmakdcbpohlacaaI
end
section
/- A guard that is told nothing. -/
set_option linter.unusedVariables false
set_option linter.unusedSimpArgs false
namespace Go.Proofs.YtmakdcbpohlacaaI
open Go Go.RowKit
section
variable (F : Nat → Option IFn) (lo : Nat) (e : Env) (H : Heap)
theorem runs_undef {d : Option Nat} {op : IOp} {g : Nat} {w : Bool} (hg : e g = undef) : IOper.runs ⟨d, some (g, w), op⟩ e = false := by
  simp [IOper.runs, hg, undef]
@[go_sem] theorem wpo_offU (d : Option Nat) (op : IOp) (r : List IOper) (K : Env → Heap → Prop) (g : Nat) (w : Bool) (hg : e g = undef) : wpo F lo (⟨d, some (g, w), op⟩ :: r) e H K = wpo F lo r (putE e d undef) H K :=
  propext ⟨fun h => h.2 (runs_undef e hg), fun h => ⟨fun h' => (by rw [runs_undef e hg] at h'; cases h'), fun _ => h⟩⟩
@[go_sem] theorem wpp_offU (p : Nat) (d : Option Nat) (op : IOp) (r : List IOper) (K : Env → Heap → Prop) (g : Nat) (w : Bool) (hg : e g = undef) : wpp F lo (p + 1) (⟨d, some (g, w), op⟩ :: r) e H K = wpp F lo p r (putE e d undef) H K :=
  propext ⟨fun h => h.2 (runs_undef e hg), fun h => ⟨fun h' => (by rw [runs_undef e hg] at h'; cases h'), fun _ => h⟩⟩
end
end Go.Proofs.YtmakdcbpohlacaaI
end
section
/- The program's test of steps, in segments. -/
set_option linter.unusedVariables false
set_option linter.unusedSimpArgs false
namespace Go.Proofs.YtmakdcbpohlacaaI
open Go Go.RowKit
attribute [local irreducible] optP wpo wpp wpc binI Kc Kp wpOp thenX eqsV
def Same (e e1 : Env) : Prop := e1 2 = e 2 ∧ e1 3 = e 3 ∧ e1 8 = e 8 ∧ e1 10 = e 10 ∧ e1 11 = e 11 ∧ e1 12 = e 12
theorem Same.trans {e e1 e2 : Env} (h : Same e e1) (h' : Same e1 e2) : Same e e2 :=
  ⟨h'.1.trans h.1, h'.2.1.trans h.2.1, h'.2.2.1.trans h.2.2.1, h'.2.2.2.1.trans h.2.2.2.1, h'.2.2.2.2.1.trans h.2.2.2.2.1, h'.2.2.2.2.2.trans h.2.2.2.2.2⟩
theorem seg1 {F : Nat → Option IFn} {lo : Nat} {H : Heap} {e : Env} {r : List IOper} {K : Env → Heap → Prop} {c : Nat}  {m : Nat} (g1 : VarOk F 98) {v0 v1 : Value} {p : TProg m} {b : Nat} {d a1 : Int} (hp : Rd (Co.prog m) true (vw 0 H) (.agg #[v0, v1]) p) (e2 : e 2 = .int .i64 d) (e3 : e 3 = ptr b 0) (e8 : e 8 = ptr c 0) (gb : getCells H b 0 2 = some [v0, v1]) (gc1 : getCells H c 1 1 = some [.int .i64 a1]) (hK : ∀ e1, Same e e1 → e1 24 = .bool (decide (d < 1) || !varB p.1.length a1) → wpo F lo r e1 H K) : wpo F lo (⟨(some 16), none, .mov (.t 2)⟩ :: ⟨(some 17), none, .bin .lss (.t 16) (.c (.int .i64 1))⟩ :: ⟨(some 18), none, .mov (.t 17)⟩ :: ⟨(some 19), (some (18, false)), .load true 2 (.t 3)⟩ :: ⟨(some 20), (some (18, false)), .fad 1 (.t 8)⟩ :: ⟨(some 21), (some (18, false)), .load false 1 (.t 20)⟩ :: ⟨(some 22), (some (18, false)), .call .q (.f 98) [(.t 19), (.t 21)]⟩ :: ⟨(some 23), (some (18, false)), .un .not (.t 22)⟩ :: ⟨(some 24), none, .pick (.t 18) (.c (.bool true)) (.t 23)⟩ :: r) e H K := by
  repeat' (first
    | refine seq_assoc ?_
    | refine seq_reg ?_
    | refine seq_skip ?_
    | refine seq_regD ?_
    | refine seq_cond (t := true) rfl ?_
    | refine seq_cond (t := false) rfl ?_
    | refine wpc_cond (t := true) rfl ?_
    | refine wpc_cond (t := false) rfl ?_
    | refine seq_block ?_
    | refine wpc_block ?_
    | refine seq_ret ?_
    | refine wpc_ret ?_
    | refine wpc_reg ?_
    | refine wpc_regD ?_
    | refine wpc_skip ?_
    | refine fin_t rfl ?_
    | refine seq_exit ?_
    | refine wpc_exit ?_
    | refine eqs_rule (fun _ => ?_) (fun _ => ?_)
    | refine cmp_lss (fun _ => ?_) (fun _ => ?_)
    | refine cmp_leq (fun _ => ?_) (fun _ => ?_)
    | refine cmp_gtr (fun _ => ?_) (fun _ => ?_)
    | refine cmp_geq (fun _ => ?_) (fun _ => ?_)
    | refine cmp_eql (fun _ => ?_) (fun _ => ?_)
    | refine cmp_neq (fun _ => ?_) (fun _ => ?_)
    | (refine op_callB (by simp only [go_sem, out_n, out_r, out_e, thenX_n, thenX_r, thenX_e, e2, e3, e8, gb, gc1]; exact g1 _ m _ p _ hp) (fun _ => ?_) (fun _ => ?_))
    | simp only [go_sem, out_n, out_r, out_e, thenX_n, thenX_r, thenX_e, e2, e3, e8, gb, gc1]
    )
  all_goals (refine hK _ ?_ ?_ <;> first | exact ⟨by simp only [go_sem, binC], by simp only [go_sem, binC], by simp only [go_sem, binC], by simp only [go_sem, binC], by simp only [go_sem, binC], by simp only [go_sem, binC]⟩ | (simp only [go_sem, binC]; simp [*]; done) | (simp only [go_sem, binC]; simp_all; done))
theorem seg2 {F : Nat → Option IFn} {lo : Nat} {H : Heap} {e : Env} {r : List IOper} {K : Env → Heap → Prop} {c : Nat}  {t : Bool} {a0 a2 a3 a4 : Int} (e24 : e 24 = .bool t) (e8 : e 8 = ptr c 0) (gc0 : getCells H c 0 1 = some [.int .i64 a0]) (gc2 : getCells H c 2 3 = some [.int .i64 a2, .int .i64 a3, .int .i64 a4]) (hK : ∀ e1, Same e e1 → e1 35 = .bool (t || (!decide (a0 = 1) && !decide ((a2, a3, a4) = (0, 0, 0)))) → wpo F lo r e1 H K) : wpo F lo (⟨(some 25), none, .mov (.t 24)⟩ :: ⟨(some 26), (some (25, false)), .fad 0 (.t 8)⟩ :: ⟨(some 27), (some (25, false)), .load false 1 (.t 26)⟩ :: ⟨(some 28), (some (25, false)), .bin .neq (.t 27) (.c (.int .i64 1))⟩ :: ⟨(some 29), (some (25, false)), .mov (.t 28)⟩ :: ⟨(some 30), (some (29, true)), .fad 2 (.t 8)⟩ :: ⟨(some 31), (some (29, true)), .load true 3 (.t 30)⟩ :: ⟨(some 32), (some (29, true)), .build [(.int .i64 0), (.int .i64 0), (.int .i64 0)] []⟩ :: ⟨(some 33), (some (29, true)), .eqs true 3 (.t 31) (.t 32)⟩ :: ⟨(some 34), (some (25, false)), .pick (.t 29) (.t 33) (.c (.bool false))⟩ :: ⟨(some 35), none, .pick (.t 25) (.c (.bool true)) (.t 34)⟩ :: r) e H K := by
  cases t
  all_goals skip
  repeat' (first
    | refine seq_assoc ?_
    | refine seq_reg ?_
    | refine seq_skip ?_
    | refine seq_regD ?_
    | refine seq_cond (t := true) rfl ?_
    | refine seq_cond (t := false) rfl ?_
    | refine wpc_cond (t := true) rfl ?_
    | refine wpc_cond (t := false) rfl ?_
    | refine seq_block ?_
    | refine wpc_block ?_
    | refine seq_ret ?_
    | refine wpc_ret ?_
    | refine wpc_reg ?_
    | refine wpc_regD ?_
    | refine wpc_skip ?_
    | refine fin_t rfl ?_
    | refine seq_exit ?_
    | refine wpc_exit ?_
    | refine eqs_rule (fun _ => ?_) (fun _ => ?_)
    | refine cmp_lss (fun _ => ?_) (fun _ => ?_)
    | refine cmp_leq (fun _ => ?_) (fun _ => ?_)
    | refine cmp_gtr (fun _ => ?_) (fun _ => ?_)
    | refine cmp_geq (fun _ => ?_) (fun _ => ?_)
    | refine cmp_eql (fun _ => ?_) (fun _ => ?_)
    | refine cmp_neq (fun _ => ?_) (fun _ => ?_)
    | simp only [go_sem, out_n, out_r, out_e, thenX_n, thenX_r, thenX_e, e24, e8, gc0, gc2]
    )
  all_goals (refine hK _ ?_ ?_ <;> first | exact ⟨by simp only [go_sem, binC], by simp only [go_sem, binC], by simp only [go_sem, binC], by simp only [go_sem, binC], by simp only [go_sem, binC], by simp only [go_sem, binC]⟩ | (simp only [go_sem, binC]; simp [*]; done) | (simp only [go_sem, binC]; simp_all; done))
theorem seg3 {F : Nat → Option IFn} {lo : Nat} {H : Heap} {e : Env} {r : List IOper} {K : Env → Heap → Prop} {c : Nat}  {t : Bool} {a0 a5 : Int} (e35 : e 35 = .bool t) (e8 : e 8 = ptr c 0) (gc0 : getCells H c 0 1 = some [.int .i64 a0]) (gc5 : getCells H c 5 1 = some [.int .i64 a5]) (hK : ∀ e1, Same e e1 → e1 45 = .bool (t || (!decide (a0 = 3) && !decide (a5 = 0))) → wpo F lo r e1 H K) : wpo F lo (⟨(some 36), none, .mov (.t 35)⟩ :: ⟨(some 37), (some (36, false)), .fad 0 (.t 8)⟩ :: ⟨(some 38), (some (36, false)), .load false 1 (.t 37)⟩ :: ⟨(some 39), (some (36, false)), .bin .neq (.t 38) (.c (.int .i64 3))⟩ :: ⟨(some 40), (some (36, false)), .mov (.t 39)⟩ :: ⟨(some 41), (some (40, true)), .fad 5 (.t 8)⟩ :: ⟨(some 42), (some (40, true)), .load false 1 (.t 41)⟩ :: ⟨(some 43), (some (40, true)), .bin .neq (.t 42) (.c (.int .i64 0))⟩ :: ⟨(some 44), (some (36, false)), .pick (.t 40) (.t 43) (.c (.bool false))⟩ :: ⟨(some 45), none, .pick (.t 36) (.c (.bool true)) (.t 44)⟩ :: r) e H K := by
  cases t
  all_goals skip
  repeat' (first
    | refine seq_assoc ?_
    | refine seq_reg ?_
    | refine seq_skip ?_
    | refine seq_regD ?_
    | refine seq_cond (t := true) rfl ?_
    | refine seq_cond (t := false) rfl ?_
    | refine wpc_cond (t := true) rfl ?_
    | refine wpc_cond (t := false) rfl ?_
    | refine seq_block ?_
    | refine wpc_block ?_
    | refine seq_ret ?_
    | refine wpc_ret ?_
    | refine wpc_reg ?_
    | refine wpc_regD ?_
    | refine wpc_skip ?_
    | refine fin_t rfl ?_
    | refine seq_exit ?_
    | refine wpc_exit ?_
    | refine eqs_rule (fun _ => ?_) (fun _ => ?_)
    | refine cmp_lss (fun _ => ?_) (fun _ => ?_)
    | refine cmp_leq (fun _ => ?_) (fun _ => ?_)
    | refine cmp_gtr (fun _ => ?_) (fun _ => ?_)
    | refine cmp_geq (fun _ => ?_) (fun _ => ?_)
    | refine cmp_eql (fun _ => ?_) (fun _ => ?_)
    | refine cmp_neq (fun _ => ?_) (fun _ => ?_)
    | simp only [go_sem, out_n, out_r, out_e, thenX_n, thenX_r, thenX_e, e35, e8, gc0, gc5]
    )
  all_goals (refine hK _ ?_ ?_ <;> first | exact ⟨by simp only [go_sem, binC], by simp only [go_sem, binC], by simp only [go_sem, binC], by simp only [go_sem, binC], by simp only [go_sem, binC], by simp only [go_sem, binC]⟩ | (simp only [go_sem, binC]; simp [*]; done) | (simp only [go_sem, binC]; simp_all; done))
theorem seg4 {F : Nat → Option IFn} {lo : Nat} {H : Heap} {e : Env} {r : List IOper} {K : Env → Heap → Prop} {c : Nat}  {t : Bool} {a0 : Int} {u6 u7 : Option Addr} {n6 n7 : Nat} (e45 : e 45 = .bool t) (e8 : e 8 = ptr c 0) (gc0 : getCells H c 0 1 = some [.int .i64 a0]) (gc6 : getCells H c 6 1 = some [.slice u6 n6 n6]) (gc7 : getCells H c 7 1 = some [.slice u7 n7 n7]) (ha : IntKind.i64.wrap ((n6 : Int) + (n7 : Int)) = (n6 : Int) + (n7 : Int)) (hK : ∀ e1, Same e e1 → e1 60 = .bool (t || (!decide (a0 = 2) && decide (0 < (n6 : Int) + n7))) → wpo F lo r e1 H K) : wpo F lo (⟨(some 46), none, .mov (.t 45)⟩ :: ⟨(some 47), (some (46, false)), .fad 0 (.t 8)⟩ :: ⟨(some 48), (some (46, false)), .load false 1 (.t 47)⟩ :: ⟨(some 49), (some (46, false)), .bin .neq (.t 48) (.c (.int .i64 2))⟩ :: ⟨(some 50), (some (46, false)), .mov (.t 49)⟩ :: ⟨(some 51), (some (50, true)), .fad 6 (.t 8)⟩ :: ⟨(some 52), (some (50, true)), .load false 1 (.t 51)⟩ :: ⟨(some 53), (some (50, true)), .len (.t 52)⟩ :: ⟨(some 54), (some (50, true)), .fad 7 (.t 8)⟩ :: ⟨(some 55), (some (50, true)), .load false 1 (.t 54)⟩ :: ⟨(some 56), (some (50, true)), .len (.t 55)⟩ :: ⟨(some 57), (some (50, true)), .bin .add (.t 53) (.t 56)⟩ :: ⟨(some 58), (some (50, true)), .bin .gtr (.t 57) (.c (.int .i64 0))⟩ :: ⟨(some 59), (some (46, false)), .pick (.t 50) (.t 58) (.c (.bool false))⟩ :: ⟨(some 60), none, .pick (.t 46) (.c (.bool true)) (.t 59)⟩ :: r) e H K := by
  cases t
  all_goals skip
  repeat' (first
    | refine seq_assoc ?_
    | refine seq_reg ?_
    | refine seq_skip ?_
    | refine seq_regD ?_
    | refine seq_cond (t := true) rfl ?_
    | refine seq_cond (t := false) rfl ?_
    | refine wpc_cond (t := true) rfl ?_
    | refine wpc_cond (t := false) rfl ?_
    | refine seq_block ?_
    | refine wpc_block ?_
    | refine seq_ret ?_
    | refine wpc_ret ?_
    | refine wpc_reg ?_
    | refine wpc_regD ?_
    | refine wpc_skip ?_
    | refine fin_t rfl ?_
    | refine seq_exit ?_
    | refine wpc_exit ?_
    | refine eqs_rule (fun _ => ?_) (fun _ => ?_)
    | refine cmp_lss (fun _ => ?_) (fun _ => ?_)
    | refine cmp_leq (fun _ => ?_) (fun _ => ?_)
    | refine cmp_gtr (fun _ => ?_) (fun _ => ?_)
    | refine cmp_geq (fun _ => ?_) (fun _ => ?_)
    | refine cmp_eql (fun _ => ?_) (fun _ => ?_)
    | refine cmp_neq (fun _ => ?_) (fun _ => ?_)
    | simp only [go_sem, out_n, out_r, out_e, thenX_n, thenX_r, thenX_e, e45, e8, gc0, gc6, gc7, ha]
    )
  all_goals (refine hK _ ?_ ?_ <;> first | exact ⟨by simp only [go_sem, binC], by simp only [go_sem, binC], by simp only [go_sem, binC], by simp only [go_sem, binC], by simp only [go_sem, binC], by simp only [go_sem, binC]⟩ | (simp only [go_sem, binC]; simp [*]; done) | (simp only [go_sem, binC]; simp_all; done))
end Go.Proofs.YtmakdcbpohlacaaI
end
section
/- The program's test of steps: what is done for each kind. -/
set_option linter.unusedVariables false
set_option linter.unusedSimpArgs false
namespace Go.Proofs.YtmakdcbpohlacaaI
open Go Go.RowKit
attribute [local irreducible] optP wpo wpp wpc binI Kc Kp wpOp thenX eqsV
def c_tests : List IOper := [
          ⟨(some 16), none, .mov (.t 2)⟩,
          ⟨(some 17), none, .bin .lss (.t 16) (.c (.int .i64 1))⟩,
          ⟨(some 18), none, .mov (.t 17)⟩,
          ⟨(some 19), (some (18, false)), .load true 2 (.t 3)⟩,
          ⟨(some 20), (some (18, false)), .fad 1 (.t 8)⟩,
          ⟨(some 21), (some (18, false)), .load false 1 (.t 20)⟩,
          ⟨(some 22), (some (18, false)), .call .q (.f 98) [(.t 19), (.t 21)]⟩,
          ⟨(some 23), (some (18, false)), .un .not (.t 22)⟩,
          ⟨(some 24), none, .pick (.t 18) (.c (.bool true)) (.t 23)⟩,
          ⟨(some 25), none, .mov (.t 24)⟩,
          ⟨(some 26), (some (25, false)), .fad 0 (.t 8)⟩,
          ⟨(some 27), (some (25, false)), .load false 1 (.t 26)⟩,
          ⟨(some 28), (some (25, false)), .bin .neq (.t 27) (.c (.int .i64 1))⟩,
          ⟨(some 29), (some (25, false)), .mov (.t 28)⟩,
          ⟨(some 30), (some (29, true)), .fad 2 (.t 8)⟩,
          ⟨(some 31), (some (29, true)), .load true 3 (.t 30)⟩,
          ⟨(some 32), (some (29, true)), .build [(.int .i64 0), (.int .i64 0), (.int .i64 0)] []⟩,
          ⟨(some 33), (some (29, true)), .eqs true 3 (.t 31) (.t 32)⟩,
          ⟨(some 34), (some (25, false)), .pick (.t 29) (.t 33) (.c (.bool false))⟩,
          ⟨(some 35), none, .pick (.t 25) (.c (.bool true)) (.t 34)⟩,
          ⟨(some 36), none, .mov (.t 35)⟩,
          ⟨(some 37), (some (36, false)), .fad 0 (.t 8)⟩,
          ⟨(some 38), (some (36, false)), .load false 1 (.t 37)⟩,
          ⟨(some 39), (some (36, false)), .bin .neq (.t 38) (.c (.int .i64 3))⟩,
          ⟨(some 40), (some (36, false)), .mov (.t 39)⟩,
          ⟨(some 41), (some (40, true)), .fad 5 (.t 8)⟩,
          ⟨(some 42), (some (40, true)), .load false 1 (.t 41)⟩,
          ⟨(some 43), (some (40, true)), .bin .neq (.t 42) (.c (.int .i64 0))⟩,
          ⟨(some 44), (some (36, false)), .pick (.t 40) (.t 43) (.c (.bool false))⟩,
          ⟨(some 45), none, .pick (.t 36) (.c (.bool true)) (.t 44)⟩,
          ⟨(some 46), none, .mov (.t 45)⟩,
          ⟨(some 47), (some (46, false)), .fad 0 (.t 8)⟩,
          ⟨(some 48), (some (46, false)), .load false 1 (.t 47)⟩,
          ⟨(some 49), (some (46, false)), .bin .neq (.t 48) (.c (.int .i64 2))⟩,
          ⟨(some 50), (some (46, false)), .mov (.t 49)⟩,
          ⟨(some 51), (some (50, true)), .fad 6 (.t 8)⟩,
          ⟨(some 52), (some (50, true)), .load false 1 (.t 51)⟩,
          ⟨(some 53), (some (50, true)), .len (.t 52)⟩,
          ⟨(some 54), (some (50, true)), .fad 7 (.t 8)⟩,
          ⟨(some 55), (some (50, true)), .load false 1 (.t 54)⟩,
          ⟨(some 56), (some (50, true)), .len (.t 55)⟩,
          ⟨(some 57), (some (50, true)), .bin .add (.t 53) (.t 56)⟩,
          ⟨(some 58), (some (50, true)), .bin .gtr (.t 57) (.c (.int .i64 0))⟩,
          ⟨(some 59), (some (46, false)), .pick (.t 50) (.t 58) (.c (.bool false))⟩,
          ⟨(some 60), none, .pick (.t 46) (.c (.bool true)) (.t 59)⟩]
def c_rest : ICode := (.seq (.reg none [
         ⟨(some 9), none, .mov (.c (.bool false))⟩])
      (.seq (.seq (.reg none [
          ⟨(some 61), none, .fad 0 (.t 8)⟩,
          ⟨(some 62), none, .load false 1 (.t 61)⟩])
       (.block 2 (.seq (.reg none [
           ⟨(some 64), none, .bin .eql (.t 62) (.c (.int .i64 1))⟩,
           ⟨(some 63), none, .mov (.t 64)⟩])
        (.cond (.t 63) (.reg none [
           ⟨(some 65), none, .load true 2 (.t 3)⟩,
           ⟨(some 66), none, .fad 2 (.t 8)⟩,
           ⟨(some 67), none, .load true 3 (.t 66)⟩,
           ⟨(some 68), none, .call .q (.f 99) [(.t 65), (.t 67)]⟩,
           ⟨(some 9), none, .mov (.t 68)⟩]) (.seq (.reg none [
            ⟨(some 70), none, .bin .eql (.t 62) (.c (.int .i64 2))⟩,
            ⟨(some 69), none, .mov (.t 70)⟩])
         (.cond (.t 69) (.reg none [
            ⟨(some 71), none, .load true 2 (.t 3)⟩,
            ⟨(some 72), none, .fad 6 (.t 8)⟩,
            ⟨(some 73), none, .load false 1 (.t 72)⟩,
            ⟨(some 74), none, .mov (.t 2)⟩,
            ⟨(some 75), none, .bin .sub (.t 74) (.c (.int .i64 1))⟩,
            ⟨(some 76), none, .call .q (.f 73) [(.t 71), (.t 73), (.t 75)]⟩,
            ⟨(some 77), none, .mov (.t 76)⟩,
            ⟨(some 78), (some (77, true)), .load true 2 (.t 3)⟩,
            ⟨(some 79), (some (77, true)), .fad 7 (.t 8)⟩,
            ⟨(some 80), (some (77, true)), .load false 1 (.t 79)⟩,
            ⟨(some 81), (some (77, true)), .mov (.t 2)⟩,
            ⟨(some 82), (some (77, true)), .bin .sub (.t 81) (.c (.int .i64 1))⟩,
            ⟨(some 83), (some (77, true)), .call .q (.f 73) [(.t 78), (.t 80), (.t 82)]⟩,
            ⟨(some 84), none, .pick (.t 77) (.t 83) (.c (.bool false))⟩,
            ⟨(some 9), none, .mov (.t 84)⟩]) (.seq (.reg none [
             ⟨(some 86), none, .bin .eql (.t 62) (.c (.int .i64 3))⟩,
             ⟨(some 85), none, .mov (.t 86)⟩])
          (.cond (.t 85) (.reg none [
             ⟨(some 87), none, .fad 5 (.t 8)⟩,
             ⟨(some 88), none, .load false 1 (.t 87)⟩,
             ⟨(some 89), none, .call .q (.f 100) [(.t 88)]⟩,
             ⟨(some 9), none, .mov (.t 89)⟩]) (.skip)))))))))
      (.seq (.reg none [
         ⟨(some 90), none, .mov (.t 9)⟩,
         ⟨(some 91), none, .un .not (.t 90)⟩])
      (.cond (.t 91) (.seq (.reg none [
          ⟨(some 6), none, .mov (.c (.bool false))⟩])
       (.ret)) (.skip)))))
def c_iStepsB : ICode := (.seq (.reg none [
       ⟨(some 13), none, .bin .lss (.t 12) (.t 11)⟩])
    (.seq (.cond (.t 13) (.skip) (.exit 0))
    (.seq (.block 1 (.seq (.reg none [
         ⟨(some 14), none, .iad 8 (.t 10) (.t 12)⟩,
         ⟨(some 15), none, .load true 8 (.t 14)⟩,
         ⟨(some 8), none, .new [(.int .i64 0), (.int .i64 0), (.int .i64 0), (.int .i64 0), (.int .i64 0), (.int .i64 0), (.slice none 0 0), (.slice none 0 0)]⟩,
         ⟨none, none, .store 8 (.t 8) (.t 15)⟩])
      (.seq (.seq (.reg none c_tests)
       (.cond (.t 60) (.seq (.reg none [
           ⟨(some 6), none, .mov (.c (.bool false))⟩])
        (.ret)) (.skip)))
      c_rest)))
    (.reg none [
      ⟨(some 92), none, .bin .add (.t 12) (.c (.int .i64 1))⟩,
      ⟨(some 12), none, .mov (.t 92)⟩]))))
theorem rest_ok {F : Nat → Option IFn} {lo m n : Nat} {H : Heap} {e : Env} {K : X → Env → Heap → Prop} {b c : Nat} {v0 v1 : Value} {p : TProg m} {d a0 a1 a2 a3 a4 a5 : Int} {a6 a7 : List (TStep n)} {u6 u7 : Option Addr} (g2 : ValOk F 99) (g4 : ∀ (H : Heap) (a : Int), QC F 100 [.int .i64 a] H (.bool (inB a 0 2))) (g3 : StepsOk F 73 n)
    (hp : Rd (Co.prog m) true (vw 0 H) (.agg #[v0, v1]) p) (hv : Rd Co.val true (vw 0 H) (.agg #[.int .i64 a2, .int .i64 a3, .int .i64 a4]) (a2, a3, a4)) (r6 : SlR (Co.step n) (vw 0 H) (.slice u6 a6.length a6.length) a6) (r7 : SlR (Co.step n) (vw 0 H) (.slice u7 a7.length a7.length) a7) (s6 : (Co.sl (Co.step n)).sm a6) (s7 : (Co.sl (Co.step n)).sm a7)
    (hd1 : 1 ≤ d) (hd3 : d ≤ 3) (hd : IntKind.i64.wrap (d - 1) = d - 1)
    (e2 : e 2 = .int .i64 d) (e3 : e 3 = ptr b 0) (e8 : e 8 = ptr c 0) (gb : getCells H b 0 2 = some [v0, v1]) (gc0 : getCells H c 0 1 = some [.int .i64 a0]) (gc2 : getCells H c 2 3 = some [.int .i64 a2, .int .i64 a3, .int .i64 a4]) (gc5 : getCells H c 5 1 = some [.int .i64 a5]) (gc6 : getCells H c 6 1 = some [.slice u6 a6.length a6.length]) (gc7 : getCells H c 7 1 = some [.slice u7 a7.length a7.length])
    (hK1 : ∀ e1, Same e e1 → (if a0 = 1 then valB p.1.length (a2, a3, a4) else if a0 = 2 then a6.all (stepB p.1.length n (d - 1)) && a7.all (stepB p.1.length n (d - 1)) else if a0 = 3 then inB a5 0 2 else false) = true → K .n e1 H)
    (hK2 : ∀ e1, e1 6 = .bool false → (if a0 = 1 then valB p.1.length (a2, a3, a4) else if a0 = 2 then a6.all (stepB p.1.length n (d - 1)) && a7.all (stepB p.1.length n (d - 1)) else if a0 = 3 then inB a5 0 2 else false) = false → K .r e1 H) : wpc F lo c_rest e H K := by
  generalize hA6 : a6.all (stepB p.1.length n (d - 1)) = A6 at hK1 hK2
  generalize hA7 : a7.all (stepB p.1.length n (d - 1)) = A7 at hK1 hK2
  have q6 := g3 H m _ _ p a6 (d - 1) hp r6 s6 (by omega) (by omega)
  have q7 := g3 H m _ _ p a7 (d - 1) hp r7 s7 (by omega) (by omega)
  rw [hA6] at q6
  rw [hA7] at q7
  unfold c_rest
  repeat' (first
    | refine seq_assoc ?_
    | refine seq_reg ?_
    | refine seq_skip ?_
    | refine seq_regD ?_
    | refine seq_cond (t := true) rfl ?_
    | refine seq_cond (t := false) rfl ?_
    | refine wpc_cond (t := true) rfl ?_
    | refine wpc_cond (t := false) rfl ?_
    | refine seq_block ?_
    | refine wpc_block ?_
    | refine seq_ret ?_
    | refine wpc_ret ?_
    | refine wpc_reg ?_
    | refine wpc_regD ?_
    | refine wpc_skip ?_
    | refine fin_t rfl ?_
    | refine seq_exit ?_
    | refine wpc_exit ?_
    | refine cmp_lss (fun _ => ?_) (fun _ => ?_)
    | refine cmp_leq (fun _ => ?_) (fun _ => ?_)
    | refine cmp_gtr (fun _ => ?_) (fun _ => ?_)
    | refine cmp_geq (fun _ => ?_) (fun _ => ?_)
    | refine cmp_eql (fun _ => ?_) (fun _ => ?_)
    | refine cmp_neq (fun _ => ?_) (fun _ => ?_)
    | (refine op_callB (by simp only [go_sem, out_n, out_r, out_e, thenX_n, thenX_r, thenX_e, hd, e2, e3, e8, gb, gc0, gc2, gc5, gc6, gc7, Bool.not_true, Bool.not_false]; exact g2 _ m _ _ p (a2, a3, a4) hp hv) (fun _ => ?_) (fun _ => ?_))
    | (refine op_callB (by simp only [go_sem, out_n, out_r, out_e, thenX_n, thenX_r, thenX_e, hd, e2, e3, e8, gb, gc0, gc2, gc5, gc6, gc7, Bool.not_true, Bool.not_false]; exact g4 _ _) (fun _ => ?_) (fun _ => ?_))
    | (refine op_callB (by simp only [go_sem, out_n, out_r, out_e, thenX_n, thenX_r, thenX_e, hd, e2, e3, e8, gb, gc0, gc2, gc5, gc6, gc7, Bool.not_true, Bool.not_false]; exact q6) (fun _ => ?_) (fun _ => ?_))
    | (refine op_callB (by simp only [go_sem, out_n, out_r, out_e, thenX_n, thenX_r, thenX_e, hd, e2, e3, e8, gb, gc0, gc2, gc5, gc6, gc7, Bool.not_true, Bool.not_false]; exact q7) (fun _ => ?_) (fun _ => ?_))
    | simp only [go_sem, out_n, out_r, out_e, thenX_n, thenX_r, thenX_e, hd, e2, e3, e8, gb, gc0, gc2, gc5, gc6, gc7, Bool.not_true, Bool.not_false]
    )
  all_goals first
    | (refine hK2 _ ?_ ?_ <;> first | (simp only [go_sem, binC]; done) | (simp [*]; done) | (simp_all; done))
    | (refine hK1 _ ?_ ?_ <;> first | exact ⟨by simp only [go_sem, binC], by simp only [go_sem, binC], by simp only [go_sem, binC], by simp only [go_sem, binC], by simp only [go_sem, binC], by simp only [go_sem, binC]⟩ | (simp [*]; done) | (simp_all; done))
end Go.Proofs.YtmakdcbpohlacaaI
end
end
section
/- Texts of this proof, merged: Q5, Q5b, I19, Q4. -/
section
/- The program's test of steps: the loop. -/
set_option linter.unusedVariables false
set_option linter.unusedSimpArgs false
namespace Go.Proofs.YtmakdcbpohlacaaI
open Go Go.RowKit
attribute [local irreducible] optP wpo wpp wpc binI Kc Kp wpOp thenX eqsV
theorem step_bad {k n : Nat} {d a0 a1 a2 a3 a4 a5 : Int} {a6 a7 : List (TStep n)} (h : (decide (d < 1) || !varB k a1 || (!decide (a0 = 1) && !decide ((a2, a3, a4) = (0, 0, 0))) || (!decide (a0 = 3) && !decide (a5 = 0)) || (!decide (a0 = 2) && decide (0 < (a6.length : Int) + a7.length))) = true) : stepB k (n + 1) d (a0, a1, (a2, a3, a4), a5, a6, a7) = false := by
  simp only [stepB]
  generalize (a6.length : Int) + (a7.length : Int) = X at *
  generalize List.all a6 (stepB k n (d - 1)) = A6 at *
  generalize List.all a7 (stepB k n (d - 1)) = A7 at *
  by_cases h1 : d < 1
  · rw [decide_eq_false (show ¬ 1 ≤ d by omega)]; rfl
  cases hv : varB k a1 with
  | false => simp
  | true =>
    by_cases hX : 0 < X
    · have hX0 : ¬ X = 0 := by omega
      by_cases k1 : a0 = 1 <;> by_cases k3 : a0 = 3 <;> by_cases k2 : a0 = 2 <;> simp_all <;> (intros; simp_all) <;> (try omega)
    · by_cases k1 : a0 = 1 <;> by_cases k3 : a0 = 3 <;> by_cases k2 : a0 = 2 <;> simp_all <;> (intros; simp_all) <;> (try omega)
theorem step_bad2 {k n : Nat} {d a0 a1 a2 a3 a4 a5 : Int} {a6 a7 : List (TStep n)} (h : (if a0 = 1 then valB k (a2, a3, a4) else if a0 = 2 then a6.all (stepB k n (d - 1)) && a7.all (stepB k n (d - 1)) else if a0 = 3 then inB a5 0 2 else false) = false) : stepB k (n + 1) d (a0, a1, (a2, a3, a4), a5, a6, a7) = false := by
  simp only [stepB]
  generalize List.all a6 (stepB k n (d - 1)) = A6 at *
  generalize List.all a7 (stepB k n (d - 1)) = A7 at *
  by_cases k1 : a0 = 1 <;> by_cases k3 : a0 = 3 <;> by_cases k2 : a0 = 2 <;> simp_all <;> (intros; simp_all)
theorem step_good {k n : Nat} {d a0 a1 a2 a3 a4 a5 : Int} {a6 a7 : List (TStep n)} (ht : (decide (d < 1) || !varB k a1 || (!decide (a0 = 1) && !decide ((a2, a3, a4) = (0, 0, 0))) || (!decide (a0 = 3) && !decide (a5 = 0)) || (!decide (a0 = 2) && decide (0 < (a6.length : Int) + a7.length))) = false) (h : (if a0 = 1 then valB k (a2, a3, a4) else if a0 = 2 then a6.all (stepB k n (d - 1)) && a7.all (stepB k n (d - 1)) else if a0 = 3 then inB a5 0 2 else false) = true) : stepB k (n + 1) d (a0, a1, (a2, a3, a4), a5, a6, a7) = true := by
  have hX : (0 : Int) ≤ (a6.length : Int) + (a7.length : Int) := by omega
  simp only [stepB]
  generalize (a6.length : Int) + (a7.length : Int) = X at *
  generalize List.all a6 (stepB k n (d - 1)) = A6 at *
  generalize List.all a7 (stepB k n (d - 1)) = A7 at *
  by_cases k1 : a0 = 1 <;> by_cases k3 : a0 = 3 <;> by_cases k2 : a0 = 2 <;> simp_all <;> omega
set_option maxHeartbeats 4000000 in
theorem iSteps_lp {F : Nat → Option IFn} {n m : Nat} (g1 : VarOk F 98) (g2 : ValOk F 99) (g4 : ∀ (H : Heap) (a : Int), QC F 100 [.int .i64 a] H (.bool (inB a 0 2))) (g3 : StepsOk F 73 n) {H : Heap} {v0 v1 : Value} {p0 : List (Int × Int)} {p1 : List (TStep m)} {d : Int}
    (hp : ∀ L, Rd (Co.prog m) true (vw 0 (H ++ L)) (.agg #[v0, v1]) (p0, p1)) {l : List (TStep (n + 1))} {a : Option Addr} (hu : SlR (Co.step (n + 1)) (vw 0 H) (.slice a l.length l.length) l) (hs : (Co.sl (Co.step (n + 1))).sm l) (hd0 : 0 ≤ d) (hd3 : d ≤ 3)
    {K : X → Env → Heap → Prop} (hK1 : ∀ e1 M, l.all (stepB p0.length (n + 1) d) = true → K (.e 0) e1 (H ++ ⟨[v0, v1], 0, 0, false, true⟩ :: M)) (hK2 : ∀ e1 M, e1 6 = .bool false → l.all (stepB p0.length (n + 1) d) = false → K .r e1 (H ++ ⟨[v0, v1], 0, 0, false, true⟩ :: M)) :
    ∀ (k i : Nat) (e : Env) (M : Heap), i + k = l.length → e 2 = .int .i64 d → e 3 = ptr H.length 0 → e 10 = .slice a l.length l.length → e 11 = .int .i64 l.length → e 12 = .int .i64 i → l.all (stepB p0.length (n + 1) d) = (l.drop i).all (stepB p0.length (n + 1) d) →
      W F H.length (.lp c_iStepsB) e (H ++ ⟨[v0, v1], 0, 0, false, true⟩ :: M) K := by
  obtain ⟨h0, a', ha', h2⟩ := hu
  cases ha'
  have hd : IntKind.i64.wrap (d - 1) = d - 1 := wrap_id (by omega) (by omega)
  intro k
  induction k with
  | zero =>
    intro i e M hi e2 e3 e10 e11 e12 hall
    refine lp_step ?_
    refine seq_reg ?_
    simp only [go_sem, binC, e11, e12]
    refine seq_cond (t := false) (by simp only [go_sem, binC]; rw [decide_eq_false (by omega)]) ?_
    simp only [go_sem, binC]
    refine seq_exit ?_
    simp only [go_sem, binC, thenX_e]
    refine hK1 _ _ ?_
    rw [hall, List.drop_of_length_le (by omega)]
    rfl
  | succ k ih =>
    intro i e M hi e2 e3 e10 e11 e12 hall
    have hil : i < l.length := by omega
    rcases h2 with h2 | ⟨b, o, hab, h2⟩
    · rw [h2] at hil; simp at hil
    subst hab
    obtain ⟨cs, h3, h4⟩ := h2 i hil
    have hsm := hs.2 _ (List.getElem_mem hil)
    rw [List.drop_eq_getElem_cons hil, List.all_cons] at hall
    generalize l[i] = x at h4 hsm hall
    obtain ⟨a0, a1, ⟨a2, a3, a4⟩, a5, a6, a7⟩ := x
    obtain ⟨_, _, rfl, ⟨rfl, b0⟩, _, _, rfl, ⟨rfl, b1⟩, _, _, rfl, ⟨_, _, rfl, ⟨rfl, b2⟩, _, _, rfl, ⟨rfl, b3⟩, ⟨rfl, b4⟩⟩, _, _, rfl, ⟨rfl, b5⟩, _, _, rfl, ⟨v6, rfl, r6⟩, ⟨v7, rfl, r7⟩⟩ := h4
    obtain ⟨s0, s1, s2, s3, s6, s7⟩ := hsm
    have r6c := r6
    have r7c := r7
    obtain ⟨u6, x6⟩ := r6.shape
    subst x6
    obtain ⟨u7, x7⟩ := r7.shape
    subst x7
    have ha : IntKind.i64.wrap ((a6.length : Int) + (a7.length : Int)) = (a6.length : Int) + (a7.length : Int) := by
      have h6 : a6.length ≤ 1048576 := s6.1
      have h7 : a7.length ≤ 1048576 := s7.1
      exact wrap_id (by omega) (by omega)
    have g3c := fun L => rng_gc (rng_sub (vw_app 0 H L) h3)
    rw [step_w] at g3c
    simp only [go_sem, binC] at g3c
    have hw1 : IntKind.i64.wrap ((i : Int) + 1) = ((i + 1 : Nat) : Int) := by rw [wrap_id (by omega) (by omega)]; omega
    refine lp_step ?_
    refine seq_reg ?_
    simp only [go_sem, binC, e11, e12]
    refine seq_cond (t := true) (by simp only [go_sem, binC]; rw [decide_eq_true (by omega)]) ?_
    simp only [go_sem, binC]
    refine seq_skip (seq_block (seq_reg ?_))
    simp only [go_sem, binC, e10, e12, g3c]
    refine ⟨⟨by omega, by omega⟩, ?_⟩
    have hE : ∀ L, getCells (H ++ L) H.length 0 2 = inBlk L[0]? 0 2 := fun L => gc_new0 H L 0 2
    refine seq_assoc (seq_reg ?_)
    unfold c_tests
    refine seg1 (c := H.length + (M.length + 1)) (b := H.length) (m := m) (d := d) (a1 := a1) g1 (hp _) (by simp only [go_sem, binC, e2]) (by simp only [go_sem, binC, e3]) (by simp only [go_sem, binC]) (by simp only [go_sem, binC]) (by simp only [go_sem, binC]) (fun x1 m1 t1 => ?_)
    refine seg2 (c := H.length + (M.length + 1)) (a0 := a0) (a2 := a2) (a3 := a3) (a4 := a4) t1 (by rw [m1.2.2.1]; simp only [go_sem, binC]) (by simp only [go_sem, binC]) (by simp only [go_sem, binC]) (fun x2 m2 t2 => ?_)
    refine seg3 (c := H.length + (M.length + 1)) (a0 := a0) (a5 := a5) t2 (by rw [m2.2.2.1, m1.2.2.1]; simp only [go_sem, binC]) (by simp only [go_sem, binC]) (by simp only [go_sem, binC]) (fun x3 m3 t3 => ?_)
    refine seg4 (c := H.length + (M.length + 1)) (a0 := a0) (n6 := a6.length) (n7 := a7.length) (u6 := u6) (u7 := u7) t3 (by rw [m3.2.2.1, m2.2.2.1, m1.2.2.1]; simp only [go_sem, binC]) (by simp only [go_sem, binC]) (by simp only [go_sem, binC]) (by simp only [go_sem, binC]) ha (fun x4 m4 t4 => ?_)
    have mm := (m1.trans m2).trans (m3.trans m4)
    obtain ⟨y2, y3, y8, y10, y11, y12⟩ := mm
    simp only [go_sem, binC] at y2 y3 y8 y10 y11 y12
    rw [e2] at y2
    rw [e3] at y3
    rw [e10] at y10
    rw [e11] at y11
    rw [e12] at y12
    simp only [go_sem, binC]
    obtain ⟨T, hT, t5⟩ : ∃ T, T = _ ∧ x4 60 = .bool T := ⟨_, rfl, t4⟩
    cases T with
    | true =>
      refine seq_cond (t := true) (by simp only [go_sem, binC, t5]) ?_
      simp only [go_sem, binC]
      refine seq_assoc (seq_reg ?_)
      simp only [go_sem, binC]
      refine seq_ret ?_
      simp only [go_sem, binC, out_r, thenX_r]
      refine hK2 _ _ (by simp only [go_sem, binC]) ?_
      rw [hall, step_bad hT.symm, Bool.false_and]
    | false =>
      refine seq_cond (t := false) (by simp only [go_sem, binC, t5]) ?_
      simp only [go_sem, binC]
      refine seq_skip ?_
      have hd1 : 1 ≤ d := by
        by_cases h1 : d < 1
        · rw [decide_eq_true h1] at hT; simp at hT
        · omega
      refine rest_ok (m := m) (p := (p0, p1)) (b := H.length) (c := H.length + (M.length + 1)) (d := d) (a0 := a0) (a1 := a1) (a2 := a2) (a3 := a3) (a4 := a4) (a5 := a5) (a6 := a6) (a7 := a7) g2 g4 g3 (hp _) ⟨_, rfl, _, _, rfl, ⟨rfl, b2⟩, _, _, rfl, ⟨rfl, b3⟩, ⟨rfl, b4⟩⟩ (r6c.mono (vw_app 0 H _)) (r7c.mono (vw_app 0 H _)) s6 s7 hd1 hd3 hd y2 y3 y8 (by simp only [go_sem, binC]) (by simp only [go_sem, binC]) (by simp only [go_sem, binC]) (by simp only [go_sem, binC]) (by simp only [go_sem, binC]) (by simp only [go_sem, binC]) ?_ ?_
      · intro e5 m5 hg
        obtain ⟨z2, z3, z8, z10, z11, z12⟩ := m5
        simp only [go_sem, binC, out_n, thenX_n]
        refine wpc_reg ?_
        simp only [go_sem, binC, z12, y12, hw1, thenX_n]
        refine ih (i + 1) _ _ (by omega) ?_ ?_ ?_ ?_ ?_ ?_
        · simp only [go_sem, binC, z2, y2]
        · simp only [go_sem, binC, z3, y3]
        · simp only [go_sem, binC, z10, y10]
        · simp only [go_sem, binC, z11, y11]
        · simp only [go_sem, binC]
        · rw [hall, step_good hT.symm hg, Bool.true_and]
      · intro e5 h6 hg
        simp only [go_sem, binC, out_r, thenX_r]
        refine hK2 _ _ h6 ?_
        rw [hall, step_bad2 hg, Bool.false_and]
end Go.Proofs.YtmakdcbpohlacaaI
end
section
/- The program's test of steps, for steps of any depth. -/
set_option linter.unusedVariables false
set_option linter.unusedSimpArgs false
namespace Go.Proofs.YtmakdcbpohlacaaI
open Go Go.RowKit
theorem iSteps_succ {F : Nat → Option IFn} {f n : Nat} (hf : F f = some c_iSteps) (g1 : VarOk F 98) (g2 : ValOk F 99) (g4 : ∀ (H : Heap) (a : Int), QC F 100 [.int .i64 a] H (.bool (inB a 0 2))) (g3 : StepsOk F 73 n) : StepsOk F f (n + 1) := by
  rintro H m v u ⟨p0, p1⟩ l d hp0 hu hs hd0 hd3
  obtain ⟨pc, hpc, _, _, rfl, ⟨v0, rfl, r0⟩, ⟨v1, rfl, r1⟩⟩ := hp0
  have hp : ∀ L, Rd (Co.prog m) true (vw 0 (H ++ L)) (.agg #[v0, v1]) (p0, p1) := fun L => ⟨_, rfl, _, _, rfl, ⟨_, rfl, r0.mono (vw_app 0 H L)⟩, ⟨_, rfl, r1.mono (vw_app 0 H L)⟩⟩
  simp only [go_sem, binC, Option.some.injEq] at hpc
  subst hpc
  have r0c := r0
  have r1c := r1
  obtain ⟨_, x0⟩ := r0.shape
  subst x0
  obtain ⟨_, x1⟩ := r1.shape
  subst x1
  obtain ⟨a, xa⟩ := hu.shape
  subst xa
  refine QC.mk hf rfl ?_
  refine seq_reg ?_
  simp only [go_sem, binC]
  refine seq_assoc (seq_reg ?_)
  simp only [go_sem, binC]
  refine seq_block (wpc_loop ?_)
  refine iSteps_lp g1 g2 g4 g3 hp hu hs hd0 hd3 ?_ ?_ l.length 0 _ [] (by omega) (by simp only [go_sem, binC]) (by simp only [go_sem, binC]) (by simp only [go_sem, binC]) (by simp only [go_sem, binC]) (by simp only [go_sem, binC]; rfl) rfl
  · intro e1 M hall
    simp only [go_sem, binC, out_e, thenX_n]
    refine seq_reg ?_
    simp only [go_sem, binC]
    exact wpc_ret ⟨Or.inr rfl, .bool true, by simp only [go_sem, binC], by rw [hall], rfl⟩
  · intro e1 M h6 hall
    simp only [go_sem, binC, out_r, thenX_r]
    exact ⟨Or.inr rfl, .bool false, by simp only [go_sem, binC, h6], by rw [hall], rfl⟩
theorem iSteps_z {F : Nat → Option IFn} {f : Nat} (hf : F f = some c_iSteps) : StepsOk F f 0 := by
  rintro H m v u ⟨p0, p1⟩ l d hp0 hu hs hd0 hd3
  obtain ⟨pc, hpc, _, _, rfl, ⟨v0, rfl, r0⟩, ⟨v1, rfl, r1⟩⟩ := hp0
  have hp : ∀ L, Rd (Co.prog m) true (vw 0 (H ++ L)) (.agg #[v0, v1]) (p0, p1) := fun L => ⟨_, rfl, _, _, rfl, ⟨_, rfl, r0.mono (vw_app 0 H L)⟩, ⟨_, rfl, r1.mono (vw_app 0 H L)⟩⟩
  simp only [go_sem, binC, Option.some.injEq] at hpc
  subst hpc
  have r0c := r0
  have r1c := r1
  obtain ⟨_, x0⟩ := r0.shape
  subst x0
  obtain ⟨_, x1⟩ := r1.shape
  subst x1
  obtain ⟨a, xa⟩ := hu.shape
  subst xa
  have hl : l = [] := by
    cases l with
    | nil => rfl
    | cons x r => exact x.elim
  subst hl
  refine QC.mk hf rfl ?_
  refine seq_reg ?_
  simp only [go_sem, binC]
  refine seq_assoc (seq_reg ?_)
  simp only [go_sem, binC]
  refine seq_block (wpc_loop (lp_step ?_))
  refine seq_reg ?_
  simp only [go_sem, binC]
  refine seq_cond (t := false) (by simp only [go_sem, binC]; rw [decide_eq_false (by simp)]) ?_
  simp only [go_sem, binC]
  refine seq_exit ?_
  simp only [go_sem, binC, thenX_e, out_e, thenX_n]
  refine seq_reg ?_
  simp only [go_sem, binC]
  exact wpc_ret ⟨Or.inr rfl, .bool true, by simp only [go_sem, binC], rfl, rfl⟩
theorem iSteps_all {F : Nat → Option IFn} (hf : F 73 = some c_iSteps) (g1 : VarOk F 98) (g2 : ValOk F 99) (g4 : ∀ (H : Heap) (a : Int), QC F 100 [.int .i64 a] H (.bool (inB a 0 2))) : ∀ n, StepsOk F 73 n := by
  intro n
  induction n with
  | zero => exact iSteps_z hf
  | succ n ih => exact iSteps_succ hf g1 g2 g4 ih
end Go.Proofs.YtmakdcbpohlacaaI
end
section
/- Slices of what is opened with one fuel less. -/
set_option linter.unusedVariables false
set_option linter.unusedSimpArgs false
namespace Go.Proofs.YtmakdcbpohlacaaI
open Go Go.RowKit Go.ChangeShapes
section
variable {T : Type} {enc : TypeId × Value → T} {P : Program} {w : World} {spare : Nat → Bool} {held : Bool}
theorem Good.slF {α : Type} {A : Co α} {fuel : Nat} {t e : TypeId} {cs : List Value} {x : DataW T × List MemPlace} (ht : P.underlying t = some (.slice e)) (hw : P.cellsOf e = A.w) (h0 : 0 < A.w)
    (h : DataW.trod enc P w 0 spare held fuel t cs = some x) (he : ∀ n cs x, fuel = n + 1 → DataW.trod enc P w 0 spare held n e cs = some x → Good A w cs) : Good (Co.sl A) w cs := by
  rcases DataW.trod_slice ht h with ⟨rfl, _⟩ | ⟨a, len, cap, elems, rest, n, rfl, rfl, _, _, hl, hm, hlen, hel, _, _⟩
  · exact fun H m s => ⟨[], [], m, [.slice none 0 0], by simpa using s, sub_refl m, ⟨_, rfl, by simp, none, rfl, .inl rfl⟩, All2.cons (.inl ⟨rfl, rfl⟩) All2.nil⟩
  intro H m s
  rcases Nat.eq_zero_or_pos len with hz | hpos
  · subst hz
    exact ⟨[], [], m, [.slice (some ⟨0, 1, none⟩) 0 0], by simpa using s, sub_refl m, ⟨_, rfl, by simp, _, rfl, .inl rfl⟩, All2.cons (.inl (.inr ⟨rfl, by simp, _, _, rfl⟩)) All2.nil⟩
  have key : ∀ k, k ≤ len → ∃ (l : List α) (L : Heap) (m' : MM) (big : List Value), l.length = k ∧ big.length = k * A.w ∧ SL m' (H ++ L) w.heap ∧ m.sub m' ∧
      (∀ i (h : i < l.length), A.rd (vw 0 (H ++ L)) ((big.drop (i * A.w)).take A.w) l[i]) ∧ (∀ j v, big[j]? = some v → ∃ v', w.cell? (a.add j) = some v' ∧ VR1 m' v v') := by
    intro k
    induction k with
    | zero => exact fun _ => ⟨[], [], m, [], rfl, by simp, by simpa using s, sub_refl m, fun i h => by simp at h, fun j v h => by simp at h⟩
    | succ k ih =>
      intro hk
      obtain ⟨l, L, m1, big, h1, h2, h3, h4, h5, h6⟩ := ih (by omega)
      have hk' := hel k (by omega)
      have hke : k < elems.length := by omega
      rw [List.getElem?_eq_getElem hke, Option.bind_eq_some_iff, hw] at hk'
      obtain ⟨ck, hc, hd⟩ := hk'
      obtain ⟨b, L2, m2, c2, s2, q2, r2, e2⟩ := he n ck _ rfl hd (H ++ L) m1 h3
      have hcl := A.len r2
      rw [List.append_assoc] at s2 r2
      refine ⟨l ++ [b], L ++ L2, m2, big ++ c2, by simp [h1], by rw [List.length_append, h2, hcl, Nat.succ_mul], s2, sub_trans h4 q2, ?_, ?_⟩
      · intro i hi
        simp only [List.length_append, List.length_cons, List.length_nil, Nat.zero_add] at hi
        by_cases hik : i < l.length
        · have hb : i * A.w + A.w ≤ big.length := by rw [h2, ← Nat.succ_mul]; exact Nat.mul_le_mul_right _ (by omega)
          rw [List.getElem_append_left hik, List.drop_append_of_le_length (by omega), List.take_append_of_le_length (by rw [List.length_drop]; omega)]
          exact A.mono (by rw [← List.append_assoc]; exact vw_app 0 _ _) (h5 i hik)
        · have hik' : i = k := by omega
          subst hik'
          rw [List.getElem_append_right (by omega)]
          have : big.length = i * A.w := h2
          rw [← this, List.drop_left, List.take_of_length_le (by omega)]
          simpa [h1] using r2
      · intro j v hj
        rcases Nat.lt_or_ge j big.length with hjl | hjl
        · rw [List.getElem?_append_left hjl] at hj
          obtain ⟨v', g1, g2⟩ := h6 j v hj
          exact ⟨v', g1, VR1.mono q2 g2⟩
        · rw [List.getElem?_append_right hjl] at hj
          have hj2 : j - big.length < c2.length := (List.getElem?_eq_some_iff.1 hj).1
          obtain ⟨_, _, hcell⟩ := World.cells?_some hc
          have hj3 := hcell (j - big.length) (by omega)
          rw [add_add, ← h2, show big.length + (j - big.length) = j by omega] at hj3
          have hl2 : c2.length = ck.length := e2.1
          have hj4 : j - big.length < ck.length := by omega
          obtain ⟨y, hy, hr⟩ := e2.2 (j - big.length) v hj
          exact ⟨y, hj3.trans hy, hr⟩
  obtain ⟨l, L, m1, big, h1, h2, h3, h4, h5, h6⟩ := key len (Nat.le_refl _)
  have hbig : 0 < big.length := by rw [h2]; exact Nat.mul_pos hpos h0
  obtain ⟨v0, hv0, _⟩ := h6 0 _ (List.getElem?_eq_getElem hbig)
  obtain ⟨cs0, t0, fr0, g1, _, g3⟩ := cell_at hv0
  have hsp := g3 rfl
  have hblt : a.block < w.heap.size := (Array.getElem?_eq_some_iff.1 g1).1
  have hsub : m1.sub (m1.put (H ++ L).length ⟨a.block, a.off, 0, 0, 0⟩) := by
    intro b x hb
    have := h3.dom b x hb
    simp only [MM.put]
    rw [if_neg (by omega)]
    exact hb
  refine ⟨l, L ++ [⟨big, 0, 0, false, false⟩], m1.put (H ++ L).length ⟨a.block, a.off, 0, 0, 0⟩, [.slice (some ⟨(H ++ L).length, 0, none⟩) l.length l.length], ?_, sub_trans h4 hsub, ?_, ?_⟩
  · rw [← List.append_assoc]
    refine ⟨?_, ?_, ?_, ?_⟩
    · intro b x hb
      rcases MM.put_eq hb with ⟨rfl, _⟩ | ⟨_, hb⟩
      · simp
      · have := h3.dom b x hb
        rw [List.length_append]; omega
    · intro b x k hb hk
      rcases MM.put_eq hb with ⟨rfl, rfl⟩ | ⟨_, hb⟩
      · rw [List.getElem?_append_right (Nat.le_refl _)] at hk
        simp only [Nat.sub_self, List.getElem?_cons_zero, Option.some.injEq] at hk
        subst hk
        refine ⟨cs0, t0, fr0, g1, fun j v hj => ?_⟩
        obtain ⟨v', u1, u2⟩ := h6 j v hj
        obtain ⟨cs1, t1, fr1, y1, y2, _⟩ := cell_at u1
        rw [g1] at y1
        cases y1
        exact ⟨v', y2, VR1.mono hsub u2⟩
      · rw [List.getElem?_append_left (h3.dom b x hb)] at hk
        obtain ⟨c1, t1, f1, y1, y2⟩ := h3.cell b x k hb hk
        exact ⟨c1, t1, f1, y1, fun j v hj => let ⟨v', z1, z2⟩ := y2 j v hj; ⟨v', z1, VR1.mono hsub z2⟩⟩
    · intro b x hb
      rcases MM.put_eq hb with ⟨rfl, rfl⟩ | ⟨_, hb⟩
      · exact hblt
      · exact h3.lt b x hb
    · intro b k hk
      rcases get_snoc hk with ⟨_, hk⟩ | ⟨_, rfl⟩
      · exact h3.na b k hk
      · rfl
  · refine ⟨_, rfl, ?_, _, rfl, .inr ⟨_, _, rfl, fun i hi => ⟨_, ?_, A.mono (by rw [← List.append_assoc]; exact vw_app 0 _ _) (h5 i hi)⟩⟩⟩
    · have : maxLen = 9223372036854775807 := by decide
      omega
    · have hb : i * A.w + A.w ≤ big.length := by rw [h2, ← Nat.succ_mul]; exact Nat.mul_le_mul_right _ (by omega)
      unfold rng vw
      rw [if_pos (Nat.zero_le _), ← List.append_assoc, get_new0]
      simp only [List.getElem?_cons_zero, Option.map_some, Nat.zero_add]
      rw [if_pos hb]
  · refine All2.cons (.inl (.inl ⟨_, MM.put_self _ _ _, rfl, cap, ?_, by omega, fun _ => by simp⟩)) All2.nil
    obtain ⟨ab, ao, asp⟩ := a
    simp only at hsp
    subst hsp
    rw [h1]
    rfl
end
def dF : Nat → Nat
  | 0 => 0
  | 1 => 0
  | n + 2 => dF n + 1
end Go.Proofs.YtmakdcbpohlacaaI
end
section
/- Lists of steps in form: the loops. -/
set_option linter.unusedVariables false
set_option linter.unusedSimpArgs false
namespace Go.Proofs.YtmakdcbpohlacaaI
open Go Go.RowKit
theorem sSteps_ok {F : Nat → Option IFn} {f n : Nat} (hf : F f = some c_sSteps) (g0 : StepOk F 94 n) : StepsOk F f n := by
  rintro H m v u ⟨p0, p1⟩ l d hp0 hu hs hd0 hd3
  obtain ⟨pc, hpc, _, _, rfl, ⟨v0, rfl, r0⟩, ⟨v1, rfl, r1⟩⟩ := hp0
  have hp : ∀ L, Rd (Co.prog m) true (vw 0 (H ++ L)) (.agg #[v0, v1]) (p0, p1) := fun L => ⟨_, rfl, _, _, rfl, ⟨_, rfl, r0.mono (vw_app 0 H L)⟩, ⟨_, rfl, r1.mono (vw_app 0 H L)⟩⟩
  simp only [go_sem, binC, Option.some.injEq] at hpc
  subst hpc
  obtain ⟨_, x0⟩ := r0.shape
  subst x0
  obtain ⟨_, x1⟩ := r1.shape
  subst x1
  have hu' := hu
  obtain ⟨h0, a, rfl, h2⟩ := hu
  refine QC.mk hf rfl ?_
  refine seq_reg ?_
  simp only [go_sem, binC]
  refine seq_assoc (seq_reg ?_)
  simp only [go_sem, binC]
  refine seq_block (wpc_loop ?_)
  suffices h : ∀ (k i : Nat) (e : Env), i + k = l.length → e 1 = .slice a l.length l.length → e 2 = .int .i64 d → e 3 = ptr H.length 0 → e 7 = .int .i64 i → l.all (stepB p0.length n d) = (l.drop i).all (stepB p0.length n d) → W F H.length _ e _ _ from
    h l.length 0 _ (by omega) (by simp only [go_sem, binC]) (by simp only [go_sem, binC]) (by simp only [go_sem, binC]) (by simp only [go_sem, binC]; rfl) rfl
  intro k
  induction k with
  | zero =>
    intro i e hi e1 e2 e3 e7 hall
    refine lp_step ?_
    refine seq_assoc (seq_reg ?_)
    simp only [go_sem, binC, e1, e7]
    refine seq_cond (t := false) (by simp only [go_sem, binC]; rw [decide_eq_false (by omega)]) ?_
    simp only [go_sem, binC]
    refine seq_exit ?_
    simp only [go_sem, binC, thenX_e, out_e, thenX_n]
    refine seq_reg ?_
    simp only [go_sem, binC]
    refine wpc_ret ⟨Or.inr rfl, .bool true, by simp only [go_sem, binC], ?_, rfl⟩
    rw [hall, List.drop_of_length_le (by omega)]
    rfl
  | succ k ih =>
    intro i e hi e1 e2 e3 e7 hall
    have hil : i < l.length := by omega
    rcases h2 with h2 | ⟨b, o, rfl, h2⟩
    · rw [h2] at hil; simp at hil
    obtain ⟨cs, h3, h4⟩ := h2 i hil
    have g3 := fun L => rng_gc (rng_sub (vw_app 0 H L) h3)
    rw [step_w] at g3
    refine lp_step ?_
    refine seq_assoc (seq_reg ?_)
    simp only [go_sem, binC, e1, e7]
    refine seq_cond (t := true) (by simp only [go_sem, binC]; rw [decide_eq_true (by omega)]) ?_
    simp only [go_sem, binC]
    refine seq_skip (seq_block (seq_regD ?_))
    simp only [go_sem, binC, e1, e2, e3, e7, g3]
    refine ⟨⟨by omega, by omega⟩, ?_⟩
    refine op_callB (by simp only [go_sem, binC, e2]; exact g0 _ m _ _ (p0, p1) l[i] d (hp _) ⟨cs, rfl, (Co.step n).mono (vw_app 0 H _) h4⟩ (hs.2 _ (List.getElem_mem _)) hd0 hd3) (fun hb => ?_) (fun hb => ?_)
    · simp only [go_sem, binC]
      refine wpc_cond (t := false) (by simp only [go_sem, binC]) ?_
      simp only [go_sem, binC]
      refine wpc_skip ?_
      simp only [go_sem, binC, out_n, thenX_n]
      refine wpc_reg ?_
      simp only [go_sem, binC, e7]
      have hw1 : IntKind.i64.wrap ((i : Int) + 1) = ((i + 1 : Nat) : Int) := by rw [wrap_id (by omega) (by omega)]; omega
      rw [hw1]
      refine ih (i + 1) _ (by omega) (by simp only [go_sem, binC, e1]) (by simp only [go_sem, binC, e2]) (by simp only [go_sem, binC, e3]) (by simp only [go_sem, binC]) ?_
      rw [hall, List.drop_eq_getElem_cons hil, List.all_cons, hb, Bool.true_and]
    · simp only [go_sem, binC]
      refine wpc_cond (t := true) (by simp only [go_sem, binC]) ?_
      simp only [go_sem, binC]
      refine seq_reg ?_
      simp only [go_sem, binC]
      refine wpc_ret ?_
      simp only [go_sem, binC, out_r, thenX_r]
      refine ⟨Or.inr rfl, .bool false, by simp only [go_sem, binC], ?_, rfl⟩
      rw [hall, List.drop_eq_getElem_cons hil, List.all_cons, hb, Bool.false_and]
theorem sSteps_all {F : Nat → Option IFn} (hf : F 94 = some c_sStep) (hfs : F 66 = some c_sSteps) (g0 : InOk F 86) (g1 : VarOk F 108) (g2 : ValOk F 109) : ∀ n, StepsOk F 66 n ∧ StepOk F 94 n := by
  intro n
  induction n with
  | zero =>
    have z : StepOk F 94 0 := by
      rintro H m v u p a d _ ⟨_, _, h⟩
      exact h.elim
    exact ⟨sSteps_ok hfs z, z⟩
  | succ n ih =>
    have z := sStep_ok hf g0 g1 g2 ih.1
    exact ⟨sSteps_ok hfs z, z⟩
end Go.Proofs.YtmakdcbpohlacaaI
end
end
section
/- What a seat with drawn programs rests on. -/
end
section
/- Numbers of a program's variables: as many, each a number. -/
set_option linter.unusedVariables false
set_option linter.unusedSimpArgs false
namespace Go.Proofs.YtmakdcbpohlacaaI
open Go Go.RowKit
theorem gcI {H : Heap} {v : Value} {l : List Int} (h : SlR Co.int (vw 0 H) v l) {i : Nat} (hi : i < l.length) : ∃ b o, v = .slice (some ⟨b, o, none⟩) l.length l.length ∧ getCells H b (o + i) 1 = some [.int .i64 l[i]] := by
  obtain ⟨_, a, rfl, h2⟩ := h
  rcases h2 with h2 | ⟨b, o, rfl, h2⟩
  · rw [h2] at hi; simp at hi
  · obtain ⟨cs, h3, h4, _⟩ := h2 i hi
    have h5 := rng_gc h3
    rw [show Co.int.w = 1 from rfl, Nat.mul_one, h4] at h5
    exact ⟨b, o, rfl, h5⟩
end Go.Proofs.YtmakdcbpohlacaaI
end
section
/- Values of numbers; what comes of a program, as memory. -/
set_option linter.unusedVariables false
set_option linter.unusedSimpArgs false
namespace Go.Proofs.YtmakdcbpohlacaaI
open Go Go.RowKit
theorem gcI0 {H : Heap} {v : Value} {l : List Int} (h : SlR Co.int (vw 0 H) v l) {i : Nat} (hi : i < l.length) : ∃ b o, v = .slice (some ⟨b, o, none⟩) l.length l.length ∧ getCells H b (o + i) 1 = some [.int .i64 l[i]] := by
  obtain ⟨_, a, rfl, h2⟩ := h
  rcases h2 with h2 | ⟨b, o, rfl, h2⟩
  · rw [h2] at hi; simp at hi
  · obtain ⟨cs, h3, h4, _⟩ := h2 i hi
    have h5 := rng_gc h3
    rw [show Co.int.w = 1 from rfl, Nat.mul_one, h4] at h5
    exact ⟨b, o, rfl, h5⟩
theorem gcI2 {H : Heap} {b o n : Nat} {l : List Int} (h : SlR Co.int (vw 0 H) (.slice (some ⟨b, o, none⟩) n n) l) {i : Nat} (hi : i < l.length) : getCells H b (o + i) 1 = some [.int .i64 l[i]] := by
  obtain ⟨b', o', h1, h2⟩ := gcI0 h hi
  simp only [Value.slice.injEq, Option.some.injEq, Addr.mk.injEq, and_true] at h1
  obtain ⟨⟨rfl, rfl⟩, _⟩ := h1
  exact h2
end Go.Proofs.YtmakdcbpohlacaaI
end
section
/- What comes of a program, kept in memory, and one variable set. -/
set_option linter.unusedVariables false
set_option linter.unusedSimpArgs false
namespace Go.Proofs.YtmakdcbpohlacaaI
open Go Go.RowKit
def fp (p : Int × Int) : List Value := [.int .i64 p.1, .int .i64 p.2]
theorem flat_len {α : Type} {fl : α → List Value} {w : Nat} (hw : ∀ a, (fl a).length = w) (l : List α) : (l.flatMap fl).length = l.length * w := by
  induction l with
  | nil => simp
  | cons a l ih => rw [List.flatMap_cons, List.length_append, ih, hw, List.length_cons, Nat.succ_mul, Nat.add_comm]
/-- A list of flat elements that only grows. -/
def GLi {α : Type} (fl : α → List Value) (es et lo : Nat) (H : Heap) (v : Value) (l : List α) : Prop := (v = nilS ∧ l = []) ∨ ∃ b so, lo ≤ b ∧ v = sli b 0 l.length ∧ l ≠ [] ∧ H[b]? = some ⟨l.flatMap fl, es, et, true, so⟩
def blkOf : Value → List Nat
  | .slice (some a) _ _ => [a.block]
  | _ => []
theorem wpc_genH {F : Nat → Option IFn} {lo : Nat} {c : ICode} {e : Env} {H : Heap} {K : X → Env → Heap → Prop} (h : ∀ Hb, Hb = H → wpc F lo c e Hb K) : wpc F lo c e H K := h _ rfl
end Go.Proofs.YtmakdcbpohlacaaI
end
section
/- Steps are done. -/
set_option linter.unusedVariables false
set_option linter.unusedSimpArgs false
namespace Go.Proofs.YtmakdcbpohlacaaI
open Go Go.RowKit
end Go.Proofs.YtmakdcbpohlacaaI
end
section
/- What comes of a program. -/
set_option linter.unusedVariables false
set_option linter.unusedSimpArgs false
namespace Go.Proofs.YtmakdcbpohlacaaI
open Go Go.RowKit
theorem GLi.slPV {es et lo : Nat} {H : Heap} {v : Value} {l : List (Int × Int)} (h : GLi fp 2 et lo H v l) (hr : ∀ p ∈ l, RgI p.1 ∧ RgI p.2) (hl : l.length ≤ 1000) : SlR Co.p2 (vwl lo [] H) v l := by
  rcases h with ⟨rfl, rfl⟩ | ⟨b, so, hlo, rfl, _, h⟩
  · exact ⟨by simp, none, rfl, .inl rfl⟩
  · have hfl := flat_len (fl := fp) (w := 2) (fun _ => rfl) l
    refine ⟨by omega, _, rfl, .inr ⟨b, 0, rfl, fun i hi => ⟨fp l[i], ?_, ⟨[.int .i64 l[i].1], [.int .i64 l[i].2], rfl, ⟨rfl, (hr _ (List.getElem_mem hi)).1⟩, ⟨rfl, (hr _ (List.getElem_mem hi)).2⟩⟩⟩⟩⟩
    unfold rng vwl
    rw [if_pos ⟨hlo, by simp⟩, h]
    simp only [Option.map_some, Nat.zero_add, show Co.p2.w = 2 from rfl]
    rw [if_pos (by omega)]
    congr 1
    have : l.flatMap fp = (l.take i).flatMap fp ++ (fp l[i] ++ (l.drop (i + 1)).flatMap fp) := by
      conv => lhs; rw [← List.take_append_drop i l, List.drop_eq_getElem_cons hi]
      rw [List.flatMap_append, List.flatMap_cons]
    rw [this]
    have hlt : ((l.take i).flatMap fp).length = i * 2 := by rw [flat_len (fl := fp) (w := 2) (fun _ => rfl), List.length_take]; omega
    rw [List.drop_append, List.drop_of_length_le (by omega), hlt, Nat.sub_self, List.nil_append, List.drop_zero]
    rfl
theorem GLi.slP {es et lo : Nat} {H : Heap} {v : Value} {l : List (Int × Int)} (h : GLi fp 2 et lo H v l) (hr : ∀ p ∈ l, RgI p.1 ∧ RgI p.2) (hl : l.length ≤ 1000) : SlR Co.p2 (vw 0 H) v l := (h.slPV (es := 2) hr hl).mono (vwl0 _ _ _)
end Go.Proofs.YtmakdcbpohlacaaI
end
section
/- Rules for walks, and lists compared. -/
set_option linter.unusedVariables false
set_option linter.unusedSimpArgs false
namespace Go.Proofs.YtmakdcbpohlacaaI
open Go Go.RowKit
theorem gcP {H : Heap} {v : Value} {l : List (Int × Int)} (h : SlR Co.p2 (vw 0 H) v l) {i : Nat} (hi : i < l.length) : ∃ b o, v = .slice (some ⟨b, o, none⟩) l.length l.length ∧ getCells H b (o + i * 2) 2 = some [.int .i64 l[i].1, .int .i64 l[i].2] := by
  obtain ⟨_, a, rfl, h2⟩ := h
  rcases h2 with h2 | ⟨b, o, rfl, h2⟩
  · rw [h2] at hi; simp at hi
  · obtain ⟨cs, h3, h4⟩ := h2 i hi
    have h5 := rng_gc h3
    rw [show Co.p2.w = 2 from rfl] at h5
    obtain ⟨_, _, rfl, ⟨rfl, _⟩, ⟨rfl, _⟩⟩ := h4
    exact ⟨b, o, rfl, h5⟩
theorem wpo_app {F : Nat → Option IFn} {lo : Nat} {K : Env → Heap → Prop} {l2 : List IOper} : ∀ (l1 : List IOper) (e : Env) (H : Heap), wpo F lo l1 e H (fun e1 H1 => wpo F lo l2 e1 H1 K) → wpo F lo (l1 ++ l2) e H K
  | [], e, H, h => h
  | o :: r, e, H, h => ⟨fun hr => wpOp_mono (h.1 hr) fun v H1 h1 => wpo_app r _ _ h1, fun hr => wpo_app r _ _ (h.2 hr)⟩
theorem wpo_cut {F : Nat → Option IFn} {lo : Nat} {K : Env → Heap → Prop} {l : List IOper} {e : Env} {H : Heap} (a : Nat)
    (h : ∀ Kc : Env → Heap → Prop, (∀ e1 H1, wpo F lo (l.drop a) e1 H1 K → Kc e1 H1) → wpo F lo (l.take a) e H Kc) : wpo F lo l e H K := by
  have h3 := wpo_app (l2 := l.drop a) (l.take a) e H (h (fun e1 H1 => wpo F lo (l.drop a) e1 H1 K) fun _ _ h => h)
  rwa [List.take_append_drop] at h3
end Go.Proofs.YtmakdcbpohlacaaI
end
section
/- Trees of steps in blocks of one's own. -/
set_option linter.unusedVariables false
set_option linter.unusedSimpArgs false
namespace Go.Proofs.YtmakdcbpohlacaaI
open Go Go.RowKit
def shOf {n : Nat} (s : TStep (n + 1)) : Shal := (s.1, s.2.1, s.2.2.1, s.2.2.2.1)
def thOf {n : Nat} (s : TStep (n + 1)) : List (TStep n) := s.2.2.2.2.1
def elOf {n : Nat} (s : TStep (n + 1)) : List (TStep n) := s.2.2.2.2.2
def shV (s : Shal) (tv ev : Value) : List Value := [.int .i64 s.1, .int .i64 s.2.1, .int .i64 s.2.2.1.1, .int .i64 s.2.2.1.2.1, .int .i64 s.2.2.1.2.2, .int .i64 s.2.2.2, tv, ev]
def shRg (s : Shal) : Prop := RgI s.1 ∧ RgI s.2.1 ∧ RgI s.2.2.1.1 ∧ RgI s.2.2.1.2.1 ∧ RgI s.2.2.1.2.2 ∧ RgI s.2.2.2
/-- One step in memory: its cells, and the blocks of the steps in it. -/
def EltT {n : Nat} (P : Value → List (TStep n) → List Nat → Prop) (a : TStep (n + 1)) (cs : List Value) (B : List Nat) : Prop := ∃ tv ev B1 B2, cs = shV (shOf a) tv ev ∧ shRg (shOf a) ∧ P tv (thOf a) B1 ∧ P ev (elOf a) B2 ∧ B = B1 ++ B2
def BodyT {n : Nat} (P : Value → List (TStep n) → List Nat → Prop) (l : List (TStep (n + 1))) (cs : List Value) (Bs : List (List Nat)) : Prop := l.length ≤ 1048576 ∧ cs.length = l.length * 8 ∧ Bs.length = l.length ∧ Bs.flatten.Nodup ∧
  ∀ (i : Nat) (h : i < l.length) (h' : i < Bs.length), EltT P l[i] ((cs.drop (i * 8)).take 8) Bs[i]
/-- A tree of steps whose lists each lie in a block of its own. -/
def OwnT (lo : Nat) (H : Heap) : (n : Nat) → Value → List (TStep n) → List Nat → Prop
  | 0, v, l, B => v = nilS ∧ l = [] ∧ B = []
  | n + 1, v, l, B => (v = nilS ∧ l = [] ∧ B = []) ∨ ∃ b cs Bs, lo ≤ b ∧ v = sli b 0 l.length ∧ l ≠ [] ∧ H[b]? = some ⟨cs, 8, 68, true, true⟩ ∧ B = b :: Bs.flatten ∧ b ∉ Bs.flatten ∧ BodyT (OwnT lo H n) l cs Bs
theorem OwnT.nil {lo : Nat} {H : Heap} : ∀ {n : Nat}, OwnT lo H n nilS [] []
  | 0 => ⟨rfl, rfl, rfl⟩
  | n + 1 => .inl ⟨rfl, rfl, rfl⟩
theorem OwnT.one {lo : Nat} {H : Heap} : ∀ {n : Nat} {v : Value} {l : List (TStep n)} {B : List Nat}, OwnT lo H n v l B → one v = true
  | 0, v, l, B, ⟨h, _⟩ => by rw [h]; rfl
  | n + 1, v, l, B, .inl ⟨h, _⟩ => by rw [h]; rfl
  | n + 1, v, l, B, .inr ⟨b, cs, Bs, _, h, _⟩ => by rw [h]; rfl
theorem EltT.imp {n : Nat} {P P' : Value → List (TStep n) → List Nat → Prop} {a : TStep (n + 1)} {cs : List Value} {B : List Nat} (h : EltT P a cs B) (h1 : ∀ v l B1, (∀ b ∈ B1, b ∈ B) → P v l B1 → P' v l B1) : EltT P' a cs B := by
  obtain ⟨tv, ev, B1, B2, e1, e2, e3, e4, rfl⟩ := h
  exact ⟨tv, ev, B1, B2, e1, e2, h1 _ _ _ (fun b hb => List.mem_append_left _ hb) e3, h1 _ _ _ (fun b hb => List.mem_append_right _ hb) e4, rfl⟩
theorem mem_flat {Bs : List (List Nat)} {i : Nat} (hi : i < Bs.length) {b : Nat} (hb : b ∈ Bs[i]) : b ∈ Bs.flatten := List.mem_flatten.2 ⟨_, List.getElem_mem hi, hb⟩
theorem BodyT.imp {n : Nat} {P P' : Value → List (TStep n) → List Nat → Prop} {l : List (TStep (n + 1))} {cs : List Value} {Bs : List (List Nat)} (h : BodyT P l cs Bs) (h1 : ∀ v l B1, (∀ b ∈ B1, b ∈ Bs.flatten) → P v l B1 → P' v l B1) : BodyT P' l cs Bs := by
  obtain ⟨a0, a1, a2, a3, a4⟩ := h
  exact ⟨a0, a1, a2, a3, fun i h h' => (a4 i h h').imp fun v l B1 hs hp => h1 v l B1 (fun b hb => mem_flat h' (hs b hb)) hp⟩
theorem BodyT.nil {n : Nat} {P : Value → List (TStep n) → List Nat → Prop} : BodyT P [] [] [] := ⟨by simp, rfl, rfl, by simp, fun i h => by simp at h⟩
theorem OwnT.keep {lo lo' : Nat} {H H' : Heap} : ∀ {n : Nat} {v : Value} {l : List (TStep n)} {B : List Nat}, OwnT lo H n v l B → lo' ≤ lo → (∀ b ∈ B, H'[b]? = H[b]?) → OwnT lo' H' n v l B
  | 0, v, l, B, h, _, _ => h
  | n + 1, v, l, B, .inl h, _, _ => .inl h
  | n + 1, v, l, B, .inr ⟨b, cs, Bs, h1, h2, h3, h5, h8, h9, h10⟩, hlo, hk => by
    refine .inr ⟨b, cs, Bs, by omega, h2, h3, ?_, h8, h9, h10.imp fun v l B1 hs h => OwnT.keep h hlo fun b' hb' => hk b' (by rw [h8]; exact List.mem_cons_of_mem _ (hs b' hb'))⟩
    rw [hk b (by rw [h8]; exact List.mem_cons_self)]; exact h5
theorem OwnT.ge {lo : Nat} {H : Heap} : ∀ {n : Nat} {v : Value} {l : List (TStep n)} {B : List Nat}, OwnT lo H n v l B → ∀ b ∈ B, lo ≤ b ∧ b < H.length ∧ ∃ cs, H[b]? = some ⟨cs, 8, 68, true, true⟩
  | 0, v, l, B, ⟨_, _, h⟩, b, hb => by rw [h] at hb; cases hb
  | n + 1, v, l, B, .inl ⟨_, _, h⟩, b, hb => by rw [h] at hb; cases hb
  | n + 1, v, l, B, .inr ⟨b0, cs, Bs, h1, h2, h3, h5, h8, h9, ⟨a0, a1, a2, a3, a4⟩⟩, b, hb => by
    rw [h8, List.mem_cons] at hb
    rcases hb with rfl | hb
    · exact ⟨h1, (List.getElem?_eq_some_iff.1 h5).1, cs, h5⟩
    · obtain ⟨X, hX, hbX⟩ := List.mem_flatten.1 hb
      obtain ⟨i, hi, rfl⟩ := List.getElem_of_mem hX
      obtain ⟨tv, ev, B1, B2, _, _, e3, e4, e5⟩ := a4 i (by omega) hi
      rw [e5, List.mem_append] at hbX
      rcases hbX with h | h
      · exact OwnT.ge e3 b h
      · exact OwnT.ge e4 b h
theorem OwnT.nodup {lo : Nat} {H : Heap} : ∀ {n : Nat} {v : Value} {l : List (TStep n)} {B : List Nat}, OwnT lo H n v l B → B.Nodup
  | 0, v, l, B, ⟨_, _, h⟩ => by rw [h]; exact List.nodup_nil
  | n + 1, v, l, B, .inl ⟨_, _, h⟩ => by rw [h]; exact List.nodup_nil
  | n + 1, v, l, B, .inr ⟨b0, cs, Bs, h1, h2, h3, h5, h8, h9, ⟨a0, a1, a2, a3, a4⟩⟩ => by rw [h8]; exact List.nodup_cons.2 ⟨h9, a3⟩
theorem OwnT.len {lo : Nat} {H : Heap} : ∀ {n : Nat} {v : Value} {l : List (TStep n)} {B : List Nat}, OwnT lo H n v l B → l.length ≤ 1048576 ∧ ∃ a, v = .slice a l.length l.length
  | 0, v, l, B, ⟨h, h2, _⟩ => by rw [h, h2]; exact ⟨by simp, none, rfl⟩
  | n + 1, v, l, B, .inl ⟨h, h2, _⟩ => by rw [h, h2]; exact ⟨by simp, none, rfl⟩
  | n + 1, v, l, B, .inr ⟨b, cs, Bs, _, h, _, _, _, _, ⟨a0, _⟩⟩ => ⟨a0, _, h⟩
theorem OwnT.sl {lo : Nat} {H : Heap} : ∀ {n : Nat} {v : Value} {l : List (TStep n)} {B : List Nat}, OwnT lo H n v l B → SlR (Co.step n) (vws lo H) v l
  | 0, v, l, B, ⟨h, h2, _⟩ => by rw [h, h2]; exact ⟨by simp, none, rfl, .inl rfl⟩
  | n + 1, v, l, B, .inl ⟨h, h2, _⟩ => by rw [h, h2]; exact ⟨by simp, none, rfl, .inl rfl⟩
  | n + 1, v, l, B, .inr ⟨b, cs, Bs, h1, h2, h3, h5, h8, h9, ⟨a0, a1, a2, a3, a4⟩⟩ => by
    refine ⟨by omega, _, h2, .inr ⟨b, 0, rfl, fun i hi => ?_⟩⟩
    obtain ⟨tv, ev, B1, B2, e1, e2, e3, e4, e5⟩ := a4 i hi (by omega)
    have hr := step_rd e2.1 e2.2.1 e2.2.2.1 e2.2.2.2.1 e2.2.2.2.2.1 e2.2.2.2.2.2 (OwnT.sl e3) (OwnT.sl e4)
    refine ⟨shV (shOf l[i]) tv ev, ?_, hr⟩
    unfold rng vws
    rw [if_pos h1, h5]
    simp only [Option.bind_some, if_true, Nat.zero_add, step_w]
    rw [if_pos (by have : i * 8 + 8 ≤ l.length * 8 := by omega
                   omega), ← e1]
theorem flat_apart {Bs : List (List Nat)} (h : Bs.flatten.Nodup) {i j : Nat} (hi : i < Bs.length) (hj : j < Bs.length) (hij : i ≠ j) {b : Nat} (hb : b ∈ Bs[i]) : b ∉ Bs[j] := by
  have hp := (List.pairwise_flatten.1 h).2
  intro hb2
  rcases Nat.lt_or_ge i j with hlt | hge
  · exact (List.pairwise_iff_getElem.1 hp i j hi hj hlt) b hb b hb2 rfl
  · exact (List.pairwise_iff_getElem.1 hp j i hj hi (by omega)) b hb2 b hb rfl
theorem flat_in {Bs : List (List Nat)} (h : Bs.flatten.Nodup) {i : Nat} (hi : i < Bs.length) : Bs[i].Nodup := (List.pairwise_flatten.1 h).1 _ (List.getElem_mem hi)
/-- A step more. -/
theorem BodyT.snoc {n : Nat} {P P' : Value → List (TStep n) → List Nat → Prop} {l : List (TStep (n + 1))} {cs cs8 : List Value} {Bs : List (List Nat)} {a : TStep (n + 1)} {B : List Nat} (h : BodyT P l cs Bs) (h1 : ∀ v l B1, (∀ b ∈ B1, b ∈ Bs.flatten) → P v l B1 → P' v l B1) (ha : EltT P' a cs8 B) (hB : B.Nodup) (hap : ∀ b ∈ B, b ∉ Bs.flatten) (hl : l.length < 1048576) : BodyT P' (l ++ [a]) (cs ++ cs8) (Bs ++ [B]) := by
  obtain ⟨a0, a1, a2, a3, a4⟩ := h
  have h8 : cs8.length = 8 := by obtain ⟨tv, ev, B1, B2, e1, _⟩ := ha; rw [e1]; rfl
  refine ⟨by rw [List.length_append, List.length_singleton]; omega, by rw [List.length_append, List.length_append, a1, h8, List.length_singleton]; omega, by rw [List.length_append, List.length_append, a2]; rfl, ?_, fun i hi hi' => ?_⟩
  · rw [List.flatten_append, List.nodup_append]
    refine ⟨a3, by simpa using hB, fun x hx y hy => ?_⟩
    simp only [List.flatten_cons, List.flatten_nil, List.append_nil] at hy
    intro he
    subst he
    exact hap x hy hx
  · rcases Nat.lt_or_ge i l.length with hlt | hge
    · rw [List.getElem_append_left hlt, List.getElem_append_left (by omega : i < Bs.length)]
      have := (a4 i hlt (by omega)).imp fun v l B1 hs hp => h1 v l B1 (fun b hb => mem_flat (by omega) (hs b hb)) hp
      have hd : ((cs ++ cs8).drop (i * 8)).take 8 = (cs.drop (i * 8)).take 8 := by
        rw [List.drop_append_of_le_length (by omega), List.take_append_of_le_length (by rw [List.length_drop]; omega)]
      rw [hd]
      exact this
    · have hil : i = l.length := by rw [List.length_append, List.length_singleton] at hi; omega
      subst hil
      have e1 : (l ++ [a])[l.length]'hi = a := by simp
      have e2 : (Bs ++ [B])[l.length]'hi' = B := by
        rw [List.getElem_append_right (by omega)]; simp
      rw [e1, e2, List.drop_append, List.drop_of_length_le (by omega), a1, Nat.sub_self, List.nil_append, List.drop_zero, List.take_of_length_le (by omega)]
      exact ha
/-- Steps changed, each in itself. -/
def mapT (T : Shal → Shal) : (n : Nat) → TStep n → TStep n
  | 0, s => s
  | n + 1, (k, x, v, g, th, el) => ((T (k, x, v, g)).1, (T (k, x, v, g)).2.1, (T (k, x, v, g)).2.2.1, (T (k, x, v, g)).2.2.2, th.map (mapT T n), el.map (mapT T n))
end Go.Proofs.YtmakdcbpohlacaaI
end
section
/- Steps copied; steps changed in their place. -/
set_option linter.unusedVariables false
set_option linter.unusedSimpArgs false
namespace Go.Proofs.YtmakdcbpohlacaaI
open Go Go.RowKit
def c_cloneSteps : IFn := ⟨1, 26, [.t 2],
 .seq (.reg none [
    ⟨(some 2), none, .mov (.c (.slice none 0 0))⟩])
 (.seq (.reg none [
    ⟨(some 3), none, .mov (.c (.slice none 0 0))⟩])
 (.seq (.seq (.reg none [
     ⟨(some 6), none, .mov (.t 0)⟩,
     ⟨(some 7), none, .len (.t 6)⟩,
     ⟨(some 8), none, .mov (.c (.int .i64 0))⟩])
  (.block 0 (.loop (.seq (.reg none [
       ⟨(some 9), none, .bin .lss (.t 8) (.t 7)⟩])
    (.seq (.cond (.t 9) (.skip) (.exit 0))
    (.seq (.block 1 (.seq (.reg none [
         ⟨(some 10), none, .iad 8 (.t 6) (.t 8)⟩,
         ⟨(some 11), none, .load true 8 (.t 10)⟩,
         ⟨(some 5), none, .new [(.int .i64 0), (.int .i64 0), (.int .i64 0), (.int .i64 0), (.int .i64 0), (.int .i64 0), (.slice none 0 0), (.slice none 0 0)]⟩,
         ⟨none, none, .store 8 (.t 5) (.t 11)⟩])
      (.seq (.reg (some 7) [
         ⟨(some 12), none, .fad 6 (.t 5)⟩,
         ⟨(some 13), none, .load false 1 (.t 12)⟩,
         ⟨(some 14), none, .call .k (.f 77) [(.t 13)]⟩,
         ⟨(some 15), none, .fad 7 (.t 5)⟩,
         ⟨(some 16), none, .load false 1 (.t 15)⟩,
         ⟨(some 17), none, .call .k (.f 77) [(.t 16)]⟩,
         ⟨(some 18), none, .fad 6 (.t 5)⟩,
         ⟨none, none, .store 1 (.t 18) (.t 14)⟩,
         ⟨(some 19), none, .fad 7 (.t 5)⟩,
         ⟨none, none, .store 1 (.t 19) (.t 17)⟩])
      (.reg none [
        ⟨(some 20), none, .mov (.t 3)⟩,
        ⟨(some 21), none, .load true 8 (.t 5)⟩,
        ⟨(some 22), none, .lit 8 68 1 [(.int .i64 0), (.int .i64 0), (.int .i64 0), (.int .i64 0), (.int .i64 0), (.int .i64 0), (.slice none 0 0), (.slice none 0 0)] [(0, 8, (.t 21))]⟩,
        ⟨(some 23), none, .app 8 68 96 true (.t 20) (.t 22)⟩,
        ⟨(some 3), none, .mov (.t 23)⟩]))))
    (.reg none [
      ⟨(some 24), none, .bin .add (.t 8) (.c (.int .i64 1))⟩,
      ⟨(some 8), none, .mov (.t 24)⟩])))))))
 (.seq (.reg none [
    ⟨(some 25), none, .mov (.t 3)⟩,
    ⟨(some 2), none, .mov (.t 25)⟩])
 (.ret))))⟩
def c_change : IFn := ⟨2, 30, [],
 .seq (.reg none [
    ⟨(some 5), none, .mov (.t 0)⟩,
    ⟨(some 6), none, .len (.t 5)⟩,
    ⟨(some 7), none, .mov (.c (.int .i64 0))⟩])
 (.block 0 (.loop (.seq (.reg none [
      ⟨(some 8), none, .bin .lss (.t 7) (.t 6)⟩])
   (.seq (.cond (.t 8) (.skip) (.exit 0))
   (.seq (.block 1 (.seq (.reg none [
        ⟨(some 9), none, .mov (.t 7)⟩,
        ⟨(some 4), none, .mov (.t 9)⟩])
     (.seq (.reg none [
        ⟨(some 10), none, .mov (.t 1)⟩,
        ⟨(some 11), none, .mov (.t 0)⟩,
        ⟨(some 12), none, .mov (.t 4)⟩,
        ⟨(some 13), none, .iad 8 (.t 11) (.t 12)⟩,
        ⟨(some 14), none, .call .n (.t 10) [(.t 13)]⟩])
     (.seq (.reg none [
        ⟨(some 15), none, .mov (.t 0)⟩,
        ⟨(some 16), none, .mov (.t 4)⟩,
        ⟨(some 17), none, .iad 8 (.t 15) (.t 16)⟩,
        ⟨(some 18), none, .fad 6 (.t 17)⟩,
        ⟨(some 19), none, .load false 1 (.t 18)⟩,
        ⟨(some 20), none, .mov (.t 1)⟩,
        ⟨(some 21), none, .call .n (.f 36) [(.t 19), (.t 20)]⟩])
     (.reg none [
       ⟨(some 22), none, .mov (.t 0)⟩,
       ⟨(some 23), none, .mov (.t 4)⟩,
       ⟨(some 24), none, .iad 8 (.t 22) (.t 23)⟩,
       ⟨(some 25), none, .fad 7 (.t 24)⟩,
       ⟨(some 26), none, .load false 1 (.t 25)⟩,
       ⟨(some 27), none, .mov (.t 1)⟩,
       ⟨(some 28), none, .call .n (.f 36) [(.t 26), (.t 27)]⟩])))))
   (.reg none [
     ⟨(some 29), none, .bin .add (.t 7) (.c (.int .i64 1))⟩,
     ⟨(some 7), none, .mov (.t 29)⟩]))))))⟩
theorem op_app_kill {F : Nat → Option IFn} {lo0 es et bytes : Nat} {x y : Opd} {e : Env} {H : Heap} {cs ys : List Value} {b n : Nat} {K : Value → Heap → Prop} (hk : H[b]? = some ⟨cs, es, et, true, true⟩) (hn : cs.length = n * es) (hx : x.ev e = sli b 0 n) (hy : y.ev e = sli H.length 0 1) (hlo : lo0 ≤ b) (hyl : ys.length = es) (hl : n < 1048576) (hb : bytes ≤ 1048576)
    (k : ∀ H', AgX [b] H H' → H'[H.length + 1]? = some ⟨cs ++ ys, es, et, true, true⟩ → K (sli (H.length + 1) 0 (n + 1)) H') : wpOp F lo0 (.app es et bytes true x y) e (H ++ [⟨ys, es, et, true, true⟩]) K := by
  have hbl := (List.getElem?_eq_some_iff.1 hk).1
  have hbytes : (n + 1) * bytes ≤ 1048576 * 1048576 := Nat.mul_le_mul (by omega) hb
  refine op_app _ _ _ _ _ (b := ⟨b, 0, none⟩) (n := n) (c := n) (a := ⟨H.length, 0, none⟩) (m := 1) (c' := 1) (ys := ys) (kb := ⟨cs, es, et, true, true⟩) hx hy (by omega) ?_ ?_ ⟨hlo, rfl, rfl, rfl, rfl, hn, by omega, by omega⟩ ?_
  · unfold getCells
    rw [get_new0]
    simp only [List.getElem?_cons_zero, Nat.one_mul, Nat.zero_add]
    rw [if_pos (by omega), List.drop_zero, List.take_of_length_le (by omega)]
  · show (H ++ [_])[b]? = _
    rw [List.getElem?_append_left hbl]; exact hk
  · have hset : (H ++ ([⟨ys, es, et, true, true⟩] : Heap)).set b ⟨[], es, et, false, true && n == 0⟩ = H.set b ⟨[], es, et, false, true && n == 0⟩ ++ [⟨ys, es, et, true, true⟩] := List.set_append_left _ _ hbl
    simp only [if_true, Bool.or_true, Bool.and_true, List.length_append, List.length_cons, List.length_nil, Nat.zero_add]
    rw [hset, List.append_assoc]
    have hag : AgX [b] H (H.set b ⟨[], es, et, false, true && n == 0⟩ ++ ([⟨ys, es, et, true, true⟩] ++ [⟨cs ++ ys, es, et, true, true⟩])) := (AgX.set H b _).trans (AgX.app [] _ _) (fun b h _ => h) (fun b h _ => by cases h)
    refine k _ hag ?_
    have : H.length + 1 = (H.set b ⟨[], es, et, false, true && n == 0⟩).length + 1 := by rw [List.length_set]
    rw [this, get_new]
    rfl
def CloneOk (F : Nat → Option IFn) (f n : Nat) : Prop := ∀ (H : Heap) (v : Value) (l : List (TStep n)), SlR (Co.step n) (vw 0 H) v l → (Co.sl (Co.step n)).sm l → ∃ v' B H', KC F f [v] H v' H' ∧ AgX [] H H' ∧ OwnT H.length H' n v' l B
theorem cloneSteps_ok {F : Nat → Option IFn} {f n : Nat} (hf : F f = some c_cloneSteps) (ih : ∀ m, n = m + 1 → CloneOk F 77 m) : CloneOk F f n := by
  intro H v l hv hsm
  suffices h : ∃ v' H', KC F f [v] H v' H' ∧ (∃ B, AgX [] H H' ∧ OwnT H.length H' n v' l B) by
    obtain ⟨v', H', h1, B, h2⟩ := h
    exact ⟨v', B, H', h1, h2⟩
  have hv0 := hv
  obtain ⟨h0, av, rfl, _⟩ := hv
  have hlm : l.length ≤ 1048576 := hsm.1
  refine KC.mk hf rfl ?_
  refine seq_reg ?_
  simp only [go_sem, binC]
  refine seq_reg ?_
  simp only [go_sem, binC]
  refine seq_assoc (seq_reg ?_)
  simp only [go_sem, binC]
  refine seq_block (wpc_loop ?_)
  suffices h : ∀ (k i : Nat) (e : Env) (Hc : Heap) (v3 : Value) (B : List Nat), i + k = l.length → AgX [] H Hc → OwnT H.length Hc n v3 (l.take i) B → e 3 = v3 → e 6 = .slice av l.length l.length → e 7 = .int .i64 l.length → e 8 = .int .i64 i → W F H.length _ e Hc _ from
    h l.length 0 _ H nilS [] (by omega) (AgX.refl _ _) OwnT.nil (by simp only [go_sem, binC]) (by simp only [go_sem, binC]) (by simp only [go_sem, binC]) (by (simp only [go_sem, binC]) <;> rfl)
  intro k
  induction k with
  | zero =>
    intro i e Hc v3 B hi hxc ho e3 e6 e7 e8
    refine lp_step ?_
    refine seq_reg ?_
    simp only [go_sem, binC, e7, e8]
    refine seq_cond (t := false) (by simp only [go_sem, binC]; rw [decide_eq_false (by omega)]) ?_
    simp only [go_sem, binC]
    refine seq_exit ?_
    simp only [go_sem, binC, thenX_e, out_e, thenX_n]
    refine seq_reg ?_
    simp only [go_sem, binC, e3]
    rw [List.take_of_length_le (by omega)] at ho
    exact wpc_ret ⟨Or.inr rfl, _, (by (simp only [go_sem, binC]) <;> rfl), B, hxc, ho⟩
  | succ k ihk =>
    intro i e Hc v3 B hi hxc ho e3 e6 e7 e8
    have hil : i < l.length := by omega
    cases n with
    | zero => exact (l[i]).elim
    | succ n =>
    obtain ⟨vb, vo, kd, vr, va, vbb, vc, hh, tv, ev, tl, el, hav, hs, rg, otv, oev, hgc, htl, hel⟩ := step_at hv0 hil
    simp only [Value.slice.injEq, and_true] at hav
    subst hav
    obtain ⟨_, tva, rfl, _⟩ := id htl
    obtain ⟨_, eva, rfl, _⟩ := id hel
    have hg8 := hgc Hc (agx_sub hxc)
    have hsi : (Co.step (n + 1)).sm l[i] := hsm.2 _ (List.getElem_mem hil)
    rw [hs] at hsi
    obtain ⟨_, _, _, _, smt, sme⟩ := hsi
    have hw1 : IntKind.i64.wrap ((i : Int) + 1) = ((i + 1 : Nat) : Int) := by rw [wrap_id (by omega) (by omega)]; omega
    have hHl := hxc.1
    refine lp_step ?_
    refine seq_reg ?_
    simp only [go_sem, binC, e7, e8]
    refine seq_cond (t := true) (by simp only [go_sem, binC]; rw [decide_eq_true (by omega)]) ?_
    simp only [go_sem, binC]
    refine seq_skip (seq_block (seq_reg ?_))
    simp only [go_sem, binC, e6, e8]
    refine ⟨⟨by omega, by omega⟩, ?_⟩
    simp only [go_sem, binC, Int.toNat_natCast, hg8, otv, oev]
    refine ⟨by omega, ?_⟩
    refine wpc_gen fun H1 hH1 => ?_
    have hx1 : AgX [] Hc H1 := hH1 ▸ AgX.app [] _ _
    have hbx : H1[Hc.length]? = some ⟨[.int .i64 kd, .int .i64 vr, .int .i64 va, .int .i64 vbb, .int .i64 vc, .int .i64 hh, (.slice tva tl.length tl.length), (.slice eva el.length el.length)], 0, 0, false, true⟩ := hH1 ▸ get_new0 _ _
    have hl1 : H1.length = Hc.length + 1 := by rw [hH1, List.length_append]; rfl
    clear hH1
    refine seq_regD ?_
    simp only [go_sem, binC, gc_of hbx, inBlk_some]
    obtain ⟨tv', B1, H2, k2, hx2, o2⟩ := ih n rfl H1 _ tl (htl.mono (agx_sub (hxc.tr hx1))) smt
    obtain ⟨_, ta', rfl⟩ := id o2.len
    refine op_callK (by simp only [go_sem, binC]; exact k2) ?_
    have hbx2 := hx2.get hbx (by simp)
    simp only [go_sem, binC, gc_of hbx2, inBlk_some]
    obtain ⟨ev', B2, H3, k3, hx3, o3⟩ := ih n rfl H2 _ el (hel.mono (agx_sub ((hxc.tr hx1).tr hx2))) sme
    obtain ⟨_, ea', rfl⟩ := id o3.len
    refine op_callK (by simp only [go_sem, binC]; exact k3) ?_
    have hbx3 := hx3.get hbx2 (by simp)
    have hl2 := hx2.1
    have hl3 := hx3.1
    have hb3l := (List.getElem?_eq_some_iff.1 hbx3).1
    have ot' := o2.one
    have oe' := o3.one
    simp only [go_sem, binC, hbx3, ot', oe']
    refine ⟨by omega, ?_⟩
    simp only [go_sem, binC, List.getElem?_set_self hb3l, ot', oe', List.set_set]
    refine ⟨by omega, ?_⟩
    refine wpc_genH fun H4 hH4 => ?_
    have hx4 : AgX [Hc.length] H3 H4 := by rw [hH4]; exact AgX.set _ _ _
    have hb4 : H4[Hc.length]? = some ⟨[.int .i64 kd, .int .i64 vr, .int .i64 va, .int .i64 vbb, .int .i64 vc, .int .i64 hh, (.slice ta' tl.length tl.length), (.slice ea' el.length el.length)], 0, 0, false, true⟩ := by rw [hH4]; exact List.getElem?_set_self hb3l
    have hl4 : H4.length = H3.length := by rw [hH4, List.length_set]
    clear hH4
    refine wpc_reg ?_
    simp only [go_sem, binC, e3, gc_of hb4, inBlk_some]
    have hag4 : AgX [] H H4 := (((hxc.tr hx1).tr hx2).tr hx3).trans hx4 (fun _ h _ => h) (fun b h1 h2 => by simp only [List.mem_singleton] at h1; omega)
    have hg2 := o2.ge
    have hg3 := o3.ge
    have hgB := ho.ge
    have hkt : ∀ b ∈ B, H4[b]? = Hc[b]? := fun b hb => by
      have h2 := (hgB b hb).2.1
      rw [hx4.2 b (by omega) (by simp; omega), hx3.2 b (by omega) (by simp), hx2.2 b (by omega) (by simp), hx1.2 b h2 (by simp)]
    have ho4 := ho.keep (Nat.le_refl _) hkt
    have o24 : OwnT H.length H4 n (.slice ta' tl.length tl.length) tl B1 := o2.keep (by omega) fun b hb => by
      have := hg2 b hb
      rw [hx4.2 b (by omega) (by simp; omega), hx3.2 b (by omega) (by simp)]
    have o34 : OwnT H.length H4 n (.slice ea' el.length el.length) el B2 := o3.keep (by omega) fun b hb => by
      have := hg3 b hb
      rw [hx4.2 b (by omega) (by simp; omega)]
    have hnd : (B1 ++ B2).Nodup := List.nodup_append.2 ⟨o2.nodup, o3.nodup, fun x hx y hy he => by have := hg2 x hx; have := hg3 y hy; omega⟩
    have hrg : shRg (shOf l[i]) := by rw [hs]; exact rg
    have helt : ∀ {H' : Heap}, (∀ b ∈ B1 ++ B2, H'[b]? = H4[b]?) → EltT (OwnT H.length H' n) l[i] [.int .i64 kd, .int .i64 vr, .int .i64 va, .int .i64 vbb, .int .i64 vc, .int .i64 hh, (.slice ta' tl.length tl.length), (.slice ea' el.length el.length)] (B1 ++ B2) := fun hk => by
      rw [hs]
      exact ⟨(.slice ta' tl.length tl.length), (.slice ea' el.length el.length), B1, B2, rfl, rg, o24.keep (Nat.le_refl _) (fun b hb => hk b (List.mem_append_left _ hb)), o34.keep (Nat.le_refl _) (fun b hb => hk b (List.mem_append_right _ hb)), rfl⟩
    have hfar : ∀ b ∈ B1 ++ B2, Hc.length < b ∧ b < H4.length := fun b hb => by
      rcases List.mem_append.1 hb with h | h
      · have := hg2 b h; omega
      · have := hg3 b h; omega
    have htk : l.take (i + 1) = l.take i ++ [l[i]] := by rw [List.take_add_one, List.getElem?_eq_getElem hil]; rfl
    have htl' : (l.take i).length = i := by rw [List.length_take]; omega
    have hend : ∀ (e' : Env) (H' : Heap) (v' : Value) (B' : List Nat), AgX [] H H' → OwnT H.length H' (n + 1) v' (l.take (i + 1)) B' → e' 3 = v' → e' 6 = .slice (some ⟨vb, vo, none⟩) l.length l.length → e' 7 = .int .i64 l.length → e' 8 = .int .i64 ((i + 1 : Nat) : Int) → W F H.length _ e' H' _ := fun e' H' v' B' a1 a2 a3 a6 a7 a8 => ihk (i + 1) e' H' v' B' (by omega) a1 a2 a3 a6 a7 a8
    rcases ho4 with ⟨rfl, hl0, _⟩ | ⟨b, cs, Bs, hb1, rfl, hne, hb2, rfl, hb4n, hbd⟩
    · have hi0 : i = 0 := by have := congrArg List.length hl0; rw [htl'] at this; simpa using this
      subst hi0
      refine op_app_nil _ _ _ _ _ (a := ⟨H4.length, 0, none⟩) (m := 1) (c' := 1) (ys := [.int .i64 kd, .int .i64 vr, .int .i64 va, .int .i64 vbb, .int .i64 vc, .int .i64 hh, (.slice ta' tl.length tl.length), (.slice ea' el.length el.length)]) (by (simp only [go_sem, binC, e3]) <;> rfl) (by (simp only [go_sem, binC]) <;> rfl) (by omega) (by rw [gc_new0]; rfl) (by omega) (by omega) ?_
      simp only [go_sem, binC, out_n, thenX_n]
      refine wpc_reg ?_
      simp only [go_sem, binC, e8, hw1]
      simp only [go_sem, binC, thenX_n]
      have hx5 : AgX [] H4 (H4 ++ [⟨[.int .i64 kd, .int .i64 vr, .int .i64 va, .int .i64 vbb, .int .i64 vc, .int .i64 hh, (.slice ta' tl.length tl.length), (.slice ea' el.length el.length)], 8, 68, true, true⟩, ⟨[.int .i64 kd, .int .i64 vr, .int .i64 va, .int .i64 vbb, .int .i64 vc, .int .i64 hh, (.slice ta' tl.length tl.length), (.slice ea' el.length el.length)], 8, 68, true, true⟩]) := AgX.app [] _ _
      refine hend _ _ (sli (H4.length + 1) 0 1) ((H4.length + 1) :: [B1 ++ B2].flatten) (hag4.tr hx5) (.inr ⟨H4.length + 1, _, [B1 ++ B2], by omega, by rw [show (l.take (0 + 1)).length = 1 by rw [List.length_take]; omega], by rw [htk]; exact List.append_ne_nil_of_right_ne_nil _ (by simp), get_new _ _ 1, rfl, ?_, ?_⟩) (by (simp only [go_sem, binC]) <;> rfl) (by simp only [go_sem, binC, e6]) (by simp only [go_sem, binC, e7]) (by simp only [go_sem, binC])
      · simp only [List.flatten_cons, List.flatten_nil, List.append_nil]
        intro hb
        have := hfar _ hb
        omega
      · have := (BodyT.nil (P := OwnT H.length H4 n)).snoc (P' := OwnT H.length (H4 ++ [⟨[.int .i64 kd, .int .i64 vr, .int .i64 va, .int .i64 vbb, .int .i64 vc, .int .i64 hh, (.slice ta' tl.length tl.length), (.slice ea' el.length el.length)], 8, 68, true, true⟩, ⟨[.int .i64 kd, .int .i64 vr, .int .i64 va, .int .i64 vbb, .int .i64 vc, .int .i64 hh, (.slice ta' tl.length tl.length), (.slice ea' el.length el.length)], 8, 68, true, true⟩]) n) (a := l[0]) (fun v l B1 hs h => h.keep (Nat.le_refl _) fun b hb => by have := hs b hb; simp at this) (helt (fun b hb => hx5.2 b (hfar b hb).2 (by simp))) hnd (fun b _ => by simp) (by simp)
        rw [htk, hl0]
        exact this
    · rw [htl']
      have hbB : b < Hc.length := (hgB b (List.mem_cons_self)).2.1
      obtain ⟨c1, c2, c3, c4, c5⟩ := id hbd
      rw [htl'] at c1 c2 c3
      refine op_app_kill hb2 c2 (by simp only [go_sem, binC, e3, htl']) (by (simp only [go_sem, binC]) <;> rfl) (by omega) rfl (by omega) (by omega) fun H5 hx5 hb5 => ?_
      simp only [go_sem, binC, out_n, thenX_n]
      refine wpc_reg ?_
      simp only [go_sem, binC, e8, hw1]
      simp only [go_sem, binC, thenX_n]
      have hk5 : ∀ b' ∈ Bs.flatten, H5[b']? = H4[b']? := fun b' hb' => hx5.2 b' (by have := (hgB b' (List.mem_cons_of_mem _ hb')).2.1; omega) (by intro h; simp only [List.mem_singleton] at h; subst h; exact hb4n hb')
      refine hend _ H5 (sli (H4.length + 1) 0 (i + 1)) ((H4.length + 1) :: (Bs ++ [B1 ++ B2]).flatten) (hag4.trans hx5 (fun _ h _ => h) (fun b' h1 h2 => by simp only [List.mem_singleton] at h1; omega)) (.inr ⟨H4.length + 1, _, Bs ++ [B1 ++ B2], by omega, by rw [List.length_take, Nat.min_eq_left (by omega)], by rw [htk]; exact List.append_ne_nil_of_right_ne_nil _ (by simp), hb5, rfl, ?_, ?_⟩) (by (simp only [go_sem, binC]) <;> rfl) (by simp only [go_sem, binC, e6]) (by simp only [go_sem, binC, e7]) (by simp only [go_sem, binC])
      · rw [List.flatten_append, List.mem_append]
        simp only [List.flatten_cons, List.flatten_nil, List.append_nil]
        rintro (h | h)
        · have := (hgB _ (List.mem_cons_of_mem _ h)).2.1; omega
        · have := hfar _ h; omega
      · rw [htk]
        exact hbd.snoc (fun v l B' hs h => h.keep (Nat.le_refl _) fun b' hb' => hk5 b' (hs b' hb')) (helt (fun b' hb' => hx5.2 b' (hfar b' hb').2 (by have := hfar b' hb'; simp; omega))) hnd (fun b' hb' h => by have := hfar b' hb'; have := (hgB b' (List.mem_cons_of_mem _ h)).2.1; omega) (by rw [htl']; omega)
theorem cloneSteps_all {F : Nat → Option IFn} (hf : F 77 = some c_cloneSteps) : ∀ n, CloneOk F 77 n
  | 0 => cloneSteps_ok hf fun m h => by cases h
  | n + 1 => cloneSteps_ok hf fun m h => by cases h; exact cloneSteps_all hf n
end Go.Proofs.YtmakdcbpohlacaaI
end
section
/- Steps changed in their place. -/
set_option linter.unusedVariables false
set_option linter.unusedSimpArgs false
namespace Go.Proofs.YtmakdcbpohlacaaI
open Go Go.RowKit
/-- What is called on each step. -/
def CloOk (F : Nat → Option IFn) (g : Nat) (first cap : Array Value) (H0 : Heap) (P : Shal → Prop) (T : Shal → Shal) : Prop := ∀ (H : Heap) (b : Nat) (cs : List Value) (i : Nat) (s : Shal) (tv ev : Value) (lo : Nat), AgX [] H0 H → H0.length ≤ b → lo ≤ b → H[b]? = some ⟨cs, 8, 68, true, true⟩ → i * 8 + 8 ≤ cs.length → (cs.drop (i * 8)).take 8 = shV s tv ev → shRg s → P s → one tv = true → one ev = true →
  shRg (T s) ∧ NC F lo g (first.toList ++ [ptr b (i * 8)] ++ cap.toList) H (.tuple #[]) (H.set b ⟨setL cs (i * 8) (shV (T s) tv ev), 8, 68, true, true⟩)
def ChOk (F : Nat → Option IFn) (f n g : Nat) (first cap : Array Value) (H0 : Heap) (P : Shal → Prop) (T : Shal → Shal) : Prop := ∀ (H : Heap) (v : Value) (l : List (TStep n)) (B : List Nat) (lo : Nat), OwnT H0.length H n v l B → AgX [] H0 H → lo ≤ H0.length → (∀ s ∈ allL n l, P s) → ∃ H', NC F lo f [v, .func (.func g) first cap] H (.tuple #[]) H' ∧ OwnT H0.length H' n v (l.map (mapT T n)) B ∧ AgX B H H'
theorem allT_sh {n : Nat} (s : TStep (n + 1)) : allT (n + 1) s = shOf s :: (allL n (thOf s) ++ allL n (elOf s)) := rfl
theorem shV_len (s : Shal) (tv ev : Value) : (shV s tv ev).length = 8 := rfl
theorem gc_at8 {H : Heap} {b es et i : Nat} {ap so : Bool} {cs : List Value} {s : Shal} {tv ev : Value} (hb : H[b]? = some ⟨cs, es, et, ap, so⟩) (hl : i * 8 + 8 ≤ cs.length) (h8 : (cs.drop (i * 8)).take 8 = shV s tv ev) : getCells H b (i * 8) 8 = some (shV s tv ev) := by
  unfold getCells
  rw [hb]
  simp only
  rw [if_pos hl, h8]
theorem setL_ne8 {cc vs : List Value} {i j : Nat} (hv : vs.length = 8) (h8 : i * 8 + 8 ≤ cc.length) (hji : j ≠ i) : ((setL cc (i * 8) vs).drop (j * 8)).take 8 = (cc.drop (j * 8)).take 8 := by
  refine List.ext_getElem? fun m => ?_
  rw [List.getElem?_take, List.getElem?_take]
  split
  · rw [List.getElem?_drop, List.getElem?_drop, setL_get _ _ _ _ (by omega), if_neg (by omega)]
  · rfl
theorem change_ok {F : Nat → Option IFn} {f n g : Nat} {first cap : Array Value} {H0 : Heap} {P : Shal → Prop} {T : Shal → Shal} (hf : F f = some c_change) (hg : CloOk F g first cap H0 P T) (ih : ∀ m, n = m + 1 → ChOk F 36 m g first cap H0 P T) : ChOk F f n g first cap H0 P T := by
  intro H v l B lo ho hx0 hlo hP
  suffices h : ∃ w H', NC F lo f [v, .func (.func g) first cap] H w H' ∧ (w = .tuple #[] ∧ OwnT H0.length H' n v (l.map (mapT T n)) B ∧ AgX B H H') by
    obtain ⟨w, H', h1, rfl, h2⟩ := h
    exact ⟨H', h1, h2⟩
  obtain ⟨hlm, av, hv⟩ := ho.len
  subst hv
  refine NC.mk hf rfl ?_
  refine seq_reg ?_
  simp only [go_sem, binC]
  refine wpc_block (wpc_loop ?_)
  by_cases hl0 : l = []
  · subst hl0
    refine lp_step ?_
    refine seq_reg ?_
    simp only [go_sem, binC]
    refine seq_cond (t := false) (by (simp only [go_sem, binC]) <;> rfl) ?_
    simp only [go_sem, binC]
    refine seq_exit ?_
    simp only [go_sem, binC, thenX_e, out_e, thenX_n]
    exact ⟨Or.inl rfl, _, rfl, rfl, ho, AgX.refl _ _⟩
  cases n with
  | zero => exact absurd ho.2.1 hl0
  | succ n =>
  obtain ⟨b, cs, Bs, hb1, hv, hne, hb2, hBe, hbn, hbd⟩ := ho.resolve_left (fun h => hl0 h.2.1)
  simp only [sli, Value.slice.injEq, and_true] at hv
  subst hv
  have hbB : b ∈ B := by rw [hBe]; exact List.mem_cons_self
  have hBin : ∀ b' ∈ Bs.flatten, b' ∈ B := fun b' hb' => by rw [hBe]; exact List.mem_cons_of_mem _ hb'
  have hBH : ∀ b' ∈ B, H0.length ≤ b' := fun b' hb' => (ho.ge b' hb').1
  let lc : Nat → List (TStep (n + 1)) := fun i => l.mapIdx fun j s => if j < i then mapT T (n + 1) s else s
  have hlc : ∀ i, (lc i).length = l.length := fun i => by simp [lc]
  have hlc0 : lc 0 = l := List.ext_getElem (hlc 0) fun j h1 h2 => by simp [lc]
  have hlcE : lc l.length = l.map (mapT T (n + 1)) := List.ext_getElem (by rw [hlc, List.length_map]) fun j h1 h2 => by
    rw [hlc] at h1
    simp [lc, h1]
  have hlcg : ∀ (i j : Nat) (h : j < (lc i).length) (h' : j < l.length), (lc i)[j] = if j < i then mapT T (n + 1) l[j] else l[j] := fun i j h h' => by simp [lc]
  suffices h : ∀ (k i : Nat) (e : Env) (Hc : Heap) (cc : List Value), i + k = l.length → AgX B H Hc → Hc[b]? = some ⟨cc, 8, 68, true, true⟩ → BodyT (OwnT H0.length Hc n) (lc i) cc Bs → e 0 = sli b 0 l.length → e 1 = .func (.func g) first cap → e 6 = .int .i64 l.length → e 7 = .int .i64 i → W F lo _ e Hc _ from
    h l.length 0 _ H cs (by omega) (AgX.refl _ _) hb2 (hlc0.symm ▸ hbd) (by (simp only [go_sem, binC]) <;> rfl) (by simp only [go_sem, binC]) (by simp only [go_sem, binC]) (by (simp only [go_sem, binC]) <;> rfl)
  intro k
  induction k with
  | zero =>
    intro i e Hc cc hi hxc hbc hbdc e0 e1 e6 e7
    refine lp_step ?_
    refine seq_reg ?_
    simp only [go_sem, binC, e6, e7]
    refine seq_cond (t := false) (by simp only [go_sem, binC]; rw [decide_eq_false (by omega)]) ?_
    simp only [go_sem, binC]
    refine seq_exit ?_
    simp only [go_sem, binC, thenX_e, out_e, thenX_n]
    have hil : i = l.length := by omega
    rw [hil, hlcE] at hbdc
    exact ⟨Or.inl rfl, _, rfl, rfl, .inr ⟨b, cc, Bs, hb1, by rw [List.length_map]; rfl, by simpa using hl0, hbc, hBe, hbn, hbdc⟩, hxc⟩
  | succ k ihk =>
    intro i e Hc cc hi hxc hbc hbdc e0 e1 e6 e7
    have hil : i < l.length := by omega
    obtain ⟨c0, c1, c2, c3, c4⟩ := id hbdc
    rw [hlc] at c0 c1 c2
    have hiB : i < Bs.length := by omega
    obtain ⟨tv, ev, B1, B2, q1, q2, q3, q4, q5⟩ := c4 i (by rw [hlc]; exact hil) hiB
    have hli : (lc i)[i]'(by rw [hlc]; exact hil) = l[i] := by rw [hlcg i i _ hil, if_neg (by omega)]
    rw [hli] at q1 q2 q3 q4
    have hPs : P (shOf l[i]) := hP _ (mem_allL hil (by rw [allT_sh]; exact List.mem_cons_self))
    have hPt : ∀ s ∈ allL n (thOf l[i]), P s := fun s hs => hP _ (mem_allL hil (by rw [allT_sh]; exact List.mem_cons_of_mem _ (List.mem_append_left _ hs)))
    have hPe : ∀ s ∈ allL n (elOf l[i]), P s := fun s hs => hP _ (mem_allL hil (by rw [allT_sh]; exact List.mem_cons_of_mem _ (List.mem_append_right _ hs)))
    have hw1 : IntKind.i64.wrap ((i : Int) + 1) = ((i + 1 : Nat) : Int) := by rw [wrap_id (by omega) (by omega)]; omega
    have hx0c : AgX [] H0 Hc := hx0.trans hxc (fun _ h _ => h) (fun b' h1 h2 => by have := hBH b' h1; omega)
    have h8 : i * 8 + 8 ≤ cc.length := by omega
    have hbl := (List.getElem?_eq_some_iff.1 hbc).1
    have otv := q3.one
    have oev := q4.one
    obtain ⟨hrgT, hcall⟩ := hg Hc b cc i _ tv ev lo hx0c hb1 (by omega) hbc h8 q1 q2 hPs otv oev
    have hb1n : b ∉ B1 := fun h => hbn (mem_flat hiB (by rw [q5]; exact List.mem_append_left _ h))
    have hb2n : b ∉ B2 := fun h => hbn (mem_flat hiB (by rw [q5]; exact List.mem_append_right _ h))
    have h12 : ∀ b' ∈ B2, b' ∉ B1 := fun b' h2 h1 => by
      have hnd := flat_in c3 hiB
      rw [q5, List.nodup_append] at hnd
      exact hnd.2.2 b' h1 b' h2 rfl
    refine lp_step ?_
    refine seq_reg ?_
    simp only [go_sem, binC, e6, e7]
    refine seq_cond (t := true) (by simp only [go_sem, binC]; rw [decide_eq_true (by omega)]) ?_
    simp only [go_sem, binC]
    refine seq_skip (seq_block (seq_reg ?_))
    simp only [go_sem, binC, e7]
    refine seq_reg ?_
    simp only [go_sem, binC, e0, e1]
    refine ⟨⟨by omega, by omega⟩, ?_⟩
    refine op_callNc (g := g) (first := first) (cap := cap) (by simp only [go_sem, binC, e1]) (by simp only [go_sem, binC]; exact hcall) ?_
    simp only [go_sem, binC]
    have hb1' : (Hc.set b ⟨setL cc (i * 8) (shV (T (shOf l[i])) tv ev), 8, 68, true, true⟩)[b]? = some ⟨setL cc (i * 8) (shV (T (shOf l[i])) tv ev), 8, 68, true, true⟩ := List.getElem?_set_self hbl
    have hxs : AgX [b] Hc (Hc.set b ⟨setL cc (i * 8) (shV (T (shOf l[i])) tv ev), 8, 68, true, true⟩) := AgX.set _ _ _
    generalize hH1 : Hc.set b ⟨setL cc (i * 8) (shV (T (shOf l[i])) tv ev), 8, 68, true, true⟩ = H1 at hb1' hxs
    have hsl : (setL cc (i * 8) (shV (T (shOf l[i])) tv ev)).length = cc.length := setL_length ..
    have hat : ((setL cc (i * 8) (shV (T (shOf l[i])) tv ev)).drop (i * 8)).take 8 = shV (T (shOf l[i])) tv ev := setL_at (shV_len _ _ _) h8
    have hg1 := gc_at8 hb1' (by rw [hsl]; exact h8) hat
    have hg6 := gc_part (off := 6) (k := 1) hg1 (by omega)
    rw [show ((shV (T (shOf l[i])) tv ev).drop 6).take 1 = [tv] from rfl] at hg6
    have o31 : OwnT H0.length H1 n tv (thOf l[i]) B1 := q3.keep (Nat.le_refl _) fun b' hb' => hxs.2 b' (q3.ge b' hb').2.1 (by intro h; simp only [List.mem_singleton] at h; subst h; exact hb1n hb')
    have hx01 : AgX [] H0 H1 := hx0c.trans hxs (fun _ h _ => h) (fun b' h1 h2 => by simp only [List.mem_singleton] at h1; omega)
    obtain ⟨H2, k2, o2, hx2⟩ := ih n rfl H1 tv (thOf l[i]) B1 lo o31 hx01 hlo hPt
    refine seq_reg ?_
    simp only [go_sem, binC, e0, e1]
    refine ⟨⟨by omega, by omega⟩, ?_⟩
    simp only [go_sem, binC, Int.toNat_natCast, Nat.zero_add, hg6]
    refine op_callN (by simp only [go_sem, binC, e1]; exact k2) ?_
    simp only [go_sem, binC]
    have hb2' := hx2.get hb1' hb1n
    have hg2 := gc_at8 hb2' (by rw [hsl]; exact h8) hat
    have hg7 := gc_part (off := 7) (k := 1) hg2 (by omega)
    rw [show ((shV (T (shOf l[i])) tv ev).drop 7).take 1 = [ev] from rfl] at hg7
    have hx02 : AgX [] H0 H2 := hx01.trans hx2 (fun _ h _ => h) (fun b' h1 h2 => by have := (q3.ge b' h1).1; omega)
    have o42 : OwnT H0.length H2 n ev (elOf l[i]) B2 := q4.keep (Nat.le_refl _) fun b' hb' => by
      have h1 := (q4.ge b' hb').2.1
      have h2 := hxs.1
      rw [hx2.2 b' (by omega) (h12 b' hb'), hxs.2 b' h1 (by intro h; simp only [List.mem_singleton] at h; subst h; exact hb2n hb')]
    obtain ⟨H3, k3, o3, hx3⟩ := ih n rfl H2 ev (elOf l[i]) B2 lo o42 hx02 hlo hPe
    refine wpc_reg ?_
    simp only [go_sem, binC, e0, e1]
    refine ⟨⟨by omega, by omega⟩, ?_⟩
    simp only [go_sem, binC, Int.toNat_natCast, Nat.zero_add, hg7]
    refine op_callN (by simp only [go_sem, binC, e1]; exact k3) ?_
    simp only [go_sem, binC, out_n, thenX_n]
    refine wpc_reg ?_
    simp only [go_sem, binC, e7, hw1]
    simp only [go_sem, binC, thenX_n]
    have hb3' := hx3.get hb2' hb2n
    have hl1 := hxs.1
    have hl2 := hx2.1
    have hBi : ∀ b' ∈ Bs[i], b' ∈ B := fun b' h => hBin b' (mem_flat hiB h)
    have hxB : AgX B H H3 := ((hxc.trans hxs (fun _ h _ => h) (fun b' h1 h2 => by simp only [List.mem_singleton] at h1; subst h1; exact hbB)).trans hx2 (fun _ h _ => h) (fun b' h1 h2 => hBi b' (by rw [q5]; exact List.mem_append_left _ h1))).trans hx3 (fun _ h _ => h) (fun b' h1 h2 => hBi b' (by rw [q5]; exact List.mem_append_right _ h1))
    have o23 : OwnT H0.length H3 n tv ((thOf l[i]).map (mapT T n)) B1 := o2.keep (Nat.le_refl _) fun b' hb' => hx3.2 b' (o2.ge b' hb').2.1 (fun h => h12 b' h hb')
    refine ihk (i + 1) _ H3 _ (by omega) hxB hb3' ?_ (by simp only [go_sem, binC, e0]) (by simp only [go_sem, binC, e1]) (by simp only [go_sem, binC, e6]) (by simp only [go_sem, binC])
    refine ⟨by rw [hlc]; exact c0, by rw [hlc, hsl]; exact c1, by rw [hlc]; exact c2, c3, fun j hj hj' => ?_⟩
    have hjl : j < l.length := by rw [hlc] at hj; exact hj
    rw [hlcg (i + 1) j hj hjl]
    by_cases hji : j = i
    · subst hji
      rw [if_pos (by omega), hat]
      exact ⟨tv, ev, B1, B2, rfl, hrgT, o23, o3, q5⟩
    · have hc4 := c4 j (by rw [hlc]; exact hjl) hj'
      rw [hlcg i j _ hjl] at hc4
      have hif : (if j < i + 1 then mapT T (n + 1) l[j] else l[j]) = if j < i then mapT T (n + 1) l[j] else l[j] := by
        by_cases hlt : j < i
        · rw [if_pos hlt, if_pos (by omega)]
        · rw [if_neg hlt, if_neg (by omega)]
      rw [hif, setL_ne8 (shV_len _ _ _) h8 hji]
      refine hc4.imp fun v l' B' hs h => h.keep (Nat.le_refl _) fun b' hb' => ?_
      have h1 := (h.ge b' hb').2.1
      have hnb : b' ≠ b := fun he => hbn (he ▸ mem_flat hj' (hs b' hb'))
      have hnB : b' ∉ Bs[i] := flat_apart c3 hj' hiB hji (hs b' hb')
      rw [q5, List.mem_append, not_or] at hnB
      rw [hx3.2 b' (by omega) hnB.2, hx2.2 b' (by omega) hnB.1, hxs.2 b' h1 (by simpa using hnb)]
theorem change_all {F : Nat → Option IFn} {g : Nat} {first cap : Array Value} {H0 : Heap} {P : Shal → Prop} {T : Shal → Shal} (hf : F 36 = some c_change) (hg : CloOk F g first cap H0 P T) : ∀ n, ChOk F 36 n g first cap H0 P T
  | 0 => change_ok hf hg fun m h => by cases h
  | n + 1 => change_ok hf hg fun m h => by cases h; exact change_all hf hg n
end Go.Proofs.YtmakdcbpohlacaaI
end
section
/- Rows of names: each once. -/
set_option linter.unusedVariables false
set_option linter.unusedSimpArgs false
namespace Go.Proofs.YtmakdcbpohlacaaI
open Go Go.RowKit
def c_ixInt : IFn := ⟨2, 19, [.t 4],
 .seq (.reg none [
    ⟨(some 4), none, .mov (.c (.int .i64 0))⟩])
 (.seq (.seq (.reg none [
     ⟨(some 6), none, .mov (.t 0)⟩,
     ⟨(some 7), none, .len (.t 6)⟩,
     ⟨(some 8), none, .mov (.c (.int .i64 0))⟩])
  (.block 0 (.loop (.seq (.reg none [
       ⟨(some 9), none, .bin .lss (.t 8) (.t 7)⟩])
    (.seq (.cond (.t 9) (.skip) (.exit 0))
    (.seq (.block 1 (.seq (.reg none [
         ⟨(some 10), none, .mov (.t 8)⟩,
         ⟨(some 5), none, .mov (.t 10)⟩])
      (.seq (.reg none [
         ⟨(some 11), none, .mov (.t 1)⟩,
         ⟨(some 12), none, .mov (.t 0)⟩,
         ⟨(some 13), none, .mov (.t 5)⟩,
         ⟨(some 14), none, .iad 1 (.t 12) (.t 13)⟩,
         ⟨(some 15), none, .load false 1 (.t 14)⟩,
         ⟨(some 16), none, .bin .eql (.t 11) (.t 15)⟩])
      (.cond (.t 16) (.seq (.reg none [
          ⟨(some 17), none, .mov (.t 5)⟩,
          ⟨(some 4), none, .mov (.t 17)⟩])
       (.ret)) (.skip)))))
    (.reg none [
      ⟨(some 18), none, .bin .add (.t 8) (.c (.int .i64 1))⟩,
      ⟨(some 8), none, .mov (.t 18)⟩])))))))
 (.seq (.reg none [
    ⟨(some 4), none, .mov (.c (.int .i64 (-1)))⟩])
 (.ret)))⟩
def c_conInt : IFn := ⟨2, 9, [.t 4],
 .seq (.reg none [
    ⟨(some 4), none, .mov (.c (.bool false))⟩])
 (.seq (.reg none [
    ⟨(some 5), none, .mov (.t 0)⟩,
    ⟨(some 6), none, .mov (.t 1)⟩,
    ⟨(some 7), none, .call .q (.f 101) [(.t 5), (.t 6)]⟩,
    ⟨(some 8), none, .bin .geq (.t 7) (.c (.int .i64 0))⟩,
    ⟨(some 4), none, .mov (.t 8)⟩])
 (.ret))⟩
def c_iRow : IFn := ⟨2, 31, [.t 4],
 .seq (.reg none [
    ⟨(some 4), none, .mov (.c (.bool false))⟩])
 (.seq (.seq (.reg none [
     ⟨(some 7), none, .mov (.t 0)⟩,
     ⟨(some 8), none, .len (.t 7)⟩,
     ⟨(some 9), none, .mov (.c (.int .i64 0))⟩])
  (.block 0 (.loop (.seq (.reg none [
       ⟨(some 10), none, .bin .lss (.t 9) (.t 8)⟩])
    (.seq (.cond (.t 10) (.skip) (.exit 0))
    (.seq (.block 1 (.seq (.reg none [
         ⟨(some 11), none, .mov (.t 9)⟩,
         ⟨(some 12), none, .iad 1 (.t 7) (.t 9)⟩,
         ⟨(some 13), none, .load false 1 (.t 12)⟩,
         ⟨(some 5), none, .mov (.t 11)⟩,
         ⟨(some 6), none, .mov (.t 13)⟩])
      (.seq (.reg none [
         ⟨(some 14), none, .mov (.t 6)⟩,
         ⟨(some 15), none, .mov (.t 1)⟩,
         ⟨(some 16), none, .bin .sub (.t 15) (.c (.int .i64 1))⟩,
         ⟨(some 17), none, .call .q (.f 75) [(.t 14), (.c (.int .i64 0)), (.t 16)]⟩,
         ⟨(some 18), none, .un .not (.t 17)⟩,
         ⟨(some 19), none, .mov (.t 18)⟩,
         ⟨(some 20), (some (19, false)), .mov (.t 0)⟩,
         ⟨(some 21), (some (19, false)), .mov (.t 5)⟩,
         ⟨(some 22), (some (19, false)), .sub 1 (.t 20) none (some (.t 21))⟩,
         ⟨(some 23), (some (19, false)), .mov (.t 6)⟩,
         ⟨(some 24), (some (19, false)), .call .q (.f 76) [(.t 22), (.t 23)]⟩,
         ⟨(some 25), none, .pick (.t 19) (.c (.bool true)) (.t 24)⟩])
      (.cond (.t 25) (.seq (.reg none [
          ⟨(some 4), none, .mov (.c (.bool false))⟩])
       (.ret)) (.skip)))))
    (.reg none [
      ⟨(some 26), none, .bin .add (.t 9) (.c (.int .i64 1))⟩,
      ⟨(some 9), none, .mov (.t 26)⟩])))))))
 (.seq (.reg none [
    ⟨(some 27), none, .mov (.t 0)⟩,
    ⟨(some 28), none, .len (.t 27)⟩,
    ⟨(some 29), none, .mov (.t 1)⟩,
    ⟨(some 30), none, .bin .eql (.t 28) (.t 29)⟩,
    ⟨(some 4), none, .mov (.t 30)⟩])
 (.ret)))⟩
def c_sRow : IFn := ⟨2, 33, [.t 4],
 .seq (.reg none [
    ⟨(some 4), none, .mov (.c (.bool false))⟩])
 (.seq (.seq (.reg none [
     ⟨(some 8), none, .mov (.t 0)⟩,
     ⟨(some 9), none, .len (.t 8)⟩,
     ⟨(some 10), none, .mov (.t 1)⟩,
     ⟨(some 11), none, .bin .neq (.t 9) (.t 10)⟩])
  (.cond (.t 11) (.seq (.reg none [
      ⟨(some 4), none, .mov (.c (.bool false))⟩])
   (.ret)) (.skip)))
 (.seq (.seq (.reg none [
     ⟨(some 5), none, .mov (.c (.int .i64 0))⟩])
  (.block 0 (.loop (.seq (.seq (.reg none [
        ⟨(some 12), none, .mov (.t 5)⟩,
        ⟨(some 13), none, .mov (.t 1)⟩,
        ⟨(some 14), none, .bin .lss (.t 12) (.t 13)⟩])
     (.cond (.t 14) (.skip) (.exit 0)))
    (.seq (.block 1 (.seq (.reg none [
         ⟨(some 6), none, .mov (.c (.bool false))⟩])
      (.seq (.seq (.reg none [
          ⟨(some 7), none, .mov (.c (.int .i64 0))⟩])
       (.block 2 (.loop (.seq (.seq (.reg none [
             ⟨(some 17), none, .mov (.t 7)⟩,
             ⟨(some 18), none, .mov (.t 1)⟩,
             ⟨(some 19), none, .bin .lss (.t 17) (.t 18)⟩])
          (.cond (.t 19) (.skip) (.exit 2)))
         (.seq (.block 3 (.reg none [
             ⟨(some 22), none, .mov (.t 6)⟩,
             ⟨(some 23), none, .mov (.t 22)⟩,
             ⟨(some 24), (some (23, false)), .mov (.t 0)⟩,
             ⟨(some 25), (some (23, false)), .mov (.t 7)⟩,
             ⟨(some 26), (some (23, false)), .iad 1 (.t 24) (.t 25)⟩,
             ⟨(some 27), (some (23, false)), .load false 1 (.t 26)⟩,
             ⟨(some 28), (some (23, false)), .mov (.t 5)⟩,
             ⟨(some 29), (some (23, false)), .bin .eql (.t 27) (.t 28)⟩,
             ⟨(some 30), none, .pick (.t 23) (.c (.bool true)) (.t 29)⟩,
             ⟨(some 6), none, .mov (.t 30)⟩]))
         (.reg none [
           ⟨(some 20), none, .mov (.t 7)⟩,
           ⟨(some 21), none, .bin .add (.t 20) (.c (.int .i64 1))⟩,
           ⟨(some 7), none, .mov (.t 21)⟩]))))))
      (.seq (.reg none [
         ⟨(some 31), none, .mov (.t 6)⟩,
         ⟨(some 32), none, .un .not (.t 31)⟩])
      (.cond (.t 32) (.seq (.reg none [
          ⟨(some 4), none, .mov (.c (.bool false))⟩])
       (.ret)) (.skip))))))
    (.reg none [
      ⟨(some 15), none, .mov (.t 5)⟩,
      ⟨(some 16), none, .bin .add (.t 15) (.c (.int .i64 1))⟩,
      ⟨(some 5), none, .mov (.t 16)⟩]))))))
 (.seq (.reg none [
    ⟨(some 4), none, .mov (.c (.bool true))⟩])
 (.ret))))⟩
/-- Each name once. -/
def rowB (row : List Int) (n : Nat) : Bool := decide (row.length = n) && (List.range n).all fun i => decide ((i : Int) ∈ row)
theorem row_surj : ∀ (n : Nat) (row : List Int), row.length = n → (∀ i : Nat, i < n → (i : Int) ∈ row) → (∀ x ∈ row, 0 ≤ x ∧ x < n) ∧ row.Nodup
  | 0, row, hl, _ => by
    have : row = [] := List.eq_nil_of_length_eq_zero hl
    subst this
    exact ⟨fun x hx => (by cases hx), List.nodup_nil⟩
  | n + 1, row, hl, h => by
    have hn := h n (by omega)
    have hp := List.perm_cons_erase hn
    obtain ⟨h1, h2⟩ := row_surj n (row.erase (n : Int)) (by rw [List.length_erase_of_mem hn]; omega) fun i hi => (List.mem_erase_of_ne (by omega)).2 (h i (by omega))
    refine ⟨fun x hx => ?_, hp.nodup_iff.2 (List.nodup_cons.2 ⟨fun hx => ?_, h2⟩)⟩
    · rcases List.mem_cons.1 (hp.mem_iff.1 hx) with rfl | hx
      · omega
      · have := h1 x hx; omega
    · have := h1 _ hx; omega
theorem row_inj : ∀ (n : Nat) (row : List Int), row.length = n → (∀ x ∈ row, 0 ≤ x ∧ x < n) → row.Nodup → ∀ i : Nat, i < n → (i : Int) ∈ row
  | 0, _, _, _, _, i, hi => by omega
  | n + 1, row, hl, hr, hn, i, hi => by
    by_cases hm : (n : Int) ∈ row
    · by_cases hin : i = n
      · subst hin; exact hm
      · have hp := List.perm_cons_erase hm
        have hnd := List.nodup_cons.1 (hp.nodup_iff.1 hn)
        have hmem : ∀ x ∈ row.erase (n : Int), x ∈ row := fun x hx => List.mem_of_mem_erase hx
        have := row_inj n (row.erase (n : Int)) (by rw [List.length_erase_of_mem hm]; omega) (fun x hx => by
          have h1 := hr x (hmem x hx)
          have h2 : x ≠ n := fun he => hnd.1 (he ▸ hx)
          omega) hnd.2 i (by omega)
        exact hmem _ this
    · exfalso
      cases row with
      | nil => simp at hl
      | cons a r =>
        have hnd := List.nodup_cons.1 hn
        have hr' : ∀ x ∈ a :: r, 0 ≤ x ∧ x < n := fun x hx => by
          have h1 := hr x hx
          have h2 : x ≠ n := fun he => hm (he ▸ hx)
          omega
        have ha := hr' a List.mem_cons_self
        have := row_inj n r (by simpa using hl) (fun x hx => hr' x (List.mem_cons_of_mem _ hx)) hnd.2 a.toNat (by omega)
        rw [Int.toNat_of_nonneg ha.1] at this
        exact hnd.1 this
theorem rowB_iff {row : List Int} {n : Nat} : rowB row n = true ↔ row.length = n ∧ (∀ x ∈ row, 0 ≤ x ∧ x < n) ∧ row.Nodup := by
  simp only [rowB, Bool.and_eq_true, decide_eq_true_eq, List.all_eq_true, List.mem_range]
  constructor
  · rintro ⟨h1, h2⟩
    exact ⟨h1, row_surj n row h1 h2⟩
  · rintro ⟨h1, h2, h3⟩
    exact ⟨h1, row_inj n row h1 h2 h3⟩
theorem sl_take {V : Vw} {b o n : Nat} {l : List Int} {i : Nat} (h : SlR Co.int V (.slice (some ⟨b, o, none⟩) n n) l) (hi : i ≤ l.length) : SlR Co.int V (.slice (some ⟨b, o, none⟩) i i) (l.take i) := by
  obtain ⟨h0, a, hv, h2⟩ := h
  simp only [Value.slice.injEq] at hv
  obtain ⟨rfl, rfl, _⟩ := hv
  have hl : (l.take i).length = i := by rw [List.length_take]; omega
  refine ⟨by omega, _, by rw [hl], ?_⟩
  rcases h2 with h2 | ⟨b', o', hb, h2⟩
  · exact .inl (by rw [h2]; simp)
  · simp only [Option.some.injEq, Addr.mk.injEq, and_true] at hb
    obtain ⟨rfl, rfl⟩ := hb
    refine .inr ⟨b, o, rfl, fun j hj => ?_⟩
    obtain ⟨cs, q1, q2⟩ := h2 j (by omega)
    refine ⟨cs, q1, ?_⟩
    rw [List.getElem_take]
    exact q2
theorem ixInt_ok {F : Nat → Option IFn} {f : Nat} (hf : F f = some c_ixInt) : ∀ (H : Heap) (v : Value) (l : List Int) (x : Int), SlR Co.int (vw 0 H) v l → ∃ r : Int, QC F f [v, .int .i64 x] H (.int .i64 r) ∧ (0 ≤ r ↔ x ∈ l) := by
  intro H v l x hv
  suffices h : ∃ w, QC F f [v, .int .i64 x] H w ∧ ∃ r : Int, w = .int .i64 r ∧ (0 ≤ r ↔ x ∈ l) by
    obtain ⟨w, h1, r, rfl, h2⟩ := h
    exact ⟨r, h1, h2⟩
  obtain ⟨hl0, va, rfl, _⟩ := id hv
  refine QC.mkE hf rfl ?_
  refine seq_reg ?_
  simp only [go_sem, binC]
  refine seq_assoc (seq_reg ?_)
  simp only [go_sem, binC]
  refine seq_block (wpc_loop ?_)
  suffices h : ∀ (k i : Nat) (e : Env), i + k = l.length → e 0 = .slice va l.length l.length → e 1 = .int .i64 x → e 7 = .int .i64 l.length → e 8 = .int .i64 i → x ∉ l.take i → W F H.length _ e H _ from
    h l.length 0 _ (by omega) (by simp only [go_sem, binC]) (by simp only [go_sem, binC]) (by simp only [go_sem, binC]) (by (simp only [go_sem, binC]) <;> rfl) (by simp)
  intro k
  induction k with
  | zero =>
    intro i e hi e0 e1 e7 e8 hn
    refine lp_step ?_
    refine seq_reg ?_
    simp only [go_sem, binC, e7, e8]
    refine seq_cond (t := false) (by simp only [go_sem, binC]; rw [decide_eq_false (by omega)]) ?_
    simp only [go_sem, binC]
    refine seq_exit ?_
    simp only [go_sem, binC, thenX_e, out_e, thenX_n]
    refine seq_reg ?_
    simp only [go_sem, binC]
    rw [List.take_of_length_le (by omega)] at hn
    exact wpc_ret ⟨Or.inr rfl, .int .i64 (-1), (by (simp only [go_sem, binC]) <;> rfl), ⟨-1, rfl, ⟨fun h => by omega, fun h => absurd h hn⟩⟩, rfl⟩
  | succ k ih =>
    intro i e hi e0 e1 e7 e8 hn
    have hil : i < l.length := by omega
    obtain ⟨b, o, hv1, hg⟩ := gcI0 hv hil
    simp only [Value.slice.injEq, and_true] at hv1
    subst hv1
    have hw1 : IntKind.i64.wrap ((i : Int) + 1) = ((i + 1 : Nat) : Int) := by rw [wrap_id (by omega) (by omega)]; omega
    refine lp_step ?_
    refine seq_reg ?_
    simp only [go_sem, binC, e7, e8]
    refine seq_cond (t := true) (by simp only [go_sem, binC]; rw [decide_eq_true (by omega)]) ?_
    simp only [go_sem, binC]
    refine seq_skip (seq_block (seq_reg ?_))
    simp only [go_sem, binC, e8]
    refine seq_reg ?_
    simp only [go_sem, binC, e0, e1]
    refine ⟨⟨by omega, by omega⟩, ?_⟩
    simp only [go_sem, binC, Int.toNat_natCast, Nat.mul_one, hg]
    by_cases hx : x = l[i]
    · refine wpc_cond (t := true) (by simp only [go_sem, binC]; rw [beq_t hx]) ?_
      simp only [go_sem, binC]
      refine seq_reg ?_
      simp only [go_sem, binC]
      refine wpc_ret ?_
      simp only [go_sem, binC, out_r, thenX_r]
      exact ⟨Or.inr rfl, .int .i64 i, (by (simp only [go_sem, binC]) <;> rfl), ⟨i, rfl, ⟨fun _ => hx ▸ List.getElem_mem hil, fun _ => by omega⟩⟩, rfl⟩
    · refine wpc_cond (t := false) (by simp only [go_sem, binC]; rw [beq_f hx]) ?_
      simp only [go_sem, binC]
      refine wpc_skip ?_
      simp only [go_sem, binC, out_n, thenX_n]
      refine wpc_reg ?_
      simp only [go_sem, binC, e8, hw1]
      simp only [go_sem, binC, thenX_n]
      refine ih (i + 1) _ (by omega) (by simp only [go_sem, binC, e0]) (by simp only [go_sem, binC, e1]) (by simp only [go_sem, binC, e7]) (by simp only [go_sem, binC]) ?_
      rw [List.take_add_one, List.getElem?_eq_getElem hil]
      simp only [Option.toList_some, List.mem_append, List.mem_singleton, not_or]
      exact ⟨hn, hx⟩
theorem conInt_ok {F : Nat → Option IFn} {f : Nat} (hf : F f = some c_conInt) (gi : F 101 = some c_ixInt) : ∀ (H : Heap) (v : Value) (l : List Int) (x : Int), SlR Co.int (vw 0 H) v l → QC F f [v, .int .i64 x] H (.bool (decide (x ∈ l))) := by
  intro H v l x hv
  obtain ⟨r, h1, h2⟩ := ixInt_ok gi H v l x hv
  refine QC.mk hf rfl ?_
  refine seq_reg ?_
  simp only [go_sem, binC]
  refine seq_reg ?_
  simp only [go_sem, binC]
  refine op_callQ (by simp only [go_sem, binC]; exact h1) ?_
  simp only [go_sem, binC]
  refine wpc_ret ⟨Or.inr rfl, _, (by (simp only [go_sem, binC]) <;> rfl), ?_, rfl⟩
  refine congrArg _ ?_
  rw [Bool.eq_iff_iff, decide_eq_true_iff, decide_eq_true_iff]
  exact h2
def RowOk (F : Nat → Option IFn) (f : Nat) : Prop := ∀ (H : Heap) (v : Value) (row : List Int) (n : Nat), n ≤ 1000 → SlR Co.int (vw 0 H) v row → QC F f [v, .int .i64 n] H (.bool (rowB row n))
theorem iRow_ok {F : Nat → Option IFn} {f : Nat} (hf : F f = some c_iRow) (gin : ∀ (H : Heap) (a b c : Int), QC F 75 [.int .i64 a, .int .i64 b, .int .i64 c] H (.bool (inB a b c))) (gc : ∀ (H : Heap) (v : Value) (l : List Int) (x : Int), SlR Co.int (vw 0 H) v l → QC F 76 [v, .int .i64 x] H (.bool (decide (x ∈ l)))) : RowOk F f := by
  intro H v row n hn hv
  obtain ⟨hl0, va, rfl, _⟩ := id hv
  refine QC.mk hf rfl ?_
  refine seq_reg ?_
  simp only [go_sem, binC]
  refine seq_assoc (seq_reg ?_)
  simp only [go_sem, binC]
  refine seq_block (wpc_loop ?_)
  suffices h : ∀ (k i : Nat) (e : Env), i + k = row.length → e 0 = .slice va row.length row.length → e 1 = .int .i64 n → e 7 = .slice va row.length row.length → e 8 = .int .i64 row.length → e 9 = .int .i64 i → (∀ x ∈ row.take i, 0 ≤ x ∧ x < n) → (row.take i).Nodup → W F H.length _ e H _ from
    h row.length 0 _ (by omega) (by simp only [go_sem, binC]) (by simp only [go_sem, binC]) (by simp only [go_sem, binC]) (by simp only [go_sem, binC]) (by (simp only [go_sem, binC]) <;> rfl) (fun x hx => by simp at hx) (by simp)
  intro k
  induction k with
  | zero =>
    intro i e hi e0 e1 e7 e8 e9 hr hnd
    refine lp_step ?_
    refine seq_reg ?_
    simp only [go_sem, binC, e8, e9]
    refine seq_cond (t := false) (by simp only [go_sem, binC]; rw [decide_eq_false (by omega)]) ?_
    simp only [go_sem, binC]
    refine seq_exit ?_
    simp only [go_sem, binC, thenX_e, out_e, thenX_n]
    refine seq_reg ?_
    simp only [go_sem, binC, e0, e1]
    rw [List.take_of_length_le (by omega)] at hr hnd
    refine wpc_ret ⟨Or.inr rfl, _, (by (simp only [go_sem, binC]) <;> rfl), ?_, rfl⟩
    refine congrArg _ ?_
    rw [Bool.eq_iff_iff, beq_iff_eq, rowB_iff]
    exact ⟨fun h => ⟨by omega, hr, hnd⟩, fun h => by have := h.1; omega⟩
  | succ k ih =>
    intro i e hi e0 e1 e7 e8 e9 hr hnd
    have hil : i < row.length := by omega
    obtain ⟨b, o, hv1, hg⟩ := gcI0 hv hil
    simp only [Value.slice.injEq, and_true] at hv1
    subst hv1
    have hw1 : IntKind.i64.wrap ((i : Int) + 1) = ((i + 1 : Nat) : Int) := by rw [wrap_id (by omega) (by omega)]; omega
    have hw2 : IntKind.i64.wrap ((n : Int) - 1) = (n : Int) - 1 := wrap_id (by omega) (by omega)
    have hno : ∀ e' : Env, rowB row n = false → e' 4 = .bool false → fin [.t 4] (fun w' _ => w' = .bool (rowB row n) ∧ scal w' = true) .r e' H := fun e' hb h4 => ⟨Or.inr rfl, .bool false, by simp only [resV, res1, h4], by rw [hb], rfl⟩
    have hsub : ∀ e' : Env, e' 21 = .int .i64 i → subV 1 (.slice (some ⟨b, o, none⟩) row.length row.length) e' none (some (.t 21)) = some (.slice (some ⟨b, o, none⟩) i i) := fun e' h21 => by
      have h3 : (0 : Int) ≤ (i : Int) ∧ (i : Int) ≤ row.length := by omega
      simp [subV, subB, Opd.ev, h21, h3]
    refine lp_step ?_
    refine seq_reg ?_
    simp only [go_sem, binC, e8, e9]
    refine seq_cond (t := true) (by simp only [go_sem, binC]; rw [decide_eq_true (by omega)]) ?_
    simp only [go_sem, binC]
    refine seq_skip (seq_block (seq_reg ?_))
    simp only [go_sem, binC, e7, e9]
    refine ⟨⟨by omega, by omega⟩, ?_⟩
    simp only [go_sem, binC, Int.toNat_natCast, Nat.mul_one, hg]
    refine seq_reg ?_
    refine wpo_cut 4 fun Kc hK => ?_
    simp only [List.take_succ_cons, List.take_zero]
    simp only [go_sem, binC, e1, hw2]
    refine op_callB (by simp only [go_sem, binC]; exact gin _ _ _ _) (fun hin => ?_) (fun hin => ?_)
    rotate_left
    · simp only [go_sem, binC]
      refine hK _ _ ?_
      simp only [List.drop_succ_cons, List.drop_zero]
      simp only [go_sem, binC]
      refine wpc_cond (t := true) rfl ?_
      simp only [go_sem, binC]
      refine seq_reg ?_
      simp only [go_sem, binC]
      refine wpc_ret ?_
      simp only [go_sem, binC, out_r, thenX_r]
      refine hno _ ?_ (by simp only [go_sem, binC])
      rw [Bool.eq_false_iff]
      intro hb
      have := (rowB_iff.1 hb).2.1 _ (List.getElem_mem hil)
      rw [inB_iff.2 (by omega)] at hin
      cases hin
    simp only [go_sem, binC]
    refine hK _ _ ?_
    simp only [List.drop_succ_cons, List.drop_zero]
    simp only [go_sem, binC, e0]
    rw [hsub _ (by simp only [go_sem, binC])]
    simp only [go_sem, binC]
    refine op_callB (by simp only [go_sem, binC]; exact gc _ _ _ _ (sl_take hv (by omega))) (fun hc => ?_) (fun hc => ?_)
    · simp only [go_sem, binC]
      refine wpc_cond (t := true) rfl ?_
      simp only [go_sem, binC]
      refine seq_reg ?_
      simp only [go_sem, binC]
      refine wpc_ret ?_
      simp only [go_sem, binC, out_r, thenX_r]
      refine hno _ ?_ (by simp only [go_sem, binC])
      rw [Bool.eq_false_iff]
      intro hb
      have hnd2 := (rowB_iff.1 hb).2.2
      have hm : row[i] ∈ row.take i := of_decide_eq_true hc
      rw [← List.take_append_drop i row, List.drop_eq_getElem_cons hil, List.nodup_append] at hnd2
      exact hnd2.2.2 _ hm _ List.mem_cons_self rfl
    · simp only [go_sem, binC]
      refine wpc_cond (t := false) rfl ?_
      simp only [go_sem, binC]
      refine wpc_skip ?_
      simp only [go_sem, binC, out_n, thenX_n]
      refine wpc_reg ?_
      simp only [go_sem, binC, e9, hw1]
      simp only [go_sem, binC, thenX_n]
      have hm : row[i] ∉ row.take i := of_decide_eq_false hc
      have hin2 := inB_iff.1 hin
      have htk : row.take (i + 1) = row.take i ++ [row[i]] := by rw [List.take_add_one, List.getElem?_eq_getElem hil]; rfl
      refine ih (i + 1) _ (by omega) (by simp only [go_sem, binC, e0]) (by simp only [go_sem, binC, e1]) (by simp only [go_sem, binC, e7]) (by simp only [go_sem, binC, e8]) (by simp only [go_sem, binC]) (fun x hx => ?_) ?_
      · rw [htk, List.mem_append, List.mem_singleton] at hx
        rcases hx with h | rfl
        · exact hr x h
        · omega
      · rw [htk, List.nodup_append]
        refine ⟨hnd, by simp, fun x hx y hy he => ?_⟩
        rw [List.mem_singleton] at hy
        subst hy; subst he
        exact hm hx
theorem sRow_ok {F : Nat → Option IFn} {f : Nat} (hf : F f = some c_sRow) : RowOk F f := by
  intro H v row n hn hv
  obtain ⟨hl0, va, rfl, _⟩ := id hv
  refine QC.mk hf rfl ?_
  refine seq_reg ?_
  simp only [go_sem, binC]
  by_cases hln : row.length = n
  rotate_left
  · have hne : ((row.length : Int) != (n : Int)) = true := by simp; omega
    refine seq_assoc (seq_reg ?_)
    simp only [go_sem, binC, hne]
    refine seq_cond (t := true) rfl ?_
    simp only [go_sem, binC]
    refine seq_assoc (seq_reg ?_)
    simp only [go_sem, binC]
    refine seq_ret ⟨Or.inr rfl, .bool false, by simp only [go_sem, binC], ?_, rfl⟩
    unfold rowB
    rw [decide_eq_false hln]
    rfl
  have hne : ((row.length : Int) != (n : Int)) = false := by simp; omega
  refine seq_assoc (seq_reg ?_)
  simp only [go_sem, binC, hne]
  refine seq_cond (t := false) rfl ?_
  simp only [go_sem, binC]
  refine seq_skip (seq_assoc (seq_reg ?_))
  simp only [go_sem, binC]
  refine seq_block (wpc_loop ?_)
  suffices h : ∀ (k i : Nat) (e : Env), i + k = n → e 0 = .slice va row.length row.length → e 1 = .int .i64 n → e 5 = .int .i64 i → (∀ j : Nat, j < i → (j : Int) ∈ row) → W F H.length _ e H _ from
    h n 0 _ (by omega) (by simp only [go_sem, binC]) (by simp only [go_sem, binC]) (by (simp only [go_sem, binC]) <;> rfl) (fun j hj => by omega)
  intro k
  induction k with
  | zero =>
    intro i e hi e0 e1 e5 hall
    refine lp_step ?_
    refine seq_assoc (seq_reg ?_)
    simp only [go_sem, binC, e1, e5]
    refine seq_cond (t := false) (by simp only [go_sem, binC]; rw [decide_eq_false (by omega)]) ?_
    simp only [go_sem, binC]
    refine seq_exit ?_
    simp only [go_sem, binC, thenX_e, out_e, thenX_n]
    refine seq_reg ?_
    simp only [go_sem, binC]
    refine wpc_ret ⟨Or.inr rfl, .bool true, by simp only [go_sem, binC], ?_, rfl⟩
    have : rowB row n = true := by
      simp only [rowB, Bool.and_eq_true, decide_eq_true_eq, List.all_eq_true, List.mem_range]
      exact ⟨hln, fun j hj => hall j (by omega)⟩
    rw [this]
  | succ k ih =>
    intro i e hi e0 e1 e5 hall
    have hw1 : IntKind.i64.wrap ((i : Int) + 1) = ((i + 1 : Nat) : Int) := by rw [wrap_id (by omega) (by omega)]; omega
    refine lp_step ?_
    refine seq_assoc (seq_reg ?_)
    simp only [go_sem, binC, e1, e5]
    refine seq_cond (t := true) (by simp only [go_sem, binC]; rw [decide_eq_true (by omega)]) ?_
    simp only [go_sem, binC]
    refine seq_skip (seq_block (seq_reg ?_))
    simp only [go_sem, binC]
    refine seq_assoc (seq_reg ?_)
    simp only [go_sem, binC]
    refine seq_block (wpc_loop ?_)
    suffices h : ∀ (k2 j : Nat) (e : Env), j + k2 = n → e 0 = .slice va row.length row.length → e 1 = .int .i64 n → e 5 = .int .i64 i → e 6 = .bool (decide ((i : Int) ∈ row.take j)) → e 7 = .int .i64 j → W F H.length _ e H _ from
      h n 0 _ (by omega) (by simp only [go_sem, binC, e0]) (by simp only [go_sem, binC, e1]) (by simp only [go_sem, binC, e5]) (by (simp only [go_sem, binC]) <;> simp) (by (simp only [go_sem, binC]) <;> rfl)
    intro k2
    induction k2 with
    | zero =>
      intro j e hj e0 e1 e5 e6 e7
      refine lp_step ?_
      refine seq_assoc (seq_reg ?_)
      simp only [go_sem, binC, e1, e7]
      refine seq_cond (t := false) (by simp only [go_sem, binC]; rw [decide_eq_false (by omega)]) ?_
      simp only [go_sem, binC]
      refine seq_exit ?_
      simp only [go_sem, binC, thenX_e, out_e, thenX_n]
      rw [List.take_of_length_le (by omega)] at e6
      refine seq_reg ?_
      simp only [go_sem, binC, e6]
      by_cases hm : (i : Int) ∈ row
      · rw [decide_eq_true hm]
        refine wpc_cond (t := false) (by (simp only [go_sem, binC]) <;> rfl) ?_
        simp only [go_sem, binC]
        refine wpc_skip ?_
        simp only [go_sem, binC, out_n, thenX_n]
        refine wpc_reg ?_
        simp only [go_sem, binC, e5, hw1]
        simp only [go_sem, binC, thenX_n]
        refine ih (i + 1) _ (by omega) (by simp only [go_sem, binC, e0]) (by simp only [go_sem, binC, e1]) (by simp only [go_sem, binC]) fun j' hj' => ?_
        by_cases h : j' = i
        · subst h; exact hm
        · exact hall j' (by omega)
      · rw [decide_eq_false hm]
        refine wpc_cond (t := true) (by (simp only [go_sem, binC]) <;> rfl) ?_
        simp only [go_sem, binC]
        refine seq_reg ?_
        simp only [go_sem, binC]
        refine wpc_ret ?_
        simp only [go_sem, binC, out_r, thenX_r]
        refine ⟨Or.inr rfl, .bool false, by simp only [go_sem, binC], ?_, rfl⟩
        have : rowB row n = false := by
          rw [Bool.eq_false_iff]
          intro hb
          simp only [rowB, Bool.and_eq_true, decide_eq_true_eq, List.all_eq_true, List.mem_range] at hb
          exact hm (hb.2 i (by omega))
        rw [this]
    | succ k2 ih2 =>
      intro j e hj e0 e1 e5 e6 e7
      have hjl : j < row.length := by omega
      obtain ⟨b, o, hv1, hg⟩ := gcI0 hv hjl
      simp only [Value.slice.injEq, and_true] at hv1
      subst hv1
      have hw2 : IntKind.i64.wrap ((j : Int) + 1) = ((j + 1 : Nat) : Int) := by rw [wrap_id (by omega) (by omega)]; omega
      have htk : ∀ h : Bool, h = decide ((i : Int) ∈ row.take j) → (h || (row[j] == (i : Int))) = decide ((i : Int) ∈ row.take (j + 1)) := fun h hh => by
        rw [hh, List.take_add_one, List.getElem?_eq_getElem hjl, Bool.eq_iff_iff, Bool.or_eq_true, decide_eq_true_iff, decide_eq_true_iff, beq_iff_eq]
        simp only [Option.toList_some, List.mem_append, List.mem_singleton]
        exact or_congr Iff.rfl ⟨fun h => h.symm, fun h => h.symm⟩
      refine lp_step ?_
      refine seq_assoc (seq_reg ?_)
      simp only [go_sem, binC, e1, e7]
      refine seq_cond (t := true) (by simp only [go_sem, binC]; rw [decide_eq_true (by omega)]) ?_
      simp only [go_sem, binC]
      refine seq_skip (seq_block (wpc_reg ?_))
      cases hm : decide ((i : Int) ∈ row.take j) with
      | true =>
        rw [hm] at e6
        have h1 := htk true hm.symm
        rw [Bool.true_or] at h1
        simp only [go_sem, binC, e6]
        simp only [go_sem, binC, out_n, thenX_n]
        refine wpc_reg ?_
        simp only [go_sem, binC, e7, hw2]
        simp only [go_sem, binC, thenX_n]
        exact ih2 (j + 1) _ (by omega) (by simp only [go_sem, binC, e0]) (by simp only [go_sem, binC, e1]) (by simp only [go_sem, binC, e5]) (by rw [← h1]; simp only [go_sem, binC]) (by simp only [go_sem, binC])
      | false =>
        rw [hm] at e6
        have h1 := htk false hm.symm
        rw [Bool.false_or] at h1
        simp only [go_sem, binC, e6, e0, e7]
        refine ⟨⟨by omega, by omega⟩, ?_⟩
        simp only [go_sem, binC, Int.toNat_natCast, Nat.mul_one, hg, e5]
        simp only [go_sem, binC, out_n, thenX_n]
        refine wpc_reg ?_
        simp only [go_sem, binC, e7, hw2]
        simp only [go_sem, binC, thenX_n]
        exact ih2 (j + 1) _ (by omega) (by simp only [go_sem, binC, e0]) (by simp only [go_sem, binC, e1]) (by simp only [go_sem, binC, e5]) (by rw [← h1]; simp only [go_sem, binC]) (by simp only [go_sem, binC])
end Go.Proofs.YtmakdcbpohlacaaI
end
section
/- Variables named otherwise: what is called on each step; a program copied. -/
set_option linter.unusedVariables false
set_option linter.unusedSimpArgs false
namespace Go.Proofs.YtmakdcbpohlacaaI
open Go Go.RowKit
def c_pclone : IFn := ⟨1, 10, [.cell true 2 2],
 .seq (.reg none [
    ⟨(some 1), none, .box (.t 0)⟩,
    ⟨(some 2), none, .new [(.slice none 0 0), (.slice none 0 0)]⟩])
 (.seq (.reg (some 5) [
    ⟨(some 3), none, .fad 0 (.t 1)⟩,
    ⟨(some 4), none, .load false 1 (.t 3)⟩,
    ⟨(some 5), none, .app 2 59 16 false (.c (.slice none 0 0)) (.t 4)⟩,
    ⟨(some 6), none, .fad 1 (.t 1)⟩,
    ⟨(some 7), none, .load false 1 (.t 6)⟩,
    ⟨(some 8), none, .call .k (.f 77) [(.t 7)]⟩,
    ⟨(some 9), none, .build [(.slice none 0 0), (.slice none 0 0)] [(0, 1, (.t 5)), (1, 1, (.t 8))]⟩,
    ⟨none, none, .store 2 (.t 2) (.t 9)⟩])
 (.ret))⟩
/-- A step as it stands in a program that is ok. -/
def okS (k : Nat) (s : Shal) : Prop := varB k s.2.1 = true ∧ (valB k s.2.2.1 = true ∨ s.2.2.1 = (0, 0, 0)) ∧ (s.1 = 1 → valB k s.2.2.1 = true) ∧ (s.1 ≠ 1 → s.2.2.1 = (0, 0, 0)) ∧ (s.1 = 3 → 0 ≤ s.2.2.2 ∧ s.2.2.2 ≤ 2)
theorem stepB_okS (k : Nat) : ∀ (n : Nat) (d : Int) (s : TStep n), stepB k n d s = true → ∀ t ∈ allT n s, okS k t
  | 0, _, s, _ => s.elim
  | n + 1, d, (kd, vr, v, ho, th, el), h => by
    intro t ht
    rw [allT_succ, List.mem_cons, List.mem_append] at ht
    have h0 := h
    simp only [stepB, Bool.and_eq_true, decide_eq_true_eq] at h
    obtain ⟨⟨h1, hv⟩, h⟩ := h
    have hnil : ((th.length : Int) + el.length = 0) → t ∈ allL n th ∨ t ∈ allL n el → False := fun h0 hm => by
      obtain rfl : th = [] := List.eq_nil_of_length_eq_zero (by omega)
      obtain rfl : el = [] := List.eq_nil_of_length_eq_zero (by omega)
      simp [allL] at hm
    have go : ∀ l : List (TStep n), l.all (stepB k n (d - 1)) = true → t ∈ allL n l → okS k t := fun l hl hm => by
      unfold allL at hm
      rw [List.mem_flatten] at hm
      obtain ⟨ts, h3, h4⟩ := hm
      obtain ⟨a, h5, rfl⟩ := List.mem_map.1 h3
      exact stepB_okS k n (d - 1) a (List.all_eq_true.1 hl a h5) t h4
    by_cases k1 : kd = 1
    · rw [if_pos k1] at h
      simp only [Bool.and_eq_true, decide_eq_true_eq] at h
      rcases ht with rfl | ht
      · exact ⟨hv, .inl h.1.1, fun _ => h.1.1, fun hh => absurd k1 hh, fun hh => by simp only at hh; omega⟩
      · exact (hnil h.2 ht).elim
    rw [if_neg k1] at h
    by_cases k3 : kd = 3
    · rw [if_pos k3] at h
      simp only [Bool.and_eq_true, decide_eq_true_eq, inB_iff] at h
      rcases ht with rfl | ht
      · exact ⟨hv, .inr h.1.1, fun hh => absurd hh k1, fun _ => h.1.1, fun _ => h.1.2⟩
      · exact (hnil h.2 ht).elim
    rw [if_neg k3] at h
    by_cases k2 : kd = 2
    · rw [if_pos k2] at h
      simp only [Bool.and_eq_true, decide_eq_true_eq] at h
      rcases ht with rfl | ht | ht
      · exact ⟨hv, .inr h.1.1.1, fun hh => absurd hh k1, fun _ => h.1.1.1, fun hh => absurd hh k3⟩
      · exact go th h.1.2 ht
      · exact go el h.2 ht
    · rw [if_neg k2] at h; cases h
theorem progB_okS {n : Nat} {ls : List (Int × Int)} {l : List (TStep n)} (h : progB n (ls, l) = true) : ∀ t ∈ allL n l, okS ls.length t := by
  simp only [progB, Bool.and_eq_true, decide_eq_true_eq, List.all_eq_true] at h
  intro t ht
  unfold allL at ht
  rw [List.mem_flatten] at ht
  obtain ⟨ts, h3, h4⟩ := ht
  obtain ⟨a, h5, rfl⟩ := List.mem_map.1 h3
  exact stepB_okS _ n 3 a (h.1.2 a h5) t h4
def nameO (row : List Int) (x : Int) : Int := row.getD x.toNat 0
theorem set8 {cs l8 : List Value} {o j : Nat} {v : Value} (hl : l8.length = 8) (h : (cs.drop o).take 8 = l8) (ho : o + 8 ≤ cs.length) (hj : j < 8) : cs.set (o + j) v = setL cs o (l8.set j v) := by
  refine List.ext_getElem? fun m => ?_
  have hr := setL_get (l8.set j v) cs o m (by rw [List.length_set, hl]; exact ho)
  rw [hr, List.length_set, hl]
  by_cases hm : o ≤ m ∧ m < o + 8
  · rw [if_pos hm]
    obtain ⟨q, rfl⟩ : ∃ q, m = o + q := ⟨m - o, by omega⟩
    rw [Nat.add_sub_cancel_left]
    by_cases hjq : j = q
    · subst hjq
      rw [List.getElem?_set_self (by omega), List.getElem?_set_self (by omega)]
    · rw [List.getElem?_set_ne (by omega), List.getElem?_set_ne hjq, ← h, List.getElem?_take, if_pos (by omega), List.getElem?_drop]
  · rw [if_neg hm, List.getElem?_set_ne (by omega)]
theorem gc_k {H : Heap} {b es et o j : Nat} {ap so : Bool} {cs a : List Value} {v : Value} (hb : H[b]? = some ⟨cs, es, et, ap, so⟩) (ho : o + 8 ≤ cs.length) (h : (cs.drop o).take 8 = a) (hv : a[j]? = some v) (hj : j < 8) : getCells H b (o + j) 1 = some [v] := by
  unfold getCells
  rw [hb]
  simp only
  rw [if_pos (by omega)]
  congr 1
  have h2 : cs[o + j]? = some v := by
    rw [← h, List.getElem?_take, if_pos hj, List.getElem?_drop] at hv
    exact hv
  have h3 := (List.getElem?_eq_some_iff.1 h2)
  rw [List.drop_eq_getElem_cons h3.1, List.take_succ_cons, List.take_zero, h3.2]
end Go.Proofs.YtmakdcbpohlacaaI
end
