/- Texts of this proof, merged: W4, U5, J1, J2, J3, N1, N2, N3, N4, N5, N6, N7, N8, U1, U4, U6, U7, U8, H10, U10, U11, U9, U12, U13, W5, W6, W7. -/
import Derived.Test.YtkmghcglmjehcaaPi9
import Derived.Test.YtkmghcglmjehcaaPi10
section
/- What is told, what is set, who may know what (the reference's); what differs. -/
set_option linter.unusedVariables false
set_option linter.unusedSimpArgs false
namespace Go.Proofs.YtkmghcglmjehcaaI
open Go Go.RowKit
def c_sRunTo : IFn := ⟨2, 33, [.t 4],
 .seq (.reg none [
    ⟨(some 2), none, .box (.t 0)⟩,
    ⟨(some 4), none, .mov (.c (.slice none 0 0))⟩])
 (.seq (.reg none [
    ⟨(some 7), none, .lit 1 3 0 [] []⟩,
    ⟨(some 5), none, .mov (.t 7)⟩])
 (.seq (.seq (.reg none [
     ⟨(some 6), none, .mov (.c (.int .i64 0))⟩])
  (.block 0 (.loop (.seq (.seq (.reg none [
        ⟨(some 8), none, .mov (.t 6)⟩,
        ⟨(some 9), none, .fad 2 (.t 2)⟩,
        ⟨(some 10), none, .load false 1 (.t 9)⟩,
        ⟨(some 11), none, .len (.t 10)⟩,
        ⟨(some 12), none, .bin .lss (.t 8) (.t 11)⟩])
     (.cond (.t 12) (.skip) (.exit 0)))
    (.seq (.block 1 (.seq (.reg none [
         ⟨(some 15), none, .fad 2 (.t 2)⟩,
         ⟨(some 16), none, .load false 1 (.t 15)⟩,
         ⟨(some 17), none, .mov (.t 6)⟩,
         ⟨(some 18), none, .iad 2 (.t 16) (.t 17)⟩,
         ⟨(some 19), none, .fad 0 (.t 18)⟩,
         ⟨(some 20), none, .load false 1 (.t 19)⟩,
         ⟨(some 21), none, .mov (.t 1)⟩,
         ⟨(some 22), none, .bin .eql (.t 20) (.t 21)⟩])
      (.cond (.t 22) (.reg none [
         ⟨(some 23), none, .mov (.t 5)⟩,
         ⟨(some 24), none, .fad 2 (.t 2)⟩,
         ⟨(some 25), none, .load false 1 (.t 24)⟩,
         ⟨(some 26), none, .mov (.t 6)⟩,
         ⟨(some 27), none, .iad 2 (.t 25) (.t 26)⟩,
         ⟨(some 28), none, .fad 1 (.t 27)⟩,
         ⟨(some 29), none, .load false 1 (.t 28)⟩,
         ⟨(some 30), none, .lit 1 3 1 [(.int .i64 0)] [(0, 1, (.t 29))]⟩,
         ⟨(some 31), none, .app 1 3 8 false (.t 23) (.t 30)⟩,
         ⟨(some 5), none, .mov (.t 31)⟩]) (.skip))))
    (.reg none [
      ⟨(some 13), none, .mov (.t 6)⟩,
      ⟨(some 14), none, .bin .add (.t 13) (.c (.int .i64 1))⟩,
      ⟨(some 6), none, .mov (.t 14)⟩]))))))
 (.seq (.reg none [
    ⟨(some 32), none, .mov (.t 5)⟩,
    ⟨(some 4), none, .mov (.t 32)⟩])
 (.ret))))⟩
def c_sRunSets : IFn := ⟨2, 42, [.t 4],
 .seq (.reg none [
    ⟨(some 2), none, .box (.t 0)⟩,
    ⟨(some 4), none, .mov (.c (.slice none 0 0))⟩])
 (.seq (.reg none [
    ⟨(some 8), none, .lit 2 113 0 [] []⟩,
    ⟨(some 5), none, .mov (.t 8)⟩])
 (.seq (.seq (.reg none [
     ⟨(some 6), none, .mov (.c (.int .i64 0))⟩])
  (.block 0 (.loop (.seq (.seq (.reg none [
        ⟨(some 9), none, .mov (.t 6)⟩,
        ⟨(some 10), none, .fad 1 (.t 2)⟩,
        ⟨(some 11), none, .load false 1 (.t 10)⟩,
        ⟨(some 12), none, .len (.t 11)⟩,
        ⟨(some 13), none, .bin .lss (.t 9) (.t 12)⟩])
     (.cond (.t 13) (.skip) (.exit 0)))
    (.seq (.block 1 (.seq (.reg none [
         ⟨(some 16), none, .fad 1 (.t 2)⟩,
         ⟨(some 17), none, .load false 1 (.t 16)⟩,
         ⟨(some 18), none, .mov (.t 6)⟩,
         ⟨(some 19), none, .iad 2 (.t 17) (.t 18)⟩,
         ⟨(some 20), none, .fad 0 (.t 19)⟩,
         ⟨(some 21), none, .load false 1 (.t 20)⟩,
         ⟨(some 7), none, .mov (.t 21)⟩])
      (.seq (.reg none [
         ⟨(some 22), none, .mov (.t 7)⟩,
         ⟨(some 23), none, .mov (.t 1)⟩,
         ⟨(some 24), none, .len (.t 23)⟩,
         ⟨(some 25), none, .bin .sub (.t 24) (.c (.int .i64 1))⟩,
         ⟨(some 26), none, .call .q (.f 86) [(.t 22), (.c (.int .i64 0)), (.t 25)]⟩,
         ⟨(some 27), none, .mov (.t 26)⟩,
         ⟨(some 28), (some (27, true)), .mov (.t 1)⟩,
         ⟨(some 29), (some (27, true)), .mov (.t 7)⟩,
         ⟨(some 30), (some (27, true)), .iad 1 (.t 28) (.t 29)⟩,
         ⟨(some 31), (some (27, true)), .load false 1 (.t 30)⟩,
         ⟨(some 32), none, .pick (.t 27) (.t 31) (.c (.bool false))⟩])
      (.cond (.t 32) (.reg none [
         ⟨(some 33), none, .mov (.t 5)⟩,
         ⟨(some 34), none, .fad 1 (.t 2)⟩,
         ⟨(some 35), none, .load false 1 (.t 34)⟩,
         ⟨(some 36), none, .mov (.t 6)⟩,
         ⟨(some 37), none, .iad 2 (.t 35) (.t 36)⟩,
         ⟨(some 38), none, .load true 2 (.t 37)⟩,
         ⟨(some 39), none, .lit 2 113 1 [(.int .i64 0), (.int .i64 0)] [(0, 2, (.t 38))]⟩,
         ⟨(some 40), none, .app 2 113 16 false (.t 33) (.t 39)⟩,
         ⟨(some 5), none, .mov (.t 40)⟩]) (.skip)))))
    (.reg none [
      ⟨(some 14), none, .mov (.t 6)⟩,
      ⟨(some 15), none, .bin .add (.t 14) (.c (.int .i64 1))⟩,
      ⟨(some 6), none, .mov (.t 15)⟩]))))))
 (.seq (.reg none [
    ⟨(some 41), none, .mov (.t 5)⟩,
    ⟨(some 4), none, .mov (.t 41)⟩])
 (.ret))))⟩
def c_sKnows : IFn := ⟨2, 31, [.t 4],
 .seq (.reg none [
    ⟨(some 2), none, .box (.t 0)⟩,
    ⟨(some 4), none, .mov (.c (.slice none 0 0))⟩])
 (.seq (.reg none [
    ⟨(some 7), none, .lit 1 4 0 [] []⟩,
    ⟨(some 5), none, .mov (.t 7)⟩])
 (.seq (.seq (.reg none [
     ⟨(some 6), none, .mov (.c (.int .i64 0))⟩])
  (.block 0 (.loop (.seq (.seq (.reg none [
        ⟨(some 8), none, .mov (.t 6)⟩,
        ⟨(some 9), none, .fad 0 (.t 2)⟩,
        ⟨(some 10), none, .load false 1 (.t 9)⟩,
        ⟨(some 11), none, .len (.t 10)⟩,
        ⟨(some 12), none, .bin .lss (.t 8) (.t 11)⟩,
        ⟨(some 13), none, .mov (.t 12)⟩,
        ⟨(some 14), (some (13, true)), .load true 2 (.t 2)⟩,
        ⟨(some 15), (some (13, true)), .call .q (.f 19) [(.t 14)]⟩,
        ⟨(some 16), none, .pick (.t 13) (.t 15) (.c (.bool false))⟩])
     (.cond (.t 16) (.skip) (.exit 0)))
    (.seq (.block 1 (.reg none [
        ⟨(some 19), none, .mov (.t 5)⟩,
        ⟨(some 20), none, .fad 0 (.t 2)⟩,
        ⟨(some 21), none, .load false 1 (.t 20)⟩,
        ⟨(some 22), none, .mov (.t 6)⟩,
        ⟨(some 23), none, .iad 2 (.t 21) (.t 22)⟩,
        ⟨(some 24), none, .fad 0 (.t 23)⟩,
        ⟨(some 25), none, .load false 1 (.t 24)⟩,
        ⟨(some 26), none, .mov (.t 1)⟩,
        ⟨(some 27), none, .call .q (.f 135) [(.t 25), (.t 26)]⟩,
        ⟨(some 28), none, .lit 1 4 1 [(.bool false)] [(0, 1, (.t 27))]⟩,
        ⟨(some 29), none, .app 1 4 1 false (.t 19) (.t 28)⟩,
        ⟨(some 5), none, .mov (.t 29)⟩]))
    (.reg none [
      ⟨(some 17), none, .mov (.t 6)⟩,
      ⟨(some 18), none, .bin .add (.t 17) (.c (.int .i64 1))⟩,
      ⟨(some 6), none, .mov (.t 18)⟩]))))))
 (.seq (.reg none [
    ⟨(some 30), none, .mov (.t 5)⟩,
    ⟨(some 4), none, .mov (.t 30)⟩])
 (.ret))))⟩
def c_eqI : IFn := ⟨2, 26, [.t 4],
 .seq (.reg none [
    ⟨(some 4), none, .mov (.c (.bool false))⟩])
 (.seq (.seq (.reg none [
     ⟨(some 6), none, .mov (.t 0)⟩,
     ⟨(some 7), none, .len (.t 6)⟩,
     ⟨(some 8), none, .mov (.t 1)⟩,
     ⟨(some 9), none, .len (.t 8)⟩,
     ⟨(some 10), none, .bin .neq (.t 7) (.t 9)⟩])
  (.cond (.t 10) (.seq (.reg none [
      ⟨(some 4), none, .mov (.c (.bool false))⟩])
   (.ret)) (.skip)))
 (.seq (.seq (.reg none [
     ⟨(some 11), none, .mov (.t 0)⟩,
     ⟨(some 12), none, .len (.t 11)⟩,
     ⟨(some 13), none, .mov (.c (.int .i64 0))⟩])
  (.block 0 (.loop (.seq (.reg none [
       ⟨(some 14), none, .bin .lss (.t 13) (.t 12)⟩])
    (.seq (.cond (.t 14) (.skip) (.exit 0))
    (.seq (.block 1 (.seq (.reg none [
         ⟨(some 15), none, .mov (.t 13)⟩,
         ⟨(some 5), none, .mov (.t 15)⟩])
      (.seq (.reg (some 8) [
         ⟨(some 16), none, .mov (.t 0)⟩,
         ⟨(some 17), none, .mov (.t 5)⟩,
         ⟨(some 18), none, .iad 1 (.t 16) (.t 17)⟩,
         ⟨(some 19), none, .load false 1 (.t 18)⟩,
         ⟨(some 20), none, .mov (.t 1)⟩,
         ⟨(some 21), none, .mov (.t 5)⟩,
         ⟨(some 22), none, .iad 1 (.t 20) (.t 21)⟩,
         ⟨(some 23), none, .load false 1 (.t 22)⟩,
         ⟨(some 24), none, .bin .neq (.t 19) (.t 23)⟩])
      (.cond (.t 24) (.seq (.reg none [
          ⟨(some 4), none, .mov (.c (.bool false))⟩])
       (.ret)) (.skip)))))
    (.reg none [
      ⟨(some 25), none, .bin .add (.t 13) (.c (.int .i64 1))⟩,
      ⟨(some 13), none, .mov (.t 25)⟩])))))))
 (.seq (.reg none [
    ⟨(some 4), none, .mov (.c (.bool true))⟩])
 (.ret))))⟩
def c_leak1 : IFn := ⟨3, 14, [.t 5],
 .seq (.reg none [
    ⟨(some 3), none, .box (.t 0)⟩,
    ⟨(some 4), none, .box (.t 1)⟩,
    ⟨(some 5), none, .mov (.c (.bool false))⟩])
 (.seq (.reg (some 5) [
    ⟨(some 6), none, .load true 3 (.t 3)⟩,
    ⟨(some 7), none, .load false 1 (.t 2)⟩,
    ⟨(some 8), none, .call .k (.f 42) [(.t 6), (.t 7)]⟩,
    ⟨(some 9), none, .load true 3 (.t 4)⟩,
    ⟨(some 10), none, .load false 1 (.t 2)⟩,
    ⟨(some 11), none, .call .k (.f 42) [(.t 9), (.t 10)]⟩,
    ⟨(some 12), none, .call .q (.f 92) [(.t 8), (.t 11)]⟩,
    ⟨(some 13), none, .un .not (.t 12)⟩,
    ⟨(some 5), none, .mov (.t 13)⟩])
 (.ret))⟩
theorem sRunTo_ok {F : Nat → Option IFn} {f : Nat} (hf : F f = some c_sRunTo) : ToldOk F f := by
  intro H nv wv sv r h on ow hs hl hrg
  suffices hh : ∃ z H', KC F f [.agg #[nv, wv, sv], .int .i64 h] H z H' ∧ (AgX [] H H' ∧ SlR Co.int (vw 0 H') z (toldL h r.2.2)) from hh
  obtain ⟨_, sa, rfl, _⟩ := id hs
  generalize r.2.2 = ss at hs hl hrg
  refine KC.mk hf rfl ?_
  refine seq_reg ?_
  simp only [go_sem, binC, on, ow]
  refine wpc_gen fun H1 hH1 => ?_
  have hx1 : AgX [] H H1 := hH1 ▸ AgX.app [] _ _
  have hb : H1[H.length]? = some ⟨[nv, wv, .slice sa ss.length ss.length], 0, 0, false, true⟩ := hH1 ▸ get_new0 _ _
  clear hH1
  have hl1 := hx1.1
  have hlt : ∀ l : List (Int × Int), (toldL h l).length ≤ l.length := fun l => by unfold toldL; rw [List.length_map]; exact List.length_filter_le _ _
  refine seq_reg ?_
  simp only [go_sem, binC]
  refine wpc_gen fun H2 hH2 => ?_
  have hx2 : AgX [] H1 H2 := hH2 ▸ AgX.app [] _ _
  have ho2 : FlO fi 1 3 H1.length H2 (sli H1.length 0 0) [] := hH2 ▸ FlO.nil (Nat.le_refl _)
  clear hH2
  refine seq_assoc (seq_reg ?_)
  simp only [go_sem, binC]
  refine seq_block (wpc_loop ?_)
  suffices hh : ∀ (k i : Nat) (e : Env) (Hc : Heap) (v5 : Value), i + k = ss.length → AgX [] H1 Hc → FlO fi 1 3 H1.length Hc v5 (toldL h (ss.take i)) → e 1 = .int .i64 h → e 2 = ptr H.length 0 → e 5 = v5 → e 6 = .int .i64 i → W F H.length _ e Hc _ from
    hh ss.length 0 _ H2 _ (by omega) hx2 ho2 (by simp only [go_sem, binC]) (by simp only [go_sem, binC]) (by (simp only [go_sem, binC]) <;> rfl) (by (simp only [go_sem, binC]) <;> rfl)
  intro k
  induction k with
  | zero =>
    intro i e Hc v5 hi hxc q e1 e2 e5 e6
    have hbc := hxc.get hb (by simp)
    refine lp_step ?_
    refine seq_assoc (seq_reg ?_)
    simp only [go_sem, binC, e2, e6, gc_of hbc, inBlk_some]
    refine seq_cond (t := false) (by simp only [go_sem, binC]; rw [decide_eq_false (by omega)]) ?_
    simp only [go_sem, binC]
    refine seq_exit ?_
    simp only [go_sem, binC, thenX_e, out_e, thenX_n]
    refine seq_reg ?_
    simp only [go_sem, binC, e5]
    rw [List.take_of_length_le (by omega)] at q
    obtain ⟨a, rfl⟩ := q.shape
    refine wpc_ret ⟨Or.inr rfl, _, (by (simp only [go_sem, binC]) <;> rfl), hx1.tr hxc, q.slI (fun x hx => ?_) (Nat.le_trans (hlt _) hl)⟩
    unfold toldL at hx
    obtain ⟨w, hw, rfl⟩ := List.mem_map.1 hx
    exact (hrg w (List.mem_filter.1 hw).1).2
  | succ k ih =>
    intro i e Hc v5 hi hxc q e1 e2 e5 e6
    have hil : i < ss.length := by omega
    have hbc := hxc.get hb (by simp)
    obtain ⟨b, o, hv1, hg⟩ := gcP (hs.mono (agx_sub (hx1.tr hxc))) hil
    simp only [Value.slice.injEq, and_true] at hv1
    subst hv1
    have hg0 : getCells Hc b (o + i * 2) 1 = some [.int .i64 ss[i].1] := gc_part (off := 0) (k := 1) hg (by omega)
    have hg1 : getCells Hc b (o + i * 2 + 1) 1 = some [.int .i64 ss[i].2] := gc_part (off := 1) (k := 1) hg (by omega)
    have hw1 : IntKind.i64.wrap ((i : Int) + 1) = ((i + 1 : Nat) : Int) := by rw [wrap_id (by omega) (by omega)]; omega
    have htk : toldL h (ss.take (i + 1)) = toldL h (ss.take i) ++ (if ss[i].1 = h then [ss[i].2] else []) := by
      unfold toldL
      rw [List.take_add_one, List.getElem?_eq_getElem hil, List.filter_append, List.map_append]
      congr 1
      by_cases hh : ss[i].1 = h <;> simp [hh]
    have hlc := hxc.1
    refine lp_step ?_
    refine seq_assoc (seq_reg ?_)
    simp only [go_sem, binC, e2, e6, gc_of hbc, inBlk_some]
    refine seq_cond (t := true) (by simp only [go_sem, binC]; rw [decide_eq_true (by omega)]) ?_
    simp only [go_sem, binC]
    refine seq_skip (seq_block (seq_reg ?_))
    simp only [go_sem, binC, e1, e2, e6, gc_of hbc, inBlk_some]
    refine ⟨⟨by omega, by omega⟩, ?_⟩
    simp only [go_sem, binC, Int.toNat_natCast, hg0]
    by_cases he : ss[i].1 = h
    · rw [if_pos he] at htk
      simp only [go_sem, binC, beq_t he]
      refine wpc_cond (t := true) (by first | rfl | (simp only [go_sem, binC]; rw [beq_t he])) ?_
      simp only [go_sem, binC]
      refine wpc_reg ?_
      simp only [go_sem, binC, e5, e2, e6, gc_of hbc, inBlk_some]
      refine ⟨⟨by omega, by omega⟩, ?_⟩
      simp only [go_sem, binC, Int.toNat_natCast, hg1]
      have hblk := fun b (hb : b ∈ blkOf v5) => (q.blk hb).1
      refine op_app_FO (fl := fi) (a := ss[i].2) (lo := H1.length) (fun _ => rfl) q (by simp only [go_sem, binC, e5]) (by (simp only [go_sem, binC]) <;> rfl) hl1 (by omega) (by have := hlt (ss.take i); rw [List.length_take] at this; omega) (by omega) fun H3 w3 hx3 q3 => ?_
      rw [← htk] at q3
      simp only [go_sem, binC, out_n, thenX_n]
      refine wpc_reg ?_
      simp only [go_sem, binC, e6, hw1]
      simp only [go_sem, binC, thenX_n]
      exact ih (i + 1) _ H3 w3 (by omega) (hxc.trans hx3 (fun _ h _ => h) (fun b h1 h2 => by have := hblk b h1; omega)) q3 (by simp only [go_sem, binC, e1]) (by simp only [go_sem, binC, e2]) (by simp only [go_sem, binC]) (by simp only [go_sem, binC])
    · rw [if_neg he, List.append_nil] at htk
      simp only [go_sem, binC, beq_f he]
      refine wpc_cond (t := false) (by first | rfl | (simp only [go_sem, binC]; rw [beq_f he])) ?_
      simp only [go_sem, binC]
      refine wpc_skip ?_
      simp only [go_sem, binC, out_n, thenX_n]
      refine wpc_reg ?_
      simp only [go_sem, binC, e6, hw1]
      simp only [go_sem, binC, thenX_n]
      exact ih (i + 1) _ Hc v5 (by omega) hxc (by rw [htk]; exact q) (by simp only [go_sem, binC, e1]) (by simp only [go_sem, binC, e2]) (by simp only [go_sem, binC, e5]) (by simp only [go_sem, binC])
theorem sRunSets_ok {F : Nat → Option IFn} {f : Nat} (hf : F f = some c_sRunSets) (gi : ∀ (H : Heap) (a b c : Int), QC F 86 [.int .i64 a, .int .i64 b, .int .i64 c] H (.bool (inB a b c))) : SetsOk F f := by
  intro H nv wv sv u r vs on hw os hu hl hrg
  suffices hh : ∃ z H', KC F f [.agg #[nv, wv, sv], u] H z H' ∧ (AgX [] H H' ∧ SlR Co.p2 (vw 0 H') z (r.2.1.filter (seenW vs))) from hh
  obtain ⟨_, wa, rfl, _⟩ := id hw
  obtain ⟨hul, ua, rfl, _⟩ := id hu
  generalize r.2.1 = ws at hw hl hrg
  refine KC.mk hf rfl ?_
  refine seq_reg ?_
  simp only [go_sem, binC, on, os]
  refine wpc_gen fun H1 hH1 => ?_
  have hx1 : AgX [] H H1 := hH1 ▸ AgX.app [] _ _
  have hb : H1[H.length]? = some ⟨[nv, .slice wa ws.length ws.length, sv], 0, 0, false, true⟩ := hH1 ▸ get_new0 _ _
  clear hH1
  have hl1 := hx1.1
  refine seq_reg ?_
  simp only [go_sem, binC]
  refine wpc_gen fun H2 hH2 => ?_
  have hx2 : AgX [] H1 H2 := hH2 ▸ AgX.app [] _ _
  have ho2 : FlO fp 2 113 H1.length H2 (sli H1.length 0 0) [] := hH2 ▸ FlO.nil (Nat.le_refl _)
  clear hH2
  refine seq_assoc (seq_reg ?_)
  simp only [go_sem, binC]
  refine seq_block (wpc_loop ?_)
  suffices hh : ∀ (k i : Nat) (e : Env) (Hc : Heap) (v5 : Value), i + k = ws.length → AgX [] H1 Hc → FlO fp 2 113 H1.length Hc v5 ((ws.take i).filter (seenW vs)) → e 1 = .slice ua vs.length vs.length → e 2 = ptr H.length 0 → e 5 = v5 → e 6 = .int .i64 i → W F H.length _ e Hc _ from
    hh ws.length 0 _ H2 _ (by omega) hx2 ho2 (by simp only [go_sem, binC]) (by simp only [go_sem, binC]) (by (simp only [go_sem, binC]) <;> rfl) (by (simp only [go_sem, binC]) <;> rfl)
  intro k
  induction k with
  | zero =>
    intro i e Hc v5 hi hxc q e1 e2 e5 e6
    have hbc := hxc.get hb (by simp)
    refine lp_step ?_
    refine seq_assoc (seq_reg ?_)
    simp only [go_sem, binC, e2, e6, gc_of hbc, inBlk_some]
    refine seq_cond (t := false) (by simp only [go_sem, binC]; rw [decide_eq_false (by omega)]) ?_
    simp only [go_sem, binC]
    refine seq_exit ?_
    simp only [go_sem, binC, thenX_e, out_e, thenX_n]
    refine seq_reg ?_
    simp only [go_sem, binC, e5]
    rw [List.take_of_length_le (by omega)] at q
    obtain ⟨a, rfl⟩ := q.shape
    exact wpc_ret ⟨Or.inr rfl, _, (by (simp only [go_sem, binC]) <;> rfl), hx1.tr hxc, q.slP (fun p hp => hrg p (List.mem_filter.1 hp).1) (Nat.le_trans (List.length_filter_le _ _) hl)⟩
  | succ k ih =>
    intro i e Hc v5 hi hxc q e1 e2 e5 e6
    have hil : i < ws.length := by omega
    have hbc := hxc.get hb (by simp)
    obtain ⟨b, o, hv1, hg⟩ := gcP (hw.mono (agx_sub (hx1.tr hxc))) hil
    simp only [Value.slice.injEq, and_true] at hv1
    subst hv1
    have hg0 : getCells Hc b (o + i * 2) 1 = some [.int .i64 ws[i].1] := gc_part (off := 0) (k := 1) hg (by omega)
    have hw1 : IntKind.i64.wrap ((i : Int) + 1) = ((i + 1 : Nat) : Int) := by rw [wrap_id (by omega) (by omega)]; omega
    have htk : (ws.take (i + 1)).filter (seenW vs) = (ws.take i).filter (seenW vs) ++ (if seenW vs ws[i] = true then [ws[i]] else []) := by
      rw [List.take_add_one, List.getElem?_eq_getElem hil, List.filter_append]
      congr 1
      by_cases hs : seenW vs ws[i] = true <;> simp [hs]
    have hlc := hxc.1
    have hw2 : IntKind.i64.wrap ((vs.length : Int) - 1) = (vs.length : Int) - 1 := wrap_id (by omega) (by omega)
    have hno : seenW vs ws[i] = false → ∀ e' : Env, e' 1 = .slice ua vs.length vs.length → e' 2 = ptr H.length 0 → e' 5 = v5 → e' 6 = .int .i64 ((i + 1 : Nat) : Int) → W F H.length _ e' Hc _ := fun hs e' p1 p2 p5 p6 =>
      ih (i + 1) e' Hc v5 (by omega) hxc (by rw [htk, hs, if_neg (by simp), List.append_nil]; exact q) p1 p2 p5 p6
    refine lp_step ?_
    refine seq_assoc (seq_reg ?_)
    simp only [go_sem, binC, e2, e6, gc_of hbc, inBlk_some]
    refine seq_cond (t := true) (by simp only [go_sem, binC]; rw [decide_eq_true (by omega)]) ?_
    simp only [go_sem, binC]
    refine seq_skip (seq_block (seq_reg ?_))
    simp only [go_sem, binC, e2, e6, gc_of hbc, inBlk_some]
    refine ⟨⟨by omega, by omega⟩, ?_⟩
    simp only [go_sem, binC, Int.toNat_natCast, hg0]
    refine seq_reg ?_
    simp only [go_sem, binC, e1, hw2]
    refine op_callB (by simp only [go_sem, binC]; exact gi _ _ _ _) (fun hin => ?_) (fun hin => ?_)
    rotate_left
    · simp only [go_sem, binC]
      refine wpc_cond (t := false) rfl ?_
      simp only [go_sem, binC]
      refine wpc_skip ?_
      simp only [go_sem, binC, out_n, thenX_n]
      refine wpc_reg ?_
      simp only [go_sem, binC, e6, hw1]
      simp only [go_sem, binC, thenX_n]
      exact hno (by unfold seenW; rw [hin]; rfl) _ (by simp only [go_sem, binC, e1]) (by simp only [go_sem, binC, e2]) (by simp only [go_sem, binC, e5]) (by simp only [go_sem, binC])
    have hin2 := inB_iff.1 hin
    have hvl : ws[i].1.toNat < vs.length := by omega
    obtain ⟨ub, uo, huv, hgu⟩ := gcBo (hu.mono (agx_sub (hx1.tr hxc))) hvl
    simp only [Value.slice.injEq, and_true] at huv
    subst huv
    simp only [go_sem, binC, e1]
    refine ⟨⟨by omega, by omega⟩, ?_⟩
    simp only [go_sem, binC, Nat.mul_one, hgu]
    have hgd : vs.getD ws[i].1.toNat false = vs[ws[i].1.toNat] := by simp [List.getD, hvl]
    cases hvi : vs[ws[i].1.toNat] with
    | false =>
      refine wpc_cond (t := false) rfl ?_
      simp only [go_sem, binC]
      refine wpc_skip ?_
      simp only [go_sem, binC, out_n, thenX_n]
      refine wpc_reg ?_
      simp only [go_sem, binC, e6, hw1]
      simp only [go_sem, binC, thenX_n]
      exact hno (by unfold seenW; rw [hgd, hvi, Bool.and_false]) _ (by simp only [go_sem, binC, e1]) (by simp only [go_sem, binC, e2]) (by simp only [go_sem, binC, e5]) (by simp only [go_sem, binC])
    | true =>
      have hs : seenW vs ws[i] = true := by unfold seenW; rw [hin, hgd, hvi]; rfl
      rw [hs, if_pos rfl] at htk
      refine wpc_cond (t := true) rfl ?_
      simp only [go_sem, binC]
      refine wpc_reg ?_
      simp only [go_sem, binC, e5, e2, e6, gc_of hbc, inBlk_some]
      refine ⟨⟨by omega, by omega⟩, ?_⟩
      simp only [go_sem, binC, Int.toNat_natCast, hg]
      have hblk := fun b (hb : b ∈ blkOf v5) => (q.blk hb).1
      refine op_app_FO (fl := fp) (a := ws[i]) (lo := H1.length) (fun _ => rfl) q (by simp only [go_sem, binC, e5]) (by (simp only [go_sem, binC]) <;> rfl) hl1 (by omega) (by have := List.length_filter_le (seenW vs) (ws.take i); rw [List.length_take] at this; omega) (by omega) fun H3 w3 hx3 q3 => ?_
      rw [← htk] at q3
      simp only [go_sem, binC, out_n, thenX_n]
      refine wpc_reg ?_
      simp only [go_sem, binC, e6, hw1]
      simp only [go_sem, binC, thenX_n]
      exact ih (i + 1) _ H3 w3 (by omega) (hxc.trans hx3 (fun _ h _ => h) (fun b h1 h2 => by have := hblk b h1; omega)) q3 (by simp only [go_sem, binC, e1]) (by simp only [go_sem, binC, e2]) (by simp only [go_sem, binC]) (by simp only [go_sem, binC])
theorem sKnows_ok {F : Nat → Option IFn} {f : Nat} (hf : F f = some c_sKnows) (gp : ProgOk F 19) (gh : HasOk F 135) : VarsOk F f true := by
  intro H n lv sv ls l h h0 h2 r1 r2 hsm hP
  suffices hh : ∃ w H', KC F f [.agg #[lv, sv], .int .i64 h] H w H' ∧ (AgX [] H H' ∧ SlR Co.bool (vw 0 H') w (ls.map (lowL true h))) from hh
  obtain ⟨_, la, rfl, _⟩ := id r1
  have osv : one sv = true := by obtain ⟨_, a, rfl, _⟩ := r2; rfl
  have hls : ls.length ≤ 4 := by
    have := hP
    simp only [progB, Bool.and_eq_true, decide_eq_true_eq] at this; have := this.1.1.1; omega
  have hlab := progB_lab hP
  refine KC.mk hf rfl ?_
  refine seq_reg ?_
  simp only [go_sem, binC, osv]
  refine wpc_gen fun H1 hH1 => ?_
  have hx1 : AgX [] H H1 := hH1 ▸ AgX.app [] _ _
  have hb : H1[H.length]? = some ⟨[.slice la ls.length ls.length, sv], 0, 0, false, true⟩ := hH1 ▸ get_new0 _ _
  clear hH1
  have hl1 := hx1.1
  refine seq_reg ?_
  simp only [go_sem, binC]
  refine wpc_gen fun H2 hH2 => ?_
  have hx2 : AgX [] H1 H2 := hH2 ▸ AgX.app [] _ _
  have ho2 : FlO fb 1 4 H1.length H2 (sli H1.length 0 0) [] := hH2 ▸ FlO.nil (Nat.le_refl _)
  clear hH2
  refine seq_assoc (seq_reg ?_)
  simp only [go_sem, binC]
  refine seq_block (wpc_loop ?_)
  suffices hh : ∀ (k i : Nat) (e : Env) (Hc : Heap) (v5 : Value), i + k = ls.length → AgX [] H1 Hc → FlO fb 1 4 H1.length Hc v5 ((ls.take i).map (lowL true h)) → e 1 = .int .i64 h → e 2 = ptr H.length 0 → e 5 = v5 → e 6 = .int .i64 i → W F H.length _ e Hc _ from
    hh ls.length 0 _ H2 _ (by omega) hx2 ho2 (by simp only [go_sem, binC]) (by simp only [go_sem, binC]) (by (simp only [go_sem, binC]) <;> rfl) (by (simp only [go_sem, binC]) <;> rfl)
  intro k
  induction k with
  | zero =>
    intro i e Hc v5 hi hxc q e1 e2 e5 e6
    have hbc := hxc.get hb (by simp)
    refine lp_step ?_
    refine seq_assoc (seq_reg ?_)
    simp only [go_sem, binC, e2, e6, gc_of hbc, inBlk_some, decide_eq_false (show ¬ (i : Int) < ls.length by omega)]
    refine seq_cond (t := false) rfl ?_
    simp only [go_sem, binC]
    refine seq_exit ?_
    simp only [go_sem, binC, thenX_e, out_e, thenX_n]
    refine seq_reg ?_
    simp only [go_sem, binC, e5]
    rw [List.take_of_length_le (by omega)] at q
    obtain ⟨a, rfl⟩ := q.shape
    exact wpc_ret ⟨Or.inr rfl, _, (by (simp only [go_sem, binC]) <;> rfl), hx1.tr hxc, q.slB (by rw [List.length_map]; omega)⟩
  | succ k ih =>
    intro i e Hc v5 hi hxc q e1 e2 e5 e6
    have hil : i < ls.length := by omega
    have hbc := hxc.get hb (by simp)
    obtain ⟨b, o, hv1, hg⟩ := gcP (r1.mono (agx_sub (hx1.tr hxc))) hil
    simp only [Value.slice.injEq, and_true] at hv1
    subst hv1
    have hli : (0 ≤ ls[i].1 ∧ ls[i].1 ≤ 7) ∧ (0 ≤ ls[i].2 ∧ ls[i].2 ≤ 7) := by
      have := List.all_eq_true.1 hlab _ (List.getElem_mem hil)
      simpa [labB, inB] using this
    have hg0 : getCells Hc b (o + i * 2) 1 = some [.int .i64 ls[i].1] := gc_part (off := 0) (k := 1) hg (by omega)
    have hw1 : IntKind.i64.wrap ((i : Int) + 1) = ((i + 1 : Nat) : Int) := by rw [wrap_id (by omega) (by omega)]; omega
    have htk : (ls.take i).map (lowL true h) ++ [hasB ls[i].1 h] = (ls.take (i + 1)).map (lowL true h) := by
      rw [List.take_add_one, List.getElem?_eq_getElem hil, List.map_append]; rfl
    have hlc := hxc.1
    have hS := agx_sub (hx1.tr hxc)
    refine lp_step ?_
    refine seq_assoc (seq_reg ?_)
    simp only [go_sem, binC, e2, e6, gc_of hbc, inBlk_some, osv, decide_eq_true (show (i : Int) < ls.length by omega)]
    refine op_callQ (by simp only [go_sem, binC]; exact gp Hc n _ (ls, l) (prog_rd (r1.mono hS) (r2.mono hS)) hsm) ?_
    simp only [go_sem, binC, hP]
    refine seq_cond (t := true) rfl ?_
    simp only [go_sem, binC]
    refine seq_skip (seq_block (wpc_reg ?_))
    simp only [go_sem, binC, e1, e2, e5, e6, gc_of hbc, inBlk_some]
    refine ⟨⟨by omega, by omega⟩, ?_⟩
    simp only [go_sem, binC, Int.toNat_natCast, hg0]
    refine op_callQ (by simp only [go_sem, binC]; exact gh Hc _ _ hli.1.1 hli.1.2) ?_
    simp only [go_sem, binC]
    have hblk := fun b (hb : b ∈ blkOf v5) => (q.blk hb).1
    refine op_app_FO (fl := fb) (a := hasB ls[i].1 h) (lo := H1.length) (fun _ => rfl) q (by simp only [go_sem, binC, e5]) (by (simp only [go_sem, binC]) <;> rfl) hl1 (by omega) (by rw [List.length_map, List.length_take]; omega) (by omega) fun H3 w3 hx3 q3 => ?_
    rw [htk] at q3
    simp only [go_sem, binC, out_n, thenX_n]
    refine wpc_reg ?_
    simp only [go_sem, binC, e6, hw1]
    simp only [go_sem, binC, thenX_n]
    exact ih (i + 1) _ H3 w3 (by omega) (hxc.trans hx3 (fun _ h _ => h) (fun b h1 h2 => by have := hblk b h1; omega)) q3 (by simp only [go_sem, binC, e1]) (by simp only [go_sem, binC, e2]) (by simp only [go_sem, binC]) (by simp only [go_sem, binC])
theorem eqI_ok {F : Nat → Option IFn} {f : Nat} (hf : F f = some c_eqI) : IntsOk F f := by
  intro H v w l l' hv hw
  obtain ⟨hl, va, rfl, _⟩ := id hv
  obtain ⟨hl', wa, rfl, _⟩ := id hw
  refine QC.mk hf rfl ?_
  refine seq_reg ?_
  simp only [go_sem, binC]
  refine seq_assoc (seq_reg ?_)
  simp only [go_sem, binC]
  by_cases hle : l.length = l'.length
  rotate_left
  · have hb : ((l.length : Int) != (l'.length : Int)) = true := by rw [bne_iff_ne]; omega
    simp only [go_sem, binC, hb]
    refine seq_cond (t := true) rfl ?_
    simp only [go_sem, binC]
    refine seq_assoc (seq_reg ?_)
    simp only [go_sem, binC]
    refine seq_ret ⟨Or.inr rfl, .bool false, by simp only [go_sem, binC], ?_, rfl⟩
    rw [decide_eq_false (fun h => hle (by rw [h]))]
  have hb : ((l.length : Int) != (l'.length : Int)) = false := by rw [hle]; exact bne_self_eq_false _
  simp only [go_sem, binC, hb]
  refine seq_cond (t := false) rfl ?_
  simp only [go_sem, binC]
  refine seq_skip (seq_assoc (seq_reg ?_))
  simp only [go_sem, binC]
  refine seq_block (wpc_loop ?_)
  suffices hh : ∀ (k i : Nat) (e : Env), i + k = l.length → (∀ j (h : j < l.length) (h' : j < l'.length), j < i → l[j] = l'[j]) → e 0 = .slice va l.length l.length → e 1 = .slice wa l'.length l'.length → e 12 = .int .i64 l.length → e 13 = .int .i64 i → W F H.length _ e H _ from
    hh l.length 0 _ (by omega) (fun j _ _ h => by omega) (by simp only [go_sem, binC]) (by simp only [go_sem, binC]) (by simp only [go_sem, binC]) (by (simp only [go_sem, binC]) <;> rfl)
  intro k
  induction k with
  | zero =>
    intro i e hi hj e0 e1 e12 e13
    refine lp_step ?_
    refine seq_reg ?_
    simp only [go_sem, binC, e12, e13]
    refine seq_cond (t := false) (by simp only [go_sem, binC]; rw [decide_eq_false (by omega)]) ?_
    simp only [go_sem, binC]
    refine seq_exit ?_
    simp only [go_sem, binC, thenX_e, out_e, thenX_n]
    refine seq_reg ?_
    simp only [go_sem, binC]
    refine wpc_ret ⟨Or.inr rfl, _, (by (simp only [go_sem, binC]) <;> rfl), ?_, rfl⟩
    rw [decide_eq_true (List.ext_getElem hle fun j h1 h2 => hj j h1 h2 (by omega))]
  | succ k ih =>
    intro i e hi hj e0 e1 e12 e13
    have hil : i < l.length := by omega
    have hil' : i < l'.length := by omega
    have hw1 : IntKind.i64.wrap ((i : Int) + 1) = ((i + 1 : Nat) : Int) := by rw [wrap_id (by omega) (by omega)]; omega
    obtain ⟨vb, vo, hvv, hgv⟩ := gcI0 hv hil
    obtain ⟨wb, wo, hwv, hgw⟩ := gcI0 hw hil'
    simp only [Value.slice.injEq, and_true] at hvv hwv
    subst hvv hwv
    refine lp_step ?_
    refine seq_reg ?_
    simp only [go_sem, binC, e12, e13]
    refine seq_cond (t := true) (by simp only [go_sem, binC]; rw [decide_eq_true (by omega)]) ?_
    simp only [go_sem, binC]
    refine seq_skip (seq_block (seq_reg ?_))
    simp only [go_sem, binC, e13]
    refine seq_regD ?_
    simp only [go_sem, binC, e0]
    refine ⟨⟨by omega, by omega⟩, ?_⟩
    simp only [go_sem, binC, Int.toNat_natCast, Nat.mul_one, hgv, e1]
    refine ⟨⟨by omega, by omega⟩, ?_⟩
    simp only [go_sem, binC, Int.toNat_natCast, Nat.mul_one, hgw]
    by_cases he : l[i] = l'[i]
    · simp only [go_sem, binC, show (l[i] != l'[i]) = false from by rw [he]; exact bne_self_eq_false _]
      refine wpc_cond (t := false) (by first | rfl | (simp only [go_sem, binC, show (l[i] != l'[i]) = false from by rw [he]; exact bne_self_eq_false _])) ?_
      simp only [go_sem, binC]
      refine wpc_skip ?_
      simp only [go_sem, binC, out_n, thenX_n]
      refine wpc_reg ?_
      simp only [go_sem, binC, e13, hw1]
      simp only [go_sem, binC, thenX_n]
      exact ih (i + 1) _ (by omega) (fun j h1 h2 h3 => by
        rcases Nat.lt_or_ge j i with h | h
        · exact hj j h1 h2 h
        · obtain rfl : j = i := by omega
          exact he) (by simp only [go_sem, binC, e0]) (by simp only [go_sem, binC, e1]) (by simp only [go_sem, binC, e12]) (by simp only [go_sem, binC])
    · simp only [go_sem, binC, show (l[i] != l'[i]) = true from bne_iff_ne.2 he]
      refine wpc_cond (t := true) (by first | rfl | (simp only [go_sem, binC, show (l[i] != l'[i]) = true from bne_iff_ne.2 he])) ?_
      simp only [go_sem, binC]
      refine seq_reg ?_
      simp only [go_sem, binC]
      refine wpc_ret ?_
      simp only [go_sem, binC, out_r, thenX_r]
      refine ⟨Or.inr rfl, .bool false, by simp only [go_sem, binC], ?_, rfl⟩
      rw [decide_eq_false (fun h => he (by simp only [h]))]
/-- Whether two runs tell a host other things. -/
def diffT (h : Int) (r r' : RunS) : Bool := !decide (toldL h r.2.2 = toldL h r'.2.2)
def diffS (vs : List Bool) (r r' : RunS) : Bool := !decide (r.2.1.filter (seenW vs) = r'.2.1.filter (seenW vs))
/-- What comes of a program, at hand. -/
structure RunAt (H : Heap) (nv wv sv : Value) (r : RunS) : Prop where
  n : SlR Co.int (vw 0 H) nv r.1
  w : SlR Co.p2 (vw 0 H) wv r.2.1
  s : SlR Co.p2 (vw 0 H) sv r.2.2
  lw : r.2.1.length ≤ 1000
  ls : r.2.2.length ≤ 1000
theorem RunAt.mono {H H' : Heap} {nv wv sv : Value} {r : RunS} (h : RunAt H nv wv sv r) (hx : AgX [] H H') : RunAt H' nv wv sv r := ⟨h.n.mono (agx_sub hx), h.w.mono (agx_sub hx), h.s.mono (agx_sub hx), h.lw, h.ls⟩
theorem RunAt.ones {H : Heap} {nv wv sv : Value} {r : RunS} (h : RunAt H nv wv sv r) : one nv = true ∧ one wv = true ∧ one sv = true := by
  obtain ⟨_, a, rfl, _⟩ := h.n
  obtain ⟨_, b, rfl, _⟩ := h.w
  obtain ⟨_, c, rfl, _⟩ := h.s
  exact ⟨rfl, rfl, rfl⟩
theorem sl2_rg {V : Vw} {v : Value} {l : List (Int × Int)} (h : SlR Co.p2 V v l) : ∀ w ∈ l, RgI w.1 ∧ RgI w.2 := p2_rg h
theorem leak1_ok {F : Nat → Option IFn} {f : Nat} (hf : F f = some c_leak1) (gt : ToldOk F 42) (ge : IntsOk F 92) {H : Heap} {pb : Nat} {h : Int} {nv wv sv nv' wv' sv' : Value} {r r' : RunS} (hb : H[pb]? = some ⟨[.int .i64 h], 0, 0, false, true⟩) (a : RunAt H nv wv sv r) (a' : RunAt H nv' wv' sv' r') : QC F f [.agg #[nv, wv, sv], .agg #[nv', wv', sv'], ptr pb 0] H (.bool (diffT h r r')) := by
  obtain ⟨o1, o2, o3⟩ := a.ones
  obtain ⟨o1', o2', o3'⟩ := a'.ones
  refine QC.mk hf rfl ?_
  refine seq_reg ?_
  simp only [go_sem, binC, o1, o2, o3, o1', o2', o3']
  refine wpc_gen fun H1 hH1 => ?_
  have hx1 : AgX [] H H1 := hH1 ▸ AgX.app [] _ _
  have hb3 : H1[H.length]? = some ⟨[nv, wv, sv], 0, 0, false, true⟩ := hH1 ▸ get_new0 _ _
  have hb4 : H1[H.length + 1]? = some ⟨[nv', wv', sv'], 0, 0, false, true⟩ := hH1 ▸ get_new _ _ 1
  clear hH1
  have hbp := hx1.get hb (by simp)
  have a1 := a.mono hx1
  obtain ⟨z, H2, k2, hx2, q2⟩ := gt H1 nv wv sv r h o1 o2 a1.s a1.ls (sl2_rg a1.s)
  have hbp2 := hx2.get hbp (by simp)
  have hb42 := hx2.get hb4 (by simp)
  have a2 := a'.mono (hx1.tr hx2)
  obtain ⟨z', H3, k3, hx3, q3⟩ := gt H2 nv' wv' sv' r' h o1' o2' a2.s a2.ls (sl2_rg a2.s)
  refine seq_regD ?_
  simp only [go_sem, binC, gc_of hb3, gc_of hbp, inBlk_some, o1, o2, o3]
  refine op_callK (by simp only [go_sem, binC]; exact k2) ?_
  simp only [go_sem, binC, gc_of hb42, gc_of hbp2, inBlk_some, o1', o2', o3']
  refine op_callK (by simp only [go_sem, binC]; exact k3) ?_
  simp only [go_sem, binC]
  refine op_callQ (by simp only [go_sem, binC]; exact ge H3 _ _ _ _ (q2.mono (agx_sub hx3)) q3) ?_
  simp only [go_sem, binC]
  exact wpc_ret ⟨Or.inr rfl, _, (by (simp only [go_sem, binC]) <;> rfl), rfl, rfl⟩
end Go.Proofs.YtkmghcglmjehcaaI
end
section
/- Steps copied, as they are (the reference's). -/
set_option linter.unusedVariables false
set_option linter.unusedSimpArgs false
namespace Go.Proofs.YtkmghcglmjehcaaI
open Go Go.RowKit
end Go.Proofs.YtkmghcglmjehcaaI
end
section
/- The program's labels: what is in both, what may become what, of values, of steps being done. -/
set_option linter.unusedVariables false
set_option linter.unusedSimpArgs false
namespace Go.Proofs.YtkmghcglmjehcaaI
open Go Go.RowKit
theorem labB_i {a : Int × Int} : labB a = true ↔ (0 ≤ a.1 ∧ a.1 ≤ 7) ∧ 0 ≤ a.2 ∧ a.2 ≤ 7 := by
  simp only [labB, Bool.and_eq_true, inB_iff]
theorem lboth_ok {a b : Int × Int} (ha : labB a = true) (hb : labB b = true) : lboth a b = (bothS a.1 b.1 3, bothS a.2 b.2 3) := by
  unfold lboth
  rw [ha, hb]
  rfl
/-! ### Labels in both, plainly -/
theorem bothS_all : ∀ a b c : Fin 8, bothS (bothS (a.val : Int) b.val 3) c.val 3 = bothS a.val (bothS b.val c.val 3) 3 ∧ bothS (a.val : Int) b.val 3 = bothS b.val a.val 3 ∧ bothS 7 (a.val : Int) 3 = a.val ∧ bothS (a.val : Int) a.val 3 = a.val := by decide +kernel
theorem fin8 {a : Int} (h : 0 ≤ a ∧ a ≤ 7) : ∃ x : Fin 8, (x.val : Int) = a := ⟨⟨a.toNat, by omega⟩, by show ((a.toNat : Nat) : Int) = a; omega⟩
theorem lboth_assoc {a b c : Int × Int} (ha : labB a = true) (hb : labB b = true) (hc : labB c = true) : lboth (lboth a b) c = lboth a (lboth b c) := by
  rw [lboth_ok (lboth_bd a b) hc, lboth_ok ha (lboth_bd b c), lboth_ok ha hb, lboth_ok hb hc]
  obtain ⟨a1, a2⟩ := a
  obtain ⟨b1, b2⟩ := b
  obtain ⟨c1, c2⟩ := c
  obtain ⟨x1, rfl⟩ := fin8 (labB_i.1 ha).1
  obtain ⟨x2, rfl⟩ := fin8 (labB_i.1 ha).2
  obtain ⟨y1, rfl⟩ := fin8 (labB_i.1 hb).1
  obtain ⟨y2, rfl⟩ := fin8 (labB_i.1 hb).2
  obtain ⟨z1, rfl⟩ := fin8 (labB_i.1 hc).1
  obtain ⟨z2, rfl⟩ := fin8 (labB_i.1 hc).2
  simp only [(bothS_all x1 y1 z1).1, (bothS_all x2 y2 z2).1]
theorem lboth_self {a : Int × Int} (ha : labB a = true) : lboth a a = a := by
  rw [lboth_ok ha ha]
  obtain ⟨a1, a2⟩ := a
  obtain ⟨x1, rfl⟩ := fin8 (labB_i.1 ha).1
  obtain ⟨x2, rfl⟩ := fin8 (labB_i.1 ha).2
  simp only [(bothS_all x1 0 0).2.2.2, (bothS_all x2 0 0).2.2.2]
theorem lab_getD {ls : List (Int × Int)} (h : ls.all labB = true) (i : Nat) : labB (ls.getD i (0, 0)) = true := by
  rw [List.getD_eq_getElem?_getD]
  cases hi : ls[i]? with
  | none => rfl
  | some a => exact List.all_eq_true.1 h a (List.mem_of_getElem? hi)
end Go.Proofs.YtkmghcglmjehcaaI
end
section
/- The program's labels of steps being done, and all its steps. -/
set_option linter.unusedVariables false
set_option linter.unusedSimpArgs false
namespace Go.Proofs.YtkmghcglmjehcaaI
open Go Go.RowKit
end Go.Proofs.YtkmghcglmjehcaaI
end
section
/- All steps of a program; the first step that is not fine (the program's). -/
set_option linter.unusedVariables false
set_option linter.unusedSimpArgs false
namespace Go.Proofs.YtkmghcglmjehcaaI
open Go Go.RowKit
end Go.Proofs.YtkmghcglmjehcaaI
end
section
/- Labels in order: what may be known, and is trusted, by fewer. -/
set_option linter.unusedVariables false
set_option linter.unusedSimpArgs false
namespace Go.Proofs.YtkmghcglmjehcaaI
open Go Go.RowKit
/-- A label may be known, and is trusted, by no others. -/
structure Le (a b : Int × Int) : Prop where
  la : labB a = true
  lb : labB b = true
  eq : lboth a b = a
theorem Le.refl {a : Int × Int} (h : labB a = true) : Le a a := ⟨h, h, lboth_self h⟩
theorem Le.trans {a b c : Int × Int} (h1 : Le a b) (h2 : Le b c) : Le a c := ⟨h1.la, h2.lb, by
  rw [← h1.eq, lboth_assoc h1.la h1.lb h2.lb, h2.eq]⟩
/-- Labels of variables, each in order. -/
def LeL (a b : List (Int × Int)) : Prop := a.length = b.length ∧ ∀ i, Le (a.getD i (0, 0)) (b.getD i (0, 0))
theorem LeL.refl {a : List (Int × Int)} (h : a.all labB = true) : LeL a a := ⟨rfl, fun i => Le.refl (lab_getD h i)⟩
theorem LeL.trans {a b c : List (Int × Int)} (h1 : LeL a b) (h2 : LeL b c) : LeL a c := ⟨h1.1.trans h2.1, fun i => (h1.2 i).trans (h2.2 i)⟩
end Go.Proofs.YtkmghcglmjehcaaI
end
section
/- Labels that are found: the greatest below some that steps allow. -/
set_option linter.unusedVariables false
set_option linter.unusedSimpArgs false
namespace Go.Proofs.YtkmghcglmjehcaaI
open Go Go.RowKit
theorem LeL.app {a b c d : List (Int × Int)} (h1 : LeL a b) (h2 : LeL c d) : LeL (a ++ c) (b ++ d) := ⟨by rw [List.length_append, List.length_append, h1.1, h2.1], fun i => by
  by_cases hi : i < a.length
  · have e1 : (a ++ c).getD i (0, 0) = a.getD i (0, 0) := by simp [List.getD, List.getElem?_append_left hi]
    have e2 : (b ++ d).getD i (0, 0) = b.getD i (0, 0) := by simp [List.getD, List.getElem?_append_left (show i < b.length by have := h1.1; omega)]
    rw [e1, e2]; exact h1.2 i
  · have e1 : (a ++ c).getD i (0, 0) = c.getD (i - a.length) (0, 0) := by simp [List.getD, List.getElem?_append_right (show a.length ≤ i by omega)]
    have e2 : (b ++ d).getD i (0, 0) = d.getD (i - a.length) (0, 0) := by simp [List.getD, List.getElem?_append_right (show b.length ≤ i by have := h1.1; omega), h1.1]
    rw [e1, e2]; exact h2.2 _⟩
end Go.Proofs.YtkmghcglmjehcaaI
end
section
/- How often labels may fall. -/
set_option linter.unusedVariables false
set_option linter.unusedSimpArgs false
namespace Go.Proofs.YtkmghcglmjehcaaI
open Go Go.RowKit
def pc (x : Int) : Nat := (x % 2 + x / 2 % 2 + x / 4 % 2).toNat
end Go.Proofs.YtkmghcglmjehcaaI
end
section
/- The reference's rounds end in the labels that are found. -/
set_option linter.unusedVariables false
set_option linter.unusedSimpArgs false
namespace Go.Proofs.YtkmghcglmjehcaaI
open Go Go.RowKit
/-- One step of what a variable needs. -/
def needS (ls : List (Int × Int)) (v : Int) (o : Int × Int) (x : Shal × (Int × Int)) : Int × Int := if x.1.1 = 1 ∧ x.1.2.1 = v then lboth o (lboth x.2 (valL ls x.1.2.2.1)) else o
def needV (n : Nat) (ls : List (Int × Int)) (l : List (TStep n)) (v : Int) : Int × Int := ((allL n l).zip (atL n ls (7, 7) l)).foldl (needS ls v) (ls.getD v.toNat (0, 0))
/-- One variable is told anew. -/
def roundS (n : Nat) (l : List (TStep n)) (free : Int → Bool) (ls : List (Int × Int)) (v : Nat) : List (Int × Int) := if free v = true then ls.set v (needV n ls l v) else ls
def roundL (n : Nat) (l : List (TStep n)) (free : Int → Bool) (k : Nat) (ls : List (Int × Int)) : List (Int × Int) := (List.range k).foldl (roundS n l free) ls
end Go.Proofs.YtkmghcglmjehcaaI
end
section
/- After 25 rounds the reference has the labels that are found. -/
set_option linter.unusedVariables false
set_option linter.unusedSimpArgs false
namespace Go.Proofs.YtkmghcglmjehcaaI
open Go Go.RowKit
def rnd (n : Nat) (l : List (TStep n)) (free : Int → Bool) (x : List (Int × Int)) : List (Int × Int) := roundL n l free x.length x
end Go.Proofs.YtkmghcglmjehcaaI
end
section
/- The program's passes end in the labels that are found. -/
set_option linter.unusedVariables false
set_option linter.unusedSimpArgs false
namespace Go.Proofs.YtkmghcglmjehcaaI
open Go Go.RowKit
/-- One step of a pass: what is set is told anew, by the labels of being done of the pass's start. -/
def passS (free : Int → Bool) (ls : List (Int × Int)) (x : Shal × (Int × Int)) : List (Int × Int) := if x.1.1 = 1 ∧ free x.1.2.1 = true then ls.set x.1.2.1.toNat (lboth (ls.getD x.1.2.1.toNat (0, 0)) (lboth x.2 (valL ls x.1.2.2.1))) else ls
def pass (n : Nat) (l : List (TStep n)) (free : Int → Bool) (ls : List (Int × Int)) : List (Int × Int) := ((allL n l).zip (atL n ls (7, 7) l)).foldl (passS free) ls
end Go.Proofs.YtkmghcglmjehcaaI
end
section
/- What is fine, by the order of labels. -/
set_option linter.unusedVariables false
set_option linter.unusedSimpArgs false
namespace Go.Proofs.YtkmghcglmjehcaaI
open Go Go.RowKit
end Go.Proofs.YtkmghcglmjehcaaI
end
section
/- Labels that are found are fine if some are. -/
set_option linter.unusedVariables false
set_option linter.unusedSimpArgs false
namespace Go.Proofs.YtkmghcglmjehcaaI
open Go Go.RowKit
end Go.Proofs.YtkmghcglmjehcaaI
end
section
/- Labels that are found: plain facts of the laws. -/
set_option linter.unusedVariables false
set_option linter.unusedSimpArgs false
namespace Go.Proofs.YtkmghcglmjehcaaI
open Go Go.RowKit
def freeF (free : List Bool) (x : Int) : Bool := free.getD x.toNat false
def infL (n : Nat) (l : List (TStep n)) (free : List Bool) (init : List (Int × Int)) : List (Int × Int) := Nat.repeat (rnd n l (freeF free)) 25 init
theorem progB_le4 {n : Nat} {ls : List (Int × Int)} {l : List (TStep n)} (h : progB n (ls, l) = true) : ls.length ≤ 4 := by
  unfold progB at h
  simp only [Bool.and_eq_true, decide_eq_true_eq] at h
  have := h.1.1.1
  omega
attribute [local irreducible] infL
end Go.Proofs.YtkmghcglmjehcaaI
end
section
/- Labels that are found (the program's). -/
set_option linter.unusedVariables false
set_option linter.unusedSimpArgs false
namespace Go.Proofs.YtkmghcglmjehcaaI
open Go Go.RowKit
attribute [local irreducible] infL
theorem LabV.set {lo : Nat} {H : Heap} {v : Value} {cur : List (Int × Int)} (h : LabV lo H v cur) {i : Nat} (hi : i < cur.length) (x : Int × Int) : ∃ b, v = sli b 0 cur.length ∧ lo ≤ b ∧ b < H.length ∧ H[b]? = some ⟨cur.flatMap fp, 2, 35, true, true⟩ ∧ LabV lo (H.set b ⟨(cur.set i x).flatMap fp, 2, 35, true, true⟩) v (cur.set i x) := by
  rcases h with ⟨rfl, rfl⟩ | ⟨b, h1, h2, h3, h4⟩
  · simp at hi
  · have hb := (List.getElem?_eq_some_iff.1 h4).1
    refine ⟨b, h2, h1, hb, h4, .inr ⟨b, h1, by rw [List.length_set]; exact h2, fun hn => ?_, List.getElem?_set_self hb⟩⟩
    have := congrArg List.length hn
    rw [List.length_set, List.length_nil] at this
    omega
end Go.Proofs.YtkmghcglmjehcaaI
end
section
/- What a variable needs (the reference's). -/
set_option linter.unusedVariables false
set_option linter.unusedSimpArgs false
namespace Go.Proofs.YtkmghcglmjehcaaI
open Go Go.RowKit
end Go.Proofs.YtkmghcglmjehcaaI
end
section
/- Labels that are found (the reference's). -/
set_option linter.unusedVariables false
set_option linter.unusedSimpArgs false
namespace Go.Proofs.YtkmghcglmjehcaaI
open Go Go.RowKit
attribute [local irreducible] infL
end Go.Proofs.YtkmghcglmjehcaaI
end
section
/- A program and which labels are free, drawn. -/
set_option linter.unusedVariables false
set_option linter.unusedSimpArgs false
namespace Go.Proofs.YtkmghcglmjehcaaI
open Go Go.RowKit
theorem quo_eqU {k : IntKind} {x y : Int} (h : y ≠ 0) : binI .quo k x y = some (.int k (k.wrap (x.tdiv y))) := if_neg h
end Go.Proofs.YtkmghcglmjehcaaI
end
section
/- What the laws' functions say of steps and programs. -/
set_option linter.unusedVariables false
set_option linter.unusedSimpArgs false
namespace Go.Proofs.YtkmghcglmjehcaaI
open Go Go.RowKit
end Go.Proofs.YtkmghcglmjehcaaI
end
section
/- The laws FnInferOf, FnInferTwice on the ideal machine. -/
set_option linter.unusedVariables false
set_option linter.unusedSimpArgs false
namespace Go.Proofs.YtkmghcglmjehcaaI
open Go Go.RowKit
attribute [local irreducible] infL
end Go.Proofs.YtkmghcglmjehcaaI
end
section
/- The laws FnInferNone, FnInferAll on the ideal machine. -/
set_option linter.unusedVariables false
set_option linter.unusedSimpArgs false
namespace Go.Proofs.YtkmghcglmjehcaaI
open Go Go.RowKit
attribute [local irreducible] infL
end Go.Proofs.YtkmghcglmjehcaaI
end
section
/- A label, drawn. -/
set_option linter.unusedVariables false
set_option linter.unusedSimpArgs false
namespace Go.Proofs.YtkmghcglmjehcaaI
open Go Go.RowKit
end Go.Proofs.YtkmghcglmjehcaaI
end
section
/- The laws FnInferMore, FnInferMost on the ideal machine. -/
set_option linter.unusedVariables false
set_option linter.unusedSimpArgs false
namespace Go.Proofs.YtkmghcglmjehcaaI
open Go Go.RowKit
attribute [local irreducible] infL
end Go.Proofs.YtkmghcglmjehcaaI
end
section
/- The law FnInferRun on the ideal machine. -/
set_option linter.unusedVariables false
set_option linter.unusedSimpArgs false
namespace Go.Proofs.YtkmghcglmjehcaaI
open Go Go.RowKit
attribute [local irreducible] infL
def c_lcWrites : IFn := ⟨2, 26, [.t 4],
 .seq (.reg none [
    ⟨(some 4), none, .mov (.c (.bool false))⟩])
 (.seq (.seq (.reg none [
     ⟨(some 6), none, .mov (.t 0)⟩,
     ⟨(some 7), none, .len (.t 6)⟩,
     ⟨(some 8), none, .mov (.t 1)⟩,
     ⟨(some 9), none, .len (.t 8)⟩,
     ⟨(some 10), none, .bin .neq (.t 7) (.t 9)⟩])
  (.cond (.t 10) (.seq (.reg none [
      ⟨(some 4), none, .mov (.c (.bool false))⟩])
   (.ret)) (.skip)))
 (.seq (.seq (.reg none [
     ⟨(some 5), none, .mov (.c (.int .i64 0))⟩])
  (.block 0 (.loop (.seq (.seq (.reg none [
        ⟨(some 11), none, .mov (.t 5)⟩,
        ⟨(some 12), none, .mov (.t 0)⟩,
        ⟨(some 13), none, .len (.t 12)⟩,
        ⟨(some 14), none, .bin .lss (.t 11) (.t 13)⟩])
     (.cond (.t 14) (.skip) (.exit 0)))
    (.seq (.block 1 (.seq (.reg (some 8) [
         ⟨(some 17), none, .mov (.t 0)⟩,
         ⟨(some 18), none, .mov (.t 5)⟩,
         ⟨(some 19), none, .iad 2 (.t 17) (.t 18)⟩,
         ⟨(some 20), none, .load true 2 (.t 19)⟩,
         ⟨(some 21), none, .mov (.t 1)⟩,
         ⟨(some 22), none, .mov (.t 5)⟩,
         ⟨(some 23), none, .iad 2 (.t 21) (.t 22)⟩,
         ⟨(some 24), none, .load true 2 (.t 23)⟩,
         ⟨(some 25), none, .eqs true 2 (.t 20) (.t 24)⟩])
      (.cond (.t 25) (.seq (.reg none [
          ⟨(some 4), none, .mov (.c (.bool false))⟩])
       (.ret)) (.skip))))
    (.reg none [
      ⟨(some 15), none, .mov (.t 5)⟩,
      ⟨(some 16), none, .bin .add (.t 15) (.c (.int .i64 1))⟩,
      ⟨(some 5), none, .mov (.t 16)⟩]))))))
 (.seq (.reg none [
    ⟨(some 4), none, .mov (.c (.bool true))⟩])
 (.ret))))⟩
theorem lcWrites_ok {F : Nat → Option IFn} {f : Nat} (hf : F f = some c_lcWrites) : PairsOk F f := by
  intro H v w l l' hv hw
  obtain ⟨h0, a, rfl, _⟩ := id hv
  obtain ⟨h0', a', rfl, _⟩ := id hw
  refine QC.mk hf rfl ?_
  refine seq_reg ?_
  simp only [go_sem, binC]
  by_cases hl : l.length = l'.length
  rotate_left
  · have hne : ((l.length : Int) != (l'.length : Int)) = true := by simp; omega
    refine seq_assoc (seq_reg ?_)
    simp only [go_sem, binC, hne]
    refine seq_cond (t := true) rfl ?_
    simp only [go_sem, binC]
    refine seq_assoc (seq_reg ?_)
    simp only [go_sem, binC]
    refine seq_ret ⟨Or.inr rfl, .bool false, by simp only [go_sem, binC], ?_, rfl⟩
    rw [decide_eq_false (fun h => hl (by rw [h]))]
  have hne : ((l.length : Int) != (l'.length : Int)) = false := by simp; omega
  refine seq_assoc (seq_reg ?_)
  simp only [go_sem, binC, hne]
  refine seq_cond (t := false) rfl ?_
  simp only [go_sem, binC]
  refine seq_skip (seq_assoc (seq_reg ?_))
  simp only [go_sem, binC]
  refine seq_block (wpc_loop ?_)
  suffices h : ∀ (k i : Nat) (e : Env), i + k = l.length → e 0 = .slice a l.length l.length → e 1 = .slice a' l'.length l'.length → e 5 = .int .i64 i → (l = l' ↔ l.drop i = l'.drop i) → W F H.length _ e _ _ from
    h l.length 0 _ (by omega) (by simp only [go_sem, binC]) (by simp only [go_sem, binC]) (by (simp only [go_sem, binC]) <;> rfl) (by simp)
  intro k
  induction k with
  | zero =>
    intro i e hi e0 e1 e5 heq
    refine lp_step ?_
    refine seq_assoc (seq_reg ?_)
    simp only [go_sem, binC, e0, e5]
    refine seq_cond (t := false) (by simp only [go_sem, binC]; rw [decide_eq_false (by omega)]) ?_
    simp only [go_sem, binC]
    refine seq_exit ?_
    simp only [go_sem, binC, thenX_e, out_e, thenX_n]
    refine seq_reg ?_
    simp only [go_sem, binC]
    refine wpc_ret ⟨Or.inr rfl, .bool true, by simp only [go_sem, binC], ?_, rfl⟩
    rw [decide_eq_true (heq.2 (by rw [List.drop_of_length_le (by omega), List.drop_of_length_le (by omega)]))]
  | succ k ih =>
    intro i e hi e0 e1 e5 heq
    have hil : i < l.length := by omega
    have hil' : i < l'.length := by omega
    obtain ⟨b, o, hv1, hg⟩ := gcP hv hil
    obtain ⟨b', o', hv2, hg'⟩ := gcP hw hil'
    simp only [Value.slice.injEq, and_true] at hv1 hv2
    subst hv1 hv2
    have hw1 : IntKind.i64.wrap ((i : Int) + 1) = ((i + 1 : Nat) : Int) := by rw [wrap_id (by omega) (by omega)]; omega
    rw [List.drop_eq_getElem_cons hil, List.drop_eq_getElem_cons hil', List.cons.injEq] at heq
    refine lp_step ?_
    refine seq_assoc (seq_reg ?_)
    simp only [go_sem, binC, e0, e5]
    refine seq_cond (t := true) (by simp only [go_sem, binC]; rw [decide_eq_true (by omega)]) ?_
    simp only [go_sem, binC]
    refine seq_skip (seq_block (seq_regD ?_))
    simp only [go_sem, binC, e0, e5]
    refine ⟨⟨by omega, by omega⟩, ?_⟩
    simp only [go_sem, binC, Int.toNat_natCast, hg, e1, e5]
    refine ⟨⟨by omega, by omega⟩, ?_⟩
    simp only [go_sem, binC, Int.toNat_natCast, hg', eqsV2]
    by_cases hq : l[i] = l'[i]
    · have hb : (!decide ((l[i].1, l[i].2) = (l'[i].1, l'[i].2))) = false := by simp [hq]
      simp only [go_sem, binC, hb]
      refine wpc_cond (t := false) (by (simp only [go_sem, binC]) <;> rfl) ?_
      simp only [go_sem, binC]
      refine wpc_skip ?_
      simp only [go_sem, binC, out_n, thenX_n]
      refine wpc_reg ?_
      simp only [go_sem, binC, e5, hw1]
      simp only [go_sem, binC, thenX_n]
      exact ih (i + 1) _ (by omega) (by simp only [go_sem, binC, e0]) (by simp only [go_sem, binC, e1]) (by simp only [go_sem, binC]) (by rw [heq]; exact ⟨fun h => h.2, fun h => ⟨hq, h⟩⟩)
    · have hb : (!decide ((l[i].1, l[i].2) = (l'[i].1, l'[i].2))) = true := by
        rw [decide_eq_false (fun h => hq (Prod.ext (by simpa using congrArg Prod.fst h) (by simpa using congrArg Prod.snd h)))]; rfl
      simp only [go_sem, binC, hb]
      refine wpc_cond (t := true) (by (simp only [go_sem, binC]) <;> rfl) ?_
      simp only [go_sem, binC]
      refine seq_reg ?_
      simp only [go_sem, binC]
      refine wpc_ret ?_
      simp only [go_sem, binC, out_r, thenX_r]
      refine ⟨Or.inr rfl, .bool false, by simp only [go_sem, binC], ?_, rfl⟩
      rw [decide_eq_false (fun h => hq (heq.1 h).1)]
end Go.Proofs.YtkmghcglmjehcaaI
end
section
/- The first two rows that tell something that may not be known, or set what is trusted (the reference's). -/
set_option linter.unusedVariables false
set_option linter.unusedSimpArgs false
namespace Go.Proofs.YtkmghcglmjehcaaI
open Go Go.RowKit
def c_sFind12 : IFn := ⟨4, 86, [.t 8, .t 9, .t 10],
 .seq (.reg none [
    ⟨(some 4), none, .box (.t 0)⟩,
    ⟨(some 8), none, .mov (.c (.slice none 0 0))⟩,
    ⟨(some 9), none, .mov (.c (.slice none 0 0))⟩,
    ⟨(some 10), none, .mov (.c (.bool false))⟩])
 (.seq (.reg none [
    ⟨(some 20), none, .fad 0 (.t 4)⟩,
    ⟨(some 21), none, .load false 1 (.t 20)⟩,
    ⟨(some 22), none, .len (.t 21)⟩,
    ⟨(some 11), none, .mov (.t 22)⟩])
 (.seq (.seq (.reg none [
     ⟨(some 12), none, .mov (.c (.int .i64 0))⟩])
  (.block 0 (.loop (.seq (.seq (.reg none [
        ⟨(some 23), none, .mov (.t 12)⟩,
        ⟨(some 24), none, .mov (.t 11)⟩,
        ⟨(some 25), none, .bin .shl (.c (.int .i64 1)) (.t 24)⟩,
        ⟨(some 26), none, .bin .lss (.t 23) (.t 25)⟩])
     (.cond (.t 26) (.skip) (.exit 0)))
    (.seq (.block 1 (.seq (.reg none [
         ⟨(some 13), none, .mov (.c (.int .i64 0))⟩])
      (.block 2 (.loop (.seq (.seq (.reg none [
            ⟨(some 29), none, .mov (.t 13)⟩,
            ⟨(some 30), none, .mov (.t 12)⟩,
            ⟨(some 31), none, .bin .lss (.t 29) (.t 30)⟩])
         (.cond (.t 31) (.skip) (.exit 2)))
        (.seq (.block 3 (.seq (.reg none [
             ⟨(some 34), none, .mov (.t 13)⟩,
             ⟨(some 35), none, .mov (.t 11)⟩,
             ⟨(some 36), none, .call .k (.f 128) [(.t 34), (.t 35)]⟩,
             ⟨(some 14), none, .mov (.t 36)⟩])
          (.seq (.reg none [
             ⟨(some 37), none, .mov (.t 12)⟩,
             ⟨(some 38), none, .mov (.t 11)⟩,
             ⟨(some 39), none, .call .k (.f 128) [(.t 37), (.t 38)]⟩,
             ⟨(some 15), none, .mov (.t 39)⟩])
          (.seq (.seq (.reg none [
              ⟨(some 40), none, .mov (.t 14)⟩,
              ⟨(some 41), none, .mov (.t 15)⟩,
              ⟨(some 42), none, .mov (.t 1)⟩,
              ⟨(some 43), none, .call .q (.f 129) [(.t 40), (.t 41), (.t 42)]⟩,
              ⟨(some 44), none, .un .not (.t 43)⟩])
           (.cond (.t 44) (.exit 3) (.skip)))
          (.seq (.reg none [
             ⟨(some 46), none, .load true 2 (.t 4)⟩,
             ⟨(some 47), none, .mov (.t 14)⟩,
             ⟨(some 48), none, .call .k (.f 130) [(.t 46), (.t 47)]⟩,
             ⟨(some 45), none, .mov (.t 48)⟩,
             ⟨(some 49), none, .ext (.t 45) 0⟩,
             ⟨(some 50), none, .ext (.t 45) 1⟩,
             ⟨(some 16), none, .new [(.slice none 0 0), (.slice none 0 0), (.slice none 0 0)]⟩,
             ⟨none, none, .store 3 (.t 16) (.t 49)⟩,
             ⟨(some 17), none, .mov (.t 50)⟩])
          (.seq (.reg none [
             ⟨(some 52), none, .load true 2 (.t 4)⟩,
             ⟨(some 53), none, .mov (.t 15)⟩,
             ⟨(some 54), none, .call .k (.f 130) [(.t 52), (.t 53)]⟩,
             ⟨(some 51), none, .mov (.t 54)⟩,
             ⟨(some 55), none, .ext (.t 51) 0⟩,
             ⟨(some 56), none, .ext (.t 51) 1⟩,
             ⟨(some 18), none, .new [(.slice none 0 0), (.slice none 0 0), (.slice none 0 0)]⟩,
             ⟨none, none, .store 3 (.t 18) (.t 55)⟩,
             ⟨(some 19), none, .mov (.t 56)⟩])
          (.seq (.reg (some 20) [
             ⟨(some 57), none, .mov (.t 3)⟩,
             ⟨(some 58), none, .mov (.t 57)⟩,
             ⟨(some 59), (some (58, true)), .load true 3 (.t 16)⟩,
             ⟨(some 60), (some (58, true)), .mov (.t 2)⟩,
             ⟨(some 61), (some (58, true)), .call .k (.f 132) [(.t 59), (.t 60)]⟩,
             ⟨(some 62), (some (58, true)), .load true 3 (.t 18)⟩,
             ⟨(some 63), (some (58, true)), .mov (.t 2)⟩,
             ⟨(some 64), (some (58, true)), .call .k (.f 132) [(.t 62), (.t 63)]⟩,
             ⟨(some 65), (some (58, true)), .call .q (.f 131) [(.t 61), (.t 64)]⟩,
             ⟨(some 66), (some (58, true)), .un .not (.t 65)⟩,
             ⟨(some 67), none, .pick (.t 58) (.t 66) (.c (.bool false))⟩,
             ⟨(some 68), none, .mov (.t 67)⟩,
             ⟨(some 69), (some (68, false)), .mov (.t 3)⟩,
             ⟨(some 70), (some (68, false)), .un .not (.t 69)⟩,
             ⟨(some 71), (some (68, false)), .mov (.t 70)⟩,
             ⟨(some 72), (some (71, true)), .load true 3 (.t 16)⟩,
             ⟨(some 73), (some (71, true)), .mov (.t 1)⟩,
             ⟨(some 74), (some (71, true)), .call .k (.f 134) [(.t 72), (.t 73)]⟩,
             ⟨(some 75), (some (71, true)), .load true 3 (.t 18)⟩,
             ⟨(some 76), (some (71, true)), .mov (.t 1)⟩,
             ⟨(some 77), (some (71, true)), .call .k (.f 134) [(.t 75), (.t 76)]⟩,
             ⟨(some 78), (some (71, true)), .call .q (.f 133) [(.t 74), (.t 77)]⟩,
             ⟨(some 79), (some (71, true)), .un .not (.t 78)⟩,
             ⟨(some 80), (some (68, false)), .pick (.t 71) (.t 79) (.c (.bool false))⟩,
             ⟨(some 81), none, .pick (.t 68) (.c (.bool true)) (.t 80)⟩])
          (.cond (.t 81) (.seq (.reg none [
              ⟨(some 82), none, .mov (.t 14)⟩,
              ⟨(some 83), none, .mov (.t 15)⟩,
              ⟨(some 8), none, .mov (.t 82)⟩,
              ⟨(some 9), none, .mov (.t 83)⟩,
              ⟨(some 10), none, .mov (.c (.bool true))⟩])
           (.ret)) (.skip)))))))))
        (.reg none [
          ⟨(some 32), none, .mov (.t 13)⟩,
          ⟨(some 33), none, .bin .add (.t 32) (.c (.int .i64 1))⟩,
          ⟨(some 13), none, .mov (.t 33)⟩])))))))
    (.reg none [
      ⟨(some 27), none, .mov (.t 12)⟩,
      ⟨(some 28), none, .bin .add (.t 27) (.c (.int .i64 1))⟩,
      ⟨(some 12), none, .mov (.t 28)⟩]))))))
 (.seq (.reg none [
    ⟨(some 84), none, .lit 1 3 0 [] []⟩,
    ⟨(some 85), none, .lit 1 3 0 [] []⟩,
    ⟨(some 8), none, .mov (.t 84)⟩,
    ⟨(some 9), none, .mov (.t 85)⟩,
    ⟨(some 10), none, .mov (.c (.bool false))⟩])
 (.ret))))⟩
def c_sLeakOf : IFn := ⟨2, 26, [.t 4, .t 5, .t 6],
 .seq (.reg none [
    ⟨(some 2), none, .box (.t 0)⟩,
    ⟨(some 4), none, .mov (.c (.slice none 0 0))⟩,
    ⟨(some 5), none, .mov (.c (.slice none 0 0))⟩,
    ⟨(some 6), none, .mov (.c (.bool false))⟩])
 (.seq (.seq (.reg none [
     ⟨(some 7), none, .load true 2 (.t 2)⟩,
     ⟨(some 8), none, .call .q (.f 19) [(.t 7)]⟩,
     ⟨(some 9), none, .un .not (.t 8)⟩,
     ⟨(some 10), none, .mov (.t 9)⟩,
     ⟨(some 11), (some (10, false)), .mov (.t 1)⟩,
     ⟨(some 12), (some (10, false)), .call .q (.f 86) [(.t 11), (.c (.int .i64 0)), (.c (.int .i64 2))]⟩,
     ⟨(some 13), (some (10, false)), .un .not (.t 12)⟩,
     ⟨(some 14), none, .pick (.t 10) (.c (.bool true)) (.t 13)⟩])
  (.cond (.t 14) (.seq (.reg none [
      ⟨(some 15), none, .lit 1 3 0 [] []⟩,
      ⟨(some 16), none, .lit 1 3 0 [] []⟩,
      ⟨(some 4), none, .mov (.t 15)⟩,
      ⟨(some 5), none, .mov (.t 16)⟩,
      ⟨(some 6), none, .mov (.c (.bool false))⟩])
   (.ret)) (.skip)))
 (.seq (.reg (some 9) [
    ⟨(some 17), none, .load true 2 (.t 2)⟩,
    ⟨(some 18), none, .load true 2 (.t 2)⟩,
    ⟨(some 19), none, .mov (.t 1)⟩,
    ⟨(some 20), none, .call .k (.f 88) [(.t 18), (.t 19)]⟩,
    ⟨(some 21), none, .mov (.t 1)⟩,
    ⟨(some 22), none, .call .k (.f 87) [(.t 17), (.t 20), (.t 21), (.c (.bool true))]⟩,
    ⟨(some 23), none, .ext (.t 22) 0⟩,
    ⟨(some 24), none, .ext (.t 22) 1⟩,
    ⟨(some 25), none, .ext (.t 22) 2⟩,
    ⟨(some 4), none, .mov (.t 23)⟩,
    ⟨(some 5), none, .mov (.t 24)⟩,
    ⟨(some 6), none, .mov (.t 25)⟩])
 (.ret)))⟩
def sets (nums : List Int) (ws : List (Int × Int)) : List Int := ws.foldl (fun ns w => ns.set w.1.toNat w.2) nums
structure RunP (nums : List Int) (k : Nat) (r : RunS) (M : Nat) : Prop where
  len : r.1.length = k
  rg : ∀ x ∈ r.1, 0 ≤ x ∧ x ≤ 9
  wr : sets nums r.2.1 = r.1
  vr : ∀ w ∈ r.2.1, 0 ≤ w.1 ∧ w.1 < k
  sm : r.2.1.length + r.2.2.length ≤ M
theorem RunP.mono {nums : List Int} {k : Nat} {r : RunS} {M M' : Nat} (h : RunP nums k r M) (hM : M ≤ M') : RunP nums k r M' := ⟨h.len, h.rg, h.wr, h.vr, Nat.le_trans h.sm hM⟩
theorem runL_P0 {nums : List Int} {k : Nat} (n : Nat) (h : ∀ (s : TStep n) (r : RunS) (M : Nat) (d : Int), RunP nums k r M → stepB k n d s = true → RunP nums k (runT n s r) (M + (allT n s).length)) : ∀ (l : List (TStep n)) (r : RunS) (M : Nat) (d : Int), RunP nums k r M → l.all (stepB k n d) = true → RunP nums k (runL n l r) (M + (allL n l).length) := by
  intro l
  induction l with
  | nil =>
    intro r M d hr _
    exact hr
  | cons s l ih =>
    intro r M d hr hl
    rw [List.all_cons, Bool.and_eq_true] at hl
    have h1 := ih _ _ d (h s r M d hr hl.1) hl.2
    have h2 : (allL n (s :: l)).length = (allT n s).length + (allL n l).length := by unfold allL; rw [List.map_cons, List.flatten_cons, List.length_append]
    rw [h2, ← Nat.add_assoc]
    exact h1
theorem runT_P {nums : List Int} {k : Nat} : ∀ (n : Nat) (s : TStep n) (r : RunS) (M : Nat) (d : Int), RunP nums k r M → stepB k n d s = true → RunP nums k (runT n s r) (M + (allT n s).length)
  | 0, s, _, _, _, _, _ => s.elim
  | n + 1, (kd, vr, v, ho, th, el), r, M, d, hr, h => by
    obtain ⟨hvr, h1, h2, _⟩ := stepB_f h
    rw [allT_succ, List.length_cons, List.length_append]
    by_cases q1 : kd = 1
    · subst q1
      rw [runT_set]
      have hv := h1 rfl
      rw [← hr.len] at hv
      have hx := valN_rg hv hr.rg
      refine ⟨by rw [List.length_set]; exact hr.len, fun x hx' => ?_, ?_, fun w hw => ?_, ?_⟩
      · rcases List.mem_or_eq_of_mem_set hx' with h | rfl
        · exact hr.rg x h
        · exact hx
      · unfold sets
        rw [List.foldl_append]
        have := hr.wr
        unfold sets at this
        rw [this]
        rfl
      · simp only [List.mem_append, List.mem_singleton] at hw
        rcases hw with h | rfl
        · exact hr.vr w h
        · exact hvr
      · have := hr.sm
        simp only [List.length_append, List.length_singleton]
        omega
    by_cases q2 : kd = 2
    · obtain ⟨h3, h4⟩ := h2 q2
      subst q2
      rw [runT_if]
      split
      · exact (runL_P0 n (runT_P n) el r M (d - 1) hr h4).mono (by omega)
      · exact (runL_P0 n (runT_P n) th r M (d - 1) hr h3).mono (by omega)
    · rw [runT_tell q1 q2]
      have := hr.sm
      exact ⟨hr.len, hr.rg, hr.wr, hr.vr, by simp only [List.length_append, List.length_singleton]; omega⟩
theorem runOf_P {n : Nat} {ls : List (Int × Int)} {l : List (TStep n)} {nums : List Int} (h : numsB n (ls, l) nums = true) : RunP nums ls.length (runOf n (ls, l) nums) (allL n l).length ∧ numsB n (ls, l) (runOf n (ls, l) nums).1 = true := by
  have hB2 := h
  simp only [numsB, Bool.and_eq_true, decide_eq_true_eq, List.all_eq_true] at hB2
  obtain ⟨⟨hP, hln⟩, hall⟩ := hB2
  have hst : l.all (stepB ls.length n 3) = true := by
    simp only [progB, Bool.and_eq_true] at hP; exact hP.1.2
  have hrun : runOf n (ls, l) nums = runL n l (nums, [], []) := if_pos h
  have h0 : RunP nums ls.length (nums, [], []) 0 := ⟨hln, fun x hx => inB_iff'.1 (hall x hx), rfl, (fun w hw => by cases hw), Nat.le_refl _⟩
  have h1 := runL_P0 n (runT_P n) l _ 0 3 h0 hst
  rw [← hrun, Nat.zero_add] at h1
  refine ⟨h1, ?_⟩
  simp only [numsB, Bool.and_eq_true, decide_eq_true_eq, List.all_eq_true]
  exact ⟨⟨hP, h1.len⟩, fun x hx => inB_iff'.2 (h1.rg x hx)⟩
theorem run_bd {d : Nat} {ls : List (Int × Int)} {l : List (TStep d)} {nums : List Int} (hB : numsB d (ls, l) nums = true) (hsm : (Co.prog d).sm (ls, l)) : (runOf d (ls, l) nums).2.1.length ≤ 1000 ∧ (runOf d (ls, l) nums).2.2.length ≤ 1000 := by
  obtain ⟨P, _⟩ := runOf_P hB
  have hP : progB d (ls, l) = true := by
    have := hB
    simp only [numsB, Bool.and_eq_true] at this
    exact this.1.1
  have h1 := progB_cnt hP hsm
  simp only at h1
  have h2 := P.sm
  omega
def runR (n : Nat) (p : TProg n) (a : Nat) : RunS := runOf n p (rowL a p.1.length)
def okR (n : Nat) (p : TProg n) (vs : List Bool) (d : RunS → RunS → Bool) (f s : Nat) : Bool := sameR vs f s && d (runR n p f) (runR n p s)
def leakG (n : Nat) (p : TProg n) (vs : List Bool) (d : RunS → RunS → Bool) : Option (Nat × Nat) := leakF (okR n p vs d) (2 ^ p.1.length)
def rowsO (k : Nat) : Option (Nat × Nat) → List Int × List Int
  | none => ([], [])
  | some (a, b) => (rowL a k, rowL b k)
def diffC (c : Bool) (h : Int) (vs : List Bool) : RunS → RunS → Bool := if c then diffT h else diffS vs
def leakV (c : Bool) (n : Nat) (p : TProg n) (h : Int) : Option (Nat × Nat) := if (progB n p && inB h 0 2) = true then leakG n p (p.1.map (lowL c h)) (diffC c h (p.1.map (lowL c h))) else none
theorem rowL_nums {n : Nat} {ls : List (Int × Int)} {l : List (TStep n)} (hP : progB n (ls, l) = true) (a : Nat) : numsB n (ls, l) (rowL a ls.length) = true := by
  simp only [numsB, hP, rowL_len, decide_true, Bool.true_and, List.all_eq_true]
  intro x hx
  have := rowL_rg a ls.length x hx
  exact inB_iff.2 (by omega)
theorem runR_bd {n : Nat} {ls : List (Int × Int)} {l : List (TStep n)} (hP : progB n (ls, l) = true) (hsm : (Co.prog n).sm (ls, l)) (a : Nat) : (runR n (ls, l) a).2.1.length ≤ 1000 ∧ (runR n (ls, l) a).2.2.length ≤ 1000 := run_bd (rowL_nums hP a) hsm
theorem pow_le16 {k : Nat} (h : k ≤ 4) : 2 ^ k ≤ 16 := Nat.le_trans (Nat.pow_le_pow_right (by omega) h) (by decide)
/-- A run of a program with a row. -/
theorem run_row {F : Nat → Option IFn} {f : Nat} (g : RunOk F f) {H : Heap} {n : Nat} {lv sv w : Value} {ls : List (Int × Int)} {l : List (TStep n)} {a : Nat} (r1 : SlR Co.p2 (vw 0 H) lv ls) (r2 : SlR (Co.step n) (vw 0 H) sv l) (hsm : (Co.prog n).sm (ls, l)) (hP : progB n (ls, l) = true) (hw : SlR Co.int (vw 0 H) w (rowL a ls.length)) :
    ∃ nv wv tv H', KC F f [.agg #[lv, sv], w] H (.tuple #[.agg #[nv, wv, tv], .bool true]) H' ∧ AgX [] H H' ∧ RunAt H' nv wv tv (runR n (ls, l) a) := by
  obtain ⟨nv, wv, tv, H', k, hx, q1, q2, q3⟩ := g H n lv sv w ls l _ r1 r2 hsm hw
  rw [rowL_nums hP a] at k
  obtain ⟨b1, b2⟩ := runR_bd hP hsm a
  exact ⟨nv, wv, tv, H', k, hx, ⟨q1, q2, q3, b1, b2⟩⟩
def FindG (F : Nat → Option IFn) (f : Nat) : Prop := ∀ (H : Heap) (n : Nat) (lv sv u : Value) (ls : List (Int × Int)) (l : List (TStep n)) (vs : List Bool) (h : Int) (c : Bool), SlR Co.p2 (vw 0 H) lv ls → SlR (Co.step n) (vw 0 H) sv l → (Co.prog n).sm (ls, l) → progB n (ls, l) = true → SlR Co.bool (vw 0 H) u vs → vs.length = ls.length →
  ∃ a b H', KC F f [.agg #[lv, sv], u, .int .i64 h, .bool c] H (.tuple #[a, b, .bool (leakG n (ls, l) vs (diffC c h vs)).isSome]) H' ∧ AgX [] H H' ∧ SlR Co.int (vw 0 H') a (rowsO ls.length (leakG n (ls, l) vs (diffC c h vs))).1 ∧ SlR Co.int (vw 0 H') b (rowsO ls.length (leakG n (ls, l) vs (diffC c h vs))).2
set_option maxHeartbeats 4000000 in
theorem sFind12_ok {F : Nat → Option IFn} {f : Nat} (hf : F f = some c_sFind12) (gb : BitsOk F 128) (gs : SameV F 129) (gr : RunOk F 130) (gt : ToldOk F 132) (gi : IntsOk F 131) (gx : SetsOk F 134) (gw : PairsOk F 133) : FindG F f := by
  intro H n lv sv u ls l vs h c r1 r2 hsm hP hu hvl
  suffices hh : ∃ v H', KC F f [.agg #[lv, sv], u, .int .i64 h, .bool c] H v H' ∧ (∃ a b, v = .tuple #[a, b, .bool (leakG n (ls, l) vs (diffC c h vs)).isSome] ∧ AgX [] H H' ∧ SlR Co.int (vw 0 H') a (rowsO ls.length (leakG n (ls, l) vs (diffC c h vs))).1 ∧ SlR Co.int (vw 0 H') b (rowsO ls.length (leakG n (ls, l) vs (diffC c h vs))).2) by
    obtain ⟨_, H', k, a, b, rfl, hh⟩ := hh
    exact ⟨a, b, H', k, hh⟩
  obtain ⟨_, la, rfl, _⟩ := id r1
  obtain ⟨_, sa, rfl, _⟩ := id r2
  obtain ⟨_, ua, rfl, _⟩ := id hu
  have hls : ls.length ≤ 4 := progB_le4 hP
  have h16 := pow_le16 hls
  have hpp : 0 < 2 ^ ls.length := Nat.pow_pos (by omega)
  have hsl : binI .shl .i64 1 (ls.length : Int) = some (.int .i64 ((2 ^ ls.length : Nat) : Int)) := binI_shlN hls
  unfold leakG
  generalize hok : okR n (ls, l) vs (diffC c h vs) = ok
  show ∃ v H', KC F f _ H v H' ∧ (∃ a b, v = .tuple #[a, b, .bool (leakF ok (2 ^ ls.length)).isSome] ∧ AgX [] H H' ∧ SlR Co.int (vw 0 H') a (rowsO ls.length (leakF ok (2 ^ ls.length))).1 ∧ SlR Co.int (vw 0 H') b (rowsO ls.length (leakF ok (2 ^ ls.length))).2)
  generalize hN : 2 ^ ls.length = N at *
  refine KC.mk hf rfl ?_
  refine seq_reg ?_
  simp only [go_sem, binC]
  refine wpc_gen fun H1 hH1 => ?_
  have hx1 : AgX [] H H1 := hH1 ▸ AgX.app [] _ _
  have hb : H1[H.length]? = some ⟨[.slice la ls.length ls.length, .slice sa l.length l.length], 0, 0, false, true⟩ := hH1 ▸ get_new0 _ _
  clear hH1
  have hl1 := hx1.1
  replace r1 := r1.mono (agx_sub hx1)
  replace r2 := r2.mono (agx_sub hx1)
  replace hu := hu.mono (agx_sub hx1)
  refine seq_reg ?_
  simp only [go_sem, binC, gc_of hb, inBlk_some]
  refine seq_assoc (seq_reg ?_)
  simp only [go_sem, binC]
  refine seq_block (wpc_loop ?_)
  suffices hh : ∀ (m i : Nat) (e : Env) (Hc : Heap), i + m = N → AgX [] H1 Hc → leakF ok i = none → e 1 = .slice ua vs.length vs.length → e 2 = .int .i64 h → e 3 = .bool c → e 4 = ptr H.length 0 → e 11 = .int .i64 ls.length → e 12 = .int .i64 i → W F H.length _ e Hc _ from
    hh N 0 _ H1 (by omega) (AgX.refl _ _) rfl (by simp only [go_sem, binC]) (by simp only [go_sem, binC]) (by simp only [go_sem, binC]) (by simp only [go_sem, binC]) (by simp only [go_sem, binC]) (by (simp only [go_sem, binC]) <;> rfl)
  intro m
  induction m with
  | zero =>
    intro i e Hc hi hxc hnone e1 e2 e3 e4 e11 e12
    obtain rfl : i = N := by omega
    refine lp_step ?_
    refine seq_assoc (seq_reg ?_)
    simp only [go_sem, binC, e11, e12, hsl]
    refine seq_cond (t := false) (by simp only [go_sem, binC]; rw [decide_eq_false (by omega)]) ?_
    simp only [go_sem, binC]
    refine seq_exit ?_
    simp only [go_sem, binC, thenX_e, out_e, thenX_n]
    refine seq_reg ?_
    simp only [go_sem, binC]
    rw [hnone]
    have hx : AgX [] Hc (Hc ++ [⟨[], 1, 3, true, true⟩, ⟨[], 1, 3, true, true⟩]) := AgX.app [] _ _
    refine wpc_ret ⟨Or.inr rfl, .tuple #[sli Hc.length 0 0, sli (Hc.length + 1) 0 0, .bool false], ?_, sli Hc.length 0 0, sli (Hc.length + 1) 0 0, rfl, ?_, ?_, ?_⟩
    · simp [resV, resL, res1, putE_get, notT, sli]
    · first | exact hx1.tr (hxc.tr (AgX.app [] _ _)) | (rw [List.append_assoc]; exact hx1.tr (hxc.tr (AgX.app [] _ _)))
    · exact ⟨by simp [rowsO], _, rfl, .inl rfl⟩
    · exact ⟨by simp [rowsO], _, rfl, .inl rfl⟩
  | succ m ih =>
    intro i e Hc hi hxc hnone e1 e2 e3 e4 e11 e12
    have hiN : i < N := by omega
    have hw1 : IntKind.i64.wrap ((i : Int) + 1) = ((i + 1 : Nat) : Int) := by rw [wrap_id (by omega) (by omega)]; omega
    refine lp_step ?_
    refine seq_assoc (seq_reg ?_)
    simp only [go_sem, binC, e11, e12, hsl]
    refine seq_cond (t := true) (by simp only [go_sem, binC]; rw [decide_eq_true (by omega)]) ?_
    simp only [go_sem, binC]
    refine seq_skip (seq_block (seq_reg ?_))
    simp only [go_sem, binC]
    refine wpc_block (wpc_loop ?_)
    suffices hh : ∀ (q j : Nat) (e : Env) (Hc : Heap), j + q = i → AgX [] H1 Hc → (∀ f, f < j → ok f i = false) → e 1 = .slice ua vs.length vs.length → e 2 = .int .i64 h → e 3 = .bool c → e 4 = ptr H.length 0 → e 11 = .int .i64 ls.length → e 12 = .int .i64 i → e 13 = .int .i64 j → W F H.length _ e Hc _ from
      hh i 0 _ Hc (by omega) hxc (fun f h => by omega) (by simp only [go_sem, binC, e1]) (by simp only [go_sem, binC, e2]) (by simp only [go_sem, binC, e3]) (by simp only [go_sem, binC, e4]) (by simp only [go_sem, binC, e11]) (by simp only [go_sem, binC, e12]) (by (simp only [go_sem, binC]) <;> rfl)
    clear e1 e2 e3 e4 e11 e12 hxc e Hc
    intro q
    induction q with
    | zero =>
      intro j e Hc hj hxc hno e1 e2 e3 e4 e11 e12 e13
      refine lp_step ?_
      refine seq_assoc (seq_reg ?_)
      simp only [go_sem, binC, e12, e13]
      refine seq_cond (t := false) (by simp only [go_sem, binC]; rw [decide_eq_false (by omega)]) ?_
      simp only [go_sem, binC]
      refine seq_exit ?_
      simp only [go_sem, binC, thenX_e, out_e, out_n, thenX_n]
      refine wpc_reg ?_
      simp only [go_sem, binC, e12, hw1]
      simp only [go_sem, binC, thenX_n]
      exact ih (i + 1) _ Hc (by omega) hxc (leakF_step hnone fun f hf => hno f (by omega)) (by simp only [go_sem, binC, e1]) (by simp only [go_sem, binC, e2]) (by simp only [go_sem, binC, e3]) (by simp only [go_sem, binC, e4]) (by simp only [go_sem, binC, e11]) (by simp only [go_sem, binC])
    | succ q ih2 =>
      intro j e Hc hj hxc hno e1 e2 e3 e4 e11 e12 e13
      have hji : j < i := by omega
      have hw2 : IntKind.i64.wrap ((j : Int) + 1) = ((j + 1 : Nat) : Int) := by rw [wrap_id (by omega) (by omega)]; omega
      refine lp_step ?_
      refine seq_assoc (seq_reg ?_)
      simp only [go_sem, binC, e12, e13]
      refine seq_cond (t := true) (by simp only [go_sem, binC]; rw [decide_eq_true (by omega)]) ?_
      simp only [go_sem, binC]
      obtain ⟨za, Ha, ka, xa, qa⟩ := gb Hc j ls.length (by omega) hls
      obtain ⟨zb, Hb, kb, xb, qb⟩ := gb Ha i ls.length (by omega) hls
      obtain ⟨_, aa, rfl, _⟩ := id qa
      obtain ⟨_, ab, rfl, _⟩ := id qb
      have hxb := hxc.tr (xa.tr xb)
      have hbb := hxb.get hb (by simp)
      have lla := rowL_len j ls.length
      have llb := rowL_len i ls.length
      have hnext : ∀ (e' : Env) (H' : Heap), AgX [] H1 H' → ok j i = false → e' 1 = .slice ua vs.length vs.length → e' 2 = .int .i64 h → e' 3 = .bool c → e' 4 = ptr H.length 0 → e' 11 = .int .i64 ls.length → e' 12 = .int .i64 i → e' 13 = .int .i64 ((j + 1 : Nat) : Int) → W F H.length _ e' H' _ := fun e' H' hx hq p1 p2 p3 p4 p11 p12 p13 => ih2 (j + 1) e' H' (by omega) hx (fun f hf => by
        rcases Nat.lt_or_ge f j with hl | hl
        · exact hno f hl
        · obtain rfl : f = j := by omega
          exact hq) p1 p2 p3 p4 p11 p12 p13
      refine seq_skip (seq_block (seq_reg ?_))
      simp only [go_sem, binC, e11, e13]
      refine op_callK (by simp only [go_sem, binC]; exact ka) ?_
      simp only [go_sem, binC]
      refine seq_reg ?_
      simp only [go_sem, binC, e11, e12]
      refine op_callK (by simp only [go_sem, binC]; exact kb) ?_
      simp only [go_sem, binC]
      refine seq_assoc (seq_reg ?_)
      simp only [go_sem, binC, e1]
      refine op_callQ (by simp only [go_sem, binC]; exact gs Hb _ _ _ j i ls.length vs (qa.mono (agx_sub xb)) qb (hu.mono (agx_sub hxb)) hvl hls) ?_
      cases hsa : sameR vs j i with
      | false =>
        simp only [go_sem, binC, Bool.not_false]
        refine seq_cond (t := true) rfl ?_
        simp only [go_sem, binC]
        refine seq_exit ?_
        simp only [go_sem, binC, thenX_e, out_e, out_n, thenX_n]
        refine wpc_reg ?_
        simp only [go_sem, binC, e13, hw2]
        simp only [go_sem, binC, thenX_n]
        exact hnext _ Hb hxb (by rw [← hok]; unfold okR; rw [hsa]; rfl) (by simp only [go_sem, binC, e1]) (by simp only [go_sem, binC, e2]) (by simp only [go_sem, binC, e3]) (by simp only [go_sem, binC, e4]) (by simp only [go_sem, binC, e11]) (by simp only [go_sem, binC, e12]) (by simp only [go_sem, binC])
      | true =>
        simp only [go_sem, binC, Bool.not_true]
        refine seq_cond (t := false) rfl ?_
        simp only [go_sem, binC]
        obtain ⟨nx, wx, tx, Hx, kx, xx, ax⟩ := run_row gr (r1.mono (agx_sub hxb)) (r2.mono (agx_sub hxb)) hsm hP (qa.mono (agx_sub xb))
        obtain ⟨_, nxa, rfl, _⟩ := id ax.n
        obtain ⟨_, wxa, rfl, _⟩ := id ax.w
        obtain ⟨_, txa, rfl, _⟩ := id ax.s
        have hlc := hxc.1
        have hla := xa.1
        have hlb := xb.1
        have hlx := xx.1
        refine seq_skip (seq_reg ?_)
        simp only [go_sem, binC, e4, gc_of hbb, inBlk_some]
        refine op_callK (by simp only [go_sem, binC]; exact kx) ?_
        simp only [go_sem, binC]
        refine ⟨by omega, ?_⟩
        refine wpc_gen fun H2 hh2 => ?_
        have x2 : AgX [] Hx H2 := hh2 ▸ AgX.app [] _ _
        have hbx : H2[Hx.length]? = some ⟨[.slice nxa (runR n (ls, l) j).1.length (runR n (ls, l) j).1.length, .slice wxa (runR n (ls, l) j).2.1.length (runR n (ls, l) j).2.1.length, .slice txa (runR n (ls, l) j).2.2.length (runR n (ls, l) j).2.2.length], 0, 0, false, true⟩ := hh2 ▸ get_new0 _ _
        clear hh2
        have hx2 := hxb.tr (xx.tr x2)
        have hb2 := hx2.get hb (by simp)
        obtain ⟨ny, wy, ty, Hy, ky, xy, ay⟩ := run_row gr (r1.mono (agx_sub hx2)) (r2.mono (agx_sub hx2)) hsm hP (qb.mono (agx_sub (xx.tr x2)))
        obtain ⟨_, nya, rfl, _⟩ := id ay.n
        obtain ⟨_, wya, rfl, _⟩ := id ay.w
        obtain ⟨_, tya, rfl, _⟩ := id ay.s
        have hl2 := x2.1
        have hly := xy.1
        refine seq_reg ?_
        simp only [go_sem, binC, e4, gc_of hb2, inBlk_some]
        refine op_callK (by simp only [go_sem, binC]; exact ky) ?_
        simp only [go_sem, binC]
        refine ⟨by omega, ?_⟩
        refine wpc_gen fun H3 hh3 => ?_
        have x3 : AgX [] Hy H3 := hh3 ▸ AgX.app [] _ _
        have hby : H3[Hy.length]? = some ⟨[.slice nya (runR n (ls, l) i).1.length (runR n (ls, l) i).1.length, .slice wya (runR n (ls, l) i).2.1.length (runR n (ls, l) i).2.1.length, .slice tya (runR n (ls, l) i).2.2.length (runR n (ls, l) i).2.2.length], 0, 0, false, true⟩ := hh3 ▸ get_new0 _ _
        clear hh3
        have hx23 := xy.tr x3
        have hbx3 := hx23.get hbx (by simp)
        have ax3 := ax.mono (x2.tr hx23)
        have ay3 := ay.mono x3
        have hx3 := hx2.tr hx23
        have hu3 := hu.mono (agx_sub hx3)
        have qa3 := qa.mono (agx_sub (xb.tr ((xx.tr x2).tr hx23)))
        have qb3 := qb.mono (agx_sub ((xx.tr x2).tr hx23))
        refine seq_regD ?_
        simp only [go_sem, binC, e3]
        cases c with
        | true =>
          obtain ⟨z, H4, k4, x4, q4⟩ := gt H3 _ _ _ _ h ax3.ones.1 ax3.ones.2.1 ax3.s ax3.ls (p2_rg ax3.s)
          have hby4 := x4.get hby (by simp)
          have ay4 := ay3.mono x4
          obtain ⟨z', H5, k5, x5, q5⟩ := gt H4 _ _ _ _ h ay4.ones.1 ay4.ones.2.1 ay4.s ay4.ls (p2_rg ay4.s)
          simp only [go_sem, binC, gc_of hbx3, inBlk_some, e2]
          refine op_callK (by simp only [go_sem, binC]; exact k4) ?_
          simp only [go_sem, binC, gc_of hby4, inBlk_some, e2]
          refine op_callK (by simp only [go_sem, binC]; exact k5) ?_
          simp only [go_sem, binC]
          refine op_callQ (by simp only [go_sem, binC]; exact gi H5 _ _ _ _ (q4.mono (agx_sub x5)) q5) ?_
          have hx5 := hx3.tr (x4.tr x5)
          have hd : ok j i = !decide (toldL h (runR n (ls, l) j).2.2 = toldL h (runR n (ls, l) i).2.2) := by
            rw [← hok]; unfold okR; rw [hsa, Bool.true_and]; rfl
          cases hdd : decide (toldL h (runR n (ls, l) j).2.2 = toldL h (runR n (ls, l) i).2.2) with
          | true =>
            simp only [go_sem, binC, e3, Bool.not_true]
            refine wpc_cond (t := false) rfl ?_
            simp only [go_sem, binC]
            refine wpc_skip ?_
            simp only [go_sem, binC, out_n, thenX_n]
            refine wpc_reg ?_
            simp only [go_sem, binC, e13, hw2]
            simp only [go_sem, binC, thenX_n]
            exact hnext _ H5 hx5 (by rw [hd, hdd]; rfl) (by simp only [go_sem, binC, e1]) (by simp only [go_sem, binC, e2]) (by simp only [go_sem, binC, e3]) (by simp only [go_sem, binC, e4]) (by simp only [go_sem, binC, e11]) (by simp only [go_sem, binC, e12]) (by simp only [go_sem, binC])
          | false =>
            simp only [go_sem, binC, e3, Bool.not_false]
            refine wpc_cond (t := true) rfl ?_
            simp only [go_sem, binC]
            refine seq_reg ?_
            simp only [go_sem, binC]
            refine wpc_ret ?_
            simp only [go_sem, binC, out_r, thenX_r]
            have hhit : leakF ok N = some (j, i) := leakF_keep (leakF_hit hnone hno (by rw [hd, hdd]; rfl) hji) N (by omega)
            rw [hhit]
            refine ⟨Or.inr rfl, .tuple #[.slice aa (rowL j ls.length).length (rowL j ls.length).length, .slice ab (rowL i ls.length).length (rowL i ls.length).length, .bool true], by simp [resV, resL, res1, putE_get, notT], _, _, rfl, hx1.tr hx5, qa3.mono (agx_sub (x4.tr x5)), qb3.mono (agx_sub (x4.tr x5))⟩
        | false =>
          obtain ⟨z, H4, k4, x4, q4⟩ := gx H3 _ _ _ _ _ vs ax3.ones.1 ax3.w ax3.ones.2.2 hu3 ax3.lw (p2_rg ax3.w)
          have hby4 := x4.get hby (by simp)
          have ay4 := ay3.mono x4
          obtain ⟨z', H5, k5, x5, q5⟩ := gx H4 _ _ _ _ _ vs ay4.ones.1 ay4.w ay4.ones.2.2 (hu3.mono (agx_sub x4)) ay4.lw (p2_rg ay4.w)
          simp only [go_sem, binC, gc_of hbx3, inBlk_some, e1, e3, Bool.not_false]
          refine op_callK (by simp only [go_sem, binC]; exact k4) ?_
          simp only [go_sem, binC, gc_of hby4, inBlk_some, e1]
          refine op_callK (by simp only [go_sem, binC]; exact k5) ?_
          simp only [go_sem, binC]
          refine op_callQ (by simp only [go_sem, binC]; exact gw H5 _ _ _ _ (q4.mono (agx_sub x5)) q5) ?_
          have hx5 := hx3.tr (x4.tr x5)
          have hd : ok j i = !decide ((runR n (ls, l) j).2.1.filter (seenW vs) = (runR n (ls, l) i).2.1.filter (seenW vs)) := by
            rw [← hok]; unfold okR; rw [hsa, Bool.true_and]; rfl
          cases hdd : decide ((runR n (ls, l) j).2.1.filter (seenW vs) = (runR n (ls, l) i).2.1.filter (seenW vs)) with
          | true =>
            simp only [go_sem, binC, Bool.not_true]
            refine wpc_cond (t := false) rfl ?_
            simp only [go_sem, binC]
            refine wpc_skip ?_
            simp only [go_sem, binC, out_n, thenX_n]
            refine wpc_reg ?_
            simp only [go_sem, binC, e13, hw2]
            simp only [go_sem, binC, thenX_n]
            exact hnext _ H5 hx5 (by rw [hd, hdd]; rfl) (by simp only [go_sem, binC, e1]) (by simp only [go_sem, binC, e2]) (by simp only [go_sem, binC, e3]) (by simp only [go_sem, binC, e4]) (by simp only [go_sem, binC, e11]) (by simp only [go_sem, binC, e12]) (by simp only [go_sem, binC])
          | false =>
            simp only [go_sem, binC, Bool.not_false]
            refine wpc_cond (t := true) rfl ?_
            simp only [go_sem, binC]
            refine seq_reg ?_
            simp only [go_sem, binC]
            refine wpc_ret ?_
            simp only [go_sem, binC, out_r, thenX_r]
            have hhit : leakF ok N = some (j, i) := leakF_keep (leakF_hit hnone hno (by rw [hd, hdd]; rfl) hji) N (by omega)
            rw [hhit]
            refine ⟨Or.inr rfl, .tuple #[.slice aa (rowL j ls.length).length (rowL j ls.length).length, .slice ab (rowL i ls.length).length (rowL i ls.length).length, .bool true], by simp [resV, resL, res1, putE_get, notT], _, _, rfl, hx1.tr hx5, qa3.mono (agx_sub (x4.tr x5)), qb3.mono (agx_sub (x4.tr x5))⟩
def LeakOk (F : Nat → Option IFn) (f : Nat) (c : Bool) : Prop := ∀ (H : Heap) (n : Nat) (lv sv : Value) (ls : List (Int × Int)) (l : List (TStep n)) (h : Int), SlR Co.p2 (vw 0 H) lv ls → SlR (Co.step n) (vw 0 H) sv l → (Co.prog n).sm (ls, l) →
  ∃ a b H', KC F f [.agg #[lv, sv], .int .i64 h] H (.tuple #[a, b, .bool (leakV c n (ls, l) h).isSome]) H' ∧ AgX [] H H' ∧ SlR Co.int (vw 0 H') a (rowsO ls.length (leakV c n (ls, l) h)).1 ∧ SlR Co.int (vw 0 H') b (rowsO ls.length (leakV c n (ls, l) h)).2
theorem sLeakOf_ok {F : Nat → Option IFn} {f : Nat} (hf : F f = some c_sLeakOf) (gp : ProgOk F 19) (gn : ∀ (H : Heap) (a b c : Int), QC F 86 [.int .i64 a, .int .i64 b, .int .i64 c] H (.bool (inB a b c))) (gv : VarsOk F 88 true) (gf : FindG F 87) : LeakOk F f true := by
  intro H n lv sv ls l h r1 r2 hsm
  suffices hh : ∃ v H', KC F f [.agg #[lv, sv], .int .i64 h] H v H' ∧ (∃ a b, v = .tuple #[a, b, .bool (leakV true n (ls, l) h).isSome] ∧ AgX [] H H' ∧ SlR Co.int (vw 0 H') a (rowsO ls.length (leakV true n (ls, l) h)).1 ∧ SlR Co.int (vw 0 H') b (rowsO ls.length (leakV true n (ls, l) h)).2) by
    obtain ⟨_, H', k, a, b, rfl, hh⟩ := hh
    exact ⟨a, b, H', k, hh⟩
  obtain ⟨_, la, rfl, _⟩ := id r1
  obtain ⟨_, sa, rfl, _⟩ := id r2
  refine KC.mk hf rfl ?_
  refine seq_reg ?_
  simp only [go_sem, binC]
  refine wpc_gen fun H1 hH1 => ?_
  have hx1 : AgX [] H H1 := hH1 ▸ AgX.app [] _ _
  have hb : H1[H.length]? = some ⟨[.slice la ls.length ls.length, .slice sa l.length l.length], 0, 0, false, true⟩ := hH1 ▸ get_new0 _ _
  clear hH1
  have hl1 := hx1.1
  replace r1 := r1.mono (agx_sub hx1)
  replace r2 := r2.mono (agx_sub hx1)
  have hbad : ∀ {K : X → Env → Heap → Prop}, leakV true n (ls, l) h = none → True := fun _ => trivial
  refine seq_assoc (seq_reg ?_)
  simp only [go_sem, binC, gc_of hb, inBlk_some]
  refine op_callB (by simp only [go_sem, binC]; exact gp H1 n _ (ls, l) (prog_rd r1 r2) hsm) (fun hP => ?_) (fun hP => ?_)
  rotate_left
  · have hv : leakV true n (ls, l) h = none := by unfold leakV; rw [hP]; rfl
    simp only [go_sem, binC]
    refine seq_cond (t := true) rfl ?_
    simp only [go_sem, binC]
    refine seq_assoc (seq_reg ?_)
    simp only [go_sem, binC]
    refine seq_ret ⟨Or.inr rfl, .tuple #[sli H1.length 0 0, sli (H1.length + 1) 0 0, .bool false], by simp [resV, resL, res1, putE_get, notT, sli], sli H1.length 0 0, sli (H1.length + 1) 0 0, by rw [hv]; rfl, ?_, ?_, ?_⟩
    · first | exact hx1.tr (AgX.app [] _ _) | (rw [List.append_assoc]; exact hx1.tr (AgX.app [] _ _))
    · rw [hv]; exact ⟨by simp [rowsO], _, rfl, .inl rfl⟩
    · rw [hv]; exact ⟨by simp [rowsO], _, rfl, .inl rfl⟩
  simp only [go_sem, binC]
  refine op_callB (by simp only [go_sem, binC]; exact gn H1 h 0 2) (fun hI => ?_) (fun hI => ?_)
  rotate_left
  · have hv : leakV true n (ls, l) h = none := by unfold leakV; rw [hI, Bool.and_false]; rfl
    simp only [go_sem, binC]
    refine seq_cond (t := true) rfl ?_
    simp only [go_sem, binC]
    refine seq_assoc (seq_reg ?_)
    simp only [go_sem, binC]
    refine seq_ret ⟨Or.inr rfl, .tuple #[sli H1.length 0 0, sli (H1.length + 1) 0 0, .bool false], by simp [resV, resL, res1, putE_get, notT, sli], sli H1.length 0 0, sli (H1.length + 1) 0 0, by rw [hv]; rfl, ?_, ?_, ?_⟩
    · first | exact hx1.tr (AgX.app [] _ _) | (rw [List.append_assoc]; exact hx1.tr (AgX.app [] _ _))
    · rw [hv]; exact ⟨by simp [rowsO], _, rfl, .inl rfl⟩
    · rw [hv]; exact ⟨by simp [rowsO], _, rfl, .inl rfl⟩
  have hv : leakV true n (ls, l) h = leakG n (ls, l) (ls.map (lowL true h)) (diffC true h (ls.map (lowL true h))) := by unfold leakV; rw [hP, hI]; rfl
  have hI2 := inB_iff.1 hI
  simp only [go_sem, binC]
  refine seq_cond (t := false) rfl ?_
  simp only [go_sem, binC]
  obtain ⟨w, H2, k2, x2, q2⟩ := gv H1 n _ _ ls l h hI2.1 hI2.2 r1 r2 hsm hP
  obtain ⟨a, b, H3, k3, x3, q3, q4⟩ := gf H2 n _ _ _ ls l _ h true (r1.mono (agx_sub x2)) (r2.mono (agx_sub x2)) hsm hP q2 (by rw [List.length_map])
  refine seq_skip (seq_regD ?_)
  simp only [go_sem, binC, gc_of hb, inBlk_some]
  refine op_callK (by simp only [go_sem, binC]; exact k2) ?_
  simp only [go_sem, binC]
  refine op_callK (by simp only [go_sem, binC]; exact k3) ?_
  obtain ⟨_, aa, rfl, _⟩ := id q3
  obtain ⟨_, ab, rfl, _⟩ := id q4
  simp only [go_sem, binC]
  rw [hv]
  generalize leakG n (ls, l) (ls.map (lowL true h)) (diffC true h (ls.map (lowL true h))) = lk at *
  exact wpc_ret ⟨Or.inr rfl, .tuple #[.slice aa (rowsO ls.length lk).1.length (rowsO ls.length lk).1.length, .slice ab (rowsO ls.length lk).2.length (rowsO ls.length lk).2.length, .bool lk.isSome], by simp [resV, resL, res1, putE_get, notT], _, _, rfl, hx1.tr (x2.tr x3), q3, q4⟩
end Go.Proofs.YtkmghcglmjehcaaI
end
section
/- The first two rows that tell something that may not be known, or set what is trusted (the program's). -/
set_option linter.unusedVariables false
set_option linter.unusedSimpArgs false
namespace Go.Proofs.YtkmghcglmjehcaaI
open Go Go.RowKit
def c_iPair : IFn := ⟨3, 78, [.t 6, .t 7, .t 8],
 .seq (.reg none [
    ⟨(some 3), none, .box (.t 0)⟩,
    ⟨(some 6), none, .mov (.c (.slice none 0 0))⟩,
    ⟨(some 7), none, .mov (.c (.slice none 0 0))⟩,
    ⟨(some 8), none, .mov (.c (.bool false))⟩])
 (.seq (.reg none [
    ⟨(some 19), none, .fad 0 (.t 3)⟩,
    ⟨(some 20), none, .load false 1 (.t 19)⟩,
    ⟨(some 21), none, .len (.t 20)⟩,
    ⟨(some 9), none, .mov (.t 21)⟩])
 (.seq (.reg none [
    ⟨(some 10), none, .mov (.c (.int .i64 0))⟩])
 (.seq (.seq (.reg none [
     ⟨(some 22), none, .mov (.t 1)⟩,
     ⟨(some 23), none, .len (.t 22)⟩,
     ⟨(some 24), none, .mov (.c (.int .i64 0))⟩])
  (.block 0 (.loop (.seq (.reg none [
       ⟨(some 25), none, .bin .lss (.t 24) (.t 23)⟩])
    (.seq (.cond (.t 25) (.skip) (.exit 0))
    (.seq (.block 1 (.seq (.reg none [
         ⟨(some 26), none, .mov (.t 24)⟩,
         ⟨(some 27), none, .iad 1 (.t 22) (.t 24)⟩,
         ⟨(some 28), none, .load false 1 (.t 27)⟩,
         ⟨(some 11), none, .mov (.t 26)⟩,
         ⟨(some 12), none, .mov (.t 28)⟩])
      (.seq (.reg none [
         ⟨(some 29), none, .mov (.t 12)⟩])
      (.cond (.t 29) (.reg none [
         ⟨(some 30), none, .mov (.t 10)⟩,
         ⟨(some 31), none, .mov (.t 11)⟩,
         ⟨(some 32), none, .bin .shl (.c (.int .i64 1)) (.t 31)⟩,
         ⟨(some 33), none, .bin .or (.t 30) (.t 32)⟩,
         ⟨(some 10), none, .mov (.t 33)⟩]) (.skip)))))
    (.reg none [
      ⟨(some 34), none, .bin .add (.t 24) (.c (.int .i64 1))⟩,
      ⟨(some 24), none, .mov (.t 34)⟩])))))))
 (.seq (.seq (.reg none [
     ⟨(some 35), none, .mov (.t 9)⟩,
     ⟨(some 36), none, .bin .shl (.c (.int .i64 1)) (.t 35)⟩,
     ⟨(some 37), none, .mov (.c (.int .i64 0))⟩])
  (.block 2 (.loop (.seq (.reg none [
       ⟨(some 38), none, .bin .lss (.t 37) (.t 36)⟩])
    (.seq (.cond (.t 38) (.skip) (.exit 2))
    (.seq (.block 3 (.seq (.reg none [
         ⟨(some 39), none, .mov (.t 37)⟩,
         ⟨(some 13), none, .mov (.t 39)⟩])
      (.seq (.reg none [
         ⟨(some 40), none, .mov (.t 13)⟩,
         ⟨(some 41), none, .mov (.c (.int .i64 0))⟩])
      (.block 4 (.loop (.seq (.reg none [
           ⟨(some 42), none, .bin .lss (.t 41) (.t 40)⟩])
        (.seq (.cond (.t 42) (.skip) (.exit 4))
        (.seq (.block 5 (.seq (.reg none [
             ⟨(some 43), none, .mov (.t 41)⟩,
             ⟨(some 14), none, .mov (.t 43)⟩])
          (.seq (.seq (.reg none [
              ⟨(some 44), none, .mov (.t 14)⟩,
              ⟨(some 45), none, .mov (.t 13)⟩,
              ⟨(some 46), none, .bin .xor (.t 44) (.t 45)⟩,
              ⟨(some 47), none, .mov (.t 10)⟩,
              ⟨(some 48), none, .bin .and (.t 46) (.t 47)⟩,
              ⟨(some 49), none, .bin .neq (.t 48) (.c (.int .i64 0))⟩])
           (.cond (.t 49) (.exit 5) (.skip)))
          (.seq (.regW 9 [
             ⟨(some 51), none, .load true 2 (.t 3)⟩,
             ⟨(some 52), none, .mov (.t 14)⟩,
             ⟨(some 53), none, .mov (.t 9)⟩,
             ⟨(some 54), none, .call .k (.f 137) [(.t 52), (.t 53)]⟩,
             ⟨(some 55), none, .call .k (.f 26) [(.t 51), (.t 54)]⟩,
             ⟨(some 50), none, .mov (.t 55)⟩,
             ⟨(some 56), none, .ext (.t 50) 0⟩,
             ⟨(some 57), none, .ext (.t 50) 1⟩,
             ⟨(some 15), none, .new [(.slice none 0 0), (.slice none 0 0), (.slice none 0 0)]⟩,
             ⟨none, none, .store 3 (.t 15) (.t 56)⟩,
             ⟨(some 16), none, .mov (.t 57)⟩])
          (.seq (.regW 9 [
             ⟨(some 59), none, .load true 2 (.t 3)⟩,
             ⟨(some 60), none, .mov (.t 13)⟩,
             ⟨(some 61), none, .mov (.t 9)⟩,
             ⟨(some 62), none, .call .k (.f 137) [(.t 60), (.t 61)]⟩,
             ⟨(some 63), none, .call .k (.f 26) [(.t 59), (.t 62)]⟩,
             ⟨(some 58), none, .mov (.t 63)⟩,
             ⟨(some 64), none, .ext (.t 58) 0⟩,
             ⟨(some 65), none, .ext (.t 58) 1⟩,
             ⟨(some 17), none, .new [(.slice none 0 0), (.slice none 0 0), (.slice none 0 0)]⟩,
             ⟨none, none, .store 3 (.t 17) (.t 64)⟩,
             ⟨(some 18), none, .mov (.t 65)⟩])
          (.seq (.reg none [
             ⟨(some 66), none, .mov (.t 2)⟩,
             ⟨(some 67), none, .load true 3 (.t 15)⟩,
             ⟨(some 68), none, .load true 3 (.t 17)⟩,
             ⟨(some 69), none, .call .q (.t 66) [(.t 67), (.t 68)]⟩])
          (.cond (.t 69) (.seq (.reg none [
              ⟨(some 70), none, .mov (.t 14)⟩,
              ⟨(some 71), none, .mov (.t 9)⟩,
              ⟨(some 72), none, .call .k (.f 137) [(.t 70), (.t 71)]⟩,
              ⟨(some 73), none, .mov (.t 13)⟩,
              ⟨(some 74), none, .mov (.t 9)⟩,
              ⟨(some 75), none, .call .k (.f 137) [(.t 73), (.t 74)]⟩,
              ⟨(some 6), none, .mov (.t 72)⟩,
              ⟨(some 7), none, .mov (.t 75)⟩,
              ⟨(some 8), none, .mov (.c (.bool true))⟩])
           (.ret)) (.skip))))))))
        (.reg none [
          ⟨(some 76), none, .bin .add (.t 41) (.c (.int .i64 1))⟩,
          ⟨(some 41), none, .mov (.t 76)⟩])))))))))
    (.reg none [
      ⟨(some 77), none, .bin .add (.t 37) (.c (.int .i64 1))⟩,
      ⟨(some 37), none, .mov (.t 77)⟩])))))))
 (.seq (.reg none [
    ⟨(some 6), none, .mov (.c (.slice none 0 0))⟩,
    ⟨(some 7), none, .mov (.c (.slice none 0 0))⟩,
    ⟨(some 8), none, .mov (.c (.bool false))⟩])
 (.ret))))))⟩
def c_iLeakOf : IFn := ⟨2, 24, [.t 4, .t 5, .t 6],
 .seq (.reg none [
    ⟨(some 2), none, .box (.t 0)⟩,
    ⟨(some 3), none, .box (.t 1)⟩,
    ⟨(some 4), none, .mov (.c (.slice none 0 0))⟩,
    ⟨(some 5), none, .mov (.c (.slice none 0 0))⟩,
    ⟨(some 6), none, .mov (.c (.bool false))⟩])
 (.seq (.seq (.reg none [
     ⟨(some 7), none, .load true 2 (.t 2)⟩,
     ⟨(some 8), none, .call .q (.f 54) [(.t 7)]⟩,
     ⟨(some 9), none, .un .not (.t 8)⟩,
     ⟨(some 10), none, .mov (.t 9)⟩,
     ⟨(some 11), (some (10, false)), .load false 1 (.t 3)⟩,
     ⟨(some 12), (some (10, false)), .call .q (.f 89) [(.t 11)]⟩,
     ⟨(some 13), (some (10, false)), .un .not (.t 12)⟩,
     ⟨(some 14), none, .pick (.t 10) (.c (.bool true)) (.t 13)⟩])
  (.cond (.t 14) (.seq (.reg none [
      ⟨(some 4), none, .mov (.c (.slice none 0 0))⟩,
      ⟨(some 5), none, .mov (.c (.slice none 0 0))⟩,
      ⟨(some 6), none, .mov (.c (.bool false))⟩])
   (.ret)) (.skip)))
 (.seq (.reg (some 9) [
    ⟨(some 15), none, .load true 2 (.t 2)⟩,
    ⟨(some 16), none, .load true 2 (.t 2)⟩,
    ⟨(some 17), none, .load false 1 (.t 3)⟩,
    ⟨(some 18), none, .call .k (.f 41) [(.t 16), (.t 17)]⟩,
    ⟨(some 19), none, .mkf 91 [] [(.t 3)]⟩,
    ⟨(some 20), none, .call .k (.f 90) [(.t 15), (.t 18), (.t 19)]⟩,
    ⟨(some 21), none, .ext (.t 20) 0⟩,
    ⟨(some 22), none, .ext (.t 20) 1⟩,
    ⟨(some 23), none, .ext (.t 20) 2⟩,
    ⟨(some 4), none, .mov (.t 21)⟩,
    ⟨(some 5), none, .mov (.t 22)⟩,
    ⟨(some 6), none, .mov (.t 23)⟩])
 (.ret)))⟩
theorem GLs.slI {et lo : Nat} {H : Heap} {v : Value} {l : List Int} (h : GLs fi 1 et lo H v l) (hr : ∀ x ∈ l, RgI x) (hl : l.length ≤ 1000) : SlR Co.int (vw 0 H) v l := h.gli.slI (es := 1) hr hl
theorem GLs.lo {α : Type} {fl : α → List Value} {es et lo lo' : Nat} {H : Heap} {v : Value} {l : List α} (h : GLs fl es et lo H v l) (hl : lo' ≤ lo) : GLs fl es et lo' H v l := h.imp id fun ⟨b, h1, h2⟩ => ⟨b, Nat.le_trans hl h1, h2⟩
/-- Two rows, each in memory of its own. -/
def TwoR (lo : Nat) (H : Heap) (k : Nat) (a b : Value) (r : Option (Nat × Nat)) : Prop := GLs fi 1 3 lo H a (rowsO k r).1 ∧ GLs fi 1 3 lo H b (rowsO k r).2 ∧ ∀ x, x ∈ blkOf a → x ∉ blkOf b
def PairG (F : Nat → Option IFn) (f : Nat) : Prop := ∀ (H : Heap) (n : Nat) (lv sv u : Value) (ls : List (Int × Int)) (l : List (TStep n)) (vs : List Bool) (g pb : Nat) (d : RunS → RunS → Bool), SlR Co.p2 (vw 0 H) lv ls → SlR (Co.step n) (vw 0 H) sv l → (Co.prog n).sm (ls, l) → progB n (ls, l) = true → SlR Co.bool (vw 0 H) u vs → vs.length = ls.length →
  (∀ (H' : Heap) (nv wv sv nv' wv' sv' : Value) (r r' : RunS), AgX [] H H' → RunAt H' nv wv sv r → RunAt H' nv' wv' sv' r' → QC F g [.agg #[nv, wv, sv], .agg #[nv', wv', sv'], ptr pb 0] H' (.bool (d r r'))) →
  ∃ a b H', KC F f [.agg #[lv, sv], u, .func (.func g) #[] #[ptr pb 0]] H (.tuple #[a, b, .bool (leakG n (ls, l) vs d).isSome]) H' ∧ AgX [] H H' ∧ TwoR H.length H' ls.length a b (leakG n (ls, l) vs d)
set_option maxHeartbeats 4000000 in
theorem iPair_ok {F : Nat → Option IFn} {f : Nat} (hf : F f = some c_iPair) (gb : BitsOwn F 137) (gr : RunOk F 26) : PairG F f := by
  intro H n lv sv u ls l vs g pb d r1 r2 hsm hP hu hvl hd
  suffices hh : ∃ v H', KC F f [.agg #[lv, sv], u, .func (.func g) #[] #[ptr pb 0]] H v H' ∧ (∃ a b, v = .tuple #[a, b, .bool (leakG n (ls, l) vs d).isSome] ∧ AgX [] H H' ∧ TwoR H.length H' ls.length a b (leakG n (ls, l) vs d)) by
    obtain ⟨_, H', k, a, b, rfl, hh⟩ := hh
    exact ⟨a, b, H', k, hh⟩
  obtain ⟨_, la, rfl, _⟩ := id r1
  obtain ⟨_, sa, rfl, _⟩ := id r2
  obtain ⟨_, ua, rfl, _⟩ := id hu
  have hls : ls.length ≤ 4 := progB_le4 hP
  have h16 := pow_le16 hls
  have hpp : 0 < 2 ^ ls.length := Nat.pow_pos (by omega)
  have hsl : binI .shl .i64 1 (ls.length : Int) = some (.int .i64 ((2 ^ ls.length : Nat) : Int)) := binI_shlN hls
  have hmk : ∀ j, j ≤ 4 → maskN vs j ≤ 16 := fun j hj => by have h1 := maskN_lt vs j; have h2 := pow_le16 hj; omega
  unfold leakG
  generalize hok : okR n (ls, l) vs d = ok
  show ∃ v H', KC F f _ H v H' ∧ (∃ a b, v = .tuple #[a, b, .bool (leakF ok (2 ^ ls.length)).isSome] ∧ AgX [] H H' ∧ TwoR H.length H' ls.length a b (leakF ok (2 ^ ls.length)))
  generalize hN : 2 ^ ls.length = N at *
  refine KC.mk hf rfl ?_
  refine seq_reg ?_
  simp only [go_sem, binC]
  refine wpc_gen fun H1 hH1 => ?_
  have hx1 : AgX [] H H1 := hH1 ▸ AgX.app [] _ _
  have hb : H1[H.length]? = some ⟨[.slice la ls.length ls.length, .slice sa l.length l.length], 0, 0, false, true⟩ := hH1 ▸ get_new0 _ _
  clear hH1
  have hl1 := hx1.1
  replace r1 := r1.mono (agx_sub hx1)
  replace r2 := r2.mono (agx_sub hx1)
  replace hu := hu.mono (agx_sub hx1)
  refine seq_reg ?_
  simp only [go_sem, binC, gc_of hb, inBlk_some]
  refine seq_reg ?_
  simp only [go_sem, binC]
  refine seq_assoc (seq_reg ?_)
  simp only [go_sem, binC]
  refine seq_block (wpc_loop ?_)
  suffices hh : ∀ (m i : Nat) (e : Env), i + m = vs.length → e 2 = .func (.func g) #[] #[ptr pb 0] → e 3 = ptr H.length 0 → e 9 = .int .i64 ls.length → e 10 = .int .i64 (maskN vs i : Nat) → e 22 = .slice ua vs.length vs.length → e 23 = .int .i64 vs.length → e 24 = .int .i64 i → W F H.length _ e H1 _ from
    hh vs.length 0 _ (by omega) (by simp only [go_sem, binC]) (by simp only [go_sem, binC]) (by simp only [go_sem, binC]) (by (simp only [go_sem, binC]) <;> rfl) (by simp only [go_sem, binC]) (by simp only [go_sem, binC]) (by (simp only [go_sem, binC]) <;> rfl)
  intro m
  induction m with
  | succ m ih =>
    intro i e hi e2 e3 e9 e10 e22 e23 e24
    have hil : i < vs.length := by omega
    have hw1 : IntKind.i64.wrap ((i : Int) + 1) = ((i + 1 : Nat) : Int) := by rw [wrap_id (by omega) (by omega)]; omega
    obtain ⟨ub, uo, huv, hgu⟩ := gcBo hu hil
    simp only [Value.slice.injEq, and_true] at huv
    subst huv
    have hvs : vs.getD i false = vs[i] := by simp [List.getD, hil]
    refine lp_step ?_
    refine seq_reg ?_
    simp only [go_sem, binC, e23, e24]
    refine seq_cond (t := true) (by simp only [go_sem, binC]; rw [decide_eq_true (by omega)]) ?_
    simp only [go_sem, binC]
    refine seq_skip (seq_block (seq_reg ?_))
    simp only [go_sem, binC, e22, e24]
    refine ⟨⟨by omega, by omega⟩, ?_⟩
    simp only [go_sem, binC, Int.toNat_natCast, Nat.mul_one, hgu]
    refine seq_reg ?_
    simp only [go_sem, binC]
    have hnx : maskN vs (i + 1) = if vs.getD i false = true then maskN vs i ||| 2 ^ i else maskN vs i := rfl
    rw [hvs] at hnx
    cases hv : vs[i] with
    | true =>
      rw [hv, if_pos rfl] at hnx
      have h2 := pow_le16 (show i ≤ 4 by omega)
      have h3 := hmk i (by omega)
      have h61 : (2 : Nat) ^ 61 = 2305843009213693952 := rfl
      have hsh : binI .shl .i64 1 (i : Int) = some (.int .i64 ((2 ^ i : Nat) : Int)) := binI_shlN (by omega)
      have hor : binI .or .i64 ((maskN vs i : Nat) : Int) ((2 ^ i : Nat) : Int) = some (.int .i64 ((maskN vs (i + 1) : Nat) : Int)) := by rw [hnx]; exact binI_orN (by omega) (by omega)
      refine wpc_cond (t := true) (by simp only [go_sem, binC]) ?_
      simp only [go_sem, binC]
      refine wpc_reg ?_
      simp only [go_sem, binC, e10, hsh, hor]
      simp only [go_sem, binC, out_n, thenX_n]
      refine wpc_reg ?_
      simp only [go_sem, binC, e24, hw1]
      simp only [go_sem, binC, thenX_n]
      exact ih (i + 1) _ (by omega) (by simp only [go_sem, binC, e2]) (by simp only [go_sem, binC, e3]) (by simp only [go_sem, binC, e9]) (by simp only [go_sem, binC]) (by simp only [go_sem, binC, e22]) (by simp only [go_sem, binC, e23]) (by simp only [go_sem, binC])
    | false =>
      rw [hv, if_neg (by simp)] at hnx
      refine wpc_cond (t := false) (by simp only [go_sem, binC]) ?_
      simp only [go_sem, binC]
      refine wpc_skip ?_
      simp only [go_sem, binC, out_n, thenX_n]
      refine wpc_reg ?_
      simp only [go_sem, binC, e24, hw1]
      simp only [go_sem, binC, thenX_n]
      exact ih (i + 1) _ (by omega) (by simp only [go_sem, binC, e2]) (by simp only [go_sem, binC, e3]) (by simp only [go_sem, binC, e9]) (by simp only [go_sem, binC, e10, hnx]) (by simp only [go_sem, binC, e22]) (by simp only [go_sem, binC, e23]) (by simp only [go_sem, binC])
  | zero =>
    intro i e hi e2 e3 e9 e10 e22 e23 e24
    obtain rfl : i = vs.length := by omega
    have hmm := hmk vs.length (by omega)
    refine lp_step ?_
    refine seq_reg ?_
    simp only [go_sem, binC, e23, e24]
    refine seq_cond (t := false) (by simp only [go_sem, binC]; rw [decide_eq_false (by omega)]) ?_
    simp only [go_sem, binC]
    refine seq_exit ?_
    simp only [go_sem, binC, thenX_e, out_e, thenX_n]
    refine seq_assoc (seq_reg ?_)
    simp only [go_sem, binC, e9, hsl]
    refine seq_block (wpc_loop ?_)
    suffices hh : ∀ (m i : Nat) (e : Env) (Hc : Heap), i + m = N → AgX [] H1 Hc → leakF ok i = none → e 2 = .func (.func g) #[] #[ptr pb 0] → e 3 = ptr H.length 0 → e 9 = .int .i64 ls.length → e 10 = .int .i64 (maskN vs vs.length : Nat) → e 36 = .int .i64 N → e 37 = .int .i64 i → W F H.length _ e Hc _ from
      hh N 0 _ H1 (by omega) (AgX.refl _ _) rfl (by simp only [go_sem, binC, e2]) (by simp only [go_sem, binC, e3]) (by simp only [go_sem, binC, e9]) (by simp only [go_sem, binC, e10]) (by simp only [go_sem, binC]) (by (simp only [go_sem, binC]) <;> rfl)
    clear e2 e3 e9 e10 e22 e23 e24 hi e
    intro m
    induction m with
    | zero =>
      intro i e Hc hi hxc hnone e2 e3 e9 e10 e36 e37
      obtain rfl : i = N := by omega
      refine lp_step ?_
      refine seq_reg ?_
      simp only [go_sem, binC, e36, e37]
      refine seq_cond (t := false) (by simp only [go_sem, binC]; rw [decide_eq_false (by omega)]) ?_
      simp only [go_sem, binC]
      refine seq_exit ?_
      simp only [go_sem, binC, thenX_e, out_e, thenX_n]
      refine seq_reg ?_
      simp only [go_sem, binC]
      rw [hnone]
      exact wpc_ret ⟨Or.inr rfl, .tuple #[nilS, nilS, .bool false], by simp [resV, resL, res1, putE_get, notT, nilS], nilS, nilS, rfl, hx1.tr hxc, .inl ⟨rfl, rfl⟩, .inl ⟨rfl, rfl⟩, fun x hx => by simp [blkOf, nilS] at hx⟩
    | succ m ih =>
      intro i e Hc hi hxc hnone e2 e3 e9 e10 e36 e37
      have hiN : i < N := by omega
      have hw1 : IntKind.i64.wrap ((i : Int) + 1) = ((i + 1 : Nat) : Int) := by rw [wrap_id (by omega) (by omega)]; omega
      refine lp_step ?_
      refine seq_reg ?_
      simp only [go_sem, binC, e36, e37]
      refine seq_cond (t := true) (by simp only [go_sem, binC]; rw [decide_eq_true (by omega)]) ?_
      simp only [go_sem, binC]
      refine seq_skip (seq_block (seq_reg ?_))
      simp only [go_sem, binC, e37]
      refine seq_reg ?_
      simp only [go_sem, binC]
      refine wpc_block (wpc_loop ?_)
      suffices hh : ∀ (q j : Nat) (e : Env) (Hc : Heap), j + q = i → AgX [] H1 Hc → (∀ f, f < j → ok f i = false) → e 2 = .func (.func g) #[] #[ptr pb 0] → e 3 = ptr H.length 0 → e 9 = .int .i64 ls.length → e 10 = .int .i64 (maskN vs vs.length : Nat) → e 13 = .int .i64 i → e 36 = .int .i64 N → e 37 = .int .i64 i → e 40 = .int .i64 i → e 41 = .int .i64 j → W F H.length _ e Hc _ from
        hh i 0 _ Hc (by omega) hxc (fun f h => by omega) (by simp only [go_sem, binC, e2]) (by simp only [go_sem, binC, e3]) (by simp only [go_sem, binC, e9]) (by simp only [go_sem, binC, e10]) (by simp only [go_sem, binC]) (by simp only [go_sem, binC, e36]) (by simp only [go_sem, binC, e37]) (by simp only [go_sem, binC]) (by (simp only [go_sem, binC]) <;> rfl)
      clear e2 e3 e9 e10 e36 e37 hxc e Hc
      intro q
      induction q with
      | zero =>
        intro j e Hc hj hxc hno e2 e3 e9 e10 e13 e36 e37 e40 e41
        refine lp_step ?_
        refine seq_reg ?_
        simp only [go_sem, binC, e40, e41]
        refine seq_cond (t := false) (by simp only [go_sem, binC]; rw [decide_eq_false (by omega)]) ?_
        simp only [go_sem, binC]
        refine seq_exit ?_
        simp only [go_sem, binC, thenX_e, out_e, out_n, thenX_n]
        refine wpc_reg ?_
        simp only [go_sem, binC, e37, hw1]
        simp only [go_sem, binC, thenX_n]
        exact ih (i + 1) _ Hc (by omega) hxc (leakF_step hnone fun f hf => hno f (by omega)) (by simp only [go_sem, binC, e2]) (by simp only [go_sem, binC, e3]) (by simp only [go_sem, binC, e9]) (by simp only [go_sem, binC, e10]) (by simp only [go_sem, binC, e36]) (by simp only [go_sem, binC])
      | succ q ih2 =>
        intro j e Hc hj hxc hno e2 e3 e9 e10 e13 e36 e37 e40 e41
        have hji : j < i := by omega
        have hw2 : IntKind.i64.wrap ((j : Int) + 1) = ((j + 1 : Nat) : Int) := by rw [wrap_id (by omega) (by omega)]; omega
        have h61 : (2 : Nat) ^ 61 = 2305843009213693952 := rfl
        have hxo : binI .xor .i64 (j : Int) (i : Int) = some (.int .i64 ((j ^^^ i : Nat) : Int)) := binI_xorN (by omega) (by omega)
        have hxl : j ^^^ i < 2 ^ 61 := Nat.xor_lt_two_pow (by omega) (by omega)
        have han : binI .and .i64 ((j ^^^ i : Nat) : Int) ((maskN vs vs.length : Nat) : Int) = some (.int .i64 (((j ^^^ i) &&& maskN vs vs.length : Nat) : Int)) := binI_andN (by omega) (by omega)
        have hnext : ∀ (e' : Env) (H' : Heap), AgX [] H1 H' → ok j i = false → e' 2 = .func (.func g) #[] #[ptr pb 0] → e' 3 = ptr H.length 0 → e' 9 = .int .i64 ls.length → e' 10 = .int .i64 (maskN vs vs.length : Nat) → e' 13 = .int .i64 i → e' 36 = .int .i64 N → e' 37 = .int .i64 i → e' 40 = .int .i64 i → e' 41 = .int .i64 ((j + 1 : Nat) : Int) → W F H.length _ e' H' _ := fun e' H' hx hq p2 p3 p9 p10 p13 p36 p37 p40 p41 => ih2 (j + 1) e' H' (by omega) hx (fun f hf => by
          rcases Nat.lt_or_ge f j with hl | hl
          · exact hno f hl
          · obtain rfl : f = j := by omega
            exact hq) p2 p3 p9 p10 p13 p36 p37 p40 p41
        refine lp_step ?_
        refine seq_reg ?_
        simp only [go_sem, binC, e40, e41]
        refine seq_cond (t := true) (by simp only [go_sem, binC]; rw [decide_eq_true (by omega)]) ?_
        simp only [go_sem, binC]
        refine seq_skip (seq_block (seq_reg ?_))
        simp only [go_sem, binC, e41]
        refine seq_assoc (seq_reg ?_)
        simp only [go_sem, binC, e13, e10, hxo, han]
        by_cases hsa : sameR vs j i = true
        rotate_left
        · have hne : ((((j ^^^ i) &&& maskN vs vs.length : Nat) : Int) != 0) = true := by
            rw [bne_iff_ne]
            intro h0
            exact hsa (mask_same.1 (by omega))
          simp only [go_sem, binC, hne]
          refine seq_cond (t := true) rfl ?_
          simp only [go_sem, binC]
          refine seq_exit ?_
          simp only [go_sem, binC, thenX_e, out_e, out_n, thenX_n]
          refine wpc_reg ?_
          simp only [go_sem, binC, e41, hw2]
          simp only [go_sem, binC, thenX_n]
          exact hnext _ Hc hxc (by rw [← hok]; unfold okR; rw [Bool.eq_false_iff.2 hsa]; rfl) (by simp only [go_sem, binC, e2]) (by simp only [go_sem, binC, e3]) (by simp only [go_sem, binC, e9]) (by simp only [go_sem, binC, e10]) (by simp only [go_sem, binC, e13]) (by simp only [go_sem, binC, e36]) (by simp only [go_sem, binC, e37]) (by simp only [go_sem, binC, e40]) (by simp only [go_sem, binC])
        have hne : ((((j ^^^ i) &&& maskN vs vs.length : Nat) : Int) != 0) = false := by
          rw [mask_same.2 hsa]; rfl
        simp only [go_sem, binC, hne]
        refine seq_cond (t := false) rfl ?_
        simp only [go_sem, binC]
        have hbc := hxc.get hb (by simp)
        obtain ⟨za, Ha, ka, xa, qa⟩ := gb Hc j ls.length (by omega) hls
        have sa' := qa.slI (rowL_RgI _ _) (by rw [rowL_len]; omega)
        obtain ⟨_, aa, rfl, _⟩ := id sa'
        obtain ⟨nx, wx, tx, Hx, kx, xx, ax⟩ := run_row gr (r1.mono (agx_sub (hxc.tr xa))) (r2.mono (agx_sub (hxc.tr xa))) hsm hP sa'
        obtain ⟨_, nxa, rfl, _⟩ := id ax.n
        obtain ⟨_, wxa, rfl, _⟩ := id ax.w
        obtain ⟨_, txa, rfl, _⟩ := id ax.s
        have hlc := hxc.1
        have hla := xa.1
        have hlx := xx.1
        refine seq_skip (seq_regW ?_)
        simp only [go_sem, binC, e3, e9, gc_of hbc, inBlk_some]
        refine op_callK (by simp only [go_sem, binC]; exact ka) ?_
        simp only [go_sem, binC]
        refine op_callK (by simp only [go_sem, binC]; exact kx) ?_
        simp only [go_sem, binC]
        refine ⟨by omega, ?_⟩
        refine wpc_gen fun H2 hh2 => ?_
        have x2 : AgX [] Hx H2 := hh2 ▸ AgX.app [] _ _
        have hbx : H2[Hx.length]? = some ⟨[.slice nxa (runR n (ls, l) j).1.length (runR n (ls, l) j).1.length, .slice wxa (runR n (ls, l) j).2.1.length (runR n (ls, l) j).2.1.length, .slice txa (runR n (ls, l) j).2.2.length (runR n (ls, l) j).2.2.length], 0, 0, false, true⟩ := hh2 ▸ get_new0 _ _
        clear hh2
        have hx2 := hxc.tr (xa.tr (xx.tr x2))
        have hb2 := hx2.get hb (by simp)
        obtain ⟨zb, Hb, kb, xb, qb⟩ := gb H2 i ls.length (by omega) hls
        have sb' := qb.slI (rowL_RgI _ _) (by rw [rowL_len]; omega)
        obtain ⟨_, ab, rfl, _⟩ := id sb'
        obtain ⟨ny, wy, ty, Hy, ky, xy, ay⟩ := run_row gr (r1.mono (agx_sub (hx2.tr xb))) (r2.mono (agx_sub (hx2.tr xb))) hsm hP sb'
        obtain ⟨_, nya, rfl, _⟩ := id ay.n
        obtain ⟨_, wya, rfl, _⟩ := id ay.w
        obtain ⟨_, tya, rfl, _⟩ := id ay.s
        have hl2 := x2.1
        have hlb := xb.1
        have hly := xy.1
        refine seq_regW ?_
        simp only [go_sem, binC, e3, e9, e13, gc_of hb2, inBlk_some]
        refine op_callK (by simp only [go_sem, binC]; exact kb) ?_
        simp only [go_sem, binC]
        refine op_callK (by simp only [go_sem, binC]; exact ky) ?_
        simp only [go_sem, binC]
        refine ⟨by omega, ?_⟩
        refine wpc_gen fun H3 hh3 => ?_
        have x3 : AgX [] Hy H3 := hh3 ▸ AgX.app [] _ _
        have hby : H3[Hy.length]? = some ⟨[.slice nya (runR n (ls, l) i).1.length (runR n (ls, l) i).1.length, .slice wya (runR n (ls, l) i).2.1.length (runR n (ls, l) i).2.1.length, .slice tya (runR n (ls, l) i).2.2.length (runR n (ls, l) i).2.2.length], 0, 0, false, true⟩ := hh3 ▸ get_new0 _ _
        clear hh3
        have hx23 := xb.tr (xy.tr x3)
        have hbx3 := hx23.get hbx (by simp)
        have ax3 := ax.mono (x2.tr hx23)
        have ay3 := ay.mono x3
        have hx3 := hx2.tr hx23
        have hd3 : ok j i = d (runR n (ls, l) j) (runR n (ls, l) i) := by
          rw [← hok]; unfold okR; rw [hsa, Bool.true_and]
        have hcl := hd H3 _ _ _ _ _ _ _ _ (hx1.tr hx3) ax3 ay3
        rw [← hd3] at hcl
        refine seq_reg ?_
        simp only [go_sem, binC, e2, gc_of hbx3, gc_of hby, inBlk_some]
        refine op_callQc (g := g) (first := #[]) (cap := #[ptr pb 0]) (by simp only [go_sem, binC, e2]) (by simp only [List.nil_append, List.append_nil]; simp only [go_sem, binC]; exact hcl) ?_
        cases hdd : ok j i with
        | false =>
          simp only [go_sem, binC]
          refine wpc_cond (t := false) rfl ?_
          simp only [go_sem, binC]
          refine wpc_skip ?_
          simp only [go_sem, binC, out_n, thenX_n]
          refine wpc_reg ?_
          simp only [go_sem, binC, e41, hw2]
          simp only [go_sem, binC, thenX_n]
          exact hnext _ H3 hx3 hdd (by simp only [go_sem, binC, e2]) (by simp only [go_sem, binC, e3]) (by simp only [go_sem, binC, e9]) (by simp only [go_sem, binC, e10]) (by simp only [go_sem, binC, e13]) (by simp only [go_sem, binC, e36]) (by simp only [go_sem, binC, e37]) (by simp only [go_sem, binC, e40]) (by simp only [go_sem, binC])
        | true =>
          obtain ⟨zc, H4, k4, x4, q4⟩ := gb H3 j ls.length (by omega) hls
          obtain ⟨zd, H5, k5, x5, q5⟩ := gb H4 i ls.length (by omega) hls
          have oc := q4.gli.one
          have od := q5.gli.one
          simp only [go_sem, binC]
          refine wpc_cond (t := true) rfl ?_
          simp only [go_sem, binC]
          refine seq_reg ?_
          simp only [go_sem, binC, e9]
          refine op_callK (by simp only [go_sem, binC]; exact k4) ?_
          simp only [go_sem, binC, e9, e13]
          refine op_callK (by simp only [go_sem, binC]; exact k5) ?_
          simp only [go_sem, binC]
          refine wpc_ret ?_
          simp only [go_sem, binC, out_r, thenX_r]
          have hhit : leakF ok N = some (j, i) := leakF_keep (leakF_hit hnone hno hdd hji) N (by omega)
          rw [hhit]
          have hl3 := hx3.1
          have hl4 := x4.1
          have nc : ∀ v : Value, one v = true → notT v = true := fun v h => by cases v <;> first | rfl | (simp [one] at h)
          refine ⟨Or.inr rfl, .tuple #[zc, zd, .bool true], by simp [resV, resL, res1, putE_get, nc zc oc, nc zd od, show notT (.bool true) = true from rfl], _, _, rfl, hx1.tr (hx3.tr (x4.tr x5)), (q4.keep x5 (fun _ _ => by simp)).lo (by omega), q5.lo (by omega), fun x h1 h2 => ?_⟩
          have := (q4.blk h1).2
          have := (q5.blk h2).1
          omega
def LeakOwn (F : Nat → Option IFn) (f : Nat) (c : Bool) : Prop := ∀ (H : Heap) (n : Nat) (lv sv : Value) (ls : List (Int × Int)) (l : List (TStep n)) (h : Int), SlR Co.p2 (vw 0 H) lv ls → SlR (Co.step n) (vw 0 H) sv l → (Co.prog n).sm (ls, l) →
  ∃ a b H', KC F f [.agg #[lv, sv], .int .i64 h] H (.tuple #[a, b, .bool (leakV c n (ls, l) h).isSome]) H' ∧ AgX [] H H' ∧ TwoR H.length H' ls.length a b (leakV c n (ls, l) h)
theorem TwoR.none (lo k : Nat) (H : Heap) : TwoR lo H k nilS nilS none := ⟨.inl ⟨rfl, rfl⟩, .inl ⟨rfl, rfl⟩, fun x hx => by simp [blkOf, nilS] at hx⟩
theorem TwoR.lo {lo lo' k : Nat} {H : Heap} {a b : Value} {r : Option (Nat × Nat)} (h : TwoR lo H k a b r) (hl : lo' ≤ lo) : TwoR lo' H k a b r := ⟨h.1.lo hl, h.2.1.lo hl, h.2.2⟩
theorem TwoR.ones {lo k : Nat} {H : Heap} {a b : Value} {r : Option (Nat × Nat)} (h : TwoR lo H k a b r) : (one a = true ∧ one b = true) ∧ notT a = true ∧ notT b = true := by
  have nc : ∀ v : Value, one v = true → notT v = true := fun v h => by cases v <;> first | rfl | (simp [one] at h)
  exact ⟨⟨h.1.gli.one, h.2.1.gli.one⟩, nc _ h.1.gli.one, nc _ h.2.1.gli.one⟩
theorem iLeakOf_ok {F : Nat → Option IFn} {f : Nat} (hf : F f = some c_iLeakOf) (gp : ProgOk F 54) (gn : ∀ (H : Heap) (a : Int), QC F 89 [.int .i64 a] H (.bool (inB a 0 2))) (gv : VarsOk F 41 true) (gf : PairG F 90) (gc : F 91 = some c_leak1) (gt : ToldOk F 42) (ge : IntsOk F 92) : LeakOwn F f true := by
  intro H n lv sv ls l h r1 r2 hsm
  suffices hh : ∃ v H', KC F f [.agg #[lv, sv], .int .i64 h] H v H' ∧ (∃ a b, v = .tuple #[a, b, .bool (leakV true n (ls, l) h).isSome] ∧ AgX [] H H' ∧ TwoR H.length H' ls.length a b (leakV true n (ls, l) h)) by
    obtain ⟨_, H', k, a, b, rfl, hh⟩ := hh
    exact ⟨a, b, H', k, hh⟩
  obtain ⟨_, la, rfl, _⟩ := id r1
  obtain ⟨_, sa, rfl, _⟩ := id r2
  refine KC.mk hf rfl ?_
  refine seq_reg ?_
  simp only [go_sem, binC]
  refine wpc_gen fun H1 hH1 => ?_
  have hx1 : AgX [] H H1 := hH1 ▸ AgX.app [] _ _
  have hb : H1[H.length]? = some ⟨[.slice la ls.length ls.length, .slice sa l.length l.length], 0, 0, false, true⟩ := hH1 ▸ get_new0 _ _
  have hb3 : H1[H.length + 1]? = some ⟨[.int .i64 h], 0, 0, false, true⟩ := hH1 ▸ get_new _ _ 1
  clear hH1
  have hl1 := hx1.1
  replace r1 := r1.mono (agx_sub hx1)
  replace r2 := r2.mono (agx_sub hx1)
  refine seq_assoc (seq_reg ?_)
  simp only [go_sem, binC, gc_of hb, gc_of hb3, inBlk_some]
  refine op_callB (by simp only [go_sem, binC]; exact gp H1 n _ (ls, l) (prog_rd r1 r2) hsm) (fun hP => ?_) (fun hP => ?_)
  rotate_left
  · have hv : leakV true n (ls, l) h = none := by unfold leakV; rw [hP]; rfl
    simp only [go_sem, binC]
    refine seq_cond (t := true) rfl ?_
    simp only [go_sem, binC]
    refine seq_assoc (seq_reg ?_)
    simp only [go_sem, binC]
    refine seq_ret ⟨Or.inr rfl, .tuple #[nilS, nilS, .bool false], by simp [resV, resL, res1, putE_get, notT, nilS], nilS, nilS, by rw [hv]; rfl, hx1, by rw [hv]; exact TwoR.none _ _ _⟩
  simp only [go_sem, binC, gc_of hb3, inBlk_some]
  refine op_callB (by first | exact gn H1 h | (simp only [go_sem, binC]; exact gn H1 h)) (fun hI => ?_) (fun hI => ?_)
  rotate_left
  · have hv : leakV true n (ls, l) h = none := by unfold leakV; rw [hI, Bool.and_false]; rfl
    simp only [go_sem, binC]
    refine seq_cond (t := true) rfl ?_
    simp only [go_sem, binC]
    refine seq_assoc (seq_reg ?_)
    simp only [go_sem, binC]
    refine seq_ret ⟨Or.inr rfl, .tuple #[nilS, nilS, .bool false], by simp [resV, resL, res1, putE_get, notT, nilS], nilS, nilS, by rw [hv]; rfl, hx1, by rw [hv]; exact TwoR.none _ _ _⟩
  have hv : leakV true n (ls, l) h = leakG n (ls, l) (ls.map (lowL true h)) (diffC true h (ls.map (lowL true h))) := by unfold leakV; rw [hP, hI]; rfl
  have hI2 := inB_iff.1 hI
  simp only [go_sem, binC]
  refine seq_cond (t := false) rfl ?_
  simp only [go_sem, binC]
  obtain ⟨w, H2, k2, x2, q2⟩ := gv H1 n _ _ ls l h hI2.1 hI2.2 r1 r2 hsm hP
  have hb32 := x2.get hb3 (by simp)
  obtain ⟨a, b, H3, k3, x3, q3⟩ := gf H2 n _ _ _ ls l _ 91 (H.length + 1) (diffC true h (ls.map (lowL true h))) (r1.mono (agx_sub x2)) (r2.mono (agx_sub x2)) hsm hP q2 (by rw [List.length_map]) (fun H' _ _ _ _ _ _ _ _ hx a1 a2 => leak1_ok gc gt ge (hx.get hb32 (by simp)) a1 a2)
  refine seq_skip (seq_regD ?_)
  simp only [go_sem, binC, gc_of hb, gc_of hb3, inBlk_some]
  refine op_callK (by simp only [go_sem, binC]; exact k2) ?_
  simp only [go_sem, binC]
  refine ⟨rfl, ?_⟩
  refine op_callK (by simp only [go_sem, binC]; exact k3) ?_
  obtain ⟨⟨oa, ob⟩, na, nb⟩ := q3.ones
  simp only [go_sem, binC]
  rw [hv]
  generalize leakG n (ls, l) (ls.map (lowL true h)) (diffC true h (ls.map (lowL true h))) = lk at *
  exact wpc_ret ⟨Or.inr rfl, .tuple #[a, b, .bool lk.isSome], by simp [resV, resL, res1, putE_get, na, nb, show notT (.bool lk.isSome) = true from rfl], _, _, rfl, hx1.tr (x2.tr x3), q3.lo (by have := x2.1; omega)⟩
end Go.Proofs.YtkmghcglmjehcaaI
end
section
/- The law FnExactLeakOf on the ideal machine. -/
set_option linter.unusedVariables false
set_option linter.unusedSimpArgs false
namespace Go.Proofs.YtkmghcglmjehcaaI
open Go Go.RowKit
theorem GLs.fl {lo : Nat} {H : Heap} {v : Value} {l : List Int} {et : Nat} (h : GLs fi 1 et lo H v l) (hl : l.length ≤ 1000) : ∃ b, FlatB lo H.length H 1 v l.length b 0 ∧ (l.length = 0 ∨ b ∈ blkOf v) := by
  rcases h with ⟨rfl, rfl⟩ | ⟨b, h1, rfl, h3, h4⟩
  · exact ⟨0, ⟨by simp, none, rfl, .inl rfl⟩, .inl rfl⟩
  · refine ⟨b, ⟨by omega, _, rfl, .inr ⟨rfl, h1, (List.getElem?_eq_some_iff.1 h4).1, _, _, _, _, h4, ?_⟩⟩, .inr (by simp [blkOf, sli])⟩
    rw [flat_len (fl := fi) (w := 1) (fun _ => rfl)]; omega
theorem TwoR.flats {lo k : Nat} {H : Heap} {a b : Value} {r : Option (Nat × Nat)} (h : TwoR lo H k a b r) (hk : r = Option.none ∨ k ≤ 1000) : ∃ b1 b2, FlatB lo H.length H 1 a (rowsO k r).1.length b1 0 ∧ FlatB lo H.length H 1 b (rowsO k r).2.length b2 0 ∧ ((rowsO k r).1.length = 0 ∨ (rowsO k r).2.length = 0 ∨ b1 ≠ b2) ∧ ((rowsO k r).1.length ≤ 1000 ∧ (rowsO k r).2.length ≤ 1000) ∧ SlR Co.int (vw 0 H) a (rowsO k r).1 ∧ SlR Co.int (vw 0 H) b (rowsO k r).2 := by
  have hl : (rowsO k r).1.length ≤ 1000 ∧ (rowsO k r).2.length ≤ 1000 := by
    cases r with
    | none => simp [rowsO]
    | some p =>
      have hk := hk.resolve_left (by simp)
      simp only [rowsO, rowL_len]; exact ⟨hk, hk⟩
  have hr : (∀ x ∈ (rowsO k r).1, RgI x) ∧ ∀ x ∈ (rowsO k r).2, RgI x := by
    cases r with
    | none => exact ⟨fun x hx => by simp [rowsO] at hx, fun x hx => by simp [rowsO] at hx⟩
    | some p => exact ⟨rowL_RgI _ _, rowL_RgI _ _⟩
  obtain ⟨b1, f1, g1⟩ := h.1.fl hl.1
  obtain ⟨b2, f2, g2⟩ := h.2.1.fl hl.2
  refine ⟨b1, b2, f1, f2, ?_, hl, h.1.slI hr.1 hl.1, h.2.1.slI hr.2 hl.2⟩
  rcases g1 with g1 | g1
  · exact .inl g1
  rcases g2 with g2 | g2
  · exact .inr (.inl g2)
  exact .inr (.inr fun e => h.2.2 b1 g1 (e ▸ g2))
end Go.Proofs.YtkmghcglmjehcaaI
end
