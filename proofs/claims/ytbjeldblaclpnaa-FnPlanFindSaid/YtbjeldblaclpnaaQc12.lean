/- Texts of this proof, merged: K18, K22, K27, K28, K30, K21, H24, H29, GL53, BL53. -/
import Derived.Test.YtbjeldblaclpnaaQc11
import Derived.Test.YtbjeldblaclpnaaRows
section
/- Whom each trusts, drawn; a program and whom each trusts, drawn; where a variable may be (the program's). -/
set_option linter.unusedVariables false
set_option linter.unusedSimpArgs false
namespace Go.Proofs.YtbjeldblaclpnaaI
open Go Go.RowKit
def c_drTrusts : IFn := ⟨1, 37, [.t 2],
 .seq (.reg none [
    ⟨(some 2), none, .mov (.c (.slice none 0 0))⟩])
 (.seq (.reg none [
    ⟨(some 5), none, .lit 1 3 0 [] []⟩,
    ⟨(some 3), none, .mov (.t 5)⟩])
 (.seq (.seq (.reg none [
     ⟨(some 4), none, .mov (.c (.int .i64 0))⟩])
  (.block 0 (.loop (.seq (.seq (.reg none [
        ⟨(some 6), none, .mov (.t 4)⟩,
        ⟨(some 7), none, .bin .lss (.t 6) (.c (.int .i64 3))⟩])
     (.cond (.t 7) (.skip) (.exit 0)))
    (.seq (.block 1 (.reg (some 10) [
        ⟨(some 10), none, .mov (.t 3)⟩,
        ⟨(some 11), none, .mov (.t 4)⟩,
        ⟨(some 12), none, .bin .shl (.c (.int .i64 1)) (.t 11)⟩,
        ⟨(some 13), none, .lit 1 3 9 [(.int .i64 0), (.int .i64 0), (.int .i64 0), (.int .i64 0), (.int .i64 0), (.int .i64 0), (.int .i64 0), (.int .i64 0), (.int .i64 0)] [(0, 1, (.c (.int .i64 7))), (1, 1, (.c (.int .i64 7))), (2, 1, (.c (.int .i64 3))), (3, 1, (.c (.int .i64 5))), (4, 1, (.c (.int .i64 6))), (5, 1, (.c (.int .i64 0))), (6, 1, (.c (.int .i64 1))), (7, 1, (.c (.int .i64 2))), (8, 1, (.c (.int .i64 4)))]⟩,
        ⟨(some 14), none, .mov (.t 0)⟩,
        ⟨(some 15), none, .call .n (.f 45) [(.t 14), (.c (.int .i64 9))]⟩,
        ⟨(some 16), none, .iad 1 (.t 13) (.t 15)⟩,
        ⟨(some 17), none, .load false 1 (.t 16)⟩,
        ⟨(some 18), none, .call .q (.f 90) [(.t 12), (.t 17)]⟩,
        ⟨(some 19), none, .lit 1 3 1 [(.int .i64 0)] [(0, 1, (.t 18))]⟩,
        ⟨(some 20), none, .app 1 3 8 true (.t 10) (.t 19)⟩,
        ⟨(some 3), none, .mov (.t 20)⟩]))
    (.reg none [
      ⟨(some 8), none, .mov (.t 4)⟩,
      ⟨(some 9), none, .bin .add (.t 8) (.c (.int .i64 1))⟩,
      ⟨(some 4), none, .mov (.t 9)⟩]))))))
 (.seq (.seq (.reg none [
     ⟨(some 21), none, .mov (.t 0)⟩,
     ⟨(some 22), none, .call .n (.f 45) [(.t 21), (.c (.int .i64 24))]⟩])
  (.block 2 (.seq (.reg none [
      ⟨(some 24), none, .bin .eql (.t 22) (.c (.int .i64 0))⟩,
      ⟨(some 23), none, .mov (.t 24)⟩])
   (.cond (.t 23) (.reg none [
      ⟨(some 25), none, .mov (.t 3)⟩,
      ⟨(some 26), none, .lit 1 3 3 [(.int .i64 0), (.int .i64 0), (.int .i64 0)] [(0, 1, (.c (.int .i64 (-1)))), (1, 1, (.c (.int .i64 8))), (2, 1, (.c (.int .i64 6)))]⟩,
      ⟨(some 27), none, .mov (.t 0)⟩,
      ⟨(some 28), none, .call .n (.f 45) [(.t 27), (.c (.int .i64 3))]⟩,
      ⟨(some 29), none, .iad 1 (.t 26) (.t 28)⟩,
      ⟨(some 30), none, .load false 1 (.t 29)⟩,
      ⟨(some 31), none, .iad 1 (.t 25) (.c (.int .i64 0))⟩,
      ⟨none, none, .store 1 (.t 31) (.t 30)⟩]) (.seq (.reg none [
       ⟨(some 33), none, .bin .eql (.t 22) (.c (.int .i64 1))⟩,
       ⟨(some 32), none, .mov (.t 33)⟩])
    (.cond (.t 32) (.seq (.reg none [
        ⟨(some 34), none, .mov (.t 3)⟩,
        ⟨(some 35), none, .sub 1 (.t 34) (some (.c (.int .i64 1))) none⟩,
        ⟨(some 2), none, .mov (.t 35)⟩])
     (.ret)) (.skip)))))))
 (.seq (.reg none [
    ⟨(some 36), none, .mov (.t 3)⟩,
    ⟨(some 2), none, .mov (.t 36)⟩])
 (.ret)))))⟩
theorem op_app_kill {F : Nat → Option IFn} {lo0 es et bytes : Nat} {x y : Opd} {e : Env} {H : Heap} {cs ys : List Value} {b n : Nat} {K : Value → Heap → Prop} (hk : H[b]? = some ⟨cs, es, et, true, true⟩) (hn : cs.length = n * es) (hx : x.ev e = sli b 0 n) (hy : y.ev e = sli H.length 0 1) (hlo : lo0 ≤ b) (hyl : ys.length = es) (hl : n < 1048576) (hb : bytes ≤ 1048576)
    (k : ∀ H', AgX [b] H H' → H'[H.length + 1]? = some ⟨cs ++ ys, es, et, true, true⟩ → K (sli (H.length + 1) 0 (n + 1)) H') : wpOp F lo0 (.app es et bytes true x y) e (H ++ [⟨ys, es, et, true, true⟩]) K := by
  have hbl := (List.getElem?_eq_some_iff.1 hk).1
  have hbytes : (n + 1) * bytes ≤ 1048576 * 1048576 := Nat.mul_le_mul (by omega) hb
  refine op_app _ _ _ _ _ (b := ⟨b, 0, none⟩) (n := n) (c := n) (a := ⟨H.length, 0, none⟩) (m := 1) (c' := 1) (ys := ys) (kb := ⟨cs, es, et, true, true⟩) hx hy (by omega) ?_ ?_ ⟨hlo, rfl, rfl, rfl, rfl, hn, by omega, by omega⟩ ?_
  · unfold getCells
    rw [get_new0]
    simp only [List.getElem?_cons_zero, Nat.one_mul, Nat.zero_add]
    rw [if_pos (by omega), List.drop_zero, List.take_of_length_le (by omega)]
  · show (H ++ [_])[b]? = _
    rw [List.getElem?_append_left hbl]; exact hk
  · have hset : (H ++ ([⟨ys, es, et, true, true⟩] : Heap)).set b ⟨[], es, et, false, true && n == 0⟩ = H.set b ⟨[], es, et, false, true && n == 0⟩ ++ [⟨ys, es, et, true, true⟩] := List.set_append_left _ _ hbl
    simp only [if_true, Bool.or_true, Bool.and_true, List.length_append, List.length_cons, List.length_nil, Nat.zero_add]
    rw [hset, List.append_assoc]
    have hag : AgX [b] H (H.set b ⟨[], es, et, false, true && n == 0⟩ ++ ([⟨ys, es, et, true, true⟩] ++ [⟨cs ++ ys, es, et, true, true⟩])) := (AgX.set H b _).trans (AgX.app [] _ _) (fun b h _ => h) (fun b h _ => by cases h)
    refine k _ hag ?_
    have : H.length + 1 = (H.set b ⟨[], es, et, false, true && n == 0⟩).length + 1 := by rw [List.length_set]
    rw [this, get_new]
    rfl
theorem shl3 {i : Nat} (hi : i < 3) : IntKind.i64.wrap (1 * 2 ^ (min i 64)) = (2 : Int) ^ i := by
  have : i = 0 ∨ i = 1 ∨ i = 2 := by omega
  rcases this with rfl | rfl | rfl <;> decide
theorem pow3 {i : Nat} (hi : i < 3) : 0 ≤ (2 : Int) ^ i ∧ (2 : Int) ^ i ≤ 7 := by
  have : i = 0 ∨ i = 1 ∨ i = 2 := by omega
  rcases this with rfl | rfl | rfl <;> decide
def TrQ (H H' : Heap) (v : Value) : Prop := ∃ ts : List Int, SlR Co.int (vwl H.length [] H') v ts ∧ ts.length ≤ 3
theorem drTrusts_ok {F : Nat → Option IFn} {f : Nat} (hf : F f = some c_drTrusts) (hpk : F 45 = some c_pick) (ge : ∀ (H : Heap) (a b : Int), 0 ≤ a → a ≤ 7 → 0 ≤ b → b ≤ 7 → QC F 90 [.int .i64 a, .int .i64 b] H (.int .i64 (a + b - bothS a b 3))) {H0 : Heap} {rb : Nat} {bv : Value} {code : List Int} (hc : RdC H0 rb bv code) : DrawS F H0 rb bv f [] 10 TrQ := by
  refine DrawS.mk hf rfl fun H p lo hs hp hp2 hlo => ?_
  have hl := hs.lt
  have hc0 := hc.low
  refine seq_reg ?_
  simp only [go_sem, binC]
  refine seq_reg ?_
  simp only [go_sem, binC]
  refine wpc_gen fun H1 hH1 => ?_
  have hs1 : St H0 rb bv p H1 := hH1 ▸ hs.appN hc _
  have ht1 : AgX [rb] H H1 := hH1 ▸ AgX.app [rb] _ _
  have hb1 : H1[H.length]? = some ⟨ints [], 1, 3, true, true⟩ := hH1 ▸ get_new0 _ _
  clear hH1
  refine seq_assoc (seq_reg ?_)
  simp only [go_sem, binC]
  refine seq_block (wpc_loop ?_)
  suffices h : ∀ (k i : Nat) (e : Env) (Hc : Heap) (b : Nat) (l : List Int), i + k = 3 → l.length = i → St H0 rb bv (p + i) Hc → AgX [rb] H Hc → H.length ≤ b → Hc[b]? = some ⟨ints l, 1, 3, true, true⟩ → (∀ x ∈ l, RgI x) → e 0 = ptr rb 0 → e 3 = sli b 0 l.length → e 4 = .int .i64 i → W F lo _ e Hc _ from
    h 3 0 _ H1 H.length [] rfl rfl (by simpa using hs1) ht1 (Nat.le_refl _) hb1 (fun x h => by cases h) (by simp only [go_sem, binC]) (by (simp only [go_sem, binC]) <;> rfl) (by (simp only [go_sem, binC]) <;> rfl)
  intro k
  induction k with
  | zero =>
    intro i e Hc b l hik hli hsc htc hb hbk hr e0 e3 e4
    have hi3 : i = 3 := by omega
    have hl3 : l.length = 3 := by omega
    subst hi3
    have hlc := htc.1
    have hbl := (List.getElem?_eq_some_iff.1 hbk).1
    refine lp_step ?_
    refine seq_assoc (seq_reg ?_)
    simp only [go_sem, binC, e4]
    refine seq_cond (t := false) (by (simp only [go_sem, binC]) <;> rfl) ?_
    simp only [go_sem, binC]
    refine seq_exit ?_
    simp only [go_sem, binC, thenX_e, out_e, thenX_n]
    refine seq_assoc (seq_reg ?_)
    simp only [go_sem, binC, e0]
    refine op_draw (n := 24) hpk hc hsc (by omega) (by omega) hlo (by simp only [go_sem, binC, e0]) (by simp only [go_sem, binC]) fun H2 hl2 hx2 hs2 => ?_
    simp only [go_sem, binC]
    have hbk2 := hx2.get hbk (by simp; omega)
    have ht2 := htc.tr hx2
    refine seq_block ?_
    refine seq_reg ?_
    by_cases h0 : pickV code (p + (3 : Nat)) 24 = 0
    · simp only [go_sem, binC, beq_t h0]
      refine wpc_cond (t := true) rfl ?_
      simp only [go_sem, binC]
      refine wpc_reg ?_
      simp only [go_sem, binC, e0, e3]
      have hs3 := hs2.appN hc ([⟨[.int .i64 (-1), .int .i64 8, .int .i64 6], 1, 3, true, true⟩] : Heap)
      refine op_draw (n := 3) hpk hc hs3 (by omega) (by omega) hlo (by simp only [go_sem, binC, e0]) (by simp only [go_sem, binC]) fun H4 hl4 hx4 hs4 => ?_
      have hbd := pickV_bd code (p + (3 : Nat) + 1) (n := 3) (by omega)
      have hlit : H4[H2.length]? = some ⟨[.int .i64 (-1), .int .i64 8, .int .i64 6], 1, 3, true, true⟩ := hx4.get (get_new0 _ _) (by simp; omega)
      have hbk4 : H4[b]? = some ⟨ints l, 1, 3, true, true⟩ := hx4.get (by rw [List.getElem?_append_left (List.getElem?_eq_some_iff.1 hbk2).1]; exact hbk2) (by simp; omega)
      have hg4 : getCells H4 H2.length (pickV code (p + (3 : Nat) + 1) 3).toNat 1 = some [.int .i64 ([-1, 8, 6].getD (pickV code (p + (3 : Nat) + 1) 3).toNat 0)] := by
        rw [gc_of hlit, inBlk_some]
        simp only [List.length_cons, List.length_nil]
        rw [if_pos (by omega), tk3 (by omega)]
      simp only [go_sem, binC]
      refine ⟨⟨by omega, by omega⟩, ?_⟩
      simp only [go_sem, binC, Nat.mul_one, hg4, e3]
      refine ⟨by omega, ?_⟩
      simp only [go_sem, binC, hbk4]
      have hil : (ints l).length = 3 := by simp [ints, hl3]
      refine ⟨⟨by omega, by omega⟩, ?_⟩
      simp only [go_sem, binC, out_n, thenX_n]
      refine seq_reg ?_
      simp only [go_sem, binC, e3]
      obtain ⟨a0, a1, a2, rfl⟩ : ∃ a0 a1 a2, l = [a0, a1, a2] := by
        match l, hl3 with
        | [a, b, c], _ => exact ⟨a, b, c, rfl⟩
      have hv : RgI ([-1, 8, 6].getD (pickV code (p + (3 : Nat) + 1) 3).toNat 0) := by
        have : (pickV code (p + (3 : Nat) + 1) 3).toNat = 0 ∨ (pickV code (p + (3 : Nat) + 1) 3).toNat = 1 ∨ (pickV code (p + (3 : Nat) + 1) 3).toNat = 2 := by omega
        rcases this with h | h | h <;> rw [h] <;> simp [RgI]
      have ht4 : AgX [rb] H H4 := (ht2.appN _).tr hx4
      have hb4l := (List.getElem?_eq_some_iff.1 hbk4).1
      refine wpc_ret ⟨Or.inr rfl, _, (by (simp only [go_sem, binC]) <;> rfl), p + 5, ht4.setN hb _, ?_, by omega, [([-1, 8, 6].getD (pickV code (p + (3 : Nat) + 1) 3).toNat 0), a1, a2], ?_, by simp⟩
      · have := hs4.setN hc (b := b) (by omega) ⟨ints [([-1, 8, 6].getD (pickV code (p + (3 : Nat) + 1) 3).toNat 0), a1, a2], 1, 3, true, true⟩
        rw [show p + (3 : Nat) + 1 + 1 = p + 5 by omega] at this
        exact this
      · exact ints_sl (o := 0) (List.getElem?_set_self hb4l) hb (by simp) (fun x hx => by
          simp only [List.mem_cons, List.not_mem_nil, or_false] at hx
          rcases hx with rfl | rfl | rfl
          · exact hv
          · exact hr _ (by simp)
          · exact hr _ (by simp)) (by simp) (by simp)
    simp only [go_sem, binC, beq_f h0]
    refine wpc_cond (t := false) rfl ?_
    simp only [go_sem, binC]
    refine seq_reg ?_
    have hs2' : St H0 rb bv (p + 4) H2 := by
      have := hs2
      rw [show p + (3 : Nat) + 1 = p + 4 by omega] at this
      exact this
    by_cases h1 : pickV code (p + (3 : Nat)) 24 = 1
    · simp only [go_sem, binC, beq_t h1]
      refine wpc_cond (t := true) rfl ?_
      simp only [go_sem, binC]
      refine seq_reg ?_
      simp only [go_sem, binC, e3]
      have hsub : subV 1 (sli b 0 l.length) e (some (.c (.int .i64 1))) none = some (.slice (some ⟨b, 1, none⟩) (l.drop 1).length (l.drop 1).length) := by
        simp [subV, sli, subB, Opd.ev, hl3]
      have hsub' : ∀ e' : Env, subV 1 (sli b 0 l.length) e' (some (.c (.int .i64 1))) none = some (.slice (some ⟨b, 1, none⟩) (l.drop 1).length (l.drop 1).length) := fun e' => by
        simp [subV, sli, subB, Opd.ev, hl3]
      simp only [go_sem, binC, hsub']
      refine wpc_ret ?_
      simp only [go_sem, binC, out_r, thenX_r]
      exact ⟨Or.inr rfl, _, (by (simp only [go_sem, binC]) <;> rfl), p + 4, ht2, hs2', by omega, l.drop 1, ints_sl hbk2 hb (by simp) hr (by omega) (by omega), by rw [List.length_drop]; omega⟩
    · simp only [go_sem, binC, beq_f h1]
      refine wpc_cond (t := false) rfl ?_
      simp only [go_sem, binC]
      refine wpc_skip ?_
      simp only [go_sem, binC, out_n, thenX_n]
      refine seq_reg ?_
      simp only [go_sem, binC, e3]
      exact wpc_ret ⟨Or.inr rfl, _, (by (simp only [go_sem, binC]) <;> rfl), p + 4, ht2, hs2', by omega, l, ints_sl (o := 0) hbk2 hb (by simp) hr (by omega) (by omega), by omega⟩
  | succ k ih =>
    intro i e Hc b l hik hli hsc htc hb hbk hr e0 e3 e4
    have hi3 : i < 3 := by omega
    have hlc := htc.1
    have hbl := (List.getElem?_eq_some_iff.1 hbk).1
    have hw1 : IntKind.i64.wrap ((i : Int) + 1) = ((i + 1 : Nat) : Int) := by rw [wrap_id (by omega) (by omega)]; omega
    refine lp_step ?_
    refine seq_assoc (seq_reg ?_)
    simp only [go_sem, binC, e4]
    refine seq_cond (t := true) (by simp only [go_sem, binC]; rw [decide_eq_true (by omega)]) ?_
    simp only [go_sem, binC]
    refine seq_skip (seq_block ?_)
    obtain ⟨N, n1⟩ : ∃ N, Hc.length = N := ⟨_, rfl⟩
    refine wpc_regX [rb] (by simp; have := hsc.lt; omega) ?_
    refine wpx_A rfl ?_
    simp only [go_sem, binC, e3]
    refine wpx_A rfl ?_
    simp only [go_sem, binC, e4]
    refine wpx_A rfl ?_
    simp only [go_sem, binC]
    refine shl_rule (by omega) ?_
    simp only [go_sem, binC, IntKind.bits]
    rw [shl3 hi3]
    refine wpx_A rfl ?_
    simp only [go_sem, binC, hide_length, n1]
    refine wpx_A rfl ?_
    simp only [go_sem, binC, hide_length, n1, e0]
    refine wpx_pick (n := 9) hpk hc hsc (by omega) (by omega) hlo (by simp only [go_sem, binC]) (by simp only [go_sem, binC]) fun B1 hl1 hx1 hs1 => ?_
    have n2 := hl1.trans n1
    have hk1 := pickV_bd code (p + i) (n := 9) (by omega)
    refine wpx_A rfl ?_
    simp only [go_sem, binC]
    refine ⟨hk1, ?_⟩
    refine wpx_A rfl ?_
    have hi1 : (pickV code (p + i) 9).toNat + 1 ≤ 9 := by omega
    simp only [go_sem, binC, Nat.mul_one, gc_hid n2, gc_hid0 n2, inBlk_some, tk9 (i := (pickV code (p + i) 9).toNat) (by omega), hi1]
    have hb7 := lab_bd (a0 := 7) (a1 := 7) (a2 := 3) (a3 := 5) (a4 := 6) (a5 := 0) (a6 := 1) (a7 := 2) (a8 := 4) (by simp) (pickV code (p + i) 9).toNat
    have hp7 := pow3 hi3
    refine wpx_A rfl ?_
    refine op_callQ (by simp only [go_sem, binC]; exact ge _ _ _ hp7.1 hp7.2 hb7.1 hb7.2) ?_
    simp only [go_sem, binC, hide_length, n2]
    refine wpx_A rfl ?_
    simp only [go_sem, binC, hide_length, n2]
    refine wpx_zero ?_
    subst n2
    simp only [go_sem, binC, hide_length]
    generalize hel : (2 : Int) ^ i + [7, 7, 3, 5, 6, 0, 1, 2, 4].getD (pickV code (p + i) 9).toNat 0 - bothS (2 ^ i) ([7, 7, 3, 5, 6, 0, 1, 2, 4].getD (pickV code (p + i) 9).toNat 0) 3 = el
    have hrel : RgI el := by
      have := bothS_bd ((2 : Int) ^ i) ([7, 7, 3, 5, 6, 0, 1, 2, 4].getD (pickV code (p + i) 9).toNat 0)
      unfold RgI
      omega
    have hbk1 := hx1.get hbk (by simp; omega)
    have happ : ∀ (L : Blk) (H' : Heap), H' = B1 ++ [L] → H'[b]? = some ⟨ints l, 1, 3, true, true⟩ := fun L H' h => by rw [h, List.getElem?_append_left (List.getElem?_eq_some_iff.1 hbk1).1]; exact hbk1
    obtain ⟨H2, hH2⟩ : ∃ H2 : Heap, H2 = B1 ++ [⟨[.int .i64 7, .int .i64 7, .int .i64 3, .int .i64 5, .int .i64 6, .int .i64 0, .int .i64 1, .int .i64 2, .int .i64 4], 1, 3, true, true⟩] := ⟨_, rfl⟩
    have hn2 : H2.length = B1.length + 1 := by rw [hH2, List.length_append]; rfl
    have hsplit : (B1 ++ [⟨[.int .i64 7, .int .i64 7, .int .i64 3, .int .i64 5, .int .i64 6, .int .i64 0, .int .i64 1, .int .i64 2, .int .i64 4], 1, 3, true, true⟩, ⟨[.int .i64 el], 1, 3, true, true⟩] : Heap) = H2 ++ [⟨[.int .i64 el], 1, 3, true, true⟩] := by rw [hH2, List.append_assoc]; rfl
    rw [hsplit]
    have hx2 : AgX [] B1 H2 := hH2 ▸ AgX.app [] _ _
    refine op_app_kill (n := l.length) (happ _ H2 hH2) (by simp [ints]) (by simp only [go_sem, binC, e3]) (by simp only [go_sem, binC]; rw [hn2]) (by omega) rfl (by omega) (by omega) fun H3 hx3 hb3 => ?_
    simp only [go_sem, binC, out_n, thenX_n]
    refine wpc_reg ?_
    simp only [go_sem, binC, e4, hw1]
    simp only [go_sem, binC, thenX_n]
    have ht2 : AgX [rb] H H2 := (htc.tr hx1).trans hx2 (fun _ h _ => h) (fun _ h _ => by cases h)
    have hs2 := hs1.mono hc hx2 (fun _ h => by cases h)
    have ht3 : AgX [rb] H H3 := ht2.trans hx3 (fun _ h _ => h) (fun b' h1 h2 => by simp only [List.mem_singleton] at h1; omega)
    have hs3 : St H0 rb bv (p + i + 1) H3 := hs2.mono hc hx3 (fun b' h => by simp only [List.mem_singleton] at h; omega)
    refine ih (i + 1) _ H3 (H2.length + 1) (l ++ [el]) (by omega) (by simp [hli]) (by rw [show p + ((i + 1 : Nat) : Int) = p + i + 1 by omega]; exact hs3) ht3 (by have := ht2.1; omega) ?_ ?_ (by simp only [go_sem, binC, e0]) (by (simp only [go_sem, binC]) <;> (rw [List.length_append]; rfl)) (by simp only [go_sem, binC])
    · rw [hb3]
      simp [ints]
    · intro x hx
      rcases List.mem_append.1 hx with hx | hx
      · exact hr x hx
      · simp only [List.mem_singleton] at hx; subst hx; exact hrel
end Go.Proofs.YtbjeldblaclpnaaI
end
section
/- A program and a plan, drawn. -/
set_option linter.unusedVariables false
set_option linter.unusedSimpArgs false
namespace Go.Proofs.YtbjeldblaclpnaaI
open Go Go.RowKit
def drPlanD : ICode := .reg none [
        ⟨(some 54), none, .mov (.t 0)⟩,
        ⟨(some 55), none, .call .n (.f 87) [(.t 54)]⟩,
        ⟨none, none, .store 2 (.t 4) (.t 55)⟩]
def c_drPlan : IFn := ⟨1, 68, [.cell true 2 2, .cell true 3 3],
 .seq (.reg none [
    ⟨(some 2), none, .new [(.slice none 0 0), (.slice none 0 0)]⟩,
    ⟨(some 3), none, .new [(.slice none 0 0), (.slice none 0 0), (.slice none 0 0)]⟩])
 (.seq (.reg none [
    ⟨(some 11), none, .mov (.t 0)⟩,
    ⟨(some 12), none, .call .n (.f 87) [(.t 11)]⟩,
    ⟨(some 4), none, .new [(.slice none 0 0), (.slice none 0 0)]⟩,
    ⟨none, none, .store 2 (.t 4) (.t 12)⟩])
 (.seq (.seq (.reg none [
     ⟨(some 5), none, .mov (.c (.int .i64 0))⟩])
  (.block 0 (.loop (.seq (.seq (.reg none [
        ⟨(some 13), none, .mov (.t 5)⟩,
        ⟨(some 14), none, .bin .lss (.t 13) (.c (.int .i64 8))⟩])
     (.cond (.t 14) (.skip) (.exit 0)))
    (.seq (.block 1 (.seq (.reg none [
         ⟨(some 17), none, .mov (.t 0)⟩,
         ⟨(some 18), none, .call .n (.f 48) [(.t 17)]⟩,
         ⟨(some 6), none, .mov (.t 18)⟩])
      (.seq (.reg none [
         ⟨(some 20), none, .load true 2 (.t 4)⟩,
         ⟨(some 21), none, .mov (.t 6)⟩,
         ⟨(some 22), none, .call .k (.f 15) [(.t 20), (.t 21)]⟩,
         ⟨(some 19), none, .mov (.t 22)⟩,
         ⟨(some 23), none, .ext (.t 19) 0⟩,
         ⟨(some 24), none, .ext (.t 19) 1⟩,
         ⟨(some 7), none, .new [(.slice none 0 0), (.slice none 0 0), (.slice none 0 0)]⟩,
         ⟨none, none, .store 3 (.t 7) (.t 23)⟩,
         ⟨(some 8), none, .mov (.t 24)⟩])
      (.seq (.seq (.reg none [
          ⟨(some 25), none, .mov (.t 8)⟩,
          ⟨(some 26), none, .mov (.t 25)⟩,
          ⟨(some 27), (some (26, true)), .load true 2 (.t 4)⟩,
          ⟨(some 28), (some (26, true)), .call .q (.f 77) [(.t 27)]⟩,
          ⟨(some 29), (some (26, true)), .bin .gtr (.t 28) (.c (.int .i64 1))⟩,
          ⟨(some 30), none, .pick (.t 26) (.t 29) (.c (.bool false))⟩])
       (.cond (.t 30) (.seq (.seq (.reg none [
            ⟨(some 9), none, .mov (.c (.int .i64 0))⟩])
         (.block 2 (.loop (.seq (.seq (.reg none [
               ⟨(some 31), none, .mov (.t 9)⟩,
               ⟨(some 32), none, .fad 2 (.t 7)⟩,
               ⟨(some 33), none, .load false 1 (.t 32)⟩,
               ⟨(some 34), none, .len (.t 33)⟩,
               ⟨(some 35), none, .bin .lss (.t 31) (.t 34)⟩])
            (.cond (.t 35) (.skip) (.exit 2)))
           (.seq (.block 3 (.seq (.reg none [
                ⟨(some 38), none, .mov (.t 0)⟩,
                ⟨(some 39), none, .call .n (.f 45) [(.t 38), (.c (.int .i64 3))]⟩,
                ⟨(some 10), none, .mov (.t 39)⟩])
             (.seq (.reg none [
                ⟨(some 40), none, .load true 2 (.t 4)⟩,
                ⟨(some 41), none, .mov (.t 6)⟩,
                ⟨(some 42), none, .fad 1 (.t 7)⟩,
                ⟨(some 43), none, .load false 1 (.t 42)⟩,
                ⟨(some 44), none, .mov (.t 9)⟩,
                ⟨(some 45), none, .mov (.t 10)⟩,
                ⟨(some 46), none, .call .q (.f 35) [(.t 40), (.t 41), (.t 43), (.t 44), (.t 45)]⟩])
             (.cond (.t 46) (.reg none [
                ⟨(some 47), none, .fad 2 (.t 7)⟩,
                ⟨(some 48), none, .load false 1 (.t 47)⟩,
                ⟨(some 49), none, .mov (.t 9)⟩,
                ⟨(some 50), none, .mov (.t 10)⟩,
                ⟨(some 51), none, .iad 1 (.t 48) (.t 49)⟩,
                ⟨none, none, .store 1 (.t 51) (.t 50)⟩]) (.skip)))))
           (.reg none [
             ⟨(some 36), none, .mov (.t 9)⟩,
             ⟨(some 37), none, .bin .add (.t 36) (.c (.int .i64 1))⟩,
             ⟨(some 9), none, .mov (.t 37)⟩]))))))
        (.seq (.reg (some 3) [
           ⟨(some 52), none, .load true 2 (.t 4)⟩,
           ⟨(some 53), none, .load true 3 (.t 7)⟩,
           ⟨none, none, .store 2 (.t 2) (.t 52)⟩,
           ⟨none, none, .store 3 (.t 3) (.t 53)⟩])
        (.ret))) (.skip)))
      drPlanD))))
    (.reg none [
      ⟨(some 15), none, .mov (.t 5)⟩,
      ⟨(some 16), none, .bin .add (.t 15) (.c (.int .i64 1))⟩,
      ⟨(some 5), none, .mov (.t 16)⟩]))))))
 (.seq (.reg (some 13) [
    ⟨(some 56), none, .load true 2 (.t 4)⟩,
    ⟨(some 57), none, .mov (.t 0)⟩,
    ⟨(some 58), none, .call .n (.f 48) [(.t 57)]⟩,
    ⟨(some 59), none, .fad 0 (.t 4)⟩,
    ⟨(some 60), none, .load false 1 (.t 59)⟩,
    ⟨(some 61), none, .len (.t 60)⟩,
    ⟨(some 62), none, .mks 1 3 8 [(.int .i64 0)] (.t 61) (.t 61)⟩,
    ⟨(some 63), none, .load true 2 (.t 4)⟩,
    ⟨(some 64), none, .call .q (.f 77) [(.t 63)]⟩,
    ⟨(some 65), none, .max2 (.t 64) (.c (.int .i64 0))⟩,
    ⟨(some 66), none, .mks 1 3 8 [(.int .i64 0)] (.t 65) (.t 65)⟩,
    ⟨(some 67), none, .build [(.slice none 0 0), (.slice none 0 0), (.slice none 0 0)] [(0, 1, (.t 58)), (1, 1, (.t 62)), (2, 1, (.t 66))]⟩,
    ⟨none, none, .store 2 (.t 2) (.t 56)⟩,
    ⟨none, none, .store 3 (.t 3) (.t 67)⟩])
 (.ret))))⟩
theorem PlanZ.one {lo : Nat} {H : Heap} {tv hv dv : Value} {ts : List Int} {o : Option (List Int)} {d : List Int → List Int} (h : PlanZ lo H tv hv dv ts o d) : Go.Proofs.YtbjeldblaclpnaaI.one tv = true ∧ Go.Proofs.YtbjeldblaclpnaaI.one hv = true ∧ Go.Proofs.YtbjeldblaclpnaaI.one dv = true := by
  cases o with
  | none => obtain ⟨rfl, rfl, rfl⟩ := h; exact ⟨rfl, rfl, rfl⟩
  | some homes =>
    obtain ⟨b1, b2, b3, rfl, rfl, rfl, _⟩ := h
    exact ⟨rfl, rfl, rfl⟩
theorem ints_len (l : List Int) : (ints l).length = l.length := by simp [ints]
theorem rep_intsK (n : Nat) (a : Int) : (List.replicate n [Value.int .i64 a]).flatten = ints (List.replicate n a) := by
  induction n with
  | zero => rfl
  | succ n ih => rw [List.replicate_succ, List.replicate_succ, List.flatten_cons, ih]; rfl
/-- A program and a plan drawn: homes and does lie in blocks of their own that may be written. -/
def PlanQ (H H' : Heap) (v : Value) : Prop := ∃ (lv sv tv : Value) (b2 b3 : Nat) (ls : List (Int × Int)) (l : List (TStep 3)) (ts homes does : List Int), v = .tuple #[.agg #[lv, sv], .agg #[tv, sli b2 0 homes.length, sli b3 0 does.length]] ∧ ProgV 3 (vwl H.length [b2, b3] H') lv sv ls l ∧ SlR Co.int (vwl H.length [b2, b3] H') tv ts ∧ ts.length ≤ 3 ∧ IntsO 3 H.length H' b2 true homes ∧ IntsO 3 H.length H' b3 true does ∧ b2 ≠ b3 ∧ homes.length ≤ 100 ∧ does.length ≤ 1000
theorem drPlan_ok {F : Nat → Option IFn} {f : Nat} (hf : F f = some c_drPlan) (hpk : F 45 = some c_pick) {H0 : Heap} {rb : Nat} {bv : Value} {code : List Int} (hc : RdC H0 rb bv code) (gan : DrawS F H0 rb bv 87 [] 40000 (ProgQ 3)) (gtr : DrawS F H0 rb bv 48 [] 10 TrQ) (gf : FindS F 15) (gz : SizeV F 77) (gps : StepV F 35) : DrawS F H0 rb bv f [] 370000 PlanQ := by
  refine DrawS.mk hf rfl fun H p lo hs hp hp2 hlo => ?_
  have hl := hs.lt
  refine seq_reg ?_
  simp only [go_sem, binC]
  refine wpc_gen fun H1 hH1 => ?_
  have hs1 : St H0 rb bv p H1 := hH1 ▸ hs.appN hc _
  have ht1 : AgX [rb] H H1 := hH1 ▸ AgX.app [rb] _ _
  have hb2 : H1[H.length]? = some ⟨[nilS, nilS], 0, 0, false, true⟩ := hH1 ▸ get_new0 _ _
  have hb3 : H1[H.length + 1]? = some ⟨[nilS, nilS, nilS], 0, 0, false, true⟩ := hH1 ▸ get_new _ _ 1
  have hl1 : H1.length = H.length + 2 := by rw [hH1, List.length_append]; rfl
  clear hH1
  refine seq_reg ?_
  simp only [go_sem, binC]
  obtain ⟨v3, H3, p3, k3, x3, s3, c3, lv, sv, ls, l, rfl, hpv⟩ := gan H1 p lo hs1 hp (by omega) hlo
  refine op_callN (by simp only [go_sem, binC]; exact k3) ?_
  have olv : one lv = true := by obtain ⟨_, a, rfl, _⟩ := hpv.1; rfl
  have osv : one sv = true := by obtain ⟨_, a, rfl, _⟩ := hpv.2.1; rfl
  have hl3 := x3.1
  simp only [go_sem, binC, olv, osv]
  refine ⟨by omega, ?_⟩
  refine wpc_gen fun H4 hH4 => ?_
  have hs4 : St H0 rb bv p3 H4 := hH4 ▸ s3.appN hc _
  have ht4 : AgX [rb] H1 H4 := hH4 ▸ x3.appN _
  have hb4 : H4[H3.length]? = some ⟨[lv, sv], 0, 0, false, true⟩ := hH4 ▸ get_new0 _ _
  have hpv4 : ProgV 3 (vwl H1.length [H3.length] H4) lv sv ls l := hpv.mono (by subst hH4; exact vwl_sub (AgX.app [] _ _) (Nat.le_refl _) fun b' h1 h2 _ => ⟨by simp, by simp; omega⟩)
  clear hH4 hpv
  generalize hB4 : H3.length = b4 at *
  refine seq_assoc (seq_reg ?_)
  simp only [go_sem, binC]
  refine seq_block (wpc_loop ?_)
  suffices hh : ∀ (k i : Nat) (e : Env) (Hc : Heap) (q : Int) (lv sv : Value) (ls : List (Int × Int)) (l : List (TStep 3)), i + k = 8 → St H0 rb bv q Hc → (p ≤ q ∧ q ≤ p + 40000 + (i : Int) * 40020) → AgX [rb] H1 Hc → Hc[b4]? = some ⟨[lv, sv], 0, 0, false, true⟩ → ProgV 3 (vwl H1.length [b4] Hc) lv sv ls l → e 0 = ptr rb 0 → e 2 = ptr H.length 0 → e 3 = ptr (H.length + 1) 0 → e 4 = ptr b4 0 → e 5 = .int .i64 i → Go.Proofs.YtbjeldblaclpnaaI.W F lo _ e Hc _ from
    hh 8 0 _ H4 p3 lv sv ls l rfl hs4 (by omega) ht4 hb4 hpv4 (by simp only [go_sem, binC]) (by simp only [go_sem, binC]) (by simp only [go_sem, binC]) (by simp only [go_sem, binC]) (by (simp only [go_sem, binC]) <;> rfl)
  clear hpv4 hb4 olv osv
  intro k
  induction k with
  | zero =>
    intro i e Hc q lv sv ls l hi hsc hq hxc hbc hpc e0 e2 e3 e4 e5
    have hlc := hxc.1
    have hb4c := (List.getElem?_eq_some_iff.1 hbc).1
    have hrbl : rb < H1.length := by omega
    obtain ⟨_, la, rfl, _⟩ := id hpc.1
    have osv : one sv = true := by obtain ⟨_, a, rfl, _⟩ := hpc.2.1; rfl
    have hb2c := hxc.get hb2 (by simp; omega)
    have hb3c := hxc.get hb3 (by simp; omega)
    refine lp_step ?_
    refine seq_assoc (seq_reg ?_)
    simp only [go_sem, binC, e5]
    refine seq_cond (t := false) (by simp only [go_sem, binC]; rw [decide_eq_false (by omega)]) ?_
    simp only [go_sem, binC]
    refine seq_exit ?_
    simp only [go_sem, binC, thenX_e, out_e, thenX_n]
    obtain ⟨N, n1⟩ : ∃ N, Hc.length = N := ⟨_, rfl⟩
    have hg4 : ∀ (B L : Heap), B[b4]? = some ⟨[.slice la ls.length ls.length, sv], 0, 0, false, true⟩ → getCells (hide [rb, H.length] B ++ L) b4 0 2 = some [.slice la ls.length ls.length, sv] ∧ getCells (hide [rb, H.length] B ++ L) b4 0 1 = some [.slice la ls.length ls.length] := fun B L hb => ⟨gc_hidO L (by rw [gc_of hb]; rfl) (by simp; omega), gc_hidO L (by rw [gc_of hb]; rfl) (by simp; omega)⟩
    refine seq_regX [rb, H.length] (by simp; omega) ?_
    have q4 := hg4 Hc [] hbc
    rw [List.append_nil] at q4
    refine wpx_A rfl ?_
    simp only [go_sem, binC, e4, q4.1, osv]
    refine wpx_A rfl ?_
    simp only [go_sem, binC, e0]
    refine wpx_N rfl ?_
    obtain ⟨tw, Ha, qa, ka, xa, sa, ca, ts, hts, htl⟩ := gtr Hc q lo hsc (by omega) (by omega) hlo
    simp only [List.append_nil]
    refine op_callN (by simp only [go_sem, binC, e0]; exact ka) ?_
    refine ⟨fun b hb hl => xa.2 b hl (fun hm => hb (by simp only [List.mem_singleton] at hm; simp [hm])), ?_⟩
    have hba := xa.get hbc (by simp; omega)
    have hb2a := xa.get hb2c (by simp; omega)
    have hb3a := xa.get hb3c (by simp; omega)
    have hla := xa.1
    obtain ⟨_, ta, rfl, _⟩ := id hts
    obtain ⟨M, nA⟩ : ∃ M, Ha.length = M := ⟨_, rfl⟩
    have a4 := hg4 Ha [] hba
    rw [List.append_nil] at a4
    refine wpx_A rfl ?_
    simp only [go_sem, binC, e4, List.append_nil]
    refine wpx_A rfl ?_
    simp only [go_sem, binC, a4.2, List.append_nil]
    refine wpx_A rfl ?_
    simp only [go_sem, binC, List.append_nil]
    have hls := hpc.2.2.2.2.1
    refine wpx_A rfl ?_
    simp only [go_sem, binC, List.append_nil, hide_length, nA]
    refine ⟨by omega, ?_⟩
    simp only [go_sem, binC, List.append_nil, hide_length, nA, Int.toNat_natCast, rep_intsK]
    generalize hbk1 : (⟨ints (List.replicate ls.length 0), 1, 3, true, true⟩ : Blk) = k1
    have a5 := hg4 Ha [k1] hba
    refine wpx_A rfl ?_
    simp only [go_sem, binC, e4, a5.1, osv]
    have x1a : AgX [rb] H1 Ha := hxc.tr xa
    have hpa : ProgV 3 (vwl H1.length [b4] Ha) (.slice la ls.length ls.length) sv ls l := hpc.mono (vwl_sub xa (Nat.le_refl _) fun b' h1 h2 h3 => ⟨by simp; omega, h3⟩)
    have hvh : ∀ L, Sub (vwl H1.length [b4] Ha) (vw 0 (hide [rb, H.length] Ha ++ L)) := fun L => by
      intro b cs hb
      unfold vwl at hb
      unfold vw
      split at hb
      · rename_i hc2
        have hbl : b < Ha.length := by
          rcases Nat.lt_or_ge b Ha.length with h | h
          · exact h
          · rw [List.getElem?_eq_none h] at hb; cases hb
        rw [if_pos (Nat.zero_le _), List.getElem?_append_left (by rw [hide_length]; exact hbl), hide_get_ne (by simp; omega)]
        exact hb
      · cases hb
    have hgz := gz (hide [rb, H.length] Ha ++ [k1]) 3 _ _ ls l (hpa.1.mono (hvh _)) (hpa.2.1.mono (hvh _)) hpa.2.2.1
    have hzb : -1 ≤ sizeV 3 (ls, l) ∧ sizeV 3 (ls, l) ≤ 8 := by
      unfold sizeV
      by_cases h : progB 3 (ls, l) = true
      · rw [if_pos h]
        have := progB_cnt h hpc.2.2.1
        exact ⟨by omega, by omega⟩
      · rw [if_neg h]; omega
    generalize sizeV 3 (ls, l) = z at hgz hzb
    refine wpx_A rfl ?_
    refine op_callQ (by simp only [go_sem, binC]; exact hgz) ?_
    simp only [go_sem, binC]
    refine wpx_A rfl ?_
    simp only [go_sem, binC]
    obtain ⟨m, hm⟩ := Int.eq_ofNat_of_zero_le (show (0 : Int) ≤ if (0 : Int) > z then 0 else z by split <;> omega)
    have hm8 : m ≤ 8 := by
      have : (if (0 : Int) > z then 0 else z) ≤ 8 := by split <;> omega
      omega
    rw [show maxV (.int .i64 z) (.int .i64 0) = some (.int .i64 (m : Int)) from by rw [← hm]; rfl]
    simp only [go_sem, binC]
    refine wpx_A rfl ?_
    simp only [go_sem, binC, hide_length, nA]
    refine ⟨by omega, ?_⟩
    simp only [go_sem, binC, hide_length, nA, Int.toNat_natCast, rep_intsK]
    generalize hbk2 : (⟨ints (List.replicate m 0), 1, 3, true, true⟩ : Blk) = k2
    refine wpx_A rfl ?_
    simp only [go_sem, binC, sli]
    have hHb2 : (Ha ++ [k1, k2])[H.length]? = some ⟨[nilS, nilS], 0, 0, false, true⟩ := by rw [List.getElem?_append_left (by omega)]; exact hb2a
    have hHb3 : (Ha ++ [k1, k2])[H.length + 1]? = some ⟨[nilS, nilS, nilS], 0, 0, false, true⟩ := by rw [List.getElem?_append_left (by omega)]; exact hb3a
    have hk1 : (Ha ++ [k1, k2])[M]? = some k1 := by rw [← nA]; exact get_new0 _ _
    have hk2 : (Ha ++ [k1, k2])[M + 1]? = some k2 := by rw [← nA]; exact get_new _ _ 1
    have xak : AgX [] Ha (Ha ++ [k1, k2]) := AgX.app _ _ _
    have hlk : (Ha ++ [k1, k2]).length = M + 2 := by rw [List.length_append, nA]; rfl
    refine wpx_N rfl ?_
    generalize Ha ++ [k1, k2] = Hk at *
    have hb2l := (List.getElem?_eq_some_iff.1 hHb2).1
    have hb3l := (List.getElem?_eq_some_iff.1 hHb3).1
    simp only [go_sem, binC, e2, hHb2, osv]
    refine ⟨by omega, fun b hb hl => List.getElem?_set_ne (fun h => hb (by simp [h])), ?_⟩
    refine wpx_zero ?_
    have hb3s : ∀ kk : Blk, (Hk.set H.length kk)[H.length + 1]? = some ⟨[nilS, nilS, nilS], 0, 0, false, true⟩ := fun kk => by rw [List.getElem?_set_ne (by omega)]; exact hHb3
    simp only [go_sem, binC, e3, hb3s, sli, List.append_nil]
    refine ⟨by omega, ?_⟩
    refine wpc_genH fun Hf hHf => ?_
    have xkf : AgX [H.length, H.length + 1] Hk Hf := by
      rw [hHf]
      exact (AgX.set Hk H.length _).trans (AgX.set _ (H.length + 1) _) (fun _ h _ => by simp only [List.mem_singleton] at h; simp [h]) (fun _ h _ => by simp only [List.mem_singleton] at h; simp [h])
    have hfP : Hf[H.length]? = some ⟨[.slice la ls.length ls.length, sv], 0, 0, false, true⟩ := by rw [hHf, List.getElem?_set_ne (by omega), List.getElem?_set_self hb2l]
    have hfQ : Hf[H.length + 1]? = some ⟨[.slice ta ts.length ts.length, .slice (some ⟨M, 0, none⟩) ls.length ls.length, .slice (some ⟨M + 1, 0, none⟩) m m], 0, 0, false, true⟩ := by rw [hHf, List.getElem?_set_self (by rw [List.length_set]; exact hb3l)]
    clear hHf
    have xaf : AgX [H.length, H.length + 1] Ha Hf := xak.trans xkf (fun _ h _ => by cases h) (fun _ h _ => h)
    have hf1 := xkf.get hk1 (by simp; omega)
    have hf2 := xkf.get hk2 (by simp; omega)
    rw [← hbk1] at hf1
    rw [← hbk2] at hf2
    refine wpc_ret ⟨Or.inr rfl, .tuple #[.agg #[.slice la ls.length ls.length, sv], .agg #[.slice ta ts.length ts.length, .slice (some ⟨M, 0, none⟩) ls.length ls.length, .slice (some ⟨M + 1, 0, none⟩) m m]], ?_, qa, ?_, ?_, by omega, ?_⟩
    · simp [resV, resL, res1, putE_get, notT, ptr, gc_of hfP, gc_of hfQ, inBlk_some, valOf, e2, e3]
    · exact ht1.trans (x1a.trans xaf (zs := [rb, H.length, H.length + 1]) (fun b h _ => by simp only [List.mem_singleton] at h; simp [h]) (fun b h _ => by simp only [List.mem_cons, List.not_mem_nil, or_false] at h ⊢; omega)) (fun _ h _ => h) (fun b h hlt => by simp only [List.mem_cons, List.not_mem_nil, or_false] at h ⊢; omega)
    · exact sa.mono hc xaf (fun b h => by simp only [List.mem_cons, List.not_mem_nil, or_false] at h; omega)
    · refine ⟨.slice la ls.length ls.length, sv, .slice ta ts.length ts.length, M, M + 1, ls, l, ts, List.replicate ls.length 0, List.replicate m 0, by simp [sli], ?_, ?_, htl, ⟨by omega, by simp; omega, hf1, fun x hx => by rw [(List.mem_replicate.1 hx).2]; unfold RgI; exact ⟨by omega, by omega⟩⟩, ⟨by omega, by simp; omega, hf2, fun x hx => by rw [(List.mem_replicate.1 hx).2]; unfold RgI; exact ⟨by omega, by omega⟩⟩, by omega, by simp; omega, by simp; omega⟩
      · exact hpa.mono (vwl_sub xaf (by omega) fun b' h1 h2 h3 => ⟨by simp; omega, by simp; omega⟩)
      · exact hts.mono (vwl_sub xaf (by omega) fun b' h1 h2 h3 => ⟨by simp; omega, by simp; omega⟩)
  | succ k ih =>
    intro i e Hc q lv sv ls l hi hsc hq hxc hbc hpc e0 e2 e3 e4 e5
    have hdi : decide ((i : Int) < 8) = true := decide_eq_true (by omega)
    have hw1 : IntKind.i64.wrap ((i : Int) + 1) = ((i + 1 : Nat) : Int) := by rw [wrap_id (by omega) (by omega)]; omega
    have olv : one lv = true := by obtain ⟨_, a, rfl, _⟩ := hpc.1; rfl
    have osv : one sv = true := by obtain ⟨_, a, rfl, _⟩ := hpc.2.1; rfl
    have hlc := hxc.1
    have hb4c := (List.getElem?_eq_some_iff.1 hbc).1
    refine lp_step ?_
    refine seq_assoc (seq_reg ?_)
    simp only [go_sem, binC, e5, hdi]
    refine seq_cond (t := true) (by simp only [go_sem, binC]) ?_
    simp only [go_sem, binC]
    refine seq_skip (seq_block (seq_reg ?_))
    simp only [go_sem, binC, e0]
    obtain ⟨tw, Ha, qa, ka, xa, sa, ca, ts, hts, htl⟩ := gtr Hc q lo hsc (by omega) (by omega) hlo
    refine op_callN (by simp only [go_sem, binC, e0]; exact ka) ?_
    simp only [go_sem, binC]
    have hla := xa.1
    have hba := xa.get hbc (by simp; omega)
    have hpa : ProgV 3 (vw 0 Ha) lv sv ls l := hpc.mono ((vwl_sub xa (lo' := H1.length) (xs' := []) (Nat.le_refl _) fun b' h1 h2 h3 => ⟨by simp; omega, by simp⟩).trans (vwl0 _ _ _))
    obtain ⟨_, ta, rfl, _⟩ := id hts
    refine seq_reg ?_
    simp only [go_sem, binC, e4, gc_of hba, inBlk_some, olv, osv]
    obtain ⟨w, Hb, kb, tv, hv, dv, rfl, xb, hz⟩ := gf Ha 3 _ _ _ ls l ts hpa.1 hpa.2.1 hpa.2.2.1 (hts.mono (vwl0 _ _ _))
    refine op_callK (by simp only [go_sem, binC]; exact kb) ?_
    obtain ⟨q1, q2, q3⟩ := hz.one
    have hlb := xb.1
    simp only [go_sem, binC, q1, q2, q3]
    refine ⟨by omega, ?_⟩
    refine wpc_gen fun Hn hHn => ?_
    have xn : AgX [] Hb Hn := hHn ▸ AgX.app [] _ _
    have hb7 : Hn[Hb.length]? = some ⟨[tv, hv, dv], 0, 0, false, true⟩ := hHn ▸ get_new0 _ _
    have hln : Hn.length = Hb.length + 1 := by rw [hHn, List.length_append]; rfl
    clear hHn
    have xan : AgX [] Ha Hn := xb.tr xn
    have xcn : AgX [rb] Hc Hn := xa.trans xan (fun _ h _ => h) (fun _ h _ => by cases h)
    have sn : St H0 rb bv qa Hn := sa.mono hc xan (fun _ h => by cases h)
    have hbn := xan.get hba (by simp)
    have hpn : ProgV 3 (vw 0 Hn) lv sv ls l := hpa.mono (agx_sub xan)
    have htn : SlR Co.int (vw 0 Hn) (.slice ta ts.length ts.length) ts := (hts.mono (vwl0 _ _ _)).mono (agx_sub xan)
    refine wpc_genK fun KK hKK => ?_
    have hD : ∀ e' : Env, e' 0 = ptr rb 0 → e' 2 = ptr H.length 0 → e' 3 = ptr (H.length + 1) 0 → e' 4 = ptr b4 0 → e' 5 = .int .i64 i → wpc F lo drPlanD e' Hn KK := by
      intro e' f0 f2 f3 f4 f5
      rw [hKK]
      unfold drPlanD
      refine wpc_reg ?_
      simp only [go_sem, binC, f0]
      obtain ⟨vz, Hz, qz, kz, xz, sz, cz, lv', sv', ls', l', rfl, hpz⟩ := gan Hn qa lo sn (by omega) (by omega) hlo
      refine op_callN (by simp only [go_sem, binC, f0]; exact kz) ?_
      have olv' : one lv' = true := by obtain ⟨_, a, rfl, _⟩ := hpz.1; rfl
      have osv' : one sv' = true := by obtain ⟨_, a, rfl, _⟩ := hpz.2.1; rfl
      have hlz := xz.1
      have hbz := xz.get hbn (by simp; omega)
      have hbzl := (List.getElem?_eq_some_iff.1 hbz).1
      simp only [go_sem, binC, f4, hbz, olv', osv']
      refine ⟨by omega, ?_⟩
      simp only [go_sem, binC, out_n, thenX_n]
      have hxs : AgX [b4] Hz (Hz.set b4 ⟨[lv', sv'], 0, 0, false, true⟩) := AgX.set _ _ _
      have hpz' : ProgV 3 (vwl H1.length [b4] (Hz.set b4 ⟨[lv', sv'], 0, 0, false, true⟩)) lv' sv' ls' l' := hpz.mono (vwl_sub hxs (by omega) fun b' h1 h2 h3 => ⟨by simp; omega, by simp; omega⟩)
      refine wpc_reg ?_
      simp only [go_sem, binC, f5, hw1]
      simp only [go_sem, binC, thenX_n]
      exact ih (i + 1) _ (Hz.set b4 ⟨[lv', sv'], 0, 0, false, true⟩) qz lv' sv' ls' l' (by omega) (sz.setN hc (by omega) _) (by omega) (((hxc.tr xcn).tr xz).setN (by omega) _) (List.getElem?_set_self hbzl) hpz' (by simp only [go_sem, binC, f0]) (by simp only [go_sem, binC, f2]) (by simp only [go_sem, binC, f3]) (by simp only [go_sem, binC, f4]) (by simp only [go_sem, binC])
    refine seq_assoc (seq_reg ?_)
    cases hfv : findV 3 (ls, l) ts with
    | none =>
      simp only [go_sem, binC, Option.isSome_none]
      refine seq_cond (t := false) rfl ?_
      simp only [go_sem, binC]
      refine seq_skip ?_
      exact hD _ (by simp only [go_sem, binC, e0]) (by simp only [go_sem, binC, e2]) (by simp only [go_sem, binC, e3]) (by simp only [go_sem, binC, e4]) (by simp only [go_sem, binC, e5])
    | some homes =>
    rw [hfv] at hz
    obtain ⟨b1, bh, bd, rfl, rfl, rfl, o1, o2, o3, d12, d13, d23⟩ := hz
    simp only [go_sem, binC, Option.isSome_some, e4, gc_of hbn, inBlk_some, olv, osv]
    refine op_callQ (by simp only [go_sem, binC]; exact gz Hn 3 _ _ ls l hpn.1 hpn.2.1 hpn.2.2.1) ?_
    simp only [go_sem, binC]
    by_cases hz1 : 1 < sizeV 3 (ls, l)
    case neg =>
      refine seq_cond (t := false) (by simp only [go_sem, binC]; rw [decide_eq_false hz1]) ?_
      simp only [go_sem, binC]
      refine seq_skip ?_
      exact hD _ (by simp only [go_sem, binC, e0]) (by simp only [go_sem, binC, e2]) (by simp only [go_sem, binC, e3]) (by simp only [go_sem, binC, e4]) (by simp only [go_sem, binC, e5])
    refine seq_cond (t := true) (by simp only [go_sem, binC]; rw [decide_eq_true hz1]) ?_
    simp only [go_sem, binC]
    refine seq_assoc (seq_assoc (seq_reg ?_))
    simp only [go_sem, binC]
    have hP : progB 3 (ls, l) = true := by
      unfold sizeV at hz1
      by_cases h : progB 3 (ls, l) = true
      · exact h
      · rw [if_neg h] at hz1; omega
    have hdl : (doesL 3 (ls, l) ts homes).length = (allL 3 l).length := doesL_len
    have hcnt : (allL 3 l).length ≤ 8 := progB_cnt hP hpn.2.2.1
    have on2 := o2.keep (Nat.le_refl _) xn (by simp)
    have on3 := o3.keep (Nat.le_refl _) xn (by simp)
    have on1 := o1.keep (Nat.le_refl _) xn (by simp)
    have g1 := on1.ge
    have g2 := on2.ge
    have g3 := on3.ge
    have l1' := o1.lt
    have l2' := o2.lt
    have l3' := o3.lt
    generalize doesL 3 (ls, l) ts homes = does0 at *
    refine seq_block (wpc_loop ?_)
    suffices hh : ∀ (k j : Nat) (e : Env) (Hd : Heap) (qd : Int) (cur : List Int), j + k = does0.length → St H0 rb bv qd Hd → (qa ≤ qd ∧ qd ≤ qa + (j : Int)) → AgX [rb, bd] Hn Hd → IntsO 3 Ha.length Hd bd true cur → cur.length = does0.length → e 0 = ptr rb 0 → e 2 = ptr H.length 0 → e 3 = ptr (H.length + 1) 0 → e 4 = ptr b4 0 → e 6 = .slice ta ts.length ts.length → e 7 = ptr Hb.length 0 → e 9 = .int .i64 j → Go.Proofs.YtbjeldblaclpnaaI.W F lo _ e Hd _ from
      hh does0.length 0 _ Hn qa does0 (by omega) sn (by omega) (AgX.refl _ _) on3 rfl (by simp only [go_sem, binC, e0]) (by simp only [go_sem, binC, e2]) (by simp only [go_sem, binC, e3]) (by simp only [go_sem, binC, e4]) (by simp only [go_sem, binC]) (by simp only [go_sem, binC]) (by (simp only [go_sem, binC]) <;> rfl)
    have hrbl : rb < H1.length := by omega
    have hmem : homes.length = ls.length := by
      unfold findV at hfv
      by_cases hc2 : (typeP 3 (ls, l) && trK ts) = true
      · rw [if_pos hc2] at hfv
        exact (hmL_el _ _ (List.mem_of_find?_eq_some hfv)).1
      · rw [if_neg hc2] at hfv; cases hfv
    have hls100 := hpn.2.2.2.2.1
    clear hD
    intro k
    induction k with
    | zero =>
      intro j e Hd qd cur hj sd hqd xd od hcl e0 e2 e3 e4 e6 e7 e9
      have hb7d := xd.get hb7 (by simp; omega)
      have hbnd := xd.get hbn (by simp; omega)
      have x1n : AgX [rb] H1 Hn := hxc.tr xcn
      have x1d : AgX [rb, bd] H1 Hd := x1n.trans xd (fun _ h _ => by simp only [List.mem_singleton] at h; simp [h]) (fun _ h _ => h)
      have hb2d := x1d.get hb2 (by simp; omega)
      have hb3d := x1d.get hb3 (by simp; omega)
      have hb2l := (List.getElem?_eq_some_iff.1 hb2d).1
      have hb3l := (List.getElem?_eq_some_iff.1 hb3d).1
      have hb3s : ∀ kk : Blk, (Hd.set H.length kk)[H.length + 1]? = some ⟨[nilS, nilS, nilS], 0, 0, false, true⟩ := fun kk => by rw [List.getElem?_set_ne (by omega)]; exact hb3d
      refine lp_step ?_
      refine seq_assoc (seq_reg ?_)
      simp only [go_sem, binC, e7, e9, gc_of hb7d, inBlk_some]
      refine seq_cond (t := false) (by simp only [go_sem, binC]; rw [decide_eq_false (by omega)]) ?_
      simp only [go_sem, binC]
      refine seq_exit ?_
      simp only [go_sem, binC, thenX_e, out_e, thenX_n]
      have hb4l := (List.getElem?_eq_some_iff.1 hbn).1
      have g4 : getCells Hd b4 0 2 = some [lv, sv] := by rw [gc_of hbnd]; rfl
      have g7 : getCells Hd Hb.length 0 3 = some [sli b1 0 ts.length, sli bh 0 homes.length, sli bd 0 does0.length] := by rw [gc_of hb7d]; rfl
      have g4' : ∀ kk : Blk, getCells (Hd.set H.length kk) b4 0 2 = some [lv, sv] := fun kk => by rw [gc_of (show (Hd.set H.length kk)[b4]? = some ⟨[lv, sv], 0, 0, false, true⟩ by rw [List.getElem?_set_ne (by omega)]; exact hbnd)]; rfl
      have g7' : ∀ kk : Blk, getCells (Hd.set H.length kk) Hb.length 0 3 = some [sli b1 0 ts.length, sli bh 0 homes.length, sli bd 0 does0.length] := fun kk => by rw [gc_of (show (Hd.set H.length kk)[Hb.length]? = some ⟨[sli b1 0 ts.length, sli bh 0 homes.length, sli bd 0 does0.length], 0, 0, false, true⟩ by rw [List.getElem?_set_ne (by omega)]; exact hb7d)]; rfl
      refine seq_assoc ?_
      refine wpc_genE fun ex he => ?_
      have y2 : ex 2 = ptr H.length 0 := by rw [he]; simp only [go_sem, binC, e2]
      have y3 : ex 3 = ptr (H.length + 1) 0 := by rw [he]; simp only [go_sem, binC, e3]
      have y4 : ex 4 = ptr b4 0 := by rw [he]; simp only [go_sem, binC, e4]
      have y7 : ex 7 = ptr Hb.length 0 := by rw [he]; simp only [go_sem, binC, e7]
      clear he
      refine seq_regV (q := 2) (k := 0) (ea := putE (putE ex (some 52) (.agg #[lv, sv])) (some 53) (.agg #[sli b1 0 ts.length, sli bh 0 homes.length, sli bd 0 does0.length])) rfl rfl rfl ?_
      simp only [go_sem, binC, y2, hb2d, olv, osv]
      refine ⟨by omega, ?_⟩
      refine ⟨frees_cons _ (iop_load (by simp only [go_sem, binC, y4]) g4) (iop_load (by simp only [go_sem, binC, y4]) (g4' _)) (frees_cons _ (iop_load (by simp only [go_sem, binC, y7]) g7) (iop_load (by simp only [go_sem, binC, y7]) (g7' _)) rfl), _, rfl, ?_⟩
      simp only [go_sem, binC, y3, hb3s, sli]
      refine ⟨by omega, ?_⟩
      refine wpc_genH fun Hf hHf => ?_
      have xdf : AgX [H.length, H.length + 1] Hd Hf := by
        rw [hHf]
        exact (AgX.set Hd H.length _).trans (AgX.set _ (H.length + 1) _) (fun _ h _ => by simp only [List.mem_singleton] at h; simp [h]) (fun _ h _ => by simp only [List.mem_singleton] at h; simp [h])
      have hfP : Hf[H.length]? = some ⟨[lv, sv], 0, 0, false, true⟩ := by rw [hHf, List.getElem?_set_ne (by omega), List.getElem?_set_self hb2l]
      have hfQ : Hf[H.length + 1]? = some ⟨[sli b1 0 ts.length, sli bh 0 homes.length, sli bd 0 does0.length], 0, 0, false, true⟩ := by rw [hHf, List.getElem?_set_self (by rw [List.length_set]; exact hb3l)]; rfl
      clear hHf
      have x1f : AgX [rb, bd, H.length, H.length + 1] H1 Hf := x1d.trans xdf (fun _ h _ => by simp only [List.mem_cons, List.not_mem_nil, or_false] at h ⊢; omega) (fun _ h _ => by simp only [List.mem_cons, List.not_mem_nil, or_false] at h ⊢; omega)
      have xcf : AgX [rb, bd, H.length, H.length + 1] Hc Hf := (xcn.trans xd (zs := [rb, bd]) (fun _ h _ => by simp only [List.mem_singleton] at h; simp [h]) (fun _ h _ => h)).trans xdf (fun _ h _ => by simp only [List.mem_cons, List.not_mem_nil, or_false] at h ⊢; omega) (fun _ h _ => by simp only [List.mem_cons, List.not_mem_nil, or_false] at h ⊢; omega)
      have xnf : AgX [rb, bd, H.length, H.length + 1] Hn Hf := xd.trans xdf (fun _ h _ => by simp only [List.mem_cons, List.not_mem_nil, or_false] at h ⊢; omega) (fun _ h _ => by simp only [List.mem_cons, List.not_mem_nil, or_false] at h ⊢; omega)
      have hpf : ProgV 3 (vwl H.length [bh, bd] Hf) lv sv ls l := hpc.mono (vwl_sub xcf (by omega) fun b' h1 h2 h3 => ⟨by simp; omega, by simp; omega⟩)
      have of1 := on1.keep (Nat.le_refl _) xnf (by simp; omega)
      have of2 := on2.keep (lo' := H.length) (by omega) xnf (by simp; omega)
      have of3 := od.keep (lo' := H.length) (by omega) xdf (by simp; omega)
      refine seq_ret ?_
      rw [hKK]
      simp only [go_sem, binC, out_r, thenX_r]
      refine ⟨Or.inr rfl, .tuple #[.agg #[lv, sv], .agg #[sli b1 0 ts.length, sli bh 0 homes.length, sli bd 0 does0.length]], ?_, qd, ?_, ?_, by omega, ?_⟩
      · simp [resV, resL, res1, putE_get, notT, ptr, gc_of hfP, gc_of hfQ, inBlk_some, valOf, y2, y3, sli]
      · exact ht1.trans x1f (fun _ h _ => h) (fun b h hlt => by simp only [List.mem_cons, List.not_mem_nil, or_false] at h ⊢; omega)
      · exact sd.mono hc xdf (fun b h => by simp only [List.mem_cons, List.not_mem_nil, or_false] at h; omega)
      · refine ⟨lv, sv, sli b1 0 ts.length, bh, bd, ls, l, ts, homes, cur, by rw [hcl], hpf, ?_, htl, of2, of3, d23, by omega, by omega⟩
        exact ints_sl (o := 0) (lo := H.length) (xs := [bh, bd]) (l := ts) of1.blk (by omega) (by simp; omega) of1.rg (Nat.zero_le _) (by omega)
    | succ k ihj =>
      intro j e Hd qd cur hj sd hqd xd od hcl e0 e2 e3 e4 e6 e7 e9
      have hjl : j < does0.length := by omega
      have hw2 : IntKind.i64.wrap ((j : Int) + 1) = ((j + 1 : Nat) : Int) := by rw [wrap_id (by omega) (by omega)]; omega
      have hb7d := xd.get hb7 (by simp; omega)
      refine lp_step ?_
      refine seq_assoc (seq_reg ?_)
      simp only [go_sem, binC, e7, e9, gc_of hb7d, inBlk_some]
      refine seq_cond (t := true) (by simp only [go_sem, binC]; rw [decide_eq_true (by omega)]) ?_
      simp only [go_sem, binC]
      refine seq_skip (seq_block (seq_reg ?_))
      simp only [go_sem, binC, e0]
      refine op_draw (n := 3) hpk hc sd (by omega) (by omega) hlo (by simp only [go_sem, binC, e0]) (by simp only [go_sem, binC]) fun He hle xe se => ?_
      simp only [go_sem, binC]
      have hpk3 := pickV_bd code qd (n := 3) (by omega)
      generalize pickV code qd 3 = hv3 at *
      have xne : AgX [rb, bd] Hn He := xd.trans xe (fun _ h _ => h) (fun _ h _ => by simp only [List.mem_singleton] at h; simp [h])
      have xce : AgX [rb, bd] Hc He := xcn.trans xne (fun _ h _ => by simp only [List.mem_singleton] at h; simp [h]) (fun _ h _ => h)
      have xae : AgX [rb, bd] Ha He := xan.trans xne (fun _ h _ => by cases h) (fun _ h _ => h)
      have hpe : ProgV 3 (vw 0 He) lv sv ls l := hpc.mono ((vwl_sub xce (lo' := H1.length) (xs' := []) (Nat.le_refl _) fun b' h1 h2 h3 => ⟨by simp; omega, by simp⟩).trans (vwl0 _ _ _))
      have hte : SlR Co.int (vw 0 He) (.slice ta ts.length ts.length) ts := hts.mono ((vwl_sub xae (lo' := Hc.length) (xs' := []) (Nat.le_refl _) fun b' h1 h2 h3 => ⟨by simp; omega, by simp⟩).trans (vwl0 _ _ _))
      have oe2 := on2.keep (Nat.le_refl _) xne (by simp; omega)
      have oe3 := od.keep (Nat.le_refl _) xe (by simp; omega)
      have hb7e := xne.get hb7 (by simp; omega)
      have hbne := xne.get hbn (by simp; omega)
      refine seq_reg ?_
      simp only [go_sem, binC, e4, e6, e7, e9, gc_of hb7e, gc_of hbne, inBlk_some, olv, osv]
      refine op_callQ (by simp only [go_sem, binC, e6, e9]; exact gps He 3 _ _ _ _ ls l ts homes j hv3 hpe.1 hpe.2.1 hpe.2.2.1 hte oe2.sl) ?_
      simp only [go_sem, binC]
      cases hst : stepV 3 (ls, l) ts homes j hv3 with
      | false =>
        refine wpc_cond (t := false) rfl ?_
        simp only [go_sem, binC]
        refine wpc_skip ?_
        simp only [go_sem, binC, out_n, thenX_n]
        refine wpc_reg ?_
        simp only [go_sem, binC, e9, hw2]
        simp only [go_sem, binC, thenX_n]
        exact ihj (j + 1) _ He (qd + 1) cur (by omega) se (by omega) xne oe3 hcl (by simp only [go_sem, binC, e0]) (by simp only [go_sem, binC, e2]) (by simp only [go_sem, binC, e3]) (by simp only [go_sem, binC, e4]) (by simp only [go_sem, binC, e6]) (by simp only [go_sem, binC, e7]) (by simp only [go_sem, binC])
      | true =>
        refine wpc_cond (t := true) rfl ?_
        simp only [go_sem, binC]
        have hbd := oe3.blk
        have hbdl := oe3.lt
        refine wpc_reg ?_
        simp only [go_sem, binC, e7, e9, gc_of hb7e, inBlk_some]
        refine ⟨⟨by omega, by omega⟩, ?_⟩
        simp only [go_sem, binC, Int.toNat_natCast, Nat.mul_one, hbd, ints_len, ints_set]
        refine ⟨⟨by omega, by omega⟩, ?_⟩
        simp only [go_sem, binC, out_n, thenX_n]
        have hxs : AgX [bd] He (He.set bd ⟨ints (cur.set j hv3), 1, 3, true, true⟩) := AgX.set _ _ _
        have os3 : IntsO 3 Ha.length (He.set bd ⟨ints (cur.set j hv3), 1, 3, true, true⟩) bd true (cur.set j hv3) := ⟨od.ge, by rw [List.length_set]; exact od.len, List.getElem?_set_self hbdl, fun x hx => by
          rcases List.mem_or_eq_of_mem_set hx with h | rfl
          · exact od.rg x h
          · exact ⟨by omega, by omega⟩⟩
        refine wpc_reg ?_
        simp only [go_sem, binC, e9, hw2]
        simp only [go_sem, binC, thenX_n]
        exact ihj (j + 1) _ _ (qd + 1) (cur.set j hv3) (by omega) (se.setN hc (by omega) _) (by omega) (xne.trans hxs (fun _ h _ => h) (fun _ h _ => by simp only [List.mem_singleton] at h; simp [h])) os3 (by rw [List.length_set]; exact hcl) (by simp only [go_sem, binC, e0]) (by simp only [go_sem, binC, e2]) (by simp only [go_sem, binC, e3]) (by simp only [go_sem, binC, e4]) (by simp only [go_sem, binC, e6]) (by simp only [go_sem, binC, e7]) (by simp only [go_sem, binC])
end Go.Proofs.YtbjeldblaclpnaaI
end
section
/- A program and a plan, some spoilt. -/
set_option linter.unusedVariables false
set_option linter.unusedSimpArgs false
namespace Go.Proofs.YtbjeldblaclpnaaI
open Go Go.RowKit
end Go.Proofs.YtbjeldblaclpnaaI
end
section
/- The draws of plans. -/
set_option linter.unusedVariables false
set_option linter.unusedSimpArgs false
namespace Go.Proofs.YtbjeldblaclpnaaI
open Go Go.RowKit
end Go.Proofs.YtbjeldblaclpnaaI
end
section
/- The draw DrawPlanFind; the laws' comparison of plans. -/
set_option linter.unusedVariables false
set_option linter.unusedSimpArgs false
namespace Go.Proofs.YtbjeldblaclpnaaI
open Go Go.RowKit
def c_drPF : IFn := ⟨1, 24, [.cell true 2 2, .t 3],
 .seq (.reg none [
    ⟨(some 2), none, .new [(.slice none 0 0), (.slice none 0 0)]⟩,
    ⟨(some 3), none, .mov (.c (.slice none 0 0))⟩])
 (.seq (.reg none [
    ⟨(some 7), none, .mov (.t 0)⟩,
    ⟨(some 8), none, .call .n (.f 44) [(.t 7)]⟩,
    ⟨(some 4), none, .mov (.t 8)⟩])
 (.seq (.seq (.reg none [
     ⟨(some 9), none, .mov (.t 4)⟩,
     ⟨(some 10), none, .call .n (.f 45) [(.t 9), (.c (.int .i64 2))]⟩,
     ⟨(some 11), none, .bin .eql (.t 10) (.c (.int .i64 0))⟩])
  (.cond (.t 11) (.seq (.reg none [
      ⟨(some 13), none, .mov (.t 4)⟩,
      ⟨(some 14), none, .call .n (.f 46) [(.t 13)]⟩,
      ⟨(some 12), none, .mov (.t 14)⟩,
      ⟨(some 15), none, .ext (.t 12) 0⟩,
      ⟨(some 16), none, .ext (.t 12) 1⟩,
      ⟨(some 5), none, .new [(.slice none 0 0), (.slice none 0 0)]⟩,
      ⟨(some 6), none, .new [(.slice none 0 0), (.slice none 0 0), (.slice none 0 0)]⟩,
      ⟨none, none, .store 2 (.t 5) (.t 15)⟩,
      ⟨none, none, .store 3 (.t 6) (.t 16)⟩])
   (.seq (.reg (some 4) [
      ⟨(some 17), none, .load true 2 (.t 5)⟩,
      ⟨(some 18), none, .fad 0 (.t 6)⟩,
      ⟨(some 19), none, .load false 1 (.t 18)⟩,
      ⟨none, none, .store 2 (.t 2) (.t 17)⟩,
      ⟨(some 3), none, .mov (.t 19)⟩])
   (.ret))) (.skip)))
 (.seq (.reg none [
    ⟨(some 20), none, .mov (.t 4)⟩,
    ⟨(some 21), none, .call .n (.f 47) [(.t 20)]⟩,
    ⟨(some 22), none, .mov (.t 4)⟩,
    ⟨(some 23), none, .call .n (.f 48) [(.t 22)]⟩,
    ⟨none, none, .store 2 (.t 2) (.t 21)⟩,
    ⟨(some 3), none, .mov (.t 23)⟩])
 (.ret))))⟩
def c_lcPlan : IFn := ⟨2, 24, [.t 4],
 .seq (.reg none [
    ⟨(some 2), none, .box (.t 0)⟩,
    ⟨(some 3), none, .box (.t 1)⟩,
    ⟨(some 4), none, .mov (.c (.bool false))⟩])
 (.seq (.reg none [
    ⟨(some 5), none, .fad 0 (.t 2)⟩,
    ⟨(some 6), none, .load false 1 (.t 5)⟩,
    ⟨(some 7), none, .fad 0 (.t 3)⟩,
    ⟨(some 8), none, .load false 1 (.t 7)⟩,
    ⟨(some 9), none, .call .q (.f 34) [(.t 6), (.t 8)]⟩,
    ⟨(some 10), none, .mov (.t 9)⟩,
    ⟨(some 11), (some (10, true)), .fad 1 (.t 2)⟩,
    ⟨(some 12), (some (10, true)), .load false 1 (.t 11)⟩,
    ⟨(some 13), (some (10, true)), .fad 1 (.t 3)⟩,
    ⟨(some 14), (some (10, true)), .load false 1 (.t 13)⟩,
    ⟨(some 15), (some (10, true)), .call .q (.f 34) [(.t 12), (.t 14)]⟩,
    ⟨(some 16), none, .pick (.t 10) (.t 15) (.c (.bool false))⟩,
    ⟨(some 17), none, .mov (.t 16)⟩,
    ⟨(some 18), (some (17, true)), .fad 2 (.t 2)⟩,
    ⟨(some 19), (some (17, true)), .load false 1 (.t 18)⟩,
    ⟨(some 20), (some (17, true)), .fad 2 (.t 3)⟩,
    ⟨(some 21), (some (17, true)), .load false 1 (.t 20)⟩,
    ⟨(some 22), (some (17, true)), .call .q (.f 34) [(.t 19), (.t 21)]⟩,
    ⟨(some 23), none, .pick (.t 17) (.t 22) (.c (.bool false))⟩,
    ⟨(some 4), none, .mov (.t 23)⟩])
 (.ret))⟩
def DrawNumsOk (F : Nat → Option IFn) (f : Nat) : Prop := ∀ (H : Heap) (v : Value) (code : List Int), SlR Co.byte (vw 0 H) v code → ∃ (d : Nat) (lv sv nv : Value) (ls : List (Int × Int)) (l : List (TStep d)) (nums : List Int) (H' : Heap), KC F f [v] H (.tuple #[.agg #[lv, sv], nv]) H' ∧
  (AgX [] H H' ∧ SlR Co.p2 (vw 0 H') lv ls ∧ SlR (Co.step d) (vw 0 H') sv l ∧ (Co.prog d).sm (ls, l) ∧ SlR Co.int (vw 0 H') nv nums)
set_option maxHeartbeats 4000000 in
theorem drPF_ok {F : Nat → Option IFn} {f : Nat} (hf : F f = some c_drPF) (hop : F 44 = some c_l6Open) (hpk : F 45 = some c_pick) (gpl : ∀ {H0 : Heap} {rb : Nat} {bv : Value} {code : List Int}, RdC H0 rb bv code → DrawS F H0 rb bv 46 [] 370000 PlanQ) (gan : ∀ {H0 : Heap} {rb : Nat} {bv : Value} {code : List Int}, RdC H0 rb bv code → DrawS F H0 rb bv 47 [] 90000 ProgR) (gtr : ∀ {H0 : Heap} {rb : Nat} {bv : Value} {code : List Int}, RdC H0 rb bv code → DrawS F H0 rb bv 48 [] 10 TrQ) : DrawNumsOk F f := by
  intro H v code hv
  suffices h : ∃ w H', KC F f [v] H w H' ∧ (∃ (d : Nat) (lv sv nv : Value) (ls : List (Int × Int)) (l : List (TStep d)) (nums : List Int), w = .tuple #[.agg #[lv, sv], nv] ∧ (AgX [] H H' ∧ SlR Co.p2 (vw 0 H') lv ls ∧ SlR (Co.step d) (vw 0 H') sv l ∧ (Co.prog d).sm (ls, l) ∧ SlR Co.int (vw 0 H') nv nums)) by
    obtain ⟨w, H', h1, d, lv, sv, nv, ls, l, nums, rfl, h2⟩ := h
    exact ⟨d, lv, sv, nv, ls, l, nums, H', h1, h2⟩
  refine KC.mk hf rfl ?_
  refine seq_reg ?_
  simp only [go_sem, binC]
  refine wpc_gen fun H1 hH1 => ?_
  have ht1 : AgX [] H H1 := hH1 ▸ AgX.app [] _ _
  have hb1 : H1[H.length]? = some ⟨[nilS, nilS], 0, 0, false, true⟩ := hH1 ▸ get_new0 _ _
  have hn1 : H1.length = H.length + 1 := by rw [hH1, List.length_append]; rfl
  clear hH1
  refine seq_reg ?_
  simp only [go_sem, binC]
  obtain ⟨bv, code', k2, hc, hs2⟩ := l6Open_ok hop (hv.mono (agx_sub ht1)) H.length ht1.1
  refine op_callN (by simp only [go_sem, binC]; exact k2) ?_
  simp only [go_sem, binC]
  refine wpc_gen fun H2 hH2 => ?_
  rw [← hH2] at hs2
  have x12 : AgX [] H1 H2 := hH2 ▸ AgX.app [] _ _
  have hn2 : H2.length = H1.length + 1 := by rw [hH2, List.length_append]; rfl
  clear hH2
  refine seq_assoc (seq_reg ?_)
  simp only [go_sem, binC]
  refine op_draw (n := 2) hpk hc hs2 (by omega) (by omega) (by omega) (by simp only [go_sem, binC]) (by simp only [go_sem, binC]) fun H3 hl3 hx3 hs3 => ?_
  simp only [go_sem, binC]
  have x13 : AgX [H1.length] H1 H3 := x12.trans hx3 (fun _ h _ => by cases h) (fun _ h _ => h)
  have hb3 := x13.get hb1 (by simp; omega)
  have hfin : ∀ {Hz : Heap} {xs : List Nat}, AgX xs H3 Hz → (∀ b, b ∈ xs → H.length ≤ b) → AgX [] H Hz := fun hx hxs => (ht1.trans x13 (zs := []) (fun _ h _ => h) (fun b h1 h2 => by simp only [List.mem_singleton] at h1; omega)).trans hx (fun _ h _ => h) (fun b h1 h2 => by have := hxs b h1; omega)
  by_cases h0 : pickV code' 0 2 = 0
  · refine seq_cond (t := true) (by simp only [go_sem, binC]; simp [h0]) ?_
    simp only [go_sem, binC]
    refine seq_assoc (seq_reg ?_)
    simp only [go_sem, binC]
    obtain ⟨v4, H4, p4, k4, x4, s4, c4, lv, sv, tv, b2, b3, ls, l, ts, homes, does, rfl, hpv, hts, htl, oh, od, hne, hhl, hdl⟩ := gpl hc H3 (0 + 1) H.length hs3 (by omega) (by omega) (by omega)
    refine op_callN (by simp only [go_sem, binC]; exact k4) ?_
    obtain ⟨r1, r2, r3, r4⟩ := hpv
    obtain ⟨_, la, rfl, _⟩ := id r1
    obtain ⟨_, sa, rfl, _⟩ := id r2
    obtain ⟨_, ta, rfl, _⟩ := id hts
    have hl4 := x4.1
    simp only [go_sem, binC, sli]
    refine ⟨by omega, by omega, ?_⟩
    refine wpc_gen fun H5 hH5 => ?_
    have x45 : AgX [] H4 H5 := hH5 ▸ AgX.app [] _ _
    have hbx5 : H5[H4.length]? = some ⟨[.slice la ls.length ls.length, .slice sa l.length l.length], 0, 0, false, true⟩ := hH5 ▸ get_new0 _ _
    have hbp5 : H5[H4.length + 1]? = some ⟨[.slice ta ts.length ts.length, .slice (some ⟨b2, 0, none⟩) homes.length homes.length, .slice (some ⟨b3, 0, none⟩) does.length does.length], 0, 0, false, true⟩ := hH5 ▸ get_new _ _ 1
    have hl5 : H5.length = H4.length + 2 := by rw [hH5, List.length_append]; rfl
    clear hH5
    have hb5 := x45.get (x4.get hb3 (by simp; omega)) (by simp)
    have hbl := (List.getElem?_eq_some_iff.1 hb5).1
    have gx : ∀ kk : Blk, (H5.set H.length kk)[H4.length]? = some ⟨[.slice la ls.length ls.length, .slice sa l.length l.length], 0, 0, false, true⟩ := fun kk => by rw [List.getElem?_set_ne (by omega)]; exact hbx5
    have gp : ∀ kk : Blk, (H5.set H.length kk)[H4.length + 1]? = some ⟨[.slice ta ts.length ts.length, .slice (some ⟨b2, 0, none⟩) homes.length homes.length, .slice (some ⟨b3, 0, none⟩) does.length does.length], 0, 0, false, true⟩ := fun kk => by rw [List.getElem?_set_ne (by omega)]; exact hbp5
    have c1 : getCells H5 H4.length 0 2 = some [.slice la ls.length ls.length, .slice sa l.length l.length] := by rw [gc_of hbx5]; rfl
    have c1' : ∀ kk : Blk, getCells (H5.set H.length kk) H4.length 0 2 = some [.slice la ls.length ls.length, .slice sa l.length l.length] := fun kk => by rw [gc_of (gx kk)]; rfl
    have c2 : getCells H5 (H4.length + 1) 0 1 = some [.slice ta ts.length ts.length] := by rw [gc_of hbp5]; rfl
    have c2' : ∀ kk : Blk, getCells (H5.set H.length kk) (H4.length + 1) 0 1 = some [.slice ta ts.length ts.length] := fun kk => by rw [gc_of (gp kk)]; rfl
    refine seq_assoc ?_
    refine wpc_genE fun ex he => ?_
    have y2 : ex 2 = ptr H.length 0 := by rw [he]; simp only [go_sem, binC]
    have y5 : ex 5 = ptr H4.length 0 := by rw [he]; simp only [go_sem, binC]
    have y6 : ex 6 = ptr (H4.length + 1) 0 := by rw [he]; simp only [go_sem, binC]
    clear he
    refine seq_regV (q := 3) (k := 0) (ea := putE (putE (putE ex (some 17) (.agg #[.slice la ls.length ls.length, .slice sa l.length l.length])) (some 18) (ptr (H4.length + 1) 0)) (some 19) (.slice ta ts.length ts.length)) rfl rfl rfl ?_
    simp only [go_sem, binC, y2, hb5]
    refine ⟨frees_cons _ (iop_load (by simp only [go_sem, binC, y5]) c1) (iop_load (by simp only [go_sem, binC, y5]) (c1' _)) (frees_cons _ (by simp only [go_sem, binC, y6, iop, ptr]) (by simp only [go_sem, binC, y6, iop, ptr]) (frees_cons _ (by simp only [go_sem, binC, iop, ptr, c2, Option.bind_some]) (by simp only [go_sem, binC, iop, ptr, c2', Option.bind_some]) rfl)), _, rfl, ?_⟩
    simp only [go_sem, binC]
    have xs5 := AgX.set H5 H.length ⟨[.slice la ls.length ls.length, .slice sa l.length l.length], 0, 0, false, true⟩
    have hvf : Sub (vwl H3.length [b2, b3] H4) (vw 0 (H5.set H.length ⟨[.slice la ls.length ls.length, .slice sa l.length l.length], 0, 0, false, true⟩)) := ((vwl_sub x45 (Nat.le_refl _) (xs' := []) fun b' h1 h2 _ => ⟨by simp, by simp⟩ : Sub (vwl H3.length [b2, b3] H4) (vwl H3.length [] H5)).trans (vwl_sub xs5 (Nat.le_refl _) (xs' := []) fun b' h1 h2 _ => ⟨by simp; omega, by simp⟩)).trans (vwl0 _ _ _)
    refine seq_ret ⟨Or.inr rfl, .tuple #[.agg #[.slice la ls.length ls.length, .slice sa l.length l.length], .slice ta ts.length ts.length], ?_, ?_⟩
    · simp [resV, resL, res1, putE_get, notT, y2, ptr, gc_set hbl, inBlk_some, valOf]
    · refine ⟨3, _, _, _, ls, l, ts, rfl, ?_, r1.mono hvf, r2.mono hvf, r3, hts.mono hvf⟩
      exact hfin ((x4.trans x45 (zs := [H1.length, H.length]) (fun b h _ => by simp only [List.mem_singleton] at h; simp [h]) (fun _ h _ => by cases h)).trans xs5 (fun _ h _ => h) (fun b h _ => by simp only [List.mem_singleton] at h; simp [h])) (fun b h => by simp only [List.mem_cons, List.not_mem_nil, or_false] at h; omega)
  refine seq_cond (t := false) (by simp only [go_sem, binC]; simp [h0]) ?_
  simp only [go_sem, binC]
  refine seq_skip (seq_reg ?_)
  simp only [go_sem, binC]
  obtain ⟨v4, H4, p4, k4, x4, s4, c4, d, lv, sv, ls, l, rfl, r1, r2, r3, r4, r5⟩ := gan hc H3 (0 + 1) H.length hs3 (by omega) (by omega) (by omega)
  refine op_callN (by simp only [go_sem, binC]; exact k4) ?_
  obtain ⟨_, la, rfl, _⟩ := id r1
  obtain ⟨_, sa, rfl, _⟩ := id r2
  have hl4 := x4.1
  simp only [go_sem, binC]
  obtain ⟨v5, H5, p5, k5, x5, s5, c5, ts, hts, htl⟩ := gtr hc H4 p4 H.length s4 (by omega) (by omega) (by omega)
  refine op_callN (by simp only [go_sem, binC]; exact k5) ?_
  obtain ⟨_, ta, rfl, _⟩ := id hts
  have hb5 := x5.get (x4.get hb3 (by simp; omega)) (by simp; omega)
  have hbl := (List.getElem?_eq_some_iff.1 hb5).1
  have hl5 := x5.1
  simp only [go_sem, binC, hb5]
  have xs5 := AgX.set H5 H.length ⟨[.slice la ls.length ls.length, .slice sa l.length l.length], 0, 0, false, true⟩
  have hvf : Sub (vwl H3.length [] H4) (vw 0 (H5.set H.length ⟨[.slice la ls.length ls.length, .slice sa l.length l.length], 0, 0, false, true⟩)) := ((vwl_sub x5 (Nat.le_refl _) (xs' := []) fun b' h1 h2 _ => ⟨by simp; omega, by simp⟩ : Sub (vwl H3.length [] H4) (vwl H3.length [] H5)).trans (vwl_sub xs5 (Nat.le_refl _) (xs' := []) fun b' h1 h2 _ => ⟨by simp; omega, by simp⟩)).trans (vwl0 _ _ _)
  have hvn : Sub (vwl H4.length [] H5) (vw 0 (H5.set H.length ⟨[.slice la ls.length ls.length, .slice sa l.length l.length], 0, 0, false, true⟩)) := (vwl_sub xs5 (Nat.le_refl _) (xs' := []) fun b' h1 h2 _ => ⟨by simp; omega, by simp⟩).trans (vwl0 _ _ _)
  refine wpc_ret ⟨Or.inr rfl, .tuple #[.agg #[.slice la ls.length ls.length, .slice sa l.length l.length], .slice ta ts.length ts.length], ?_, ?_⟩
  · simp [resV, resL, res1, putE_get, notT, ptr, gc_set hbl, inBlk_some, valOf]
  · refine ⟨d, _, _, _, ls, l, ts, rfl, ?_, r1.mono hvf, r2.mono hvf, r3, hts.mono hvn⟩
    exact hfin ((x4.tr x5).trans xs5 (zs := [H1.length, H.length]) (fun b h _ => by simp only [List.mem_singleton] at h; simp [h]) (fun b h _ => by simp only [List.mem_singleton] at h; simp [h])) (fun b h => by simp only [List.mem_cons, List.not_mem_nil, or_false] at h; omega)
def PlanEq (F : Nat → Option IFn) (f : Nat) : Prop := ∀ (H : Heap) (v1 v2 v3 w1 w2 w3 : Value) (a1 a2 a3 b1 b2 b3 : List Int), SlR Co.int (vw 0 H) v1 a1 → SlR Co.int (vw 0 H) v2 a2 → SlR Co.int (vw 0 H) v3 a3 → SlR Co.int (vw 0 H) w1 b1 → SlR Co.int (vw 0 H) w2 b2 → SlR Co.int (vw 0 H) w3 b3 → QC F f [.agg #[v1, v2, v3], .agg #[w1, w2, w3]] H (.bool (decide (a1 = b1) && (decide (a2 = b2) && decide (a3 = b3))))
theorem lcPlan_ok {F : Nat → Option IFn} {f : Nat} (hf : F f = some c_lcPlan) (gi : IntsOk F 34) : PlanEq F f := by
  intro H v1 v2 v3 w1 w2 w3 a1 a2 a3 b1 b2 b3 h1 h2 h3 k1 k2 k3
  obtain ⟨_, p1, rfl, _⟩ := id h1
  obtain ⟨_, p2, rfl, _⟩ := id h2
  obtain ⟨_, p3, rfl, _⟩ := id h3
  obtain ⟨_, q1, rfl, _⟩ := id k1
  obtain ⟨_, q2, rfl, _⟩ := id k2
  obtain ⟨_, q3, rfl, _⟩ := id k3
  refine QC.mk hf rfl ?_
  refine seq_reg ?_
  simp only [go_sem, binC]
  refine wpc_gen fun H1 hH1 => ?_
  have hx1 : AgX [] H H1 := hH1 ▸ AgX.app [] _ _
  have hb2 : H1[H.length]? = some ⟨[.slice p1 a1.length a1.length, .slice p2 a2.length a2.length, .slice p3 a3.length a3.length], 0, 0, false, true⟩ := hH1 ▸ get_new0 _ _
  have hb3 : H1[H.length + 1]? = some ⟨[.slice q1 b1.length b1.length, .slice q2 b2.length b2.length, .slice q3 b3.length b3.length], 0, 0, false, true⟩ := hH1 ▸ get_new _ _ 1
  clear hH1
  have hS := agx_sub hx1
  refine seq_reg ?_
  simp only [go_sem, binC, gc_of hb2, gc_of hb3, inBlk_some]
  refine op_callQ (by simp only [go_sem, binC]; exact gi H1 _ _ _ _ (h1.mono hS) (k1.mono hS)) ?_
  cases e1 : decide (a1 = b1) with
  | false =>
    simp only [go_sem, binC]
    exact wpc_ret ⟨Or.inr rfl, .bool false, (by (simp only [go_sem, binC]) <;> rfl), rfl, rfl⟩
  | true =>
  simp only [go_sem, binC, gc_of hb2, gc_of hb3, inBlk_some]
  refine op_callQ (by simp only [go_sem, binC]; exact gi H1 _ _ _ _ (h2.mono hS) (k2.mono hS)) ?_
  cases e2 : decide (a2 = b2) with
  | false =>
    simp only [go_sem, binC]
    exact wpc_ret ⟨Or.inr rfl, .bool false, (by (simp only [go_sem, binC]) <;> rfl), rfl, rfl⟩
  | true =>
  simp only [go_sem, binC, gc_of hb2, gc_of hb3, inBlk_some]
  refine op_callQ (by simp only [go_sem, binC]; exact gi H1 _ _ _ _ (h3.mono hS) (k3.mono hS)) ?_
  simp only [go_sem, binC]
  exact wpc_ret ⟨Or.inr rfl, .bool (decide (a3 = b3)), (by (simp only [go_sem, binC]) <;> rfl), rfl, rfl⟩
end Go.Proofs.YtbjeldblaclpnaaI
end
section
/- Whether a plan is as it may be (the program's). -/
set_option linter.unusedVariables false
set_option linter.unusedSimpArgs false
namespace Go.Proofs.YtbjeldblaclpnaaI
open Go Go.RowKit
def c_iPlanOk : IFn := ⟨2, 82, [.t 4],
 .seq (.reg none [
    ⟨(some 2), none, .box (.t 0)⟩,
    ⟨(some 3), none, .box (.t 1)⟩,
    ⟨(some 4), none, .mov (.c (.bool false))⟩])
 (.seq (.seq (.reg (some 24) [
     ⟨(some 10), none, .load true 2 (.t 2)⟩,
     ⟨(some 11), none, .call .q (.f 43) [(.t 10)]⟩,
     ⟨(some 12), none, .un .not (.t 11)⟩,
     ⟨(some 13), none, .mov (.t 12)⟩,
     ⟨(some 14), (some (13, false)), .fad 0 (.t 3)⟩,
     ⟨(some 15), (some (13, false)), .load false 1 (.t 14)⟩,
     ⟨(some 16), (some (13, false)), .call .q (.f 52) [(.t 15)]⟩,
     ⟨(some 17), (some (13, false)), .un .not (.t 16)⟩,
     ⟨(some 18), none, .pick (.t 13) (.c (.bool true)) (.t 17)⟩,
     ⟨(some 19), none, .mov (.t 18)⟩,
     ⟨(some 20), (some (19, false)), .fad 1 (.t 3)⟩,
     ⟨(some 21), (some (19, false)), .load false 1 (.t 20)⟩,
     ⟨(some 22), (some (19, false)), .fad 0 (.t 2)⟩,
     ⟨(some 23), (some (19, false)), .load false 1 (.t 22)⟩,
     ⟨(some 24), (some (19, false)), .len (.t 23)⟩,
     ⟨(some 25), (some (19, false)), .call .q (.f 63) [(.t 21), (.t 24)]⟩,
     ⟨(some 26), (some (19, false)), .un .not (.t 25)⟩,
     ⟨(some 27), none, .pick (.t 19) (.c (.bool true)) (.t 26)⟩,
     ⟨(some 28), none, .mov (.t 27)⟩,
     ⟨(some 29), (some (28, false)), .fad 2 (.t 3)⟩,
     ⟨(some 30), (some (28, false)), .load false 1 (.t 29)⟩,
     ⟨(some 31), (some (28, false)), .fad 1 (.t 2)⟩,
     ⟨(some 32), (some (28, false)), .load false 1 (.t 31)⟩,
     ⟨(some 33), (some (28, false)), .call .q (.f 62) [(.t 32)]⟩,
     ⟨(some 34), (some (28, false)), .call .q (.f 63) [(.t 30), (.t 33)]⟩,
     ⟨(some 35), (some (28, false)), .un .not (.t 34)⟩,
     ⟨(some 36), none, .pick (.t 28) (.c (.bool true)) (.t 35)⟩])
  (.cond (.t 36) (.seq (.reg none [
      ⟨(some 4), none, .mov (.c (.bool false))⟩])
   (.ret)) (.skip)))
 (.seq (.seq (.reg none [
     ⟨(some 37), none, .fad 1 (.t 3)⟩,
     ⟨(some 38), none, .load false 1 (.t 37)⟩,
     ⟨(some 39), none, .len (.t 38)⟩,
     ⟨(some 40), none, .mov (.c (.int .i64 0))⟩])
  (.block 0 (.loop (.seq (.reg none [
       ⟨(some 41), none, .bin .lss (.t 40) (.t 39)⟩])
    (.seq (.cond (.t 41) (.skip) (.exit 0))
    (.seq (.block 1 (.seq (.reg none [
         ⟨(some 42), none, .mov (.t 40)⟩,
         ⟨(some 43), none, .iad 1 (.t 38) (.t 40)⟩,
         ⟨(some 44), none, .load false 1 (.t 43)⟩,
         ⟨(some 5), none, .mov (.t 42)⟩,
         ⟨(some 6), none, .mov (.t 44)⟩])
      (.seq (.reg none [
         ⟨(some 45), none, .load true 2 (.t 2)⟩,
         ⟨(some 46), none, .fad 0 (.t 3)⟩,
         ⟨(some 47), none, .load false 1 (.t 46)⟩,
         ⟨(some 48), none, .mov (.t 5)⟩,
         ⟨(some 49), none, .mov (.t 6)⟩,
         ⟨(some 50), none, .call .q (.f 64) [(.t 45), (.t 47), (.t 48), (.t 49)]⟩,
         ⟨(some 51), none, .un .not (.t 50)⟩])
      (.cond (.t 51) (.seq (.reg none [
          ⟨(some 4), none, .mov (.c (.bool false))⟩])
       (.ret)) (.skip)))))
    (.reg none [
      ⟨(some 52), none, .bin .add (.t 40) (.c (.int .i64 1))⟩,
      ⟨(some 40), none, .mov (.t 52)⟩])))))))
 (.seq (.reg none [
    ⟨(some 53), none, .load true 2 (.t 2)⟩,
    ⟨(some 54), none, .call .k (.f 53) [(.t 53)]⟩,
    ⟨(some 7), none, .mov (.t 54)⟩])
 (.seq (.seq (.reg none [
     ⟨(some 55), none, .fad 1 (.t 2)⟩,
     ⟨(some 56), none, .load false 1 (.t 55)⟩,
     ⟨(some 57), none, .call .k (.f 55) [(.t 56)]⟩,
     ⟨(some 58), none, .len (.t 57)⟩,
     ⟨(some 59), none, .mov (.c (.int .i64 0))⟩])
  (.block 2 (.loop (.seq (.reg none [
       ⟨(some 60), none, .bin .lss (.t 59) (.t 58)⟩])
    (.seq (.cond (.t 60) (.skip) (.exit 2))
    (.seq (.block 3 (.seq (.reg none [
         ⟨(some 61), none, .mov (.t 59)⟩,
         ⟨(some 62), none, .iad 8 (.t 57) (.t 59)⟩,
         ⟨(some 63), none, .load true 8 (.t 62)⟩,
         ⟨(some 9), none, .new [(.int .i64 0), (.int .i64 0), (.int .i64 0), (.int .i64 0), (.int .i64 0), (.int .i64 0), (.slice none 0 0), (.slice none 0 0)]⟩,
         ⟨(some 8), none, .mov (.t 61)⟩,
         ⟨none, none, .store 8 (.t 9) (.t 63)⟩])
      (.seq (.reg (some 15) [
         ⟨(some 64), none, .load true 2 (.t 2)⟩,
         ⟨(some 65), none, .fad 0 (.t 3)⟩,
         ⟨(some 66), none, .load false 1 (.t 65)⟩,
         ⟨(some 67), none, .fad 1 (.t 3)⟩,
         ⟨(some 68), none, .load false 1 (.t 67)⟩,
         ⟨(some 69), none, .load true 8 (.t 9)⟩,
         ⟨(some 70), none, .mov (.t 7)⟩,
         ⟨(some 71), none, .mov (.t 8)⟩,
         ⟨(some 72), none, .iad 2 (.t 70) (.t 71)⟩,
         ⟨(some 73), none, .load true 2 (.t 72)⟩,
         ⟨(some 74), none, .fad 2 (.t 3)⟩,
         ⟨(some 75), none, .load false 1 (.t 74)⟩,
         ⟨(some 76), none, .mov (.t 8)⟩,
         ⟨(some 77), none, .iad 1 (.t 75) (.t 76)⟩,
         ⟨(some 78), none, .load false 1 (.t 77)⟩,
         ⟨(some 79), none, .call .q (.f 65) [(.t 64), (.t 66), (.t 68), (.t 69), (.t 73), (.t 78)]⟩,
         ⟨(some 80), none, .un .not (.t 79)⟩])
      (.cond (.t 80) (.seq (.reg none [
          ⟨(some 4), none, .mov (.c (.bool false))⟩])
       (.ret)) (.skip)))))
    (.reg none [
      ⟨(some 81), none, .bin .add (.t 59) (.c (.int .i64 1))⟩,
      ⟨(some 59), none, .mov (.t 81)⟩])))))))
 (.seq (.reg none [
    ⟨(some 4), none, .mov (.c (.bool true))⟩])
 (.ret))))))⟩
theorem hosts_all {l : List Int} : hostsB l = (List.range l.length).all fun j => inB (l.getD j 0) 0 2 := by
  rw [Bool.eq_iff_iff]
  unfold hostsB
  rw [List.all_eq_true, List.all_eq_true]
  constructor
  · intro h i hi
    have hil : i < l.length := by simpa using hi
    have := h l[i] (List.getElem_mem hil)
    simpa [List.getD, hil] using this
  · intro h x hx
    obtain ⟨i, hi, rfl⟩ := List.getElem_of_mem hx
    have := h i (by simpa using hi)
    simpa [List.getD, hi] using this
theorem allDo_hosts {n : Nat} {ls : List (Int × Int)} {l : List (TStep n)} {ts homes does : List Int} (h : hostsB does = false) : allDo n ls l ts homes does = false := by
  rw [Bool.eq_false_iff] at h ⊢
  intro h'
  refine h ?_
  rw [hosts_all]
  unfold allDo at h'
  rw [List.all_eq_true] at h' ⊢
  intro i hi
  have := h' i hi
  rw [Bool.and_eq_true] at this
  exact this.1
theorem iPlanOk_ok {F : Nat → Option IFn} {f : Nat} (hf : F f = some c_iPlanOk) (gty : TypeP F 43) (gt : TrOk F 52) (ghk : HostsI F 63) (gc : ∀ n, CntOk F 62 n) (ghm : HomeI F 64) (ga : AtP F 53) (gl : ∀ n, AllP F 55 n) (gd : DoesOk F 65) : PlanOkV F f := by
  intro H n lv sv tw hw dw ls l ts homes does r1 r2 hsm r3 r4 r5
  have osv : one sv = true := by obtain ⟨_, a, rfl, _⟩ := r2; rfl
  obtain ⟨_, la, rfl, _⟩ := id r1
  obtain ⟨_, ta, rfl, _⟩ := id r3
  obtain ⟨_, ha, rfl, _⟩ := id r4
  obtain ⟨hd0, da, rfl, _⟩ := id r5
  refine QC.mk hf rfl ?_
  refine seq_reg ?_
  simp only [go_sem, binC, osv]
  refine wpc_gen fun H1 hH1 => ?_
  have hx1 : AgX [] H H1 := hH1 ▸ AgX.app [] _ _
  have hb : H1[H.length]? = some ⟨[.slice la ls.length ls.length, sv], 0, 0, false, true⟩ := hH1 ▸ get_new0 _ _
  have hb3 : H1[H.length + 1]? = some ⟨[.slice ta ts.length ts.length, .slice ha homes.length homes.length, .slice da does.length does.length], 0, 0, false, true⟩ := hH1 ▸ get_new _ _ 1
  clear hH1
  have hS := agx_sub hx1
  have hl1 := (List.getElem?_eq_some_iff.1 hb3).1
  have hcntz : progB n (ls, l) = true → sizeV n (ls, l) = ((allL n l).length : Int) := sizeV_yes
  unfold planOkV
  show wpc F H.length _ _ _ (fin _ fun w _ => w = .bool (typeP n (ls, l) && (trK ts && (homesB ls.length homes && (decide ((does.length : Int) = sizeV n (ls, l)) && (allHome ls ts homes && allDo n ls l ts homes does))))) ∧ scal w = true)
  generalize sizeV n (ls, l) = z at *
  refine seq_assoc (seq_regD ?_)
  simp only [go_sem, binC, gc_of hb, inBlk_some, osv]
  refine op_callQ (by simp only [go_sem, binC]; exact gty H1 n _ _ ls l (r1.mono hS) (r2.mono hS) hsm) ?_
  cases hT : typeP n (ls, l) with
  | false =>
    simp only [go_sem, binC]
    refine seq_cond (t := true) rfl ?_
    simp only [go_sem, binC]
    refine seq_assoc (seq_reg ?_)
    simp only [go_sem, binC]
    exact seq_ret ⟨Or.inr rfl, .bool false, (by (simp only [go_sem, binC]) <;> rfl), rfl, rfl⟩
  | true =>
  have hP : progB n (ls, l) = true := by
    unfold typeP at hT
    simp only [Bool.and_eq_true] at hT
    exact hT.1
  simp only [go_sem, binC, gc_of hb3, inBlk_some]
  refine op_callQ (by simp only [go_sem, binC]; exact gt.k H1 _ ts (r3.mono hS)) ?_
  cases hk : trK ts with
  | false =>
    simp only [go_sem, binC]
    refine seq_cond (t := true) rfl ?_
    simp only [go_sem, binC]
    refine seq_assoc (seq_reg ?_)
    simp only [go_sem, binC]
    exact seq_ret ⟨Or.inr rfl, .bool false, (by (simp only [go_sem, binC]) <;> rfl), rfl, rfl⟩
  | true =>
  simp only [go_sem, binC, gc_of hb, gc_of hb3, inBlk_some]
  refine op_callQ (by simp only [go_sem, binC]; exact ghk H1 _ homes ls.length (r4.mono hS)) ?_
  have hhB : (decide ((homes.length : Int) = ls.length) && hostsB homes) = homesB ls.length homes := by
    unfold homesB
    congr 1
    exact decide_eq_decide.2 (by omega)
  rw [hhB]
  cases hh : homesB ls.length homes with
  | false =>
    simp only [go_sem, binC]
    refine seq_cond (t := true) rfl ?_
    simp only [go_sem, binC]
    refine seq_assoc (seq_reg ?_)
    simp only [go_sem, binC]
    exact seq_ret ⟨Or.inr rfl, .bool false, (by (simp only [go_sem, binC]) <;> rfl), rfl, rfl⟩
  | true =>
  simp only [go_sem, binC, gc_of hb, gc_of hb3, inBlk_some]
  have hsz := hcntz hP
  have hlab : ls.all labB = true := progB_lab hP
  have hls4 : ls.length ≤ 4 := progB_len hP
  have hcnt : (allL n l).length ≤ 8 := progB_cnt hP hsm
  have hsl := allSL_len l
  have hho := homesB_iff.1 hh
  have hcw : Wr (cntL n l) = z := by
    rw [cntL_len]
    unfold Wr
    rw [wrap_id (by omega) (by omega), hsz]
  refine op_callQ (by simp only [go_sem, binC]; exact gc n H1 sv l (r2.mono hS)) ?_
  rw [hcw]
  simp only [go_sem, binC]
  refine op_callQ (by simp only [go_sem, binC]; exact ghk H1 _ does z (r5.mono hS)) ?_
  cases hhd : (decide ((does.length : Int) = z) && hostsB does) with
  | false =>
    have hfin : (decide ((does.length : Int) = z) && (allHome ls ts homes && allDo n ls l ts homes does)) = false := by
      rcases Bool.and_eq_false_iff.1 hhd with h | h
      · rw [h]; rfl
      · rw [allDo_hosts h, Bool.and_false, Bool.and_false]
    rw [hfin]
    simp only [go_sem, binC]
    refine seq_cond (t := true) rfl ?_
    simp only [go_sem, binC]
    refine seq_assoc (seq_reg ?_)
    simp only [go_sem, binC]
    exact seq_ret ⟨Or.inr rfl, .bool false, (by (simp only [go_sem, binC]) <;> rfl), rfl, rfl⟩
  | true =>
  rw [Bool.and_eq_true, decide_eq_true_eq] at hhd
  obtain ⟨hz, hdB⟩ := hhd
  rw [decide_eq_true hz]
  simp only [go_sem, binC]
  refine seq_cond (t := false) rfl ?_
  simp only [go_sem, binC]
  refine seq_skip (seq_assoc (seq_reg ?_))
  simp only [go_sem, binC, gc_of hb3, inBlk_some]
  refine seq_block (wpc_loop ?_)
  have r41 := r4.mono hS
  suffices hh : ∀ (k v : Nat) (e : Env), v + k = homes.length → (∀ q, q < v → hmB ls ts q (homes.getD q 0) = true) → e 2 = ptr H.length 0 → e 3 = ptr (H.length + 1) 0 → e 38 = .slice ha homes.length homes.length → e 39 = .int .i64 homes.length → e 40 = .int .i64 v → Go.Proofs.YtbjeldblaclpnaaI.W F H.length _ e H1 _ from
    hh homes.length 0 _ (by omega) (fun q h => by omega) (by simp only [go_sem, binC]) (by simp only [go_sem, binC]) (by simp only [go_sem, binC]) (by simp only [go_sem, binC]) (by (simp only [go_sem, binC]) <;> rfl)
  intro k
  induction k with
  | zero =>
    intro v e hv hall e2 e3 e38 e39 e40
    have hAH : allHome ls ts homes = true := all_yes fun q hq => hall q (by have := hho.1; omega)
    rw [hAH]
    refine lp_step ?_
    refine seq_reg ?_
    simp only [go_sem, binC, e39, e40]
    refine seq_cond (t := false) (by simp only [go_sem, binC]; rw [decide_eq_false (by omega)]) ?_
    simp only [go_sem, binC]
    refine seq_exit ?_
    simp only [go_sem, binC, thenX_e, out_e, thenX_n]
    refine seq_reg ?_
    simp only [go_sem, binC, e2, gc_of hb, inBlk_some, osv]
    obtain ⟨wa, H2, k2, hx2, oa⟩ := ga H1 n _ sv ls l (r1.mono hS) (r2.mono hS) hsm hP
    refine op_callK (by simp only [go_sem, binC]; exact k2) ?_
    obtain ⟨aa, haa⟩ := oa.shape
    have hatl := atL_len ls (7, 7) l
    rw [hatl] at haa
    subst haa
    simp only [go_sem, binC]
    have hb2 := hx2.get hb (by simp)
    have hb32 := hx2.get hb3 (by simp)
    have hx02 := hx1.tr hx2
    refine seq_assoc (seq_reg ?_)
    simp only [go_sem, binC, e2, gc_of hb2, inBlk_some]
    obtain ⟨wl, H4, k4, hx4, ol⟩ := gl n (vw 0 H) H2 sv l (agx_sub hx02) r2 (by omega)
    refine op_callK (by simp only [go_sem, binC]; exact k4) ?_
    obtain ⟨al, hal⟩ := ol.shape
    rw [hsl] at hal
    subst hal
    simp only [go_sem, binC]
    have oa4 := oa.keep (Nat.le_refl _) hx4 (fun _ _ => by simp)
    have hallat : (atL n ls (7, 7) l).all labB = true := atL_lab hlab rfl l
    have hx14 := hx2.tr hx4
    have hl4 := hx14.1
    refine seq_block (wpc_loop ?_)
    suffices hh : ∀ (m j : Nat) (e : Env) (Hd : Heap), j + m = (allL n l).length → AgX [] H4 Hd → (∀ q, q < j → (inB (does.getD q 0) 0 2 && doN n ls l ts homes q (does.getD q 0)) = true) → e 2 = ptr H.length 0 → e 3 = ptr (H.length + 1) 0 → e 7 = .slice aa (allL n l).length (allL n l).length → e 57 = .slice al (allL n l).length (allL n l).length → e 58 = .int .i64 (allL n l).length → e 59 = .int .i64 j → Go.Proofs.YtbjeldblaclpnaaI.W F H.length _ e Hd _ from
      hh (allL n l).length 0 _ H4 (by omega) (AgX.refl _ _) (fun q h => by omega) (by simp only [go_sem, binC, e2]) (by simp only [go_sem, binC, e3]) (by simp only [go_sem, binC]) (by simp only [go_sem, binC]) (by simp only [go_sem, binC]) (by (simp only [go_sem, binC]) <;> rfl)
    clear e2 e3 e38 e39 e40
    intro m
    induction m with
    | zero =>
      intro j e Hd hj hxd hdo e2 e3 e7 e57 e58 e59
      have hAD : allDo n ls l ts homes does = true := all_yes fun q hq => hdo q (by omega)
      refine lp_step ?_
      refine seq_reg ?_
      simp only [go_sem, binC, e58, e59]
      refine seq_cond (t := false) (by simp only [go_sem, binC]; rw [decide_eq_false (by omega)]) ?_
      simp only [go_sem, binC]
      refine seq_exit ?_
      simp only [go_sem, binC, thenX_e, out_e, thenX_n]
      refine seq_reg ?_
      simp only [go_sem, binC]
      rw [hAD]
      exact wpc_ret ⟨Or.inr rfl, .bool true, (by (simp only [go_sem, binC]) <;> rfl), rfl, rfl⟩
    | succ m ih2 =>
      intro j e Hd hj hxd hdo e2 e3 e7 e57 e58 e59
      have hjl : j < (allL n l).length := by omega
      have hja : j < (atL n ls (7, 7) l).length := by omega
      have hjs : j < (allSL n l).length := by omega
      have hjd : j < does.length := by omega
      have hw2 : IntKind.i64.wrap ((j : Int) + 1) = ((j + 1 : Nat) : Int) := by rw [wrap_id (by omega) (by omega)]; omega
      have hx1d := hx14.tr hxd
      have hx0d := hx1.tr hx1d
      have hb2d := hx1d.get hb (by simp)
      have hb3d := hx1d.get hb3 (by simp)
      have hno : (inB (does.getD j 0) 0 2 && doN n ls l ts homes j (does.getD j 0)) = false → allDo n ls l ts homes does = false := fun h => all_no hjd h
      have hin : inB (does.getD j 0) 0 2 = true := by
        rw [hosts_all] at hdB
        exact List.all_eq_true.1 hdB j (by simpa using hjd)
      have qd := inB_iff.1 hin
      have hdoe := doN_eq (ts := ts) (homes := homes) (h := does.getD j 0) hjs hja
      obtain ⟨db, do_, hdv, hdg⟩ := gcD (r5.mono (agx_sub hx0d)) hjd
      simp only [Value.slice.injEq, and_true] at hdv
      subst hdv
      obtain ⟨ba, ca, hwa, gca, rda⟩ := (oa4.keep (Nat.le_refl _) hxd (fun _ _ => by simp)).at hja
      rw [hatl] at hwa
      simp only [Value.slice.injEq, and_true] at hwa
      subst hwa
      obtain ⟨bs, cs, hws, gcs, rds⟩ := (ol.keep (Nat.le_refl _) hxd (fun _ _ => by simp)).at hjs
      rw [hsl] at hws
      simp only [Value.slice.injEq, and_true] at hws
      subst hws
      have hokj := progB_okA hP (List.getElem_mem hjs)
      have hoj : labB (atL n ls (7, 7) l)[j] = true := List.all_eq_true.1 hallat _ (List.getElem_mem hja)
      generalize (atL n ls (7, 7) l)[j] = hr at rda hoj hdoe
      generalize (allSL n l)[j] = sj at rds hokj hdoe
      obtain ⟨ra, rb⟩ := hr
      obtain ⟨_, _, rfl, ⟨hq1, _⟩, ⟨hq2, _⟩⟩ := rda
      simp only at hq1 hq2
      subst hq1 hq2
      have rdsc := rds
      obtain ⟨sk, sx, sa, sbb, sc, sg, tv, ev, tl, el, hs2, hcs, rg, otv, oev, _, _⟩ := anyS_rd rds
      subst hcs
      have hldd := hx0d.1
      refine lp_step ?_
      refine seq_reg ?_
      simp only [go_sem, binC, e58, e59]
      refine seq_cond (t := true) (by simp only [go_sem, binC]; rw [decide_eq_true (by omega)]) ?_
      simp only [go_sem, binC]
      refine seq_skip (seq_block (seq_reg ?_))
      simp only [go_sem, binC, e57, e59]
      refine ⟨⟨by omega, by omega⟩, ?_⟩
      simp only [go_sem, binC, Int.toNat_natCast, Nat.zero_add, gcs, otv, oev]
      refine ⟨by omega, ?_⟩
      refine wpc_gen fun H5 hH5 => ?_
      have hx5 : AgX [] Hd H5 := hH5 ▸ AgX.app [] _ _
      have hs5 : H5[Hd.length]? = some ⟨[.int .i64 sk, .int .i64 sx, .int .i64 sa, .int .i64 sbb, .int .i64 sc, .int .i64 sg, tv, ev], 0, 0, false, true⟩ := hH5 ▸ get_new0 _ _
      clear hH5
      have hb25 := hx5.get hb2d (by simp)
      have hb35 := hx5.get hb3d (by simp)
      have gca5 := gcK gca hx5
      have hdg5 := gcK hdg hx5
      have hx05 := hx0d.tr hx5
      refine seq_regD ?_
      simp only [go_sem, binC, e2, e3, e7, gc_of hb25, gc_of hb35, gc_of hs5, inBlk_some, osv, otv, oev]
      refine ⟨⟨by omega, by omega⟩, ?_⟩
      simp only [go_sem, binC, Int.toNat_natCast, Nat.zero_add, gca5, e3, gc_of hb35, inBlk_some]
      refine ⟨⟨by omega, by omega⟩, ?_⟩
      simp only [go_sem, binC, Int.toNat_natCast, Nat.mul_one, hdg5]
      refine op_callQ (by simp only [go_sem, binC]; exact gd H5 _ sv _ _ _ ls ts homes sj (ra, rb) (does.getD j 0) osv (r1.mono (agx_sub hx05)) hlab (r3.mono (agx_sub hx05)) (trK_iff.1 hk) (r4.mono (agx_sub hx05)) hho (Co.anyS.mono (agx_sub hx05) rdsc) hokj hoj qd.1 qd.2) ?_
      rw [← hdoe]
      cases hst : doN n ls l ts homes j (does.getD j 0) with
      | false =>
        simp only [go_sem, binC]
        refine wpc_cond (t := true) rfl ?_
        simp only [go_sem, binC]
        refine seq_reg ?_
        simp only [go_sem, binC]
        refine wpc_ret ?_
        simp only [go_sem, binC, out_r, thenX_r]
        refine ⟨Or.inr rfl, .bool false, (by (simp only [go_sem, binC]) <;> rfl), ?_, rfl⟩
        rw [hno (by rw [hin, hst]; rfl)]
      | true =>
        simp only [go_sem, binC]
        refine wpc_cond (t := false) rfl ?_
        simp only [go_sem, binC]
        refine wpc_skip ?_
        simp only [go_sem, binC, out_n, thenX_n]
        refine wpc_reg ?_
        simp only [go_sem, binC, e59, hw2]
        simp only [go_sem, binC, thenX_n]
        refine ih2 (j + 1) _ H5 (by omega) (hxd.tr hx5) (fun q hq => ?_) (by simp only [go_sem, binC, e2]) (by simp only [go_sem, binC, e3]) (by simp only [go_sem, binC, e7]) (by simp only [go_sem, binC, e57]) (by simp only [go_sem, binC, e58]) (by simp only [go_sem, binC])
        by_cases hqj : q = j
        · subst hqj; rw [hin, hst]; rfl
        · exact hdo q (by omega)
  | succ k ih =>
    intro v e hv hall e2 e3 e38 e39 e40
    have hvh : v < homes.length := by omega
    have hvl : v < ls.length := by have := hho.1; omega
    have hw1 : IntKind.i64.wrap ((v : Int) + 1) = ((v + 1 : Nat) : Int) := by rw [wrap_id (by omega) (by omega)]; omega
    obtain ⟨hb', ho', hhv, hhg⟩ := gcD r41 hvh
    simp only [Value.slice.injEq, and_true] at hhv
    subst hhv
    have hrg : 0 ≤ homes.getD v 0 ∧ homes.getD v 0 ≤ 2 := by
      have := hho.2 homes[v] (List.getElem_mem hvh)
      simpa [List.getD, hvh] using this
    refine lp_step ?_
    refine seq_reg ?_
    simp only [go_sem, binC, e39, e40]
    refine seq_cond (t := true) (by simp only [go_sem, binC]; rw [decide_eq_true (by omega)]) ?_
    simp only [go_sem, binC]
    refine seq_skip (seq_block (seq_reg ?_))
    simp only [go_sem, binC, e38, e40]
    refine ⟨⟨by omega, by omega⟩, ?_⟩
    simp only [go_sem, binC, Int.toNat_natCast, Nat.mul_one, hhg]
    refine seq_reg ?_
    simp only [go_sem, binC, e2, e3, gc_of hb, gc_of hb3, inBlk_some, osv]
    refine op_callQ (by simp only [go_sem, binC]; exact ghm H1 _ _ _ ls ts v (homes.getD v 0) osv (r1.mono hS) hlab (r3.mono hS) (trK_iff.1 hk) (by omega) (by omega) hrg.1 hrg.2) ?_
    cases hp : hmB ls ts v (homes.getD v 0) with
    | false =>
      have hAH : allHome ls ts homes = false := all_no hvl hp
      simp only [go_sem, binC]
      refine wpc_cond (t := true) rfl ?_
      simp only [go_sem, binC]
      refine seq_reg ?_
      simp only [go_sem, binC]
      refine wpc_ret ?_
      simp only [go_sem, binC, out_r, thenX_r]
      refine ⟨Or.inr rfl, .bool false, (by (simp only [go_sem, binC]) <;> rfl), ?_, rfl⟩
      rw [hAH]
      rfl
    | true =>
      simp only [go_sem, binC]
      refine wpc_cond (t := false) rfl ?_
      simp only [go_sem, binC]
      refine wpc_skip ?_
      simp only [go_sem, binC, out_n, thenX_n]
      refine wpc_reg ?_
      simp only [go_sem, binC, e40, hw1]
      simp only [go_sem, binC, thenX_n]
      refine ih (v + 1) _ (by omega) (fun q hq => ?_) (by simp only [go_sem, binC, e2]) (by simp only [go_sem, binC, e3]) (by simp only [go_sem, binC, e38]) (by simp only [go_sem, binC, e39]) (by simp only [go_sem, binC])
      by_cases hqv : q = v
      · subst hqv; exact hp
      · exact hall q (by omega)
end Go.Proofs.YtbjeldblaclpnaaI
end
section
/- The law FnPlanMore on the ideal machine. -/
set_option linter.unusedVariables false
set_option linter.unusedSimpArgs false
namespace Go.Proofs.YtbjeldblaclpnaaI
open Go Go.RowKit
theorem planOkV_iff {n : Nat} {p : TProg n} {ts homes does : List Int} : planOkV n p ts homes does = true ↔ typeP n p = true ∧ trK ts = true ∧ homesB p.1.length homes = true ∧ (does.length : Int) = sizeV n p ∧ (∀ v, v < p.1.length → hmB p.1 ts v (homes.getD v 0) = true) ∧ (∀ j, j < does.length → (0 ≤ does.getD j 0 ∧ does.getD j 0 ≤ 2) ∧ doN n p.1 p.2 ts homes j (does.getD j 0) = true) := by
  unfold planOkV allHome allDo
  simp only [Bool.and_eq_true, decide_eq_true_eq, List.all_eq_true, List.mem_range, inB_iff]
end Go.Proofs.YtbjeldblaclpnaaI
end
section
/- What is found; the law FnPlanFind on the ideal machine. -/
set_option linter.unusedVariables false
set_option linter.unusedSimpArgs false
namespace Go.Proofs.YtbjeldblaclpnaaI
open Go Go.RowKit
def c_lawPF : IFn := ⟨1, 59, [.t 2],
 .seq (.reg none [
    ⟨(some 2), none, .mov (.c (.bool false))⟩])
 (.seq (.seq (.reg none [
     ⟨(some 9), none, .mov (.t 0)⟩,
     ⟨(some 10), none, .len (.t 9)⟩,
     ⟨(some 11), none, .bin .gtr (.t 10) (.c (.int .i64 1048576))⟩])
  (.cond (.t 11) (.seq (.reg none [
      ⟨(some 2), none, .mov (.c (.bool true))⟩])
   (.ret)) (.skip)))
 (.seq (.reg none [
    ⟨(some 13), none, .mov (.t 0)⟩,
    ⟨(some 14), none, .call .k (.f 14) [(.t 13)]⟩,
    ⟨(some 12), none, .mov (.t 14)⟩,
    ⟨(some 15), none, .ext (.t 12) 0⟩,
    ⟨(some 16), none, .ext (.t 12) 1⟩,
    ⟨(some 3), none, .new [(.slice none 0 0), (.slice none 0 0)]⟩,
    ⟨none, none, .store 2 (.t 3) (.t 15)⟩,
    ⟨(some 4), none, .mov (.t 16)⟩])
 (.seq (.reg none [
    ⟨(some 18), none, .load true 2 (.t 3)⟩,
    ⟨(some 19), none, .mov (.t 4)⟩,
    ⟨(some 20), none, .call .k (.f 15) [(.t 18), (.t 19)]⟩,
    ⟨(some 17), none, .mov (.t 20)⟩,
    ⟨(some 21), none, .ext (.t 17) 0⟩,
    ⟨(some 22), none, .ext (.t 17) 1⟩,
    ⟨(some 5), none, .new [(.slice none 0 0), (.slice none 0 0), (.slice none 0 0)]⟩,
    ⟨none, none, .store 3 (.t 5) (.t 21)⟩,
    ⟨(some 6), none, .mov (.t 22)⟩])
 (.seq (.reg none [
    ⟨(some 24), none, .load true 2 (.t 3)⟩,
    ⟨(some 25), none, .mov (.t 4)⟩,
    ⟨(some 26), none, .call .k (.f 16) [(.t 24), (.t 25)]⟩,
    ⟨(some 23), none, .mov (.t 26)⟩,
    ⟨(some 27), none, .ext (.t 23) 0⟩,
    ⟨(some 28), none, .ext (.t 23) 1⟩,
    ⟨(some 7), none, .new [(.slice none 0 0), (.slice none 0 0), (.slice none 0 0)]⟩,
    ⟨none, none, .store 3 (.t 7) (.t 27)⟩,
    ⟨(some 8), none, .mov (.t 28)⟩])
 (.seq (.seq (.reg none [
     ⟨(some 29), none, .mov (.t 8)⟩,
     ⟨(some 30), none, .mov (.t 6)⟩,
     ⟨(some 31), none, .beq true (.t 29) (.t 30)⟩,
     ⟨(some 32), none, .mov (.t 31)⟩,
     ⟨(some 33), (some (32, false)), .load true 3 (.t 7)⟩,
     ⟨(some 34), (some (32, false)), .load true 3 (.t 5)⟩,
     ⟨(some 35), (some (32, false)), .call .q (.f 17) [(.t 33), (.t 34)]⟩,
     ⟨(some 36), (some (32, false)), .un .not (.t 35)⟩,
     ⟨(some 37), none, .pick (.t 32) (.c (.bool true)) (.t 36)⟩,
     ⟨(some 38), none, .mov (.t 37)⟩,
     ⟨(some 39), (some (38, false)), .mov (.t 8)⟩,
     ⟨(some 40), (some (38, false)), .un .not (.t 39)⟩,
     ⟨(some 41), none, .pick (.t 38) (.c (.bool true)) (.t 40)⟩])
  (.cond (.t 41) (.seq (.reg none [
      ⟨(some 42), none, .mov (.t 8)⟩,
      ⟨(some 43), none, .mov (.t 6)⟩,
      ⟨(some 44), none, .beq false (.t 42) (.t 43)⟩,
      ⟨(some 45), none, .mov (.t 44)⟩,
      ⟨(some 46), (some (45, true)), .load true 3 (.t 7)⟩,
      ⟨(some 47), (some (45, true)), .load true 3 (.t 5)⟩,
      ⟨(some 48), (some (45, true)), .call .q (.f 17) [(.t 46), (.t 47)]⟩,
      ⟨(some 49), none, .pick (.t 45) (.t 48) (.c (.bool false))⟩,
      ⟨(some 2), none, .mov (.t 49)⟩])
   (.ret)) (.skip)))
 (.seq (.reg none [
    ⟨(some 50), none, .load true 2 (.t 3)⟩,
    ⟨(some 51), none, .load true 3 (.t 7)⟩,
    ⟨(some 52), none, .call .q (.f 21) [(.t 50), (.t 51)]⟩,
    ⟨(some 53), none, .mov (.t 52)⟩,
    ⟨(some 54), (some (53, true)), .fad 0 (.t 7)⟩,
    ⟨(some 55), (some (53, true)), .load false 1 (.t 54)⟩,
    ⟨(some 56), (some (53, true)), .mov (.t 4)⟩,
    ⟨(some 57), (some (53, true)), .call .q (.f 34) [(.t 55), (.t 56)]⟩,
    ⟨(some 58), none, .pick (.t 53) (.t 57) (.c (.bool false))⟩,
    ⟨(some 2), none, .mov (.t 58)⟩])
 (.ret)))))))⟩
def planL (o : Option (List Int)) (ts : List Int) (d : List Int → List Int) : List Int × List Int × List Int := match o with
  | none => ([], [], [])
  | some homes => (ts, homes, d homes)
theorem sl_nilS (H : Heap) : SlR Co.int (vw 0 H) nilS [] := ⟨by simp, none, rfl, .inl rfl⟩
theorem PlanR.sls {lo : Nat} {H : Heap} {tv hv dv : Value} {ts : List Int} {o : Option (List Int)} {d : List Int → List Int} (h : PlanR lo H tv hv dv ts o d) : SlR Co.int (vw 0 H) tv (planL o ts d).1 ∧ SlR Co.int (vw 0 H) hv (planL o ts d).2.1 ∧ SlR Co.int (vw 0 H) dv (planL o ts d).2.2 := by
  cases o with
  | none =>
    obtain ⟨rfl, rfl, rfl⟩ := h
    exact ⟨sl_nilS H, sl_nilS H, sl_nilS H⟩
  | some homes =>
    have h : PlanOwn lo H tv hv dv ts homes (d homes) := h
    exact ⟨(h.t (vw 0 H)).sl rfl (fun _ _ h => h), (h.h (vw 0 H)).sl rfl (fun _ _ h => h), (h.d (vw 0 H)).sl rfl (fun _ _ h => h)⟩
theorem PlanZ.sls {lo : Nat} {H : Heap} {tv hv dv : Value} {ts : List Int} {o : Option (List Int)} {d : List Int → List Int} (h : PlanZ lo H tv hv dv ts o d) : SlR Co.int (vw 0 H) tv (planL o ts d).1 ∧ SlR Co.int (vw 0 H) hv (planL o ts d).2.1 ∧ SlR Co.int (vw 0 H) dv (planL o ts d).2.2 := by
  cases o with
  | none =>
    obtain ⟨rfl, rfl, rfl⟩ := h
    exact ⟨sl_nilS H, sl_nilS H, sl_nilS H⟩
  | some homes =>
    obtain ⟨b1, b2, b3, rfl, rfl, rfl, o1, o2, o3, _⟩ := h
    exact ⟨o1.sl, o2.sl, o3.sl⟩
theorem firstH_P {P : Int → Bool} (h : 0 ≤ firstH P) : firstH P ≤ 2 ∧ P (firstH P) = true := by
  unfold firstH at *
  by_cases h0 : P 0 = true
  · rw [if_pos h0] at *; exact ⟨by omega, h0⟩
  rw [if_neg h0] at *
  by_cases h1 : P 1 = true
  · rw [if_pos h1] at *; exact ⟨by omega, h1⟩
  rw [if_neg h1] at *
  by_cases h2 : P 2 = true
  · rw [if_pos h2] at *; exact ⟨by omega, h2⟩
  rw [if_neg h2] at *
  omega
/-- What is found is a plan. -/
theorem find_plan {n : Nat} {ls : List (Int × Int)} {l : List (TStep n)} {ts homes : List Int} (h : findV n (ls, l) ts = some homes) : planOkV n (ls, l) ts homes (doesL n (ls, l) ts homes) = true := by
  have hc : (typeP n (ls, l) && trK ts) = true := by
    by_cases hc : (typeP n (ls, l) && trK ts) = true
    · exact hc
    · unfold findV at h; rw [if_neg hc] at h; cases h
  unfold findV at h
  rw [if_pos hc] at h
  have hm := List.mem_of_find?_eq_some h
  have hp := List.find?_some h
  rw [Bool.and_eq_true] at hc
  have hP : progB n (ls, l) = true := by
    have := hc.1
    unfold typeP at this
    simp only [Bool.and_eq_true] at this
    exact this.1
  obtain ⟨e1, e2, e3⟩ := hmL_el _ _ hm
  have hdl : (doesL n (ls, l) ts homes).length = (allL n l).length := doesL_len
  have hsl := allSL_len l
  refine planOkV_iff.2 ⟨hc.1, hc.2, homesB_iff.2 ⟨e1, e2⟩, by rw [hdl, sizeV_yes hP], fun v hv => ?_, fun j hj => ?_⟩
  · have hh : v < homes.length := by omega
    have := e3 v hh
    simpa [List.getD, hh] using this
  · have hjs : j < (allSL n l).length := by omega
    have h4 := doesL_at (ts := ts) (homes := homes) hjs hj
    have h5 : 0 ≤ firstH (doN n ls l ts homes j) := by
      have hr := firstH_rg (doN n ls l ts homes j)
      have : firstH (doN n ls l ts homes j) ≠ -1 := fun h => by
        rw [h] at h4
        unfold fitsB at hp
        rw [Bool.not_eq_true', decide_eq_false_iff_not] at hp
        exact hp (h4 ▸ List.getElem_mem hj)
      omega
    obtain ⟨h6, h7⟩ := firstH_P h5
    have h8 : (doesL n (ls, l) ts homes).getD j 0 = firstH (doN n ls l ts homes j) := by rw [← h4]; simp [List.getD, hj]
    rw [h8]
    exact ⟨⟨h5, h6⟩, h7⟩
theorem lawPF_ok {F : Nat → Option IFn} {f : Nat} (hf : F f = some c_lawPF) (gd : DrawNumsOk F 14) (gs : FindS F 15) (gi : FindI F 16) (gpe : PlanEq F 17) (gp : PlanOkV F 21) (gli : IntsOk F 34) : LawB F f := by
  intro H v code hv
  have hv0 := hv
  obtain ⟨h0, a, rfl, _⟩ := hv
  refine QC.mk hf rfl ?_
  refine seq_reg ?_
  simp only [go_sem, binC]
  refine seq_assoc (seq_reg ?_)
  simp only [go_sem, binC]
  by_cases hbig : 1048576 < (code.length : Int)
  · refine seq_cond (t := true) (by simp only [go_sem, binC]; rw [decide_eq_true hbig]) ?_
    simp only [go_sem, binC]
    refine seq_assoc (seq_reg ?_)
    simp only [go_sem, binC]
    exact seq_ret ⟨Or.inr rfl, .bool true, by simp only [go_sem, binC], rfl, rfl⟩
  refine seq_cond (t := false) (by simp only [go_sem, binC]; rw [decide_eq_false hbig]) ?_
  simp only [go_sem, binC]
  refine seq_skip (seq_reg ?_)
  simp only [go_sem, binC]
  obtain ⟨d, lv, sv, tv, ls, l, ts, H1, k, hx, r1, r2, r3, r4⟩ := gd H _ code hv0
  have hl1 := hx.1
  obtain ⟨hls0, la, rfl, _⟩ := id r1
  obtain ⟨hsl0, sa, rfl, _⟩ := id r2
  obtain ⟨_, ta, rfl, _⟩ := id r4
  refine op_callK (by simp only [go_sem, binC]; exact k) ?_
  simp only [go_sem, binC]
  refine ⟨by omega, ?_⟩
  refine wpc_gen fun H2 hH2 => ?_
  have hb : H2[H1.length]? = some ⟨[.slice la ls.length ls.length, .slice sa l.length l.length], 0, 0, false, true⟩ := hH2 ▸ get_new0 _ _
  have hy : AgX [] H1 H2 := hH2 ▸ AgX.app [] _ _
  have hl2 : H2.length = H1.length + 1 := by rw [hH2, List.length_append]; rfl
  replace r1 := r1.mono (agx_sub hy)
  replace r2 := r2.mono (agx_sub hy)
  replace r4 := r4.mono (agx_sub hy)
  clear hH2 k
  refine seq_reg ?_
  simp only [go_sem, binC, gc_of hb, inBlk_some]
  obtain ⟨_, H3, k3, tv2, hv2, dv2, rfl, hx3, pz⟩ := gs H2 d _ _ _ ls l ts r1 r2 r3 r4
  obtain ⟨z1, z2, z3⟩ := pz.sls
  generalize hPL : planL (findV d (ls, l) ts) ts (doesL d (ls, l) ts) = P at z1 z2 z3
  refine op_callK (by simp only [go_sem, binC]; exact k3) ?_
  obtain ⟨_, za, rfl, _⟩ := id z1
  obtain ⟨_, zb, rfl, _⟩ := id z2
  obtain ⟨_, zc, rfl, _⟩ := id z3
  have hl3 := hx3.1
  simp only [go_sem, binC]
  refine ⟨by omega, ?_⟩
  refine wpc_gen fun H4 hH4 => ?_
  have hx4 : AgX [] H3 H4 := hH4 ▸ AgX.app [] _ _
  have hbz : H4[H3.length]? = some ⟨[.slice za P.1.length P.1.length, .slice zb P.2.1.length P.2.1.length, .slice zc P.2.2.length P.2.2.length], 0, 0, false, true⟩ := hH4 ▸ get_new0 _ _
  have hl4 : H4.length = H3.length + 1 := by rw [hH4, List.length_append]; rfl
  clear hH4 k3 pz
  have hx24 := hx3.tr hx4
  replace hb := hx24.get hb (by simp)
  replace r1 := r1.mono (agx_sub hx24)
  replace r2 := r2.mono (agx_sub hx24)
  replace r4 := r4.mono (agx_sub hx24)
  replace z1 := z1.mono (agx_sub hx4)
  replace z2 := z2.mono (agx_sub hx4)
  replace z3 := z3.mono (agx_sub hx4)
  refine seq_reg ?_
  simp only [go_sem, binC, gc_of hb, inBlk_some]
  obtain ⟨pv, hv3, dv, H5, k5, hx5, pr⟩ := gi H4 d _ _ _ ls l ts r1 r2 r3 r4
  obtain ⟨i1, i2, i3⟩ := pr.sls
  rw [hPL] at i1 i2 i3
  refine op_callK (by simp only [go_sem, binC]; exact k5) ?_
  obtain ⟨_, ia, rfl, _⟩ := id i1
  obtain ⟨_, ib, rfl, _⟩ := id i2
  obtain ⟨_, ic, rfl, _⟩ := id i3
  have hl5 := hx5.1
  simp only [go_sem, binC]
  refine ⟨by omega, ?_⟩
  refine wpc_gen fun H6 hH6 => ?_
  have hx6 : AgX [] H5 H6 := hH6 ▸ AgX.app [] _ _
  have hbi : H6[H5.length]? = some ⟨[.slice ia P.1.length P.1.length, .slice ib P.2.1.length P.2.1.length, .slice ic P.2.2.length P.2.2.length], 0, 0, false, true⟩ := hH6 ▸ get_new0 _ _
  have hl6 : H6.length = H5.length + 1 := by rw [hH6, List.length_append]; rfl
  clear hH6 k5 pr
  have hx46 := hx5.tr hx6
  replace hb := hx46.get hb (by simp)
  replace hbz := hx46.get hbz (by simp)
  replace r1 := r1.mono (agx_sub hx46)
  replace r2 := r2.mono (agx_sub hx46)
  replace r4 := r4.mono (agx_sub hx46)
  replace z1 := z1.mono (agx_sub hx46)
  replace z2 := z2.mono (agx_sub hx46)
  replace z3 := z3.mono (agx_sub hx46)
  replace i1 := i1.mono (agx_sub hx6)
  replace i2 := i2.mono (agx_sub hx6)
  replace i3 := i3.mono (agx_sub hx6)
  have heq := gpe H6 _ _ _ _ _ _ _ _ _ _ _ _ i1 i2 i3 z1 z2 z3
  simp only [decide_true, Bool.and_self] at heq
  refine seq_assoc (seq_reg ?_)
  simp only [go_sem, binC, bne_self_eq_false, beq_self_eq_true, Bool.not_true, gc_of hbi, gc_of hbz, inBlk_some]
  refine op_callQ (by simp only [go_sem, binC]; exact heq) ?_
  simp only [go_sem, binC]
  cases hov : findV d (ls, l) ts with
  | none =>
    rw [hov] at hPL
    simp only [go_sem, binC, Option.isSome_none]
    refine seq_cond (t := true) rfl ?_
    simp only [go_sem, binC]
    refine seq_assoc (seq_reg ?_)
    simp only [go_sem, binC, bne_self_eq_false, beq_self_eq_true, Bool.not_true, gc_of hbi, gc_of hbz, inBlk_some, hov, Option.isSome_none]
    refine op_callQ (by simp only [go_sem, binC]; exact heq) ?_
    simp only [go_sem, binC]
    exact seq_ret ⟨Or.inr rfl, .bool true, by simp only [go_sem, binC], rfl, rfl⟩
  | some homes =>
  rw [hov] at hPL
  simp only [go_sem, binC, Option.isSome_some]
  refine seq_cond (t := false) rfl ?_
  simp only [go_sem, binC]
  subst hPL
  have hk := gp H6 d _ _ _ _ _ ls l _ _ _ r1 r2 r3 i1 i2 i3
  rw [show planOkV d (ls, l) (planL (some homes) ts (doesL d (ls, l) ts)).1 (planL (some homes) ts (doesL d (ls, l) ts)).2.1 (planL (some homes) ts (doesL d (ls, l) ts)).2.2 = true from find_plan hov] at hk
  have hki := gli H6 _ _ _ _ i1 r4
  rw [show decide ((planL (some homes) ts (doesL d (ls, l) ts)).1 = ts) = true from decide_eq_true rfl] at hki
  refine seq_skip (seq_reg ?_)
  simp only [go_sem, binC, gc_of hb, gc_of hbi, inBlk_some]
  refine op_callQ (by simp only [go_sem, binC]; exact hk) ?_
  simp only [go_sem, binC, gc_of hb, gc_of hbi, inBlk_some]
  refine op_callQ (by simp only [go_sem, binC]; exact hki) ?_
  simp only [go_sem, binC]
  exact wpc_ret ⟨Or.inr rfl, .bool true, by simp only [go_sem, binC], rfl, rfl⟩
end Go.Proofs.YtbjeldblaclpnaaI
end
section
/- The functions that laws on drawn plans reach, as ideal functions. -/
set_option linter.unusedVariables false
set_option linter.unusedSimpArgs false
namespace Go.Proofs.YtbjeldblaclpnaaI
open Go Go.RowKit
def fnOf : Nat → Option IFn
  | 6 => some (c_lawPF)
  | 14 => some (c_drPF)
  | 15 => some (c_sPlanFind)
  | 16 => some (c_iPlanFind)
  | 17 => some (c_lcPlan)
  | 18 => some (c_sTypeOk)
  | 21 => some (c_iPlanOk)
  | 34 => some (c_lcInts)
  | 35 => some (c_sPlanStep)
  | 43 => some (c_iTypeOk)
  | 44 => some (c_l6Open)
  | 45 => some (c_pick)
  | 46 => some (c_drPlan)
  | 47 => some (c_drAny)
  | 48 => some (c_drTrusts)
  | 49 => some (c_sTrusts)
  | 50 => some (c_sSee)
  | 51 => some (c_lFind)
  | 52 => some (c_iTrusts)
  | 53 => some (c_iAt)
  | 54 => some (c_iHomes)
  | 55 => some (c_iAll)
  | 56 => some (c_iDoer)
  | 57 => some (c_conK)
  | 58 => some (c_plClone)
  | 59 => some (c_sWhy)
  | 60 => some (c_sProg)
  | 61 => some (c_iProg)
  | 62 => some (c_iSize)
  | 63 => some (c_iHostsOk)
  | 64 => some (c_iHome1)
  | 65 => some (c_iDoes)
  | 76 => some (c_sHomes21)
  | 77 => some (c_sProgSize)
  | 78 => some (c_lHome)
  | 79 => some (c_sIn)
  | 80 => some (c_lStep)
  | 81 => some (c_iIn)
  | 82 => some (c_iHost)
  | 83 => some (c_iSets)
  | 85 => some (c_iVar)
  | 86 => some (c_iWhy0)
  | 87 => some (c_drFine)
  | 88 => some (c_drProg)
  | 89 => some (c_drBent)
  | 90 => some (c_sEither)
  | 91 => some (c_sSet)
  | 92 => some (c_sHas)
  | 93 => some (c_sAllSteps)
  | 94 => some (c_sTypeAt)
  | 95 => some (c_sTypeSets)
  | 96 => some (c_sBy)
  | 97 => some (c_lDoes)
  | 98 => some (c_iSet)
  | 99 => some (c_iHas)
  | 100 => some (c_iLabels)
  | 101 => some (c_iEvery)
  | 102 => some (c_cloneI)
  | 103 => some (c_ixK)
  | 104 => some (c_sFine)
  | 105 => some (c_sLabelOk)
  | 106 => some (c_sSteps)
  | 107 => some (c_sCount)
  | 108 => some (c_con)
  | 109 => some (c_p1)
  | 110 => some (c_iLabelOk)
  | 111 => some (c_iSteps)
  | 112 => some (c_cfInt)
  | 113 => some (c_hk1)
  | 114 => some (c_iWithin)
  | 115 => some (c_iBy)
  | 116 => some (c_iMakes)
  | 122 => some (c_sWithin)
  | 123 => some (c_sVars21)
  | 124 => some (c_iSource)
  | 125 => some (c_iFlows)
  | 126 => some (c_sWithout)
  | 127 => some (c_drLabel)
  | 128 => some (c_drSteps)
  | 129 => some (c_sCopy)
  | 130 => some (c_sBoth)
  | 131 => some (c_sAll)
  | 132 => some (c_sAt)
  | 133 => some (c_sAny)
  | 134 => some (c_sSets)
  | 135 => some (c_iBoth)
  | 136 => some (c_sFlows)
  | 137 => some (c_sLBoth)
  | 138 => some (c_sValL)
  | 139 => some (c_sStep)
  | 140 => some (c_idx)
  | 141 => some (c_iVal)
  | 142 => some (c_ifInt)
  | 143 => some (c_vars)
  | 146 => some (c_drVal)
  | 147 => some (c_sVar)
  | 148 => some (c_sVal)
  | 149 => some (c_iNum)
  | _ => none
def cmOf (f : Nat) : CM := ⟨fun g => if [6, 17, 18, 21, 34, 35, 43, 49, 52, 56, 57, 59, 60, 61, 62, 63, 64, 65, 76, 77, 78, 79, 80, 81, 82, 83, 85, 86, 90, 91, 92, 96, 98, 99, 101, 103, 104, 105, 106, 107, 108, 109, 110, 111, 112, 113, 114, 115, 122, 124, 125, 130, 131, 133, 134, 135, 136, 137, 138, 139, 140, 141, 142, 147, 148, 149].contains g then .q else if [44, 45, 46, 47, 48, 50, 87, 88, 89, 100, 127, 128, 132, 146].contains g then .n else .k, if [44, 45, 46, 47, 48, 50, 87, 88, 89, 100, 127, 128, 132, 146].contains f then .n else .q, [48, 51, 97].contains f⟩
theorem hF6 : cFn Try.prog cmOf 6 = some (c_lawPF) := by kernel_rfl
theorem hF14 : cFn Try.prog cmOf 14 = some (c_drPF) := by kernel_rfl
theorem hF15 : cFn Try.prog cmOf 15 = some (c_sPlanFind) := by kernel_rfl
theorem hF16 : cFn Try.prog cmOf 16 = some (c_iPlanFind) := by kernel_rfl
theorem hF17 : cFn Try.prog cmOf 17 = some (c_lcPlan) := by kernel_rfl
theorem hF18 : cFn Try.prog cmOf 18 = some (c_sTypeOk) := by kernel_rfl
theorem hF21 : cFn Try.prog cmOf 21 = some (c_iPlanOk) := by kernel_rfl
theorem hF34 : cFn Try.prog cmOf 34 = some (c_lcInts) := by kernel_rfl
theorem hF35 : cFn Try.prog cmOf 35 = some (c_sPlanStep) := by kernel_rfl
theorem hF43 : cFn Try.prog cmOf 43 = some (c_iTypeOk) := by kernel_rfl
theorem hF44 : cFn Try.prog cmOf 44 = some (c_l6Open) := by kernel_rfl
theorem hF45 : cFn Try.prog cmOf 45 = some (c_pick) := by kernel_rfl
theorem hF46 : cFn Try.prog cmOf 46 = some (c_drPlan) := by kernel_rfl
theorem hF47 : cFn Try.prog cmOf 47 = some (c_drAny) := by kernel_rfl
theorem hF48 : cFn Try.prog cmOf 48 = some (c_drTrusts) := by kernel_rfl
theorem hF49 : cFn Try.prog cmOf 49 = some (c_sTrusts) := by kernel_rfl
theorem hF50 : cFn Try.prog cmOf 50 = some (c_sSee) := by kernel_rfl
theorem hF51 : cFn Try.prog cmOf 51 = some (c_lFind) := by kernel_rfl
theorem hF52 : cFn Try.prog cmOf 52 = some (c_iTrusts) := by kernel_rfl
theorem hF53 : cFn Try.prog cmOf 53 = some (c_iAt) := by kernel_rfl
theorem hF54 : cFn Try.prog cmOf 54 = some (c_iHomes) := by kernel_rfl
theorem hF55 : cFn Try.prog cmOf 55 = some (c_iAll) := by kernel_rfl
theorem hF56 : cFn Try.prog cmOf 56 = some (c_iDoer) := by kernel_rfl
theorem hF57 : cFn Try.prog cmOf 57 = some (c_conK) := by kernel_rfl
theorem hF58 : cFn Try.prog cmOf 58 = some (c_plClone) := by kernel_rfl
theorem hF59 : cFn Try.prog cmOf 59 = some (c_sWhy) := by kernel_rfl
theorem hF60 : cFn Try.prog cmOf 60 = some (c_sProg) := by kernel_rfl
theorem hF61 : cFn Try.prog cmOf 61 = some (c_iProg) := by kernel_rfl
theorem hF62 : cFn Try.prog cmOf 62 = some (c_iSize) := by kernel_rfl
theorem hF63 : cFn Try.prog cmOf 63 = some (c_iHostsOk) := by kernel_rfl
theorem hF64 : cFn Try.prog cmOf 64 = some (c_iHome1) := by kernel_rfl
theorem hF65 : cFn Try.prog cmOf 65 = some (c_iDoes) := by kernel_rfl
theorem hF76 : cFn Try.prog cmOf 76 = some (c_sHomes21) := by kernel_rfl
theorem hF77 : cFn Try.prog cmOf 77 = some (c_sProgSize) := by kernel_rfl
theorem hF78 : cFn Try.prog cmOf 78 = some (c_lHome) := by kernel_rfl
theorem hF79 : cFn Try.prog cmOf 79 = some (c_sIn) := by kernel_rfl
theorem hF80 : cFn Try.prog cmOf 80 = some (c_lStep) := by kernel_rfl
theorem hF81 : cFn Try.prog cmOf 81 = some (c_iIn) := by kernel_rfl
theorem hF82 : cFn Try.prog cmOf 82 = some (c_iHost) := by kernel_rfl
theorem hF83 : cFn Try.prog cmOf 83 = some (c_iSets) := by kernel_rfl
theorem hF85 : cFn Try.prog cmOf 85 = some (c_iVar) := by kernel_rfl
theorem hF86 : cFn Try.prog cmOf 86 = some (c_iWhy0) := by kernel_rfl
theorem hF87 : cFn Try.prog cmOf 87 = some (c_drFine) := by kernel_rfl
theorem hF88 : cFn Try.prog cmOf 88 = some (c_drProg) := by kernel_rfl
theorem hF89 : cFn Try.prog cmOf 89 = some (c_drBent) := by kernel_rfl
theorem hF90 : cFn Try.prog cmOf 90 = some (c_sEither) := by kernel_rfl
theorem hF91 : cFn Try.prog cmOf 91 = some (c_sSet) := by kernel_rfl
theorem hF92 : cFn Try.prog cmOf 92 = some (c_sHas) := by kernel_rfl
theorem hF93 : cFn Try.prog cmOf 93 = some (c_sAllSteps) := by kernel_rfl
theorem hF94 : cFn Try.prog cmOf 94 = some (c_sTypeAt) := by kernel_rfl
theorem hF95 : cFn Try.prog cmOf 95 = some (c_sTypeSets) := by kernel_rfl
theorem hF96 : cFn Try.prog cmOf 96 = some (c_sBy) := by kernel_rfl
theorem hF97 : cFn Try.prog cmOf 97 = some (c_lDoes) := by kernel_rfl
theorem hF98 : cFn Try.prog cmOf 98 = some (c_iSet) := by kernel_rfl
theorem hF99 : cFn Try.prog cmOf 99 = some (c_iHas) := by kernel_rfl
theorem hF100 : cFn Try.prog cmOf 100 = some (c_iLabels) := by kernel_rfl
theorem hF101 : cFn Try.prog cmOf 101 = some (c_iEvery) := by kernel_rfl
theorem hF102 : cFn Try.prog cmOf 102 = some (c_cloneI) := by kernel_rfl
theorem hF103 : cFn Try.prog cmOf 103 = some (c_ixK) := by kernel_rfl
theorem hF104 : cFn Try.prog cmOf 104 = some (c_sFine) := by kernel_rfl
theorem hF105 : cFn Try.prog cmOf 105 = some (c_sLabelOk) := by kernel_rfl
theorem hF106 : cFn Try.prog cmOf 106 = some (c_sSteps) := by kernel_rfl
theorem hF107 : cFn Try.prog cmOf 107 = some (c_sCount) := by kernel_rfl
theorem hF108 : cFn Try.prog cmOf 108 = some (c_con) := by kernel_rfl
theorem hF109 : cFn Try.prog cmOf 109 = some (c_p1) := by kernel_rfl
theorem hF110 : cFn Try.prog cmOf 110 = some (c_iLabelOk) := by kernel_rfl
theorem hF111 : cFn Try.prog cmOf 111 = some (c_iSteps) := by kernel_rfl
theorem hF112 : cFn Try.prog cmOf 112 = some (c_cfInt) := by kernel_rfl
theorem hF113 : cFn Try.prog cmOf 113 = some (c_hk1) := by kernel_rfl
theorem hF114 : cFn Try.prog cmOf 114 = some (c_iWithin) := by kernel_rfl
theorem hF115 : cFn Try.prog cmOf 115 = some (c_iBy) := by kernel_rfl
theorem hF116 : cFn Try.prog cmOf 116 = some (c_iMakes) := by kernel_rfl
theorem hF122 : cFn Try.prog cmOf 122 = some (c_sWithin) := by kernel_rfl
theorem hF123 : cFn Try.prog cmOf 123 = some (c_sVars21) := by kernel_rfl
theorem hF124 : cFn Try.prog cmOf 124 = some (c_iSource) := by kernel_rfl
theorem hF125 : cFn Try.prog cmOf 125 = some (c_iFlows) := by kernel_rfl
theorem hF126 : cFn Try.prog cmOf 126 = some (c_sWithout) := by kernel_rfl
theorem hF127 : cFn Try.prog cmOf 127 = some (c_drLabel) := by kernel_rfl
theorem hF128 : cFn Try.prog cmOf 128 = some (c_drSteps) := by kernel_rfl
theorem hF129 : cFn Try.prog cmOf 129 = some (c_sCopy) := by kernel_rfl
theorem hF130 : cFn Try.prog cmOf 130 = some (c_sBoth) := by kernel_rfl
theorem hF131 : cFn Try.prog cmOf 131 = some (c_sAll) := by kernel_rfl
theorem hF132 : cFn Try.prog cmOf 132 = some (c_sAt) := by kernel_rfl
theorem hF133 : cFn Try.prog cmOf 133 = some (c_sAny) := by kernel_rfl
theorem hF134 : cFn Try.prog cmOf 134 = some (c_sSets) := by kernel_rfl
theorem hF135 : cFn Try.prog cmOf 135 = some (c_iBoth) := by kernel_rfl
theorem hF136 : cFn Try.prog cmOf 136 = some (c_sFlows) := by kernel_rfl
theorem hF137 : cFn Try.prog cmOf 137 = some (c_sLBoth) := by kernel_rfl
theorem hF138 : cFn Try.prog cmOf 138 = some (c_sValL) := by kernel_rfl
theorem hF139 : cFn Try.prog cmOf 139 = some (c_sStep) := by kernel_rfl
theorem hF140 : cFn Try.prog cmOf 140 = some (c_idx) := by kernel_rfl
theorem hF141 : cFn Try.prog cmOf 141 = some (c_iVal) := by kernel_rfl
theorem hF142 : cFn Try.prog cmOf 142 = some (c_ifInt) := by kernel_rfl
theorem hF143 : cFn Try.prog cmOf 143 = some (c_vars) := by kernel_rfl
theorem hF146 : cFn Try.prog cmOf 146 = some (c_drVal) := by kernel_rfl
theorem hF147 : cFn Try.prog cmOf 147 = some (c_sVar) := by kernel_rfl
theorem hF148 : cFn Try.prog cmOf 148 = some (c_sVal) := by kernel_rfl
theorem hF149 : cFn Try.prog cmOf 149 = some (c_iNum) := by kernel_rfl
theorem hF (g : Nat) (fn : IFn) (h : fnOf g = some fn) : cFn Try.prog cmOf g = some fn := by
  unfold fnOf at h
  split at h
  · rw [← h]; exact hF6
  · rw [← h]; exact hF14
  · rw [← h]; exact hF15
  · rw [← h]; exact hF16
  · rw [← h]; exact hF17
  · rw [← h]; exact hF18
  · rw [← h]; exact hF21
  · rw [← h]; exact hF34
  · rw [← h]; exact hF35
  · rw [← h]; exact hF43
  · rw [← h]; exact hF44
  · rw [← h]; exact hF45
  · rw [← h]; exact hF46
  · rw [← h]; exact hF47
  · rw [← h]; exact hF48
  · rw [← h]; exact hF49
  · rw [← h]; exact hF50
  · rw [← h]; exact hF51
  · rw [← h]; exact hF52
  · rw [← h]; exact hF53
  · rw [← h]; exact hF54
  · rw [← h]; exact hF55
  · rw [← h]; exact hF56
  · rw [← h]; exact hF57
  · rw [← h]; exact hF58
  · rw [← h]; exact hF59
  · rw [← h]; exact hF60
  · rw [← h]; exact hF61
  · rw [← h]; exact hF62
  · rw [← h]; exact hF63
  · rw [← h]; exact hF64
  · rw [← h]; exact hF65
  · rw [← h]; exact hF76
  · rw [← h]; exact hF77
  · rw [← h]; exact hF78
  · rw [← h]; exact hF79
  · rw [← h]; exact hF80
  · rw [← h]; exact hF81
  · rw [← h]; exact hF82
  · rw [← h]; exact hF83
  · rw [← h]; exact hF85
  · rw [← h]; exact hF86
  · rw [← h]; exact hF87
  · rw [← h]; exact hF88
  · rw [← h]; exact hF89
  · rw [← h]; exact hF90
  · rw [← h]; exact hF91
  · rw [← h]; exact hF92
  · rw [← h]; exact hF93
  · rw [← h]; exact hF94
  · rw [← h]; exact hF95
  · rw [← h]; exact hF96
  · rw [← h]; exact hF97
  · rw [← h]; exact hF98
  · rw [← h]; exact hF99
  · rw [← h]; exact hF100
  · rw [← h]; exact hF101
  · rw [← h]; exact hF102
  · rw [← h]; exact hF103
  · rw [← h]; exact hF104
  · rw [← h]; exact hF105
  · rw [← h]; exact hF106
  · rw [← h]; exact hF107
  · rw [← h]; exact hF108
  · rw [← h]; exact hF109
  · rw [← h]; exact hF110
  · rw [← h]; exact hF111
  · rw [← h]; exact hF112
  · rw [← h]; exact hF113
  · rw [← h]; exact hF114
  · rw [← h]; exact hF115
  · rw [← h]; exact hF116
  · rw [← h]; exact hF122
  · rw [← h]; exact hF123
  · rw [← h]; exact hF124
  · rw [← h]; exact hF125
  · rw [← h]; exact hF126
  · rw [← h]; exact hF127
  · rw [← h]; exact hF128
  · rw [← h]; exact hF129
  · rw [← h]; exact hF130
  · rw [← h]; exact hF131
  · rw [← h]; exact hF132
  · rw [← h]; exact hF133
  · rw [← h]; exact hF134
  · rw [← h]; exact hF135
  · rw [← h]; exact hF136
  · rw [← h]; exact hF137
  · rw [← h]; exact hF138
  · rw [← h]; exact hF139
  · rw [← h]; exact hF140
  · rw [← h]; exact hF141
  · rw [← h]; exact hF142
  · rw [← h]; exact hF143
  · rw [← h]; exact hF146
  · rw [← h]; exact hF147
  · rw [← h]; exact hF148
  · rw [← h]; exact hF149
  · cases h
theorem hMixed : Try.prog.follows .mixedOrders = true := by kernel_rfl
theorem ok_iIn : ∀ (H : Heap) (a b c : Int), QC fnOf 81 [.int .i64 a, .int .i64 b, .int .i64 c] H (.bool (inB a b c)) := iIn_ok rfl
theorem ok_sIn : ∀ (H : Heap) (a b c : Int), QC fnOf 79 [.int .i64 a, .int .i64 b, .int .i64 c] H (.bool (inB a b c)) := sIn_ok rfl
theorem ok_iSet : ∀ (H : Heap) (a : Int), QC fnOf 98 [.int .i64 a] H (.bool (inB a 0 7)) := iSet_ok rfl ok_iIn
theorem ok_iHost : ∀ (H : Heap) (a : Int), QC fnOf 82 [.int .i64 a] H (.bool (inB a 0 2)) := iHost_ok rfl ok_iIn
theorem ok_iNum : ∀ (H : Heap) (a : Int), QC fnOf 149 [.int .i64 a] H (.bool (inB a 0 9)) := iNum_ok rfl ok_iIn
theorem ok_sAll : ∀ H, QC fnOf 131 [] H (.int .i64 7) := sAll_ok rfl
theorem ok_sSet : ∀ (H : Heap) (a : Int), QC fnOf 91 [.int .i64 a] H (.bool (inB a 0 7)) := sSet_ok rfl ok_sIn ok_sAll
theorem ok_iLabelOk : LabOk fnOf 110 := iLabelOk_ok rfl ok_iSet
theorem ok_sLabelOk : LabOk fnOf 105 := sLabelOk_ok rfl ok_sSet
theorem ok_iVar : VarOk fnOf 85 := iVar_ok rfl ok_iIn
theorem ok_sVar : VarOk fnOf 147 := sVar_ok rfl ok_sIn
theorem ok_iVal : ValOk fnOf 141 := iVal_ok rfl ok_iNum ok_iVar
theorem ok_sVal : ValOk fnOf 148 := sVal_ok rfl ok_sIn ok_sVar
theorem ok_sSteps : ∀ n, StepsOk fnOf 106 n := fun n => (sSteps_all rfl rfl ok_sIn ok_sVar ok_sVal n).1
theorem ok_iSteps : ∀ n, StepsOk fnOf 111 n := iSteps_all rfl ok_iVar ok_iVal ok_iHost
theorem ok_sCount : ∀ n, CntOk fnOf 107 n := cnt_all (fun _ h => sCount_ok rfl h) (sCount_z rfl)
theorem ok_iSize : ∀ n, CntOk fnOf 62 n := cnt_all (fun _ h => iSize_ok rfl h) (iSize_z rfl)
theorem ok_sProg : ProgOk fnOf 60 := sProg_ok rfl ok_sLabelOk ok_sSteps ok_sCount
theorem ok_iProg : ProgOk fnOf 61 := iProg_ok rfl (con_ok rfl (idx_ok rfl (p1_ok rfl ok_iLabelOk))) ok_iSteps ok_iSize
theorem ok_sHas : HasOk fnOf 92 := sHas_ok rfl
theorem ok_sWit : WitOk fnOf 122 := sWithin_ok rfl ok_sHas
theorem ok_sBoth : BothOk fnOf 130 := sBoth_ok rfl ok_sHas
theorem ok_sLBoth : LBothOk fnOf 137 := sLBoth_ok rfl ok_sLabelOk ok_sBoth
theorem ok_sFlows : FlowsOk fnOf 136 := sFlows_ok rfl ok_sLabelOk ok_sWit
theorem ok_sAny : ∀ H, QC fnOf 133 [] H (.agg #[.int .i64 7, .int .i64 7]) := sAny_ok rfl ok_sAll
theorem ok_sFine : FineOk fnOf 104 := sFine_ok rfl (sValL_ok rfl ok_sAny ok_sLBoth) ok_sLBoth ok_sFlows ok_sBoth ok_sHas
theorem ok_sAllSteps : ∀ n, AllOk fnOf 93 n := sAllSteps_all rfl
theorem ok_sAt : ∀ n, AtOk fnOf 132 n := sAt_all rfl ok_sLBoth
theorem ok_sTypeAt : TypeAtOk fnOf 94 := sTypeAt_ok rfl ok_sProg ok_sAny ok_sAt
theorem ok_sWhy : WhyOk fnOf 59 := sWhy_ok rfl ok_sProg ok_sAllSteps ok_sTypeAt ok_sFine
theorem ok_sCopy : ∀ n, CopyOk fnOf 129 n := sCopy_all rfl
theorem ok_sWithout : ∀ n, WoOk fnOf 126 n := sWithout_all rfl ok_sCount
theorem ok_drProg {H0 : Heap} {rb : Nat} {bv : Value} {code : List Int} (hc : RdC H0 rb bv code) : DrawS fnOf H0 rb bv 88 [] 40000 (ProgQ 3) := drProg_ok rfl rfl rfl rfl rfl ok_sProg hc
theorem ok_drFine {H0 : Heap} {rb : Nat} {bv : Value} {code : List Int} (hc : RdC H0 rb bv code) : DrawS fnOf H0 rb bv 87 [] 40000 (ProgQ 3) := drFine_ok rfl hc (ok_drProg hc) ok_sWhy ok_sWithout
theorem ok_drAny {H0 : Heap} {rb : Nat} {bv : Value} {code : List Int} (hc : RdC H0 rb bv code) : DrawS fnOf H0 rb bv 47 [] 90000 ProgR := drAny_ok rfl rfl hc (ok_drProg hc) (ok_drFine hc) (drBent_ok rfl rfl ok_sCopy hc)
theorem ok_iHas : HasOk fnOf 99 := iHas_ok rfl ok_iHost
theorem ok_iWit : WitOk fnOf 114 := iWithin_ok rfl
theorem ok_iBoth : ILBoth fnOf 135 := iBoth_ok rfl
theorem ok_iAt : AtP fnOf 53 := iAt_ok rfl (iLabels_all rfl ok_iBoth) (iEvery_ok rfl)
theorem ok_iWhy0 : WhyI fnOf 86 := iWhy0_ok rfl ok_iAt (iAll_all rfl) (iSource_ok rfl rfl ok_iBoth) (iFlows_ok rfl ok_iWit) ok_iHas
theorem ok_iTypeOk : TypeP fnOf 43 := iTypeOk_ok rfl ok_iProg ok_iWhy0
theorem ok_iTrusts : TrOk fnOf 52 := iTrusts_ok rfl ok_iSet ok_iHas
theorem ok_iBy : ByOk fnOf 115 := iBy_ok rfl ok_iHas
theorem ok_cloneI : CloneI fnOf 102 := cloneI_ok rfl
theorem ok_iDoes : DoesOk fnOf 65 := iDoes_ok rfl ok_iHas ok_iWit ok_iBy (iSets_all rfl) (iMakes_ok rfl rfl)
theorem ok_iHome1 : HomeI fnOf 64 := iHome1_ok rfl ok_iHas ok_iWit ok_iBy
theorem ok_sTrusts : TrOk fnOf 49 := sTrusts_ok rfl ok_sSet ok_sHas
theorem ok_sBy : ByOk fnOf 96 := sBy_ok rfl ok_sHas
theorem ok_sWhyV : WhyV fnOf 59 := sWhyV_ok rfl ok_sProg ok_sAllSteps ok_sTypeAt ok_sFine
theorem ok_sTypeOk : TypeP fnOf 18 := sTypeOk_ok rfl ok_sWhyV ok_sProg
theorem ok_sAllA : ∀ n, AllA fnOf 93 n := sAllA_all rfl
theorem ok_sTypeSets : SetsOk fnOf 95 := sTypeSets_ok rfl ok_sProg ok_sAllA (sSets_all rfl (sEither_ok rfl ok_sBoth))
theorem ok_sSee : SeeOk fnOf 50 := sSee_ok rfl ok_sAllA ok_sTypeAt ok_sTypeSets ok_sBy
theorem ok_lHome : LHome fnOf 78 := lHome_ok rfl ok_sHas ok_sWit
theorem ok_lStep : LStep fnOf 80 := lStep_ok rfl ok_sHas ok_sWit (sVars21_ok rfl)
theorem ok_iHostsOk : HostsI fnOf 63 := iHostsOk_ok rfl rfl rfl rfl ok_iHost
theorem ok_iPlanOk : PlanOkV fnOf 21 := iPlanOk_ok rfl ok_iTypeOk ok_iTrusts ok_iHostsOk ok_iSize ok_iHome1 ok_iAt (iAll_all rfl) ok_iDoes
theorem ok_sProgSize : SizeV fnOf 77 := sProgSizeV_ok rfl ok_sProg ok_sCount
theorem ok_sHomes21 : Homes21 fnOf 76 := sHomes21_ok rfl ok_sIn
theorem ok_sPlanStep : StepV fnOf 35 := sPlanStep_ok rfl ok_sProg ok_sTrusts ok_sHomes21 ok_sProgSize ok_sIn ok_sSee ok_lStep
theorem ok_iPlanFind : FindI fnOf 16 := iPlanFind_ok rfl ok_iTypeOk ok_iTrusts ok_iAt (iHomes_ok rfl ok_iHome1 ok_cloneI) (iAll_all rfl) (iDoer_ok rfl ok_iDoes) (conK_ok rfl rfl) (plClone_ok rfl ok_cloneI)
theorem ok_drTrusts {H0 : Heap} {rb : Nat} {bv : Value} {code : List Int} (hc : RdC H0 rb bv code) : DrawS fnOf H0 rb bv 48 [] 10 TrQ := drTrusts_ok rfl rfl (sEither_ok rfl ok_sBoth) hc
theorem ok_lDoes : LDoes fnOf 97 := lDoes_ok rfl ok_lStep
theorem ok_lFind : ∀ m, LFind fnOf 51 m := lFind_all rfl ok_lHome ok_lDoes
theorem ok_sPlanFind : FindS fnOf 15 := sPlanFind_ok rfl ok_sTypeOk ok_sTrusts ok_sSee ok_lFind
theorem ok_drPlan {H0 : Heap} {rb : Nat} {bv : Value} {code : List Int} (hc : RdC H0 rb bv code) : DrawS fnOf H0 rb bv 46 [] 370000 PlanQ := drPlan_ok rfl rfl hc (ok_drFine hc) (ok_drTrusts hc) ok_sPlanFind ok_sProgSize ok_sPlanStep
theorem ok_drPF : DrawNumsOk fnOf 14 := drPF_ok rfl rfl rfl ok_drPlan ok_drAny ok_drTrusts
theorem ok_lcInts : IntsOk fnOf 34 := lcInts_ok rfl
theorem ok_lcPlan : PlanEq fnOf 17 := lcPlan_ok rfl ok_lcInts
theorem ok_lawPF : LawB fnOf 6 := lawPF_ok rfl ok_drPF ok_sPlanFind ok_iPlanFind ok_lcPlan ok_iPlanOk ok_lcInts
end Go.Proofs.YtbjeldblaclpnaaI
end
section
/- Laws of lists of bytes, called in the model. -/
set_option linter.unusedVariables false
set_option linter.unusedSimpArgs false
namespace Go.Proofs.YtbjeldblaclpnaaI
open Go Go.RowKit
theorem Good.byte {w : World} {n : Int} (h : (Lit.int .u8 n).wf = true) : Good Co.byte w [.int .u8 n] := fun H m s =>
  ⟨n, [], m, [.int .u8 n], by simpa using s, sub_refl m, ⟨rfl, by simpa [Lit.wf, IntKind.min, IntKind.max, IntKind.signed, IntKind.bits] using h⟩, All2.cons (.inl rfl) All2.nil⟩
theorem good_5 {T : Type} {enc : TypeId × Value → T} {w : World} {spare : Nat → Bool} {held : Bool} {n : Nat} {cs : List Value} {x : DataW T × List MemPlace} (h : DataW.trod enc Try.prog w 0 spare held n 5 cs = some x) : Good Co.byte w cs := by
  obtain ⟨m, rfl, _, hw⟩ := DataW.trod_int Try.underlying5 h
  exact Good.byte hw
theorem good_22 {T : Type} {enc : TypeId × Value → T} {w : World} {spare : Nat → Bool} {held : Bool} {n : Nat} {cs : List Value} {x : DataW T × List MemPlace} (h : DataW.trod enc Try.prog w 0 spare held n 22 cs = some x) : Good (Co.sl Co.byte) w cs :=
  Good.sl Try.underlying22 (by kernel_rfl) (by decide) h fun _ _ _ _ h => good_5 h
theorem lawB_calls {n : Nat} (hl : LawB fnOf n) {W : World} {a : Option Addr} {l c : Nat} (g0 : Good (Co.sl Co.byte) W [.slice a l c]) :
    Calls Try.prog n #[.slice a l c] W fun e w' => e = .returned (.bool true) ∧ Below W.heap.size W w' := by
  obtain ⟨ts, L2, m2, cs1, s2, q2, r2, e2⟩ := g0 [] (fun _ => none) (SL.none _)
  obtain ⟨u, rfl, hu⟩ := r2
  exact law_core hF hMixed s2 (vals := [u]) (All2.cons (VR.one_mk e2) All2.nil) (hl _ u ts hu)
end Go.Proofs.YtbjeldblaclpnaaI
end
