/- Texts of this proof, merged: K18, K22, K27, K28, K30, K21, H24, H29, K29, H26, H27, H28, H31. -/
import Derived.Test.YtbjeldblaclpnaaQf11
section
/- Whom each trusts, drawn; a program and whom each trusts, drawn; where a variable may be (the program's). -/
set_option linter.unusedVariables false
set_option linter.unusedSimpArgs false
namespace Go.Proofs.YtbjeldblaclpnaaI
open Go Go.RowKit
def c_drTrusts : IFn := ⟨1, 37, [.t 2],
 .seq (.reg none [
    ⟨(some 2), none, .mov (.c (.slice none 0 0))⟩])
 (.seq (.reg none [
    ⟨(some 5), none, .lit 1 3 0 [] []⟩,
    ⟨(some 3), none, .mov (.t 5)⟩])
 (.seq (.seq (.reg none [
     ⟨(some 4), none, .mov (.c (.int .i64 0))⟩])
  (.block 0 (.loop (.seq (.seq (.reg none [
        ⟨(some 6), none, .mov (.t 4)⟩,
        ⟨(some 7), none, .bin .lss (.t 6) (.c (.int .i64 3))⟩])
     (.cond (.t 7) (.skip) (.exit 0)))
    (.seq (.block 1 (.reg (some 10) [
        ⟨(some 10), none, .mov (.t 3)⟩,
        ⟨(some 11), none, .mov (.t 4)⟩,
        ⟨(some 12), none, .bin .shl (.c (.int .i64 1)) (.t 11)⟩,
        ⟨(some 13), none, .lit 1 3 9 [(.int .i64 0), (.int .i64 0), (.int .i64 0), (.int .i64 0), (.int .i64 0), (.int .i64 0), (.int .i64 0), (.int .i64 0), (.int .i64 0)] [(0, 1, (.c (.int .i64 7))), (1, 1, (.c (.int .i64 7))), (2, 1, (.c (.int .i64 3))), (3, 1, (.c (.int .i64 5))), (4, 1, (.c (.int .i64 6))), (5, 1, (.c (.int .i64 0))), (6, 1, (.c (.int .i64 1))), (7, 1, (.c (.int .i64 2))), (8, 1, (.c (.int .i64 4)))]⟩,
        ⟨(some 14), none, .mov (.t 0)⟩,
        ⟨(some 15), none, .call .n (.f 45) [(.t 14), (.c (.int .i64 9))]⟩,
        ⟨(some 16), none, .iad 1 (.t 13) (.t 15)⟩,
        ⟨(some 17), none, .load false 1 (.t 16)⟩,
        ⟨(some 18), none, .call .q (.f 90) [(.t 12), (.t 17)]⟩,
        ⟨(some 19), none, .lit 1 3 1 [(.int .i64 0)] [(0, 1, (.t 18))]⟩,
        ⟨(some 20), none, .app 1 3 8 true (.t 10) (.t 19)⟩,
        ⟨(some 3), none, .mov (.t 20)⟩]))
    (.reg none [
      ⟨(some 8), none, .mov (.t 4)⟩,
      ⟨(some 9), none, .bin .add (.t 8) (.c (.int .i64 1))⟩,
      ⟨(some 4), none, .mov (.t 9)⟩]))))))
 (.seq (.seq (.reg none [
     ⟨(some 21), none, .mov (.t 0)⟩,
     ⟨(some 22), none, .call .n (.f 45) [(.t 21), (.c (.int .i64 24))]⟩])
  (.block 2 (.seq (.reg none [
      ⟨(some 24), none, .bin .eql (.t 22) (.c (.int .i64 0))⟩,
      ⟨(some 23), none, .mov (.t 24)⟩])
   (.cond (.t 23) (.reg none [
      ⟨(some 25), none, .mov (.t 3)⟩,
      ⟨(some 26), none, .lit 1 3 3 [(.int .i64 0), (.int .i64 0), (.int .i64 0)] [(0, 1, (.c (.int .i64 (-1)))), (1, 1, (.c (.int .i64 8))), (2, 1, (.c (.int .i64 6)))]⟩,
      ⟨(some 27), none, .mov (.t 0)⟩,
      ⟨(some 28), none, .call .n (.f 45) [(.t 27), (.c (.int .i64 3))]⟩,
      ⟨(some 29), none, .iad 1 (.t 26) (.t 28)⟩,
      ⟨(some 30), none, .load false 1 (.t 29)⟩,
      ⟨(some 31), none, .iad 1 (.t 25) (.c (.int .i64 0))⟩,
      ⟨none, none, .store 1 (.t 31) (.t 30)⟩]) (.seq (.reg none [
       ⟨(some 33), none, .bin .eql (.t 22) (.c (.int .i64 1))⟩,
       ⟨(some 32), none, .mov (.t 33)⟩])
    (.cond (.t 32) (.seq (.reg none [
        ⟨(some 34), none, .mov (.t 3)⟩,
        ⟨(some 35), none, .sub 1 (.t 34) (some (.c (.int .i64 1))) none⟩,
        ⟨(some 2), none, .mov (.t 35)⟩])
     (.ret)) (.skip)))))))
 (.seq (.reg none [
    ⟨(some 36), none, .mov (.t 3)⟩,
    ⟨(some 2), none, .mov (.t 36)⟩])
 (.ret)))))⟩
theorem op_app_kill {F : Nat → Option IFn} {lo0 es et bytes : Nat} {x y : Opd} {e : Env} {H : Heap} {cs ys : List Value} {b n : Nat} {K : Value → Heap → Prop} (hk : H[b]? = some ⟨cs, es, et, true, true⟩) (hn : cs.length = n * es) (hx : x.ev e = sli b 0 n) (hy : y.ev e = sli H.length 0 1) (hlo : lo0 ≤ b) (hyl : ys.length = es) (hl : n < 1048576) (hb : bytes ≤ 1048576)
    (k : ∀ H', AgX [b] H H' → H'[H.length + 1]? = some ⟨cs ++ ys, es, et, true, true⟩ → K (sli (H.length + 1) 0 (n + 1)) H') : wpOp F lo0 (.app es et bytes true x y) e (H ++ [⟨ys, es, et, true, true⟩]) K := by
  have hbl := (List.getElem?_eq_some_iff.1 hk).1
  have hbytes : (n + 1) * bytes ≤ 1048576 * 1048576 := Nat.mul_le_mul (by omega) hb
  refine op_app _ _ _ _ _ (b := ⟨b, 0, none⟩) (n := n) (c := n) (a := ⟨H.length, 0, none⟩) (m := 1) (c' := 1) (ys := ys) (kb := ⟨cs, es, et, true, true⟩) hx hy (by omega) ?_ ?_ ⟨hlo, rfl, rfl, rfl, rfl, hn, by omega, by omega⟩ ?_
  · unfold getCells
    rw [get_new0]
    simp only [List.getElem?_cons_zero, Nat.one_mul, Nat.zero_add]
    rw [if_pos (by omega), List.drop_zero, List.take_of_length_le (by omega)]
  · show (H ++ [_])[b]? = _
    rw [List.getElem?_append_left hbl]; exact hk
  · have hset : (H ++ ([⟨ys, es, et, true, true⟩] : Heap)).set b ⟨[], es, et, false, true && n == 0⟩ = H.set b ⟨[], es, et, false, true && n == 0⟩ ++ [⟨ys, es, et, true, true⟩] := List.set_append_left _ _ hbl
    simp only [if_true, Bool.or_true, Bool.and_true, List.length_append, List.length_cons, List.length_nil, Nat.zero_add]
    rw [hset, List.append_assoc]
    have hag : AgX [b] H (H.set b ⟨[], es, et, false, true && n == 0⟩ ++ ([⟨ys, es, et, true, true⟩] ++ [⟨cs ++ ys, es, et, true, true⟩])) := (AgX.set H b _).trans (AgX.app [] _ _) (fun b h _ => h) (fun b h _ => by cases h)
    refine k _ hag ?_
    have : H.length + 1 = (H.set b ⟨[], es, et, false, true && n == 0⟩).length + 1 := by rw [List.length_set]
    rw [this, get_new]
    rfl
theorem shl3 {i : Nat} (hi : i < 3) : IntKind.i64.wrap (1 * 2 ^ (min i 64)) = (2 : Int) ^ i := by
  have : i = 0 ∨ i = 1 ∨ i = 2 := by omega
  rcases this with rfl | rfl | rfl <;> decide
theorem pow3 {i : Nat} (hi : i < 3) : 0 ≤ (2 : Int) ^ i ∧ (2 : Int) ^ i ≤ 7 := by
  have : i = 0 ∨ i = 1 ∨ i = 2 := by omega
  rcases this with rfl | rfl | rfl <;> decide
def TrQ (H H' : Heap) (v : Value) : Prop := ∃ ts : List Int, SlR Co.int (vwl H.length [] H') v ts ∧ ts.length ≤ 3
theorem drTrusts_ok {F : Nat → Option IFn} {f : Nat} (hf : F f = some c_drTrusts) (hpk : F 45 = some c_pick) (ge : ∀ (H : Heap) (a b : Int), 0 ≤ a → a ≤ 7 → 0 ≤ b → b ≤ 7 → QC F 90 [.int .i64 a, .int .i64 b] H (.int .i64 (a + b - bothS a b 3))) {H0 : Heap} {rb : Nat} {bv : Value} {code : List Int} (hc : RdC H0 rb bv code) : DrawS F H0 rb bv f [] 10 TrQ := by
  refine DrawS.mk hf rfl fun H p lo hs hp hp2 hlo => ?_
  have hl := hs.lt
  have hc0 := hc.low
  refine seq_reg ?_
  simp only [go_sem, binC]
  refine seq_reg ?_
  simp only [go_sem, binC]
  refine wpc_gen fun H1 hH1 => ?_
  have hs1 : St H0 rb bv p H1 := hH1 ▸ hs.appN hc _
  have ht1 : AgX [rb] H H1 := hH1 ▸ AgX.app [rb] _ _
  have hb1 : H1[H.length]? = some ⟨ints [], 1, 3, true, true⟩ := hH1 ▸ get_new0 _ _
  clear hH1
  refine seq_assoc (seq_reg ?_)
  simp only [go_sem, binC]
  refine seq_block (wpc_loop ?_)
  suffices h : ∀ (k i : Nat) (e : Env) (Hc : Heap) (b : Nat) (l : List Int), i + k = 3 → l.length = i → St H0 rb bv (p + i) Hc → AgX [rb] H Hc → H.length ≤ b → Hc[b]? = some ⟨ints l, 1, 3, true, true⟩ → (∀ x ∈ l, RgI x) → e 0 = ptr rb 0 → e 3 = sli b 0 l.length → e 4 = .int .i64 i → W F lo _ e Hc _ from
    h 3 0 _ H1 H.length [] rfl rfl (by simpa using hs1) ht1 (Nat.le_refl _) hb1 (fun x h => by cases h) (by simp only [go_sem, binC]) (by (simp only [go_sem, binC]) <;> rfl) (by (simp only [go_sem, binC]) <;> rfl)
  intro k
  induction k with
  | zero =>
    intro i e Hc b l hik hli hsc htc hb hbk hr e0 e3 e4
    have hi3 : i = 3 := by omega
    have hl3 : l.length = 3 := by omega
    subst hi3
    have hlc := htc.1
    have hbl := (List.getElem?_eq_some_iff.1 hbk).1
    refine lp_step ?_
    refine seq_assoc (seq_reg ?_)
    simp only [go_sem, binC, e4]
    refine seq_cond (t := false) (by (simp only [go_sem, binC]) <;> rfl) ?_
    simp only [go_sem, binC]
    refine seq_exit ?_
    simp only [go_sem, binC, thenX_e, out_e, thenX_n]
    refine seq_assoc (seq_reg ?_)
    simp only [go_sem, binC, e0]
    refine op_draw (n := 24) hpk hc hsc (by omega) (by omega) hlo (by simp only [go_sem, binC, e0]) (by simp only [go_sem, binC]) fun H2 hl2 hx2 hs2 => ?_
    simp only [go_sem, binC]
    have hbk2 := hx2.get hbk (by simp; omega)
    have ht2 := htc.tr hx2
    refine seq_block ?_
    refine seq_reg ?_
    by_cases h0 : pickV code (p + (3 : Nat)) 24 = 0
    · simp only [go_sem, binC, beq_t h0]
      refine wpc_cond (t := true) rfl ?_
      simp only [go_sem, binC]
      refine wpc_reg ?_
      simp only [go_sem, binC, e0, e3]
      have hs3 := hs2.appN hc ([⟨[.int .i64 (-1), .int .i64 8, .int .i64 6], 1, 3, true, true⟩] : Heap)
      refine op_draw (n := 3) hpk hc hs3 (by omega) (by omega) hlo (by simp only [go_sem, binC, e0]) (by simp only [go_sem, binC]) fun H4 hl4 hx4 hs4 => ?_
      have hbd := pickV_bd code (p + (3 : Nat) + 1) (n := 3) (by omega)
      have hlit : H4[H2.length]? = some ⟨[.int .i64 (-1), .int .i64 8, .int .i64 6], 1, 3, true, true⟩ := hx4.get (get_new0 _ _) (by simp; omega)
      have hbk4 : H4[b]? = some ⟨ints l, 1, 3, true, true⟩ := hx4.get (by rw [List.getElem?_append_left (List.getElem?_eq_some_iff.1 hbk2).1]; exact hbk2) (by simp; omega)
      have hg4 : getCells H4 H2.length (pickV code (p + (3 : Nat) + 1) 3).toNat 1 = some [.int .i64 ([-1, 8, 6].getD (pickV code (p + (3 : Nat) + 1) 3).toNat 0)] := by
        rw [gc_of hlit, inBlk_some]
        simp only [List.length_cons, List.length_nil]
        rw [if_pos (by omega), tk3 (by omega)]
      simp only [go_sem, binC]
      refine ⟨⟨by omega, by omega⟩, ?_⟩
      simp only [go_sem, binC, Nat.mul_one, hg4, e3]
      refine ⟨by omega, ?_⟩
      simp only [go_sem, binC, hbk4]
      have hil : (ints l).length = 3 := by simp [ints, hl3]
      refine ⟨⟨by omega, by omega⟩, ?_⟩
      simp only [go_sem, binC, out_n, thenX_n]
      refine seq_reg ?_
      simp only [go_sem, binC, e3]
      obtain ⟨a0, a1, a2, rfl⟩ : ∃ a0 a1 a2, l = [a0, a1, a2] := by
        match l, hl3 with
        | [a, b, c], _ => exact ⟨a, b, c, rfl⟩
      have hv : RgI ([-1, 8, 6].getD (pickV code (p + (3 : Nat) + 1) 3).toNat 0) := by
        have : (pickV code (p + (3 : Nat) + 1) 3).toNat = 0 ∨ (pickV code (p + (3 : Nat) + 1) 3).toNat = 1 ∨ (pickV code (p + (3 : Nat) + 1) 3).toNat = 2 := by omega
        rcases this with h | h | h <;> rw [h] <;> simp [RgI]
      have ht4 : AgX [rb] H H4 := (ht2.appN _).tr hx4
      have hb4l := (List.getElem?_eq_some_iff.1 hbk4).1
      refine wpc_ret ⟨Or.inr rfl, _, (by (simp only [go_sem, binC]) <;> rfl), p + 5, ht4.setN hb _, ?_, by omega, [([-1, 8, 6].getD (pickV code (p + (3 : Nat) + 1) 3).toNat 0), a1, a2], ?_, by simp⟩
      · have := hs4.setN hc (b := b) (by omega) ⟨ints [([-1, 8, 6].getD (pickV code (p + (3 : Nat) + 1) 3).toNat 0), a1, a2], 1, 3, true, true⟩
        rw [show p + (3 : Nat) + 1 + 1 = p + 5 by omega] at this
        exact this
      · exact ints_sl (o := 0) (List.getElem?_set_self hb4l) hb (by simp) (fun x hx => by
          simp only [List.mem_cons, List.not_mem_nil, or_false] at hx
          rcases hx with rfl | rfl | rfl
          · exact hv
          · exact hr _ (by simp)
          · exact hr _ (by simp)) (by simp) (by simp)
    simp only [go_sem, binC, beq_f h0]
    refine wpc_cond (t := false) rfl ?_
    simp only [go_sem, binC]
    refine seq_reg ?_
    have hs2' : St H0 rb bv (p + 4) H2 := by
      have := hs2
      rw [show p + (3 : Nat) + 1 = p + 4 by omega] at this
      exact this
    by_cases h1 : pickV code (p + (3 : Nat)) 24 = 1
    · simp only [go_sem, binC, beq_t h1]
      refine wpc_cond (t := true) rfl ?_
      simp only [go_sem, binC]
      refine seq_reg ?_
      simp only [go_sem, binC, e3]
      have hsub : subV 1 (sli b 0 l.length) e (some (.c (.int .i64 1))) none = some (.slice (some ⟨b, 1, none⟩) (l.drop 1).length (l.drop 1).length) := by
        simp [subV, sli, subB, Opd.ev, hl3]
      have hsub' : ∀ e' : Env, subV 1 (sli b 0 l.length) e' (some (.c (.int .i64 1))) none = some (.slice (some ⟨b, 1, none⟩) (l.drop 1).length (l.drop 1).length) := fun e' => by
        simp [subV, sli, subB, Opd.ev, hl3]
      simp only [go_sem, binC, hsub']
      refine wpc_ret ?_
      simp only [go_sem, binC, out_r, thenX_r]
      exact ⟨Or.inr rfl, _, (by (simp only [go_sem, binC]) <;> rfl), p + 4, ht2, hs2', by omega, l.drop 1, ints_sl hbk2 hb (by simp) hr (by omega) (by omega), by rw [List.length_drop]; omega⟩
    · simp only [go_sem, binC, beq_f h1]
      refine wpc_cond (t := false) rfl ?_
      simp only [go_sem, binC]
      refine wpc_skip ?_
      simp only [go_sem, binC, out_n, thenX_n]
      refine seq_reg ?_
      simp only [go_sem, binC, e3]
      exact wpc_ret ⟨Or.inr rfl, _, (by (simp only [go_sem, binC]) <;> rfl), p + 4, ht2, hs2', by omega, l, ints_sl (o := 0) hbk2 hb (by simp) hr (by omega) (by omega), by omega⟩
  | succ k ih =>
    intro i e Hc b l hik hli hsc htc hb hbk hr e0 e3 e4
    have hi3 : i < 3 := by omega
    have hlc := htc.1
    have hbl := (List.getElem?_eq_some_iff.1 hbk).1
    have hw1 : IntKind.i64.wrap ((i : Int) + 1) = ((i + 1 : Nat) : Int) := by rw [wrap_id (by omega) (by omega)]; omega
    refine lp_step ?_
    refine seq_assoc (seq_reg ?_)
    simp only [go_sem, binC, e4]
    refine seq_cond (t := true) (by simp only [go_sem, binC]; rw [decide_eq_true (by omega)]) ?_
    simp only [go_sem, binC]
    refine seq_skip (seq_block ?_)
    obtain ⟨N, n1⟩ : ∃ N, Hc.length = N := ⟨_, rfl⟩
    refine wpc_regX [rb] (by simp; have := hsc.lt; omega) ?_
    refine wpx_A rfl ?_
    simp only [go_sem, binC, e3]
    refine wpx_A rfl ?_
    simp only [go_sem, binC, e4]
    refine wpx_A rfl ?_
    simp only [go_sem, binC]
    refine shl_rule (by omega) ?_
    simp only [go_sem, binC, IntKind.bits]
    rw [shl3 hi3]
    refine wpx_A rfl ?_
    simp only [go_sem, binC, hide_length, n1]
    refine wpx_A rfl ?_
    simp only [go_sem, binC, hide_length, n1, e0]
    refine wpx_pick (n := 9) hpk hc hsc (by omega) (by omega) hlo (by simp only [go_sem, binC]) (by simp only [go_sem, binC]) fun B1 hl1 hx1 hs1 => ?_
    have n2 := hl1.trans n1
    have hk1 := pickV_bd code (p + i) (n := 9) (by omega)
    refine wpx_A rfl ?_
    simp only [go_sem, binC]
    refine ⟨hk1, ?_⟩
    refine wpx_A rfl ?_
    have hi1 : (pickV code (p + i) 9).toNat + 1 ≤ 9 := by omega
    simp only [go_sem, binC, Nat.mul_one, gc_hid n2, gc_hid0 n2, inBlk_some, tk9 (i := (pickV code (p + i) 9).toNat) (by omega), hi1]
    have hb7 := lab_bd (a0 := 7) (a1 := 7) (a2 := 3) (a3 := 5) (a4 := 6) (a5 := 0) (a6 := 1) (a7 := 2) (a8 := 4) (by simp) (pickV code (p + i) 9).toNat
    have hp7 := pow3 hi3
    refine wpx_A rfl ?_
    refine op_callQ (by simp only [go_sem, binC]; exact ge _ _ _ hp7.1 hp7.2 hb7.1 hb7.2) ?_
    simp only [go_sem, binC, hide_length, n2]
    refine wpx_A rfl ?_
    simp only [go_sem, binC, hide_length, n2]
    refine wpx_zero ?_
    subst n2
    simp only [go_sem, binC, hide_length]
    generalize hel : (2 : Int) ^ i + [7, 7, 3, 5, 6, 0, 1, 2, 4].getD (pickV code (p + i) 9).toNat 0 - bothS (2 ^ i) ([7, 7, 3, 5, 6, 0, 1, 2, 4].getD (pickV code (p + i) 9).toNat 0) 3 = el
    have hrel : RgI el := by
      have := bothS_bd ((2 : Int) ^ i) ([7, 7, 3, 5, 6, 0, 1, 2, 4].getD (pickV code (p + i) 9).toNat 0)
      unfold RgI
      omega
    have hbk1 := hx1.get hbk (by simp; omega)
    have happ : ∀ (L : Blk) (H' : Heap), H' = B1 ++ [L] → H'[b]? = some ⟨ints l, 1, 3, true, true⟩ := fun L H' h => by rw [h, List.getElem?_append_left (List.getElem?_eq_some_iff.1 hbk1).1]; exact hbk1
    obtain ⟨H2, hH2⟩ : ∃ H2 : Heap, H2 = B1 ++ [⟨[.int .i64 7, .int .i64 7, .int .i64 3, .int .i64 5, .int .i64 6, .int .i64 0, .int .i64 1, .int .i64 2, .int .i64 4], 1, 3, true, true⟩] := ⟨_, rfl⟩
    have hn2 : H2.length = B1.length + 1 := by rw [hH2, List.length_append]; rfl
    have hsplit : (B1 ++ [⟨[.int .i64 7, .int .i64 7, .int .i64 3, .int .i64 5, .int .i64 6, .int .i64 0, .int .i64 1, .int .i64 2, .int .i64 4], 1, 3, true, true⟩, ⟨[.int .i64 el], 1, 3, true, true⟩] : Heap) = H2 ++ [⟨[.int .i64 el], 1, 3, true, true⟩] := by rw [hH2, List.append_assoc]; rfl
    rw [hsplit]
    have hx2 : AgX [] B1 H2 := hH2 ▸ AgX.app [] _ _
    refine op_app_kill (n := l.length) (happ _ H2 hH2) (by simp [ints]) (by simp only [go_sem, binC, e3]) (by simp only [go_sem, binC]; rw [hn2]) (by omega) rfl (by omega) (by omega) fun H3 hx3 hb3 => ?_
    simp only [go_sem, binC, out_n, thenX_n]
    refine wpc_reg ?_
    simp only [go_sem, binC, e4, hw1]
    simp only [go_sem, binC, thenX_n]
    have ht2 : AgX [rb] H H2 := (htc.tr hx1).trans hx2 (fun _ h _ => h) (fun _ h _ => by cases h)
    have hs2 := hs1.mono hc hx2 (fun _ h => by cases h)
    have ht3 : AgX [rb] H H3 := ht2.trans hx3 (fun _ h _ => h) (fun b' h1 h2 => by simp only [List.mem_singleton] at h1; omega)
    have hs3 : St H0 rb bv (p + i + 1) H3 := hs2.mono hc hx3 (fun b' h => by simp only [List.mem_singleton] at h; omega)
    refine ih (i + 1) _ H3 (H2.length + 1) (l ++ [el]) (by omega) (by simp [hli]) (by rw [show p + ((i + 1 : Nat) : Int) = p + i + 1 by omega]; exact hs3) ht3 (by have := ht2.1; omega) ?_ ?_ (by simp only [go_sem, binC, e0]) (by (simp only [go_sem, binC]) <;> (rw [List.length_append]; rfl)) (by simp only [go_sem, binC])
    · rw [hb3]
      simp [ints]
    · intro x hx
      rcases List.mem_append.1 hx with hx | hx
      · exact hr x hx
      · simp only [List.mem_singleton] at hx; subst hx; exact hrel
end Go.Proofs.YtbjeldblaclpnaaI
end
section
/- A program and a plan, drawn. -/
set_option linter.unusedVariables false
set_option linter.unusedSimpArgs false
namespace Go.Proofs.YtbjeldblaclpnaaI
open Go Go.RowKit
def drPlanD : ICode := .reg none [
        ⟨(some 54), none, .mov (.t 0)⟩,
        ⟨(some 55), none, .call .n (.f 87) [(.t 54)]⟩,
        ⟨none, none, .store 2 (.t 4) (.t 55)⟩]
def c_drPlan : IFn := ⟨1, 68, [.cell true 2 2, .cell true 3 3],
 .seq (.reg none [
    ⟨(some 2), none, .new [(.slice none 0 0), (.slice none 0 0)]⟩,
    ⟨(some 3), none, .new [(.slice none 0 0), (.slice none 0 0), (.slice none 0 0)]⟩])
 (.seq (.reg none [
    ⟨(some 11), none, .mov (.t 0)⟩,
    ⟨(some 12), none, .call .n (.f 87) [(.t 11)]⟩,
    ⟨(some 4), none, .new [(.slice none 0 0), (.slice none 0 0)]⟩,
    ⟨none, none, .store 2 (.t 4) (.t 12)⟩])
 (.seq (.seq (.reg none [
     ⟨(some 5), none, .mov (.c (.int .i64 0))⟩])
  (.block 0 (.loop (.seq (.seq (.reg none [
        ⟨(some 13), none, .mov (.t 5)⟩,
        ⟨(some 14), none, .bin .lss (.t 13) (.c (.int .i64 8))⟩])
     (.cond (.t 14) (.skip) (.exit 0)))
    (.seq (.block 1 (.seq (.reg none [
         ⟨(some 17), none, .mov (.t 0)⟩,
         ⟨(some 18), none, .call .n (.f 48) [(.t 17)]⟩,
         ⟨(some 6), none, .mov (.t 18)⟩])
      (.seq (.reg none [
         ⟨(some 20), none, .load true 2 (.t 4)⟩,
         ⟨(some 21), none, .mov (.t 6)⟩,
         ⟨(some 22), none, .call .k (.f 15) [(.t 20), (.t 21)]⟩,
         ⟨(some 19), none, .mov (.t 22)⟩,
         ⟨(some 23), none, .ext (.t 19) 0⟩,
         ⟨(some 24), none, .ext (.t 19) 1⟩,
         ⟨(some 7), none, .new [(.slice none 0 0), (.slice none 0 0), (.slice none 0 0)]⟩,
         ⟨none, none, .store 3 (.t 7) (.t 23)⟩,
         ⟨(some 8), none, .mov (.t 24)⟩])
      (.seq (.seq (.reg none [
          ⟨(some 25), none, .mov (.t 8)⟩,
          ⟨(some 26), none, .mov (.t 25)⟩,
          ⟨(some 27), (some (26, true)), .load true 2 (.t 4)⟩,
          ⟨(some 28), (some (26, true)), .call .q (.f 77) [(.t 27)]⟩,
          ⟨(some 29), (some (26, true)), .bin .gtr (.t 28) (.c (.int .i64 1))⟩,
          ⟨(some 30), none, .pick (.t 26) (.t 29) (.c (.bool false))⟩])
       (.cond (.t 30) (.seq (.seq (.reg none [
            ⟨(some 9), none, .mov (.c (.int .i64 0))⟩])
         (.block 2 (.loop (.seq (.seq (.reg none [
               ⟨(some 31), none, .mov (.t 9)⟩,
               ⟨(some 32), none, .fad 2 (.t 7)⟩,
               ⟨(some 33), none, .load false 1 (.t 32)⟩,
               ⟨(some 34), none, .len (.t 33)⟩,
               ⟨(some 35), none, .bin .lss (.t 31) (.t 34)⟩])
            (.cond (.t 35) (.skip) (.exit 2)))
           (.seq (.block 3 (.seq (.reg none [
                ⟨(some 38), none, .mov (.t 0)⟩,
                ⟨(some 39), none, .call .n (.f 45) [(.t 38), (.c (.int .i64 3))]⟩,
                ⟨(some 10), none, .mov (.t 39)⟩])
             (.seq (.reg none [
                ⟨(some 40), none, .load true 2 (.t 4)⟩,
                ⟨(some 41), none, .mov (.t 6)⟩,
                ⟨(some 42), none, .fad 1 (.t 7)⟩,
                ⟨(some 43), none, .load false 1 (.t 42)⟩,
                ⟨(some 44), none, .mov (.t 9)⟩,
                ⟨(some 45), none, .mov (.t 10)⟩,
                ⟨(some 46), none, .call .q (.f 35) [(.t 40), (.t 41), (.t 43), (.t 44), (.t 45)]⟩])
             (.cond (.t 46) (.reg none [
                ⟨(some 47), none, .fad 2 (.t 7)⟩,
                ⟨(some 48), none, .load false 1 (.t 47)⟩,
                ⟨(some 49), none, .mov (.t 9)⟩,
                ⟨(some 50), none, .mov (.t 10)⟩,
                ⟨(some 51), none, .iad 1 (.t 48) (.t 49)⟩,
                ⟨none, none, .store 1 (.t 51) (.t 50)⟩]) (.skip)))))
           (.reg none [
             ⟨(some 36), none, .mov (.t 9)⟩,
             ⟨(some 37), none, .bin .add (.t 36) (.c (.int .i64 1))⟩,
             ⟨(some 9), none, .mov (.t 37)⟩]))))))
        (.seq (.reg (some 3) [
           ⟨(some 52), none, .load true 2 (.t 4)⟩,
           ⟨(some 53), none, .load true 3 (.t 7)⟩,
           ⟨none, none, .store 2 (.t 2) (.t 52)⟩,
           ⟨none, none, .store 3 (.t 3) (.t 53)⟩])
        (.ret))) (.skip)))
      drPlanD))))
    (.reg none [
      ⟨(some 15), none, .mov (.t 5)⟩,
      ⟨(some 16), none, .bin .add (.t 15) (.c (.int .i64 1))⟩,
      ⟨(some 5), none, .mov (.t 16)⟩]))))))
 (.seq (.reg (some 13) [
    ⟨(some 56), none, .load true 2 (.t 4)⟩,
    ⟨(some 57), none, .mov (.t 0)⟩,
    ⟨(some 58), none, .call .n (.f 48) [(.t 57)]⟩,
    ⟨(some 59), none, .fad 0 (.t 4)⟩,
    ⟨(some 60), none, .load false 1 (.t 59)⟩,
    ⟨(some 61), none, .len (.t 60)⟩,
    ⟨(some 62), none, .mks 1 3 8 [(.int .i64 0)] (.t 61) (.t 61)⟩,
    ⟨(some 63), none, .load true 2 (.t 4)⟩,
    ⟨(some 64), none, .call .q (.f 77) [(.t 63)]⟩,
    ⟨(some 65), none, .max2 (.t 64) (.c (.int .i64 0))⟩,
    ⟨(some 66), none, .mks 1 3 8 [(.int .i64 0)] (.t 65) (.t 65)⟩,
    ⟨(some 67), none, .build [(.slice none 0 0), (.slice none 0 0), (.slice none 0 0)] [(0, 1, (.t 58)), (1, 1, (.t 62)), (2, 1, (.t 66))]⟩,
    ⟨none, none, .store 2 (.t 2) (.t 56)⟩,
    ⟨none, none, .store 3 (.t 3) (.t 67)⟩])
 (.ret))))⟩
theorem PlanZ.one {lo : Nat} {H : Heap} {tv hv dv : Value} {ts : List Int} {o : Option (List Int)} {d : List Int → List Int} (h : PlanZ lo H tv hv dv ts o d) : Go.Proofs.YtbjeldblaclpnaaI.one tv = true ∧ Go.Proofs.YtbjeldblaclpnaaI.one hv = true ∧ Go.Proofs.YtbjeldblaclpnaaI.one dv = true := by
  cases o with
  | none => obtain ⟨rfl, rfl, rfl⟩ := h; exact ⟨rfl, rfl, rfl⟩
  | some homes =>
    obtain ⟨b1, b2, b3, rfl, rfl, rfl, _⟩ := h
    exact ⟨rfl, rfl, rfl⟩
theorem ints_len (l : List Int) : (ints l).length = l.length := by simp [ints]
theorem rep_intsK (n : Nat) (a : Int) : (List.replicate n [Value.int .i64 a]).flatten = ints (List.replicate n a) := by
  induction n with
  | zero => rfl
  | succ n ih => rw [List.replicate_succ, List.replicate_succ, List.flatten_cons, ih]; rfl
/-- A program and a plan drawn: homes and does lie in blocks of their own that may be written. -/
def PlanQ (H H' : Heap) (v : Value) : Prop := ∃ (lv sv tv : Value) (b2 b3 : Nat) (ls : List (Int × Int)) (l : List (TStep 3)) (ts homes does : List Int), v = .tuple #[.agg #[lv, sv], .agg #[tv, sli b2 0 homes.length, sli b3 0 does.length]] ∧ ProgV 3 (vwl H.length [b2, b3] H') lv sv ls l ∧ SlR Co.int (vwl H.length [b2, b3] H') tv ts ∧ ts.length ≤ 3 ∧ IntsO 3 H.length H' b2 true homes ∧ IntsO 3 H.length H' b3 true does ∧ b2 ≠ b3 ∧ homes.length ≤ 100 ∧ does.length ≤ 1000
theorem drPlan_ok {F : Nat → Option IFn} {f : Nat} (hf : F f = some c_drPlan) (hpk : F 45 = some c_pick) {H0 : Heap} {rb : Nat} {bv : Value} {code : List Int} (hc : RdC H0 rb bv code) (gan : DrawS F H0 rb bv 87 [] 40000 (ProgQ 3)) (gtr : DrawS F H0 rb bv 48 [] 10 TrQ) (gf : FindS F 15) (gz : SizeV F 77) (gps : StepV F 35) : DrawS F H0 rb bv f [] 370000 PlanQ := by
  refine DrawS.mk hf rfl fun H p lo hs hp hp2 hlo => ?_
  have hl := hs.lt
  refine seq_reg ?_
  simp only [go_sem, binC]
  refine wpc_gen fun H1 hH1 => ?_
  have hs1 : St H0 rb bv p H1 := hH1 ▸ hs.appN hc _
  have ht1 : AgX [rb] H H1 := hH1 ▸ AgX.app [rb] _ _
  have hb2 : H1[H.length]? = some ⟨[nilS, nilS], 0, 0, false, true⟩ := hH1 ▸ get_new0 _ _
  have hb3 : H1[H.length + 1]? = some ⟨[nilS, nilS, nilS], 0, 0, false, true⟩ := hH1 ▸ get_new _ _ 1
  have hl1 : H1.length = H.length + 2 := by rw [hH1, List.length_append]; rfl
  clear hH1
  refine seq_reg ?_
  simp only [go_sem, binC]
  obtain ⟨v3, H3, p3, k3, x3, s3, c3, lv, sv, ls, l, rfl, hpv⟩ := gan H1 p lo hs1 hp (by omega) hlo
  refine op_callN (by simp only [go_sem, binC]; exact k3) ?_
  have olv : one lv = true := by obtain ⟨_, a, rfl, _⟩ := hpv.1; rfl
  have osv : one sv = true := by obtain ⟨_, a, rfl, _⟩ := hpv.2.1; rfl
  have hl3 := x3.1
  simp only [go_sem, binC, olv, osv]
  refine ⟨by omega, ?_⟩
  refine wpc_gen fun H4 hH4 => ?_
  have hs4 : St H0 rb bv p3 H4 := hH4 ▸ s3.appN hc _
  have ht4 : AgX [rb] H1 H4 := hH4 ▸ x3.appN _
  have hb4 : H4[H3.length]? = some ⟨[lv, sv], 0, 0, false, true⟩ := hH4 ▸ get_new0 _ _
  have hpv4 : ProgV 3 (vwl H1.length [H3.length] H4) lv sv ls l := hpv.mono (by subst hH4; exact vwl_sub (AgX.app [] _ _) (Nat.le_refl _) fun b' h1 h2 _ => ⟨by simp, by simp; omega⟩)
  clear hH4 hpv
  generalize hB4 : H3.length = b4 at *
  refine seq_assoc (seq_reg ?_)
  simp only [go_sem, binC]
  refine seq_block (wpc_loop ?_)
  suffices hh : ∀ (k i : Nat) (e : Env) (Hc : Heap) (q : Int) (lv sv : Value) (ls : List (Int × Int)) (l : List (TStep 3)), i + k = 8 → St H0 rb bv q Hc → (p ≤ q ∧ q ≤ p + 40000 + (i : Int) * 40020) → AgX [rb] H1 Hc → Hc[b4]? = some ⟨[lv, sv], 0, 0, false, true⟩ → ProgV 3 (vwl H1.length [b4] Hc) lv sv ls l → e 0 = ptr rb 0 → e 2 = ptr H.length 0 → e 3 = ptr (H.length + 1) 0 → e 4 = ptr b4 0 → e 5 = .int .i64 i → Go.Proofs.YtbjeldblaclpnaaI.W F lo _ e Hc _ from
    hh 8 0 _ H4 p3 lv sv ls l rfl hs4 (by omega) ht4 hb4 hpv4 (by simp only [go_sem, binC]) (by simp only [go_sem, binC]) (by simp only [go_sem, binC]) (by simp only [go_sem, binC]) (by (simp only [go_sem, binC]) <;> rfl)
  clear hpv4 hb4 olv osv
  intro k
  induction k with
  | zero =>
    intro i e Hc q lv sv ls l hi hsc hq hxc hbc hpc e0 e2 e3 e4 e5
    have hlc := hxc.1
    have hb4c := (List.getElem?_eq_some_iff.1 hbc).1
    have hrbl : rb < H1.length := by omega
    obtain ⟨_, la, rfl, _⟩ := id hpc.1
    have osv : one sv = true := by obtain ⟨_, a, rfl, _⟩ := hpc.2.1; rfl
    have hb2c := hxc.get hb2 (by simp; omega)
    have hb3c := hxc.get hb3 (by simp; omega)
    refine lp_step ?_
    refine seq_assoc (seq_reg ?_)
    simp only [go_sem, binC, e5]
    refine seq_cond (t := false) (by simp only [go_sem, binC]; rw [decide_eq_false (by omega)]) ?_
    simp only [go_sem, binC]
    refine seq_exit ?_
    simp only [go_sem, binC, thenX_e, out_e, thenX_n]
    obtain ⟨N, n1⟩ : ∃ N, Hc.length = N := ⟨_, rfl⟩
    have hg4 : ∀ (B L : Heap), B[b4]? = some ⟨[.slice la ls.length ls.length, sv], 0, 0, false, true⟩ → getCells (hide [rb, H.length] B ++ L) b4 0 2 = some [.slice la ls.length ls.length, sv] ∧ getCells (hide [rb, H.length] B ++ L) b4 0 1 = some [.slice la ls.length ls.length] := fun B L hb => ⟨gc_hidO L (by rw [gc_of hb]; rfl) (by simp; omega), gc_hidO L (by rw [gc_of hb]; rfl) (by simp; omega)⟩
    refine seq_regX [rb, H.length] (by simp; omega) ?_
    have q4 := hg4 Hc [] hbc
    rw [List.append_nil] at q4
    refine wpx_A rfl ?_
    simp only [go_sem, binC, e4, q4.1, osv]
    refine wpx_A rfl ?_
    simp only [go_sem, binC, e0]
    refine wpx_N rfl ?_
    obtain ⟨tw, Ha, qa, ka, xa, sa, ca, ts, hts, htl⟩ := gtr Hc q lo hsc (by omega) (by omega) hlo
    simp only [List.append_nil]
    refine op_callN (by simp only [go_sem, binC, e0]; exact ka) ?_
    refine ⟨fun b hb hl => xa.2 b hl (fun hm => hb (by simp only [List.mem_singleton] at hm; simp [hm])), ?_⟩
    have hba := xa.get hbc (by simp; omega)
    have hb2a := xa.get hb2c (by simp; omega)
    have hb3a := xa.get hb3c (by simp; omega)
    have hla := xa.1
    obtain ⟨_, ta, rfl, _⟩ := id hts
    obtain ⟨M, nA⟩ : ∃ M, Ha.length = M := ⟨_, rfl⟩
    have a4 := hg4 Ha [] hba
    rw [List.append_nil] at a4
    refine wpx_A rfl ?_
    simp only [go_sem, binC, e4, List.append_nil]
    refine wpx_A rfl ?_
    simp only [go_sem, binC, a4.2, List.append_nil]
    refine wpx_A rfl ?_
    simp only [go_sem, binC, List.append_nil]
    have hls := hpc.2.2.2.2.1
    refine wpx_A rfl ?_
    simp only [go_sem, binC, List.append_nil, hide_length, nA]
    refine ⟨by omega, ?_⟩
    simp only [go_sem, binC, List.append_nil, hide_length, nA, Int.toNat_natCast, rep_intsK]
    generalize hbk1 : (⟨ints (List.replicate ls.length 0), 1, 3, true, true⟩ : Blk) = k1
    have a5 := hg4 Ha [k1] hba
    refine wpx_A rfl ?_
    simp only [go_sem, binC, e4, a5.1, osv]
    have x1a : AgX [rb] H1 Ha := hxc.tr xa
    have hpa : ProgV 3 (vwl H1.length [b4] Ha) (.slice la ls.length ls.length) sv ls l := hpc.mono (vwl_sub xa (Nat.le_refl _) fun b' h1 h2 h3 => ⟨by simp; omega, h3⟩)
    have hvh : ∀ L, Sub (vwl H1.length [b4] Ha) (vw 0 (hide [rb, H.length] Ha ++ L)) := fun L => by
      intro b cs hb
      unfold vwl at hb
      unfold vw
      split at hb
      · rename_i hc2
        have hbl : b < Ha.length := by
          rcases Nat.lt_or_ge b Ha.length with h | h
          · exact h
          · rw [List.getElem?_eq_none h] at hb; cases hb
        rw [if_pos (Nat.zero_le _), List.getElem?_append_left (by rw [hide_length]; exact hbl), hide_get_ne (by simp; omega)]
        exact hb
      · cases hb
    have hgz := gz (hide [rb, H.length] Ha ++ [k1]) 3 _ _ ls l (hpa.1.mono (hvh _)) (hpa.2.1.mono (hvh _)) hpa.2.2.1
    have hzb : -1 ≤ sizeV 3 (ls, l) ∧ sizeV 3 (ls, l) ≤ 8 := by
      unfold sizeV
      by_cases h : progB 3 (ls, l) = true
      · rw [if_pos h]
        have := progB_cnt h hpc.2.2.1
        exact ⟨by omega, by omega⟩
      · rw [if_neg h]; omega
    generalize sizeV 3 (ls, l) = z at hgz hzb
    refine wpx_A rfl ?_
    refine op_callQ (by simp only [go_sem, binC]; exact hgz) ?_
    simp only [go_sem, binC]
    refine wpx_A rfl ?_
    simp only [go_sem, binC]
    obtain ⟨m, hm⟩ := Int.eq_ofNat_of_zero_le (show (0 : Int) ≤ if (0 : Int) > z then 0 else z by split <;> omega)
    have hm8 : m ≤ 8 := by
      have : (if (0 : Int) > z then 0 else z) ≤ 8 := by split <;> omega
      omega
    rw [show maxV (.int .i64 z) (.int .i64 0) = some (.int .i64 (m : Int)) from by rw [← hm]; rfl]
    simp only [go_sem, binC]
    refine wpx_A rfl ?_
    simp only [go_sem, binC, hide_length, nA]
    refine ⟨by omega, ?_⟩
    simp only [go_sem, binC, hide_length, nA, Int.toNat_natCast, rep_intsK]
    generalize hbk2 : (⟨ints (List.replicate m 0), 1, 3, true, true⟩ : Blk) = k2
    refine wpx_A rfl ?_
    simp only [go_sem, binC, sli]
    have hHb2 : (Ha ++ [k1, k2])[H.length]? = some ⟨[nilS, nilS], 0, 0, false, true⟩ := by rw [List.getElem?_append_left (by omega)]; exact hb2a
    have hHb3 : (Ha ++ [k1, k2])[H.length + 1]? = some ⟨[nilS, nilS, nilS], 0, 0, false, true⟩ := by rw [List.getElem?_append_left (by omega)]; exact hb3a
    have hk1 : (Ha ++ [k1, k2])[M]? = some k1 := by rw [← nA]; exact get_new0 _ _
    have hk2 : (Ha ++ [k1, k2])[M + 1]? = some k2 := by rw [← nA]; exact get_new _ _ 1
    have xak : AgX [] Ha (Ha ++ [k1, k2]) := AgX.app _ _ _
    have hlk : (Ha ++ [k1, k2]).length = M + 2 := by rw [List.length_append, nA]; rfl
    refine wpx_N rfl ?_
    generalize Ha ++ [k1, k2] = Hk at *
    have hb2l := (List.getElem?_eq_some_iff.1 hHb2).1
    have hb3l := (List.getElem?_eq_some_iff.1 hHb3).1
    simp only [go_sem, binC, e2, hHb2, osv]
    refine ⟨by omega, fun b hb hl => List.getElem?_set_ne (fun h => hb (by simp [h])), ?_⟩
    refine wpx_zero ?_
    have hb3s : ∀ kk : Blk, (Hk.set H.length kk)[H.length + 1]? = some ⟨[nilS, nilS, nilS], 0, 0, false, true⟩ := fun kk => by rw [List.getElem?_set_ne (by omega)]; exact hHb3
    simp only [go_sem, binC, e3, hb3s, sli, List.append_nil]
    refine ⟨by omega, ?_⟩
    refine wpc_genH fun Hf hHf => ?_
    have xkf : AgX [H.length, H.length + 1] Hk Hf := by
      rw [hHf]
      exact (AgX.set Hk H.length _).trans (AgX.set _ (H.length + 1) _) (fun _ h _ => by simp only [List.mem_singleton] at h; simp [h]) (fun _ h _ => by simp only [List.mem_singleton] at h; simp [h])
    have hfP : Hf[H.length]? = some ⟨[.slice la ls.length ls.length, sv], 0, 0, false, true⟩ := by rw [hHf, List.getElem?_set_ne (by omega), List.getElem?_set_self hb2l]
    have hfQ : Hf[H.length + 1]? = some ⟨[.slice ta ts.length ts.length, .slice (some ⟨M, 0, none⟩) ls.length ls.length, .slice (some ⟨M + 1, 0, none⟩) m m], 0, 0, false, true⟩ := by rw [hHf, List.getElem?_set_self (by rw [List.length_set]; exact hb3l)]
    clear hHf
    have xaf : AgX [H.length, H.length + 1] Ha Hf := xak.trans xkf (fun _ h _ => by cases h) (fun _ h _ => h)
    have hf1 := xkf.get hk1 (by simp; omega)
    have hf2 := xkf.get hk2 (by simp; omega)
    rw [← hbk1] at hf1
    rw [← hbk2] at hf2
    refine wpc_ret ⟨Or.inr rfl, .tuple #[.agg #[.slice la ls.length ls.length, sv], .agg #[.slice ta ts.length ts.length, .slice (some ⟨M, 0, none⟩) ls.length ls.length, .slice (some ⟨M + 1, 0, none⟩) m m]], ?_, qa, ?_, ?_, by omega, ?_⟩
    · simp [resV, resL, res1, putE_get, notT, ptr, gc_of hfP, gc_of hfQ, inBlk_some, valOf, e2, e3]
    · exact ht1.trans (x1a.trans xaf (zs := [rb, H.length, H.length + 1]) (fun b h _ => by simp only [List.mem_singleton] at h; simp [h]) (fun b h _ => by simp only [List.mem_cons, List.not_mem_nil, or_false] at h ⊢; omega)) (fun _ h _ => h) (fun b h hlt => by simp only [List.mem_cons, List.not_mem_nil, or_false] at h ⊢; omega)
    · exact sa.mono hc xaf (fun b h => by simp only [List.mem_cons, List.not_mem_nil, or_false] at h; omega)
    · refine ⟨.slice la ls.length ls.length, sv, .slice ta ts.length ts.length, M, M + 1, ls, l, ts, List.replicate ls.length 0, List.replicate m 0, by simp [sli], ?_, ?_, htl, ⟨by omega, by simp; omega, hf1, fun x hx => by rw [(List.mem_replicate.1 hx).2]; unfold RgI; exact ⟨by omega, by omega⟩⟩, ⟨by omega, by simp; omega, hf2, fun x hx => by rw [(List.mem_replicate.1 hx).2]; unfold RgI; exact ⟨by omega, by omega⟩⟩, by omega, by simp; omega, by simp; omega⟩
      · exact hpa.mono (vwl_sub xaf (by omega) fun b' h1 h2 h3 => ⟨by simp; omega, by simp; omega⟩)
      · exact hts.mono (vwl_sub xaf (by omega) fun b' h1 h2 h3 => ⟨by simp; omega, by simp; omega⟩)
  | succ k ih =>
    intro i e Hc q lv sv ls l hi hsc hq hxc hbc hpc e0 e2 e3 e4 e5
    have hdi : decide ((i : Int) < 8) = true := decide_eq_true (by omega)
    have hw1 : IntKind.i64.wrap ((i : Int) + 1) = ((i + 1 : Nat) : Int) := by rw [wrap_id (by omega) (by omega)]; omega
    have olv : one lv = true := by obtain ⟨_, a, rfl, _⟩ := hpc.1; rfl
    have osv : one sv = true := by obtain ⟨_, a, rfl, _⟩ := hpc.2.1; rfl
    have hlc := hxc.1
    have hb4c := (List.getElem?_eq_some_iff.1 hbc).1
    refine lp_step ?_
    refine seq_assoc (seq_reg ?_)
    simp only [go_sem, binC, e5, hdi]
    refine seq_cond (t := true) (by simp only [go_sem, binC]) ?_
    simp only [go_sem, binC]
    refine seq_skip (seq_block (seq_reg ?_))
    simp only [go_sem, binC, e0]
    obtain ⟨tw, Ha, qa, ka, xa, sa, ca, ts, hts, htl⟩ := gtr Hc q lo hsc (by omega) (by omega) hlo
    refine op_callN (by simp only [go_sem, binC, e0]; exact ka) ?_
    simp only [go_sem, binC]
    have hla := xa.1
    have hba := xa.get hbc (by simp; omega)
    have hpa : ProgV 3 (vw 0 Ha) lv sv ls l := hpc.mono ((vwl_sub xa (lo' := H1.length) (xs' := []) (Nat.le_refl _) fun b' h1 h2 h3 => ⟨by simp; omega, by simp⟩).trans (vwl0 _ _ _))
    obtain ⟨_, ta, rfl, _⟩ := id hts
    refine seq_reg ?_
    simp only [go_sem, binC, e4, gc_of hba, inBlk_some, olv, osv]
    obtain ⟨w, Hb, kb, tv, hv, dv, rfl, xb, hz⟩ := gf Ha 3 _ _ _ ls l ts hpa.1 hpa.2.1 hpa.2.2.1 (hts.mono (vwl0 _ _ _))
    refine op_callK (by simp only [go_sem, binC]; exact kb) ?_
    obtain ⟨q1, q2, q3⟩ := hz.one
    have hlb := xb.1
    simp only [go_sem, binC, q1, q2, q3]
    refine ⟨by omega, ?_⟩
    refine wpc_gen fun Hn hHn => ?_
    have xn : AgX [] Hb Hn := hHn ▸ AgX.app [] _ _
    have hb7 : Hn[Hb.length]? = some ⟨[tv, hv, dv], 0, 0, false, true⟩ := hHn ▸ get_new0 _ _
    have hln : Hn.length = Hb.length + 1 := by rw [hHn, List.length_append]; rfl
    clear hHn
    have xan : AgX [] Ha Hn := xb.tr xn
    have xcn : AgX [rb] Hc Hn := xa.trans xan (fun _ h _ => h) (fun _ h _ => by cases h)
    have sn : St H0 rb bv qa Hn := sa.mono hc xan (fun _ h => by cases h)
    have hbn := xan.get hba (by simp)
    have hpn : ProgV 3 (vw 0 Hn) lv sv ls l := hpa.mono (agx_sub xan)
    have htn : SlR Co.int (vw 0 Hn) (.slice ta ts.length ts.length) ts := (hts.mono (vwl0 _ _ _)).mono (agx_sub xan)
    refine wpc_genK fun KK hKK => ?_
    have hD : ∀ e' : Env, e' 0 = ptr rb 0 → e' 2 = ptr H.length 0 → e' 3 = ptr (H.length + 1) 0 → e' 4 = ptr b4 0 → e' 5 = .int .i64 i → wpc F lo drPlanD e' Hn KK := by
      intro e' f0 f2 f3 f4 f5
      rw [hKK]
      unfold drPlanD
      refine wpc_reg ?_
      simp only [go_sem, binC, f0]
      obtain ⟨vz, Hz, qz, kz, xz, sz, cz, lv', sv', ls', l', rfl, hpz⟩ := gan Hn qa lo sn (by omega) (by omega) hlo
      refine op_callN (by simp only [go_sem, binC, f0]; exact kz) ?_
      have olv' : one lv' = true := by obtain ⟨_, a, rfl, _⟩ := hpz.1; rfl
      have osv' : one sv' = true := by obtain ⟨_, a, rfl, _⟩ := hpz.2.1; rfl
      have hlz := xz.1
      have hbz := xz.get hbn (by simp; omega)
      have hbzl := (List.getElem?_eq_some_iff.1 hbz).1
      simp only [go_sem, binC, f4, hbz, olv', osv']
      refine ⟨by omega, ?_⟩
      simp only [go_sem, binC, out_n, thenX_n]
      have hxs : AgX [b4] Hz (Hz.set b4 ⟨[lv', sv'], 0, 0, false, true⟩) := AgX.set _ _ _
      have hpz' : ProgV 3 (vwl H1.length [b4] (Hz.set b4 ⟨[lv', sv'], 0, 0, false, true⟩)) lv' sv' ls' l' := hpz.mono (vwl_sub hxs (by omega) fun b' h1 h2 h3 => ⟨by simp; omega, by simp; omega⟩)
      refine wpc_reg ?_
      simp only [go_sem, binC, f5, hw1]
      simp only [go_sem, binC, thenX_n]
      exact ih (i + 1) _ (Hz.set b4 ⟨[lv', sv'], 0, 0, false, true⟩) qz lv' sv' ls' l' (by omega) (sz.setN hc (by omega) _) (by omega) (((hxc.tr xcn).tr xz).setN (by omega) _) (List.getElem?_set_self hbzl) hpz' (by simp only [go_sem, binC, f0]) (by simp only [go_sem, binC, f2]) (by simp only [go_sem, binC, f3]) (by simp only [go_sem, binC, f4]) (by simp only [go_sem, binC])
    refine seq_assoc (seq_reg ?_)
    cases hfv : findV 3 (ls, l) ts with
    | none =>
      simp only [go_sem, binC, Option.isSome_none]
      refine seq_cond (t := false) rfl ?_
      simp only [go_sem, binC]
      refine seq_skip ?_
      exact hD _ (by simp only [go_sem, binC, e0]) (by simp only [go_sem, binC, e2]) (by simp only [go_sem, binC, e3]) (by simp only [go_sem, binC, e4]) (by simp only [go_sem, binC, e5])
    | some homes =>
    rw [hfv] at hz
    obtain ⟨b1, bh, bd, rfl, rfl, rfl, o1, o2, o3, d12, d13, d23⟩ := hz
    simp only [go_sem, binC, Option.isSome_some, e4, gc_of hbn, inBlk_some, olv, osv]
    refine op_callQ (by simp only [go_sem, binC]; exact gz Hn 3 _ _ ls l hpn.1 hpn.2.1 hpn.2.2.1) ?_
    simp only [go_sem, binC]
    by_cases hz1 : 1 < sizeV 3 (ls, l)
    case neg =>
      refine seq_cond (t := false) (by simp only [go_sem, binC]; rw [decide_eq_false hz1]) ?_
      simp only [go_sem, binC]
      refine seq_skip ?_
      exact hD _ (by simp only [go_sem, binC, e0]) (by simp only [go_sem, binC, e2]) (by simp only [go_sem, binC, e3]) (by simp only [go_sem, binC, e4]) (by simp only [go_sem, binC, e5])
    refine seq_cond (t := true) (by simp only [go_sem, binC]; rw [decide_eq_true hz1]) ?_
    simp only [go_sem, binC]
    refine seq_assoc (seq_assoc (seq_reg ?_))
    simp only [go_sem, binC]
    have hP : progB 3 (ls, l) = true := by
      unfold sizeV at hz1
      by_cases h : progB 3 (ls, l) = true
      · exact h
      · rw [if_neg h] at hz1; omega
    have hdl : (doesL 3 (ls, l) ts homes).length = (allL 3 l).length := doesL_len
    have hcnt : (allL 3 l).length ≤ 8 := progB_cnt hP hpn.2.2.1
    have on2 := o2.keep (Nat.le_refl _) xn (by simp)
    have on3 := o3.keep (Nat.le_refl _) xn (by simp)
    have on1 := o1.keep (Nat.le_refl _) xn (by simp)
    have g1 := on1.ge
    have g2 := on2.ge
    have g3 := on3.ge
    have l1' := o1.lt
    have l2' := o2.lt
    have l3' := o3.lt
    generalize doesL 3 (ls, l) ts homes = does0 at *
    refine seq_block (wpc_loop ?_)
    suffices hh : ∀ (k j : Nat) (e : Env) (Hd : Heap) (qd : Int) (cur : List Int), j + k = does0.length → St H0 rb bv qd Hd → (qa ≤ qd ∧ qd ≤ qa + (j : Int)) → AgX [rb, bd] Hn Hd → IntsO 3 Ha.length Hd bd true cur → cur.length = does0.length → e 0 = ptr rb 0 → e 2 = ptr H.length 0 → e 3 = ptr (H.length + 1) 0 → e 4 = ptr b4 0 → e 6 = .slice ta ts.length ts.length → e 7 = ptr Hb.length 0 → e 9 = .int .i64 j → Go.Proofs.YtbjeldblaclpnaaI.W F lo _ e Hd _ from
      hh does0.length 0 _ Hn qa does0 (by omega) sn (by omega) (AgX.refl _ _) on3 rfl (by simp only [go_sem, binC, e0]) (by simp only [go_sem, binC, e2]) (by simp only [go_sem, binC, e3]) (by simp only [go_sem, binC, e4]) (by simp only [go_sem, binC]) (by simp only [go_sem, binC]) (by (simp only [go_sem, binC]) <;> rfl)
    have hrbl : rb < H1.length := by omega
    have hmem : homes.length = ls.length := by
      unfold findV at hfv
      by_cases hc2 : (typeP 3 (ls, l) && trK ts) = true
      · rw [if_pos hc2] at hfv
        exact (hmL_el _ _ (List.mem_of_find?_eq_some hfv)).1
      · rw [if_neg hc2] at hfv; cases hfv
    have hls100 := hpn.2.2.2.2.1
    clear hD
    intro k
    induction k with
    | zero =>
      intro j e Hd qd cur hj sd hqd xd od hcl e0 e2 e3 e4 e6 e7 e9
      have hb7d := xd.get hb7 (by simp; omega)
      have hbnd := xd.get hbn (by simp; omega)
      have x1n : AgX [rb] H1 Hn := hxc.tr xcn
      have x1d : AgX [rb, bd] H1 Hd := x1n.trans xd (fun _ h _ => by simp only [List.mem_singleton] at h; simp [h]) (fun _ h _ => h)
      have hb2d := x1d.get hb2 (by simp; omega)
      have hb3d := x1d.get hb3 (by simp; omega)
      have hb2l := (List.getElem?_eq_some_iff.1 hb2d).1
      have hb3l := (List.getElem?_eq_some_iff.1 hb3d).1
      have hb3s : ∀ kk : Blk, (Hd.set H.length kk)[H.length + 1]? = some ⟨[nilS, nilS, nilS], 0, 0, false, true⟩ := fun kk => by rw [List.getElem?_set_ne (by omega)]; exact hb3d
      refine lp_step ?_
      refine seq_assoc (seq_reg ?_)
      simp only [go_sem, binC, e7, e9, gc_of hb7d, inBlk_some]
      refine seq_cond (t := false) (by simp only [go_sem, binC]; rw [decide_eq_false (by omega)]) ?_
      simp only [go_sem, binC]
      refine seq_exit ?_
      simp only [go_sem, binC, thenX_e, out_e, thenX_n]
      have hb4l := (List.getElem?_eq_some_iff.1 hbn).1
      have g4 : getCells Hd b4 0 2 = some [lv, sv] := by rw [gc_of hbnd]; rfl
      have g7 : getCells Hd Hb.length 0 3 = some [sli b1 0 ts.length, sli bh 0 homes.length, sli bd 0 does0.length] := by rw [gc_of hb7d]; rfl
      have g4' : ∀ kk : Blk, getCells (Hd.set H.length kk) b4 0 2 = some [lv, sv] := fun kk => by rw [gc_of (show (Hd.set H.length kk)[b4]? = some ⟨[lv, sv], 0, 0, false, true⟩ by rw [List.getElem?_set_ne (by omega)]; exact hbnd)]; rfl
      have g7' : ∀ kk : Blk, getCells (Hd.set H.length kk) Hb.length 0 3 = some [sli b1 0 ts.length, sli bh 0 homes.length, sli bd 0 does0.length] := fun kk => by rw [gc_of (show (Hd.set H.length kk)[Hb.length]? = some ⟨[sli b1 0 ts.length, sli bh 0 homes.length, sli bd 0 does0.length], 0, 0, false, true⟩ by rw [List.getElem?_set_ne (by omega)]; exact hb7d)]; rfl
      refine seq_assoc ?_
      refine wpc_genE fun ex he => ?_
      have y2 : ex 2 = ptr H.length 0 := by rw [he]; simp only [go_sem, binC, e2]
      have y3 : ex 3 = ptr (H.length + 1) 0 := by rw [he]; simp only [go_sem, binC, e3]
      have y4 : ex 4 = ptr b4 0 := by rw [he]; simp only [go_sem, binC, e4]
      have y7 : ex 7 = ptr Hb.length 0 := by rw [he]; simp only [go_sem, binC, e7]
      clear he
      refine seq_regV (q := 2) (k := 0) (ea := putE (putE ex (some 52) (.agg #[lv, sv])) (some 53) (.agg #[sli b1 0 ts.length, sli bh 0 homes.length, sli bd 0 does0.length])) rfl rfl rfl ?_
      simp only [go_sem, binC, y2, hb2d, olv, osv]
      refine ⟨by omega, ?_⟩
      refine ⟨frees_cons _ (iop_load (by simp only [go_sem, binC, y4]) g4) (iop_load (by simp only [go_sem, binC, y4]) (g4' _)) (frees_cons _ (iop_load (by simp only [go_sem, binC, y7]) g7) (iop_load (by simp only [go_sem, binC, y7]) (g7' _)) rfl), _, rfl, ?_⟩
      simp only [go_sem, binC, y3, hb3s, sli]
      refine ⟨by omega, ?_⟩
      refine wpc_genH fun Hf hHf => ?_
      have xdf : AgX [H.length, H.length + 1] Hd Hf := by
        rw [hHf]
        exact (AgX.set Hd H.length _).trans (AgX.set _ (H.length + 1) _) (fun _ h _ => by simp only [List.mem_singleton] at h; simp [h]) (fun _ h _ => by simp only [List.mem_singleton] at h; simp [h])
      have hfP : Hf[H.length]? = some ⟨[lv, sv], 0, 0, false, true⟩ := by rw [hHf, List.getElem?_set_ne (by omega), List.getElem?_set_self hb2l]
      have hfQ : Hf[H.length + 1]? = some ⟨[sli b1 0 ts.length, sli bh 0 homes.length, sli bd 0 does0.length], 0, 0, false, true⟩ := by rw [hHf, List.getElem?_set_self (by rw [List.length_set]; exact hb3l)]; rfl
      clear hHf
      have x1f : AgX [rb, bd, H.length, H.length + 1] H1 Hf := x1d.trans xdf (fun _ h _ => by simp only [List.mem_cons, List.not_mem_nil, or_false] at h ⊢; omega) (fun _ h _ => by simp only [List.mem_cons, List.not_mem_nil, or_false] at h ⊢; omega)
      have xcf : AgX [rb, bd, H.length, H.length + 1] Hc Hf := (xcn.trans xd (zs := [rb, bd]) (fun _ h _ => by simp only [List.mem_singleton] at h; simp [h]) (fun _ h _ => h)).trans xdf (fun _ h _ => by simp only [List.mem_cons, List.not_mem_nil, or_false] at h ⊢; omega) (fun _ h _ => by simp only [List.mem_cons, List.not_mem_nil, or_false] at h ⊢; omega)
      have xnf : AgX [rb, bd, H.length, H.length + 1] Hn Hf := xd.trans xdf (fun _ h _ => by simp only [List.mem_cons, List.not_mem_nil, or_false] at h ⊢; omega) (fun _ h _ => by simp only [List.mem_cons, List.not_mem_nil, or_false] at h ⊢; omega)
      have hpf : ProgV 3 (vwl H.length [bh, bd] Hf) lv sv ls l := hpc.mono (vwl_sub xcf (by omega) fun b' h1 h2 h3 => ⟨by simp; omega, by simp; omega⟩)
      have of1 := on1.keep (Nat.le_refl _) xnf (by simp; omega)
      have of2 := on2.keep (lo' := H.length) (by omega) xnf (by simp; omega)
      have of3 := od.keep (lo' := H.length) (by omega) xdf (by simp; omega)
      refine seq_ret ?_
      rw [hKK]
      simp only [go_sem, binC, out_r, thenX_r]
      refine ⟨Or.inr rfl, .tuple #[.agg #[lv, sv], .agg #[sli b1 0 ts.length, sli bh 0 homes.length, sli bd 0 does0.length]], ?_, qd, ?_, ?_, by omega, ?_⟩
      · simp [resV, resL, res1, putE_get, notT, ptr, gc_of hfP, gc_of hfQ, inBlk_some, valOf, y2, y3, sli]
      · exact ht1.trans x1f (fun _ h _ => h) (fun b h hlt => by simp only [List.mem_cons, List.not_mem_nil, or_false] at h ⊢; omega)
      · exact sd.mono hc xdf (fun b h => by simp only [List.mem_cons, List.not_mem_nil, or_false] at h; omega)
      · refine ⟨lv, sv, sli b1 0 ts.length, bh, bd, ls, l, ts, homes, cur, by rw [hcl], hpf, ?_, htl, of2, of3, d23, by omega, by omega⟩
        exact ints_sl (o := 0) (lo := H.length) (xs := [bh, bd]) (l := ts) of1.blk (by omega) (by simp; omega) of1.rg (Nat.zero_le _) (by omega)
    | succ k ihj =>
      intro j e Hd qd cur hj sd hqd xd od hcl e0 e2 e3 e4 e6 e7 e9
      have hjl : j < does0.length := by omega
      have hw2 : IntKind.i64.wrap ((j : Int) + 1) = ((j + 1 : Nat) : Int) := by rw [wrap_id (by omega) (by omega)]; omega
      have hb7d := xd.get hb7 (by simp; omega)
      refine lp_step ?_
      refine seq_assoc (seq_reg ?_)
      simp only [go_sem, binC, e7, e9, gc_of hb7d, inBlk_some]
      refine seq_cond (t := true) (by simp only [go_sem, binC]; rw [decide_eq_true (by omega)]) ?_
      simp only [go_sem, binC]
      refine seq_skip (seq_block (seq_reg ?_))
      simp only [go_sem, binC, e0]
      refine op_draw (n := 3) hpk hc sd (by omega) (by omega) hlo (by simp only [go_sem, binC, e0]) (by simp only [go_sem, binC]) fun He hle xe se => ?_
      simp only [go_sem, binC]
      have hpk3 := pickV_bd code qd (n := 3) (by omega)
      generalize pickV code qd 3 = hv3 at *
      have xne : AgX [rb, bd] Hn He := xd.trans xe (fun _ h _ => h) (fun _ h _ => by simp only [List.mem_singleton] at h; simp [h])
      have xce : AgX [rb, bd] Hc He := xcn.trans xne (fun _ h _ => by simp only [List.mem_singleton] at h; simp [h]) (fun _ h _ => h)
      have xae : AgX [rb, bd] Ha He := xan.trans xne (fun _ h _ => by cases h) (fun _ h _ => h)
      have hpe : ProgV 3 (vw 0 He) lv sv ls l := hpc.mono ((vwl_sub xce (lo' := H1.length) (xs' := []) (Nat.le_refl _) fun b' h1 h2 h3 => ⟨by simp; omega, by simp⟩).trans (vwl0 _ _ _))
      have hte : SlR Co.int (vw 0 He) (.slice ta ts.length ts.length) ts := hts.mono ((vwl_sub xae (lo' := Hc.length) (xs' := []) (Nat.le_refl _) fun b' h1 h2 h3 => ⟨by simp; omega, by simp⟩).trans (vwl0 _ _ _))
      have oe2 := on2.keep (Nat.le_refl _) xne (by simp; omega)
      have oe3 := od.keep (Nat.le_refl _) xe (by simp; omega)
      have hb7e := xne.get hb7 (by simp; omega)
      have hbne := xne.get hbn (by simp; omega)
      refine seq_reg ?_
      simp only [go_sem, binC, e4, e6, e7, e9, gc_of hb7e, gc_of hbne, inBlk_some, olv, osv]
      refine op_callQ (by simp only [go_sem, binC, e6, e9]; exact gps He 3 _ _ _ _ ls l ts homes j hv3 hpe.1 hpe.2.1 hpe.2.2.1 hte oe2.sl) ?_
      simp only [go_sem, binC]
      cases hst : stepV 3 (ls, l) ts homes j hv3 with
      | false =>
        refine wpc_cond (t := false) rfl ?_
        simp only [go_sem, binC]
        refine wpc_skip ?_
        simp only [go_sem, binC, out_n, thenX_n]
        refine wpc_reg ?_
        simp only [go_sem, binC, e9, hw2]
        simp only [go_sem, binC, thenX_n]
        exact ihj (j + 1) _ He (qd + 1) cur (by omega) se (by omega) xne oe3 hcl (by simp only [go_sem, binC, e0]) (by simp only [go_sem, binC, e2]) (by simp only [go_sem, binC, e3]) (by simp only [go_sem, binC, e4]) (by simp only [go_sem, binC, e6]) (by simp only [go_sem, binC, e7]) (by simp only [go_sem, binC])
      | true =>
        refine wpc_cond (t := true) rfl ?_
        simp only [go_sem, binC]
        have hbd := oe3.blk
        have hbdl := oe3.lt
        refine wpc_reg ?_
        simp only [go_sem, binC, e7, e9, gc_of hb7e, inBlk_some]
        refine ⟨⟨by omega, by omega⟩, ?_⟩
        simp only [go_sem, binC, Int.toNat_natCast, Nat.mul_one, hbd, ints_len, ints_set]
        refine ⟨⟨by omega, by omega⟩, ?_⟩
        simp only [go_sem, binC, out_n, thenX_n]
        have hxs : AgX [bd] He (He.set bd ⟨ints (cur.set j hv3), 1, 3, true, true⟩) := AgX.set _ _ _
        have os3 : IntsO 3 Ha.length (He.set bd ⟨ints (cur.set j hv3), 1, 3, true, true⟩) bd true (cur.set j hv3) := ⟨od.ge, by rw [List.length_set]; exact od.len, List.getElem?_set_self hbdl, fun x hx => by
          rcases List.mem_or_eq_of_mem_set hx with h | rfl
          · exact od.rg x h
          · exact ⟨by omega, by omega⟩⟩
        refine wpc_reg ?_
        simp only [go_sem, binC, e9, hw2]
        simp only [go_sem, binC, thenX_n]
        exact ihj (j + 1) _ _ (qd + 1) (cur.set j hv3) (by omega) (se.setN hc (by omega) _) (by omega) (xne.trans hxs (fun _ h _ => h) (fun _ h _ => by simp only [List.mem_singleton] at h; simp [h])) os3 (by rw [List.length_set]; exact hcl) (by simp only [go_sem, binC, e0]) (by simp only [go_sem, binC, e2]) (by simp only [go_sem, binC, e3]) (by simp only [go_sem, binC, e4]) (by simp only [go_sem, binC, e6]) (by simp only [go_sem, binC, e7]) (by simp only [go_sem, binC])
end Go.Proofs.YtbjeldblaclpnaaI
end
section
/- A program and a plan, some spoilt. -/
set_option linter.unusedVariables false
set_option linter.unusedSimpArgs false
namespace Go.Proofs.YtbjeldblaclpnaaI
open Go Go.RowKit
end Go.Proofs.YtbjeldblaclpnaaI
end
section
/- The draws of plans. -/
set_option linter.unusedVariables false
set_option linter.unusedSimpArgs false
namespace Go.Proofs.YtbjeldblaclpnaaI
open Go Go.RowKit
end Go.Proofs.YtbjeldblaclpnaaI
end
section
/- The draw DrawPlanFind; the laws' comparison of plans. -/
set_option linter.unusedVariables false
set_option linter.unusedSimpArgs false
namespace Go.Proofs.YtbjeldblaclpnaaI
open Go Go.RowKit
def c_drPF : IFn := ⟨1, 24, [.cell true 2 2, .t 3],
 .seq (.reg none [
    ⟨(some 2), none, .new [(.slice none 0 0), (.slice none 0 0)]⟩,
    ⟨(some 3), none, .mov (.c (.slice none 0 0))⟩])
 (.seq (.reg none [
    ⟨(some 7), none, .mov (.t 0)⟩,
    ⟨(some 8), none, .call .n (.f 44) [(.t 7)]⟩,
    ⟨(some 4), none, .mov (.t 8)⟩])
 (.seq (.seq (.reg none [
     ⟨(some 9), none, .mov (.t 4)⟩,
     ⟨(some 10), none, .call .n (.f 45) [(.t 9), (.c (.int .i64 2))]⟩,
     ⟨(some 11), none, .bin .eql (.t 10) (.c (.int .i64 0))⟩])
  (.cond (.t 11) (.seq (.reg none [
      ⟨(some 13), none, .mov (.t 4)⟩,
      ⟨(some 14), none, .call .n (.f 46) [(.t 13)]⟩,
      ⟨(some 12), none, .mov (.t 14)⟩,
      ⟨(some 15), none, .ext (.t 12) 0⟩,
      ⟨(some 16), none, .ext (.t 12) 1⟩,
      ⟨(some 5), none, .new [(.slice none 0 0), (.slice none 0 0)]⟩,
      ⟨(some 6), none, .new [(.slice none 0 0), (.slice none 0 0), (.slice none 0 0)]⟩,
      ⟨none, none, .store 2 (.t 5) (.t 15)⟩,
      ⟨none, none, .store 3 (.t 6) (.t 16)⟩])
   (.seq (.reg (some 4) [
      ⟨(some 17), none, .load true 2 (.t 5)⟩,
      ⟨(some 18), none, .fad 0 (.t 6)⟩,
      ⟨(some 19), none, .load false 1 (.t 18)⟩,
      ⟨none, none, .store 2 (.t 2) (.t 17)⟩,
      ⟨(some 3), none, .mov (.t 19)⟩])
   (.ret))) (.skip)))
 (.seq (.reg none [
    ⟨(some 20), none, .mov (.t 4)⟩,
    ⟨(some 21), none, .call .n (.f 47) [(.t 20)]⟩,
    ⟨(some 22), none, .mov (.t 4)⟩,
    ⟨(some 23), none, .call .n (.f 48) [(.t 22)]⟩,
    ⟨none, none, .store 2 (.t 2) (.t 21)⟩,
    ⟨(some 3), none, .mov (.t 23)⟩])
 (.ret))))⟩
def c_lcPlan : IFn := ⟨2, 24, [.t 4],
 .seq (.reg none [
    ⟨(some 2), none, .box (.t 0)⟩,
    ⟨(some 3), none, .box (.t 1)⟩,
    ⟨(some 4), none, .mov (.c (.bool false))⟩])
 (.seq (.reg none [
    ⟨(some 5), none, .fad 0 (.t 2)⟩,
    ⟨(some 6), none, .load false 1 (.t 5)⟩,
    ⟨(some 7), none, .fad 0 (.t 3)⟩,
    ⟨(some 8), none, .load false 1 (.t 7)⟩,
    ⟨(some 9), none, .call .q (.f 34) [(.t 6), (.t 8)]⟩,
    ⟨(some 10), none, .mov (.t 9)⟩,
    ⟨(some 11), (some (10, true)), .fad 1 (.t 2)⟩,
    ⟨(some 12), (some (10, true)), .load false 1 (.t 11)⟩,
    ⟨(some 13), (some (10, true)), .fad 1 (.t 3)⟩,
    ⟨(some 14), (some (10, true)), .load false 1 (.t 13)⟩,
    ⟨(some 15), (some (10, true)), .call .q (.f 34) [(.t 12), (.t 14)]⟩,
    ⟨(some 16), none, .pick (.t 10) (.t 15) (.c (.bool false))⟩,
    ⟨(some 17), none, .mov (.t 16)⟩,
    ⟨(some 18), (some (17, true)), .fad 2 (.t 2)⟩,
    ⟨(some 19), (some (17, true)), .load false 1 (.t 18)⟩,
    ⟨(some 20), (some (17, true)), .fad 2 (.t 3)⟩,
    ⟨(some 21), (some (17, true)), .load false 1 (.t 20)⟩,
    ⟨(some 22), (some (17, true)), .call .q (.f 34) [(.t 19), (.t 21)]⟩,
    ⟨(some 23), none, .pick (.t 17) (.t 22) (.c (.bool false))⟩,
    ⟨(some 4), none, .mov (.t 23)⟩])
 (.ret))⟩
def DrawNumsOk (F : Nat → Option IFn) (f : Nat) : Prop := ∀ (H : Heap) (v : Value) (code : List Int), SlR Co.byte (vw 0 H) v code → ∃ (d : Nat) (lv sv nv : Value) (ls : List (Int × Int)) (l : List (TStep d)) (nums : List Int) (H' : Heap), KC F f [v] H (.tuple #[.agg #[lv, sv], nv]) H' ∧
  (AgX [] H H' ∧ SlR Co.p2 (vw 0 H') lv ls ∧ SlR (Co.step d) (vw 0 H') sv l ∧ (Co.prog d).sm (ls, l) ∧ SlR Co.int (vw 0 H') nv nums)
set_option maxHeartbeats 4000000 in
theorem drPF_ok {F : Nat → Option IFn} {f : Nat} (hf : F f = some c_drPF) (hop : F 44 = some c_l6Open) (hpk : F 45 = some c_pick) (gpl : ∀ {H0 : Heap} {rb : Nat} {bv : Value} {code : List Int}, RdC H0 rb bv code → DrawS F H0 rb bv 46 [] 370000 PlanQ) (gan : ∀ {H0 : Heap} {rb : Nat} {bv : Value} {code : List Int}, RdC H0 rb bv code → DrawS F H0 rb bv 47 [] 90000 ProgR) (gtr : ∀ {H0 : Heap} {rb : Nat} {bv : Value} {code : List Int}, RdC H0 rb bv code → DrawS F H0 rb bv 48 [] 10 TrQ) : DrawNumsOk F f := by
  intro H v code hv
  suffices h : ∃ w H', KC F f [v] H w H' ∧ (∃ (d : Nat) (lv sv nv : Value) (ls : List (Int × Int)) (l : List (TStep d)) (nums : List Int), w = .tuple #[.agg #[lv, sv], nv] ∧ (AgX [] H H' ∧ SlR Co.p2 (vw 0 H') lv ls ∧ SlR (Co.step d) (vw 0 H') sv l ∧ (Co.prog d).sm (ls, l) ∧ SlR Co.int (vw 0 H') nv nums)) by
    obtain ⟨w, H', h1, d, lv, sv, nv, ls, l, nums, rfl, h2⟩ := h
    exact ⟨d, lv, sv, nv, ls, l, nums, H', h1, h2⟩
  refine KC.mk hf rfl ?_
  refine seq_reg ?_
  simp only [go_sem, binC]
  refine wpc_gen fun H1 hH1 => ?_
  have ht1 : AgX [] H H1 := hH1 ▸ AgX.app [] _ _
  have hb1 : H1[H.length]? = some ⟨[nilS, nilS], 0, 0, false, true⟩ := hH1 ▸ get_new0 _ _
  have hn1 : H1.length = H.length + 1 := by rw [hH1, List.length_append]; rfl
  clear hH1
  refine seq_reg ?_
  simp only [go_sem, binC]
  obtain ⟨bv, code', k2, hc, hs2⟩ := l6Open_ok hop (hv.mono (agx_sub ht1)) H.length ht1.1
  refine op_callN (by simp only [go_sem, binC]; exact k2) ?_
  simp only [go_sem, binC]
  refine wpc_gen fun H2 hH2 => ?_
  rw [← hH2] at hs2
  have x12 : AgX [] H1 H2 := hH2 ▸ AgX.app [] _ _
  have hn2 : H2.length = H1.length + 1 := by rw [hH2, List.length_append]; rfl
  clear hH2
  refine seq_assoc (seq_reg ?_)
  simp only [go_sem, binC]
  refine op_draw (n := 2) hpk hc hs2 (by omega) (by omega) (by omega) (by simp only [go_sem, binC]) (by simp only [go_sem, binC]) fun H3 hl3 hx3 hs3 => ?_
  simp only [go_sem, binC]
  have x13 : AgX [H1.length] H1 H3 := x12.trans hx3 (fun _ h _ => by cases h) (fun _ h _ => h)
  have hb3 := x13.get hb1 (by simp; omega)
  have hfin : ∀ {Hz : Heap} {xs : List Nat}, AgX xs H3 Hz → (∀ b, b ∈ xs → H.length ≤ b) → AgX [] H Hz := fun hx hxs => (ht1.trans x13 (zs := []) (fun _ h _ => h) (fun b h1 h2 => by simp only [List.mem_singleton] at h1; omega)).trans hx (fun _ h _ => h) (fun b h1 h2 => by have := hxs b h1; omega)
  by_cases h0 : pickV code' 0 2 = 0
  · refine seq_cond (t := true) (by simp only [go_sem, binC]; simp [h0]) ?_
    simp only [go_sem, binC]
    refine seq_assoc (seq_reg ?_)
    simp only [go_sem, binC]
    obtain ⟨v4, H4, p4, k4, x4, s4, c4, lv, sv, tv, b2, b3, ls, l, ts, homes, does, rfl, hpv, hts, htl, oh, od, hne, hhl, hdl⟩ := gpl hc H3 (0 + 1) H.length hs3 (by omega) (by omega) (by omega)
    refine op_callN (by simp only [go_sem, binC]; exact k4) ?_
    obtain ⟨r1, r2, r3, r4⟩ := hpv
    obtain ⟨_, la, rfl, _⟩ := id r1
    obtain ⟨_, sa, rfl, _⟩ := id r2
    obtain ⟨_, ta, rfl, _⟩ := id hts
    have hl4 := x4.1
    simp only [go_sem, binC, sli]
    refine ⟨by omega, by omega, ?_⟩
    refine wpc_gen fun H5 hH5 => ?_
    have x45 : AgX [] H4 H5 := hH5 ▸ AgX.app [] _ _
    have hbx5 : H5[H4.length]? = some ⟨[.slice la ls.length ls.length, .slice sa l.length l.length], 0, 0, false, true⟩ := hH5 ▸ get_new0 _ _
    have hbp5 : H5[H4.length + 1]? = some ⟨[.slice ta ts.length ts.length, .slice (some ⟨b2, 0, none⟩) homes.length homes.length, .slice (some ⟨b3, 0, none⟩) does.length does.length], 0, 0, false, true⟩ := hH5 ▸ get_new _ _ 1
    have hl5 : H5.length = H4.length + 2 := by rw [hH5, List.length_append]; rfl
    clear hH5
    have hb5 := x45.get (x4.get hb3 (by simp; omega)) (by simp)
    have hbl := (List.getElem?_eq_some_iff.1 hb5).1
    have gx : ∀ kk : Blk, (H5.set H.length kk)[H4.length]? = some ⟨[.slice la ls.length ls.length, .slice sa l.length l.length], 0, 0, false, true⟩ := fun kk => by rw [List.getElem?_set_ne (by omega)]; exact hbx5
    have gp : ∀ kk : Blk, (H5.set H.length kk)[H4.length + 1]? = some ⟨[.slice ta ts.length ts.length, .slice (some ⟨b2, 0, none⟩) homes.length homes.length, .slice (some ⟨b3, 0, none⟩) does.length does.length], 0, 0, false, true⟩ := fun kk => by rw [List.getElem?_set_ne (by omega)]; exact hbp5
    have c1 : getCells H5 H4.length 0 2 = some [.slice la ls.length ls.length, .slice sa l.length l.length] := by rw [gc_of hbx5]; rfl
    have c1' : ∀ kk : Blk, getCells (H5.set H.length kk) H4.length 0 2 = some [.slice la ls.length ls.length, .slice sa l.length l.length] := fun kk => by rw [gc_of (gx kk)]; rfl
    have c2 : getCells H5 (H4.length + 1) 0 1 = some [.slice ta ts.length ts.length] := by rw [gc_of hbp5]; rfl
    have c2' : ∀ kk : Blk, getCells (H5.set H.length kk) (H4.length + 1) 0 1 = some [.slice ta ts.length ts.length] := fun kk => by rw [gc_of (gp kk)]; rfl
    refine seq_assoc ?_
    refine wpc_genE fun ex he => ?_
    have y2 : ex 2 = ptr H.length 0 := by rw [he]; simp only [go_sem, binC]
    have y5 : ex 5 = ptr H4.length 0 := by rw [he]; simp only [go_sem, binC]
    have y6 : ex 6 = ptr (H4.length + 1) 0 := by rw [he]; simp only [go_sem, binC]
    clear he
    refine seq_regV (q := 3) (k := 0) (ea := putE (putE (putE ex (some 17) (.agg #[.slice la ls.length ls.length, .slice sa l.length l.length])) (some 18) (ptr (H4.length + 1) 0)) (some 19) (.slice ta ts.length ts.length)) rfl rfl rfl ?_
    simp only [go_sem, binC, y2, hb5]
    refine ⟨frees_cons _ (iop_load (by simp only [go_sem, binC, y5]) c1) (iop_load (by simp only [go_sem, binC, y5]) (c1' _)) (frees_cons _ (by simp only [go_sem, binC, y6, iop, ptr]) (by simp only [go_sem, binC, y6, iop, ptr]) (frees_cons _ (by simp only [go_sem, binC, iop, ptr, c2, Option.bind_some]) (by simp only [go_sem, binC, iop, ptr, c2', Option.bind_some]) rfl)), _, rfl, ?_⟩
    simp only [go_sem, binC]
    have xs5 := AgX.set H5 H.length ⟨[.slice la ls.length ls.length, .slice sa l.length l.length], 0, 0, false, true⟩
    have hvf : Sub (vwl H3.length [b2, b3] H4) (vw 0 (H5.set H.length ⟨[.slice la ls.length ls.length, .slice sa l.length l.length], 0, 0, false, true⟩)) := ((vwl_sub x45 (Nat.le_refl _) (xs' := []) fun b' h1 h2 _ => ⟨by simp, by simp⟩ : Sub (vwl H3.length [b2, b3] H4) (vwl H3.length [] H5)).trans (vwl_sub xs5 (Nat.le_refl _) (xs' := []) fun b' h1 h2 _ => ⟨by simp; omega, by simp⟩)).trans (vwl0 _ _ _)
    refine seq_ret ⟨Or.inr rfl, .tuple #[.agg #[.slice la ls.length ls.length, .slice sa l.length l.length], .slice ta ts.length ts.length], ?_, ?_⟩
    · simp [resV, resL, res1, putE_get, notT, y2, ptr, gc_set hbl, inBlk_some, valOf]
    · refine ⟨3, _, _, _, ls, l, ts, rfl, ?_, r1.mono hvf, r2.mono hvf, r3, hts.mono hvf⟩
      exact hfin ((x4.trans x45 (zs := [H1.length, H.length]) (fun b h _ => by simp only [List.mem_singleton] at h; simp [h]) (fun _ h _ => by cases h)).trans xs5 (fun _ h _ => h) (fun b h _ => by simp only [List.mem_singleton] at h; simp [h])) (fun b h => by simp only [List.mem_cons, List.not_mem_nil, or_false] at h; omega)
  refine seq_cond (t := false) (by simp only [go_sem, binC]; simp [h0]) ?_
  simp only [go_sem, binC]
  refine seq_skip (seq_reg ?_)
  simp only [go_sem, binC]
  obtain ⟨v4, H4, p4, k4, x4, s4, c4, d, lv, sv, ls, l, rfl, r1, r2, r3, r4, r5⟩ := gan hc H3 (0 + 1) H.length hs3 (by omega) (by omega) (by omega)
  refine op_callN (by simp only [go_sem, binC]; exact k4) ?_
  obtain ⟨_, la, rfl, _⟩ := id r1
  obtain ⟨_, sa, rfl, _⟩ := id r2
  have hl4 := x4.1
  simp only [go_sem, binC]
  obtain ⟨v5, H5, p5, k5, x5, s5, c5, ts, hts, htl⟩ := gtr hc H4 p4 H.length s4 (by omega) (by omega) (by omega)
  refine op_callN (by simp only [go_sem, binC]; exact k5) ?_
  obtain ⟨_, ta, rfl, _⟩ := id hts
  have hb5 := x5.get (x4.get hb3 (by simp; omega)) (by simp; omega)
  have hbl := (List.getElem?_eq_some_iff.1 hb5).1
  have hl5 := x5.1
  simp only [go_sem, binC, hb5]
  have xs5 := AgX.set H5 H.length ⟨[.slice la ls.length ls.length, .slice sa l.length l.length], 0, 0, false, true⟩
  have hvf : Sub (vwl H3.length [] H4) (vw 0 (H5.set H.length ⟨[.slice la ls.length ls.length, .slice sa l.length l.length], 0, 0, false, true⟩)) := ((vwl_sub x5 (Nat.le_refl _) (xs' := []) fun b' h1 h2 _ => ⟨by simp; omega, by simp⟩ : Sub (vwl H3.length [] H4) (vwl H3.length [] H5)).trans (vwl_sub xs5 (Nat.le_refl _) (xs' := []) fun b' h1 h2 _ => ⟨by simp; omega, by simp⟩)).trans (vwl0 _ _ _)
  have hvn : Sub (vwl H4.length [] H5) (vw 0 (H5.set H.length ⟨[.slice la ls.length ls.length, .slice sa l.length l.length], 0, 0, false, true⟩)) := (vwl_sub xs5 (Nat.le_refl _) (xs' := []) fun b' h1 h2 _ => ⟨by simp; omega, by simp⟩).trans (vwl0 _ _ _)
  refine wpc_ret ⟨Or.inr rfl, .tuple #[.agg #[.slice la ls.length ls.length, .slice sa l.length l.length], .slice ta ts.length ts.length], ?_, ?_⟩
  · simp [resV, resL, res1, putE_get, notT, ptr, gc_set hbl, inBlk_some, valOf]
  · refine ⟨d, _, _, _, ls, l, ts, rfl, ?_, r1.mono hvf, r2.mono hvf, r3, hts.mono hvn⟩
    exact hfin ((x4.tr x5).trans xs5 (zs := [H1.length, H.length]) (fun b h _ => by simp only [List.mem_singleton] at h; simp [h]) (fun b h _ => by simp only [List.mem_singleton] at h; simp [h])) (fun b h => by simp only [List.mem_cons, List.not_mem_nil, or_false] at h; omega)
def PlanEq (F : Nat → Option IFn) (f : Nat) : Prop := ∀ (H : Heap) (v1 v2 v3 w1 w2 w3 : Value) (a1 a2 a3 b1 b2 b3 : List Int), SlR Co.int (vw 0 H) v1 a1 → SlR Co.int (vw 0 H) v2 a2 → SlR Co.int (vw 0 H) v3 a3 → SlR Co.int (vw 0 H) w1 b1 → SlR Co.int (vw 0 H) w2 b2 → SlR Co.int (vw 0 H) w3 b3 → QC F f [.agg #[v1, v2, v3], .agg #[w1, w2, w3]] H (.bool (decide (a1 = b1) && (decide (a2 = b2) && decide (a3 = b3))))
theorem lcPlan_ok {F : Nat → Option IFn} {f : Nat} (hf : F f = some c_lcPlan) (gi : IntsOk F 34) : PlanEq F f := by
  intro H v1 v2 v3 w1 w2 w3 a1 a2 a3 b1 b2 b3 h1 h2 h3 k1 k2 k3
  obtain ⟨_, p1, rfl, _⟩ := id h1
  obtain ⟨_, p2, rfl, _⟩ := id h2
  obtain ⟨_, p3, rfl, _⟩ := id h3
  obtain ⟨_, q1, rfl, _⟩ := id k1
  obtain ⟨_, q2, rfl, _⟩ := id k2
  obtain ⟨_, q3, rfl, _⟩ := id k3
  refine QC.mk hf rfl ?_
  refine seq_reg ?_
  simp only [go_sem, binC]
  refine wpc_gen fun H1 hH1 => ?_
  have hx1 : AgX [] H H1 := hH1 ▸ AgX.app [] _ _
  have hb2 : H1[H.length]? = some ⟨[.slice p1 a1.length a1.length, .slice p2 a2.length a2.length, .slice p3 a3.length a3.length], 0, 0, false, true⟩ := hH1 ▸ get_new0 _ _
  have hb3 : H1[H.length + 1]? = some ⟨[.slice q1 b1.length b1.length, .slice q2 b2.length b2.length, .slice q3 b3.length b3.length], 0, 0, false, true⟩ := hH1 ▸ get_new _ _ 1
  clear hH1
  have hS := agx_sub hx1
  refine seq_reg ?_
  simp only [go_sem, binC, gc_of hb2, gc_of hb3, inBlk_some]
  refine op_callQ (by simp only [go_sem, binC]; exact gi H1 _ _ _ _ (h1.mono hS) (k1.mono hS)) ?_
  cases e1 : decide (a1 = b1) with
  | false =>
    simp only [go_sem, binC]
    exact wpc_ret ⟨Or.inr rfl, .bool false, (by (simp only [go_sem, binC]) <;> rfl), rfl, rfl⟩
  | true =>
  simp only [go_sem, binC, gc_of hb2, gc_of hb3, inBlk_some]
  refine op_callQ (by simp only [go_sem, binC]; exact gi H1 _ _ _ _ (h2.mono hS) (k2.mono hS)) ?_
  cases e2 : decide (a2 = b2) with
  | false =>
    simp only [go_sem, binC]
    exact wpc_ret ⟨Or.inr rfl, .bool false, (by (simp only [go_sem, binC]) <;> rfl), rfl, rfl⟩
  | true =>
  simp only [go_sem, binC, gc_of hb2, gc_of hb3, inBlk_some]
  refine op_callQ (by simp only [go_sem, binC]; exact gi H1 _ _ _ _ (h3.mono hS) (k3.mono hS)) ?_
  simp only [go_sem, binC]
  exact wpc_ret ⟨Or.inr rfl, .bool (decide (a3 = b3)), (by (simp only [go_sem, binC]) <;> rfl), rfl, rfl⟩
end Go.Proofs.YtbjeldblaclpnaaI
end
section
/- Whether a plan is as it may be (the program's). -/
set_option linter.unusedVariables false
set_option linter.unusedSimpArgs false
namespace Go.Proofs.YtbjeldblaclpnaaI
open Go Go.RowKit
def c_iPlanOk : IFn := ⟨2, 82, [.t 4],
 .seq (.reg none [
    ⟨(some 2), none, .box (.t 0)⟩,
    ⟨(some 3), none, .box (.t 1)⟩,
    ⟨(some 4), none, .mov (.c (.bool false))⟩])
 (.seq (.seq (.reg (some 24) [
     ⟨(some 10), none, .load true 2 (.t 2)⟩,
     ⟨(some 11), none, .call .q (.f 43) [(.t 10)]⟩,
     ⟨(some 12), none, .un .not (.t 11)⟩,
     ⟨(some 13), none, .mov (.t 12)⟩,
     ⟨(some 14), (some (13, false)), .fad 0 (.t 3)⟩,
     ⟨(some 15), (some (13, false)), .load false 1 (.t 14)⟩,
     ⟨(some 16), (some (13, false)), .call .q (.f 52) [(.t 15)]⟩,
     ⟨(some 17), (some (13, false)), .un .not (.t 16)⟩,
     ⟨(some 18), none, .pick (.t 13) (.c (.bool true)) (.t 17)⟩,
     ⟨(some 19), none, .mov (.t 18)⟩,
     ⟨(some 20), (some (19, false)), .fad 1 (.t 3)⟩,
     ⟨(some 21), (some (19, false)), .load false 1 (.t 20)⟩,
     ⟨(some 22), (some (19, false)), .fad 0 (.t 2)⟩,
     ⟨(some 23), (some (19, false)), .load false 1 (.t 22)⟩,
     ⟨(some 24), (some (19, false)), .len (.t 23)⟩,
     ⟨(some 25), (some (19, false)), .call .q (.f 63) [(.t 21), (.t 24)]⟩,
     ⟨(some 26), (some (19, false)), .un .not (.t 25)⟩,
     ⟨(some 27), none, .pick (.t 19) (.c (.bool true)) (.t 26)⟩,
     ⟨(some 28), none, .mov (.t 27)⟩,
     ⟨(some 29), (some (28, false)), .fad 2 (.t 3)⟩,
     ⟨(some 30), (some (28, false)), .load false 1 (.t 29)⟩,
     ⟨(some 31), (some (28, false)), .fad 1 (.t 2)⟩,
     ⟨(some 32), (some (28, false)), .load false 1 (.t 31)⟩,
     ⟨(some 33), (some (28, false)), .call .q (.f 62) [(.t 32)]⟩,
     ⟨(some 34), (some (28, false)), .call .q (.f 63) [(.t 30), (.t 33)]⟩,
     ⟨(some 35), (some (28, false)), .un .not (.t 34)⟩,
     ⟨(some 36), none, .pick (.t 28) (.c (.bool true)) (.t 35)⟩])
  (.cond (.t 36) (.seq (.reg none [
      ⟨(some 4), none, .mov (.c (.bool false))⟩])
   (.ret)) (.skip)))
 (.seq (.seq (.reg none [
     ⟨(some 37), none, .fad 1 (.t 3)⟩,
     ⟨(some 38), none, .load false 1 (.t 37)⟩,
     ⟨(some 39), none, .len (.t 38)⟩,
     ⟨(some 40), none, .mov (.c (.int .i64 0))⟩])
  (.block 0 (.loop (.seq (.reg none [
       ⟨(some 41), none, .bin .lss (.t 40) (.t 39)⟩])
    (.seq (.cond (.t 41) (.skip) (.exit 0))
    (.seq (.block 1 (.seq (.reg none [
         ⟨(some 42), none, .mov (.t 40)⟩,
         ⟨(some 43), none, .iad 1 (.t 38) (.t 40)⟩,
         ⟨(some 44), none, .load false 1 (.t 43)⟩,
         ⟨(some 5), none, .mov (.t 42)⟩,
         ⟨(some 6), none, .mov (.t 44)⟩])
      (.seq (.reg none [
         ⟨(some 45), none, .load true 2 (.t 2)⟩,
         ⟨(some 46), none, .fad 0 (.t 3)⟩,
         ⟨(some 47), none, .load false 1 (.t 46)⟩,
         ⟨(some 48), none, .mov (.t 5)⟩,
         ⟨(some 49), none, .mov (.t 6)⟩,
         ⟨(some 50), none, .call .q (.f 64) [(.t 45), (.t 47), (.t 48), (.t 49)]⟩,
         ⟨(some 51), none, .un .not (.t 50)⟩])
      (.cond (.t 51) (.seq (.reg none [
          ⟨(some 4), none, .mov (.c (.bool false))⟩])
       (.ret)) (.skip)))))
    (.reg none [
      ⟨(some 52), none, .bin .add (.t 40) (.c (.int .i64 1))⟩,
      ⟨(some 40), none, .mov (.t 52)⟩])))))))
 (.seq (.reg none [
    ⟨(some 53), none, .load true 2 (.t 2)⟩,
    ⟨(some 54), none, .call .k (.f 53) [(.t 53)]⟩,
    ⟨(some 7), none, .mov (.t 54)⟩])
 (.seq (.seq (.reg none [
     ⟨(some 55), none, .fad 1 (.t 2)⟩,
     ⟨(some 56), none, .load false 1 (.t 55)⟩,
     ⟨(some 57), none, .call .k (.f 55) [(.t 56)]⟩,
     ⟨(some 58), none, .len (.t 57)⟩,
     ⟨(some 59), none, .mov (.c (.int .i64 0))⟩])
  (.block 2 (.loop (.seq (.reg none [
       ⟨(some 60), none, .bin .lss (.t 59) (.t 58)⟩])
    (.seq (.cond (.t 60) (.skip) (.exit 2))
    (.seq (.block 3 (.seq (.reg none [
         ⟨(some 61), none, .mov (.t 59)⟩,
         ⟨(some 62), none, .iad 8 (.t 57) (.t 59)⟩,
         ⟨(some 63), none, .load true 8 (.t 62)⟩,
         ⟨(some 9), none, .new [(.int .i64 0), (.int .i64 0), (.int .i64 0), (.int .i64 0), (.int .i64 0), (.int .i64 0), (.slice none 0 0), (.slice none 0 0)]⟩,
         ⟨(some 8), none, .mov (.t 61)⟩,
         ⟨none, none, .store 8 (.t 9) (.t 63)⟩])
      (.seq (.reg (some 15) [
         ⟨(some 64), none, .load true 2 (.t 2)⟩,
         ⟨(some 65), none, .fad 0 (.t 3)⟩,
         ⟨(some 66), none, .load false 1 (.t 65)⟩,
         ⟨(some 67), none, .fad 1 (.t 3)⟩,
         ⟨(some 68), none, .load false 1 (.t 67)⟩,
         ⟨(some 69), none, .load true 8 (.t 9)⟩,
         ⟨(some 70), none, .mov (.t 7)⟩,
         ⟨(some 71), none, .mov (.t 8)⟩,
         ⟨(some 72), none, .iad 2 (.t 70) (.t 71)⟩,
         ⟨(some 73), none, .load true 2 (.t 72)⟩,
         ⟨(some 74), none, .fad 2 (.t 3)⟩,
         ⟨(some 75), none, .load false 1 (.t 74)⟩,
         ⟨(some 76), none, .mov (.t 8)⟩,
         ⟨(some 77), none, .iad 1 (.t 75) (.t 76)⟩,
         ⟨(some 78), none, .load false 1 (.t 77)⟩,
         ⟨(some 79), none, .call .q (.f 65) [(.t 64), (.t 66), (.t 68), (.t 69), (.t 73), (.t 78)]⟩,
         ⟨(some 80), none, .un .not (.t 79)⟩])
      (.cond (.t 80) (.seq (.reg none [
          ⟨(some 4), none, .mov (.c (.bool false))⟩])
       (.ret)) (.skip)))))
    (.reg none [
      ⟨(some 81), none, .bin .add (.t 59) (.c (.int .i64 1))⟩,
      ⟨(some 59), none, .mov (.t 81)⟩])))))))
 (.seq (.reg none [
    ⟨(some 4), none, .mov (.c (.bool true))⟩])
 (.ret))))))⟩
theorem hosts_all {l : List Int} : hostsB l = (List.range l.length).all fun j => inB (l.getD j 0) 0 2 := by
  rw [Bool.eq_iff_iff]
  unfold hostsB
  rw [List.all_eq_true, List.all_eq_true]
  constructor
  · intro h i hi
    have hil : i < l.length := by simpa using hi
    have := h l[i] (List.getElem_mem hil)
    simpa [List.getD, hil] using this
  · intro h x hx
    obtain ⟨i, hi, rfl⟩ := List.getElem_of_mem hx
    have := h i (by simpa using hi)
    simpa [List.getD, hi] using this
theorem allDo_hosts {n : Nat} {ls : List (Int × Int)} {l : List (TStep n)} {ts homes does : List Int} (h : hostsB does = false) : allDo n ls l ts homes does = false := by
  rw [Bool.eq_false_iff] at h ⊢
  intro h'
  refine h ?_
  rw [hosts_all]
  unfold allDo at h'
  rw [List.all_eq_true] at h' ⊢
  intro i hi
  have := h' i hi
  rw [Bool.and_eq_true] at this
  exact this.1
theorem iPlanOk_ok {F : Nat → Option IFn} {f : Nat} (hf : F f = some c_iPlanOk) (gty : TypeP F 43) (gt : TrOk F 52) (ghk : HostsI F 63) (gc : ∀ n, CntOk F 62 n) (ghm : HomeI F 64) (ga : AtP F 53) (gl : ∀ n, AllP F 55 n) (gd : DoesOk F 65) : PlanOkV F f := by
  intro H n lv sv tw hw dw ls l ts homes does r1 r2 hsm r3 r4 r5
  have osv : one sv = true := by obtain ⟨_, a, rfl, _⟩ := r2; rfl
  obtain ⟨_, la, rfl, _⟩ := id r1
  obtain ⟨_, ta, rfl, _⟩ := id r3
  obtain ⟨_, ha, rfl, _⟩ := id r4
  obtain ⟨hd0, da, rfl, _⟩ := id r5
  refine QC.mk hf rfl ?_
  refine seq_reg ?_
  simp only [go_sem, binC, osv]
  refine wpc_gen fun H1 hH1 => ?_
  have hx1 : AgX [] H H1 := hH1 ▸ AgX.app [] _ _
  have hb : H1[H.length]? = some ⟨[.slice la ls.length ls.length, sv], 0, 0, false, true⟩ := hH1 ▸ get_new0 _ _
  have hb3 : H1[H.length + 1]? = some ⟨[.slice ta ts.length ts.length, .slice ha homes.length homes.length, .slice da does.length does.length], 0, 0, false, true⟩ := hH1 ▸ get_new _ _ 1
  clear hH1
  have hS := agx_sub hx1
  have hl1 := (List.getElem?_eq_some_iff.1 hb3).1
  have hcntz : progB n (ls, l) = true → sizeV n (ls, l) = ((allL n l).length : Int) := sizeV_yes
  unfold planOkV
  show wpc F H.length _ _ _ (fin _ fun w _ => w = .bool (typeP n (ls, l) && (trK ts && (homesB ls.length homes && (decide ((does.length : Int) = sizeV n (ls, l)) && (allHome ls ts homes && allDo n ls l ts homes does))))) ∧ scal w = true)
  generalize sizeV n (ls, l) = z at *
  refine seq_assoc (seq_regD ?_)
  simp only [go_sem, binC, gc_of hb, inBlk_some, osv]
  refine op_callQ (by simp only [go_sem, binC]; exact gty H1 n _ _ ls l (r1.mono hS) (r2.mono hS) hsm) ?_
  cases hT : typeP n (ls, l) with
  | false =>
    simp only [go_sem, binC]
    refine seq_cond (t := true) rfl ?_
    simp only [go_sem, binC]
    refine seq_assoc (seq_reg ?_)
    simp only [go_sem, binC]
    exact seq_ret ⟨Or.inr rfl, .bool false, (by (simp only [go_sem, binC]) <;> rfl), rfl, rfl⟩
  | true =>
  have hP : progB n (ls, l) = true := by
    unfold typeP at hT
    simp only [Bool.and_eq_true] at hT
    exact hT.1
  simp only [go_sem, binC, gc_of hb3, inBlk_some]
  refine op_callQ (by simp only [go_sem, binC]; exact gt.k H1 _ ts (r3.mono hS)) ?_
  cases hk : trK ts with
  | false =>
    simp only [go_sem, binC]
    refine seq_cond (t := true) rfl ?_
    simp only [go_sem, binC]
    refine seq_assoc (seq_reg ?_)
    simp only [go_sem, binC]
    exact seq_ret ⟨Or.inr rfl, .bool false, (by (simp only [go_sem, binC]) <;> rfl), rfl, rfl⟩
  | true =>
  simp only [go_sem, binC, gc_of hb, gc_of hb3, inBlk_some]
  refine op_callQ (by simp only [go_sem, binC]; exact ghk H1 _ homes ls.length (r4.mono hS)) ?_
  have hhB : (decide ((homes.length : Int) = ls.length) && hostsB homes) = homesB ls.length homes := by
    unfold homesB
    congr 1
    exact decide_eq_decide.2 (by omega)
  rw [hhB]
  cases hh : homesB ls.length homes with
  | false =>
    simp only [go_sem, binC]
    refine seq_cond (t := true) rfl ?_
    simp only [go_sem, binC]
    refine seq_assoc (seq_reg ?_)
    simp only [go_sem, binC]
    exact seq_ret ⟨Or.inr rfl, .bool false, (by (simp only [go_sem, binC]) <;> rfl), rfl, rfl⟩
  | true =>
  simp only [go_sem, binC, gc_of hb, gc_of hb3, inBlk_some]
  have hsz := hcntz hP
  have hlab : ls.all labB = true := progB_lab hP
  have hls4 : ls.length ≤ 4 := progB_len hP
  have hcnt : (allL n l).length ≤ 8 := progB_cnt hP hsm
  have hsl := allSL_len l
  have hho := homesB_iff.1 hh
  have hcw : Wr (cntL n l) = z := by
    rw [cntL_len]
    unfold Wr
    rw [wrap_id (by omega) (by omega), hsz]
  refine op_callQ (by simp only [go_sem, binC]; exact gc n H1 sv l (r2.mono hS)) ?_
  rw [hcw]
  simp only [go_sem, binC]
  refine op_callQ (by simp only [go_sem, binC]; exact ghk H1 _ does z (r5.mono hS)) ?_
  cases hhd : (decide ((does.length : Int) = z) && hostsB does) with
  | false =>
    have hfin : (decide ((does.length : Int) = z) && (allHome ls ts homes && allDo n ls l ts homes does)) = false := by
      rcases Bool.and_eq_false_iff.1 hhd with h | h
      · rw [h]; rfl
      · rw [allDo_hosts h, Bool.and_false, Bool.and_false]
    rw [hfin]
    simp only [go_sem, binC]
    refine seq_cond (t := true) rfl ?_
    simp only [go_sem, binC]
    refine seq_assoc (seq_reg ?_)
    simp only [go_sem, binC]
    exact seq_ret ⟨Or.inr rfl, .bool false, (by (simp only [go_sem, binC]) <;> rfl), rfl, rfl⟩
  | true =>
  rw [Bool.and_eq_true, decide_eq_true_eq] at hhd
  obtain ⟨hz, hdB⟩ := hhd
  rw [decide_eq_true hz]
  simp only [go_sem, binC]
  refine seq_cond (t := false) rfl ?_
  simp only [go_sem, binC]
  refine seq_skip (seq_assoc (seq_reg ?_))
  simp only [go_sem, binC, gc_of hb3, inBlk_some]
  refine seq_block (wpc_loop ?_)
  have r41 := r4.mono hS
  suffices hh : ∀ (k v : Nat) (e : Env), v + k = homes.length → (∀ q, q < v → hmB ls ts q (homes.getD q 0) = true) → e 2 = ptr H.length 0 → e 3 = ptr (H.length + 1) 0 → e 38 = .slice ha homes.length homes.length → e 39 = .int .i64 homes.length → e 40 = .int .i64 v → Go.Proofs.YtbjeldblaclpnaaI.W F H.length _ e H1 _ from
    hh homes.length 0 _ (by omega) (fun q h => by omega) (by simp only [go_sem, binC]) (by simp only [go_sem, binC]) (by simp only [go_sem, binC]) (by simp only [go_sem, binC]) (by (simp only [go_sem, binC]) <;> rfl)
  intro k
  induction k with
  | zero =>
    intro v e hv hall e2 e3 e38 e39 e40
    have hAH : allHome ls ts homes = true := all_yes fun q hq => hall q (by have := hho.1; omega)
    rw [hAH]
    refine lp_step ?_
    refine seq_reg ?_
    simp only [go_sem, binC, e39, e40]
    refine seq_cond (t := false) (by simp only [go_sem, binC]; rw [decide_eq_false (by omega)]) ?_
    simp only [go_sem, binC]
    refine seq_exit ?_
    simp only [go_sem, binC, thenX_e, out_e, thenX_n]
    refine seq_reg ?_
    simp only [go_sem, binC, e2, gc_of hb, inBlk_some, osv]
    obtain ⟨wa, H2, k2, hx2, oa⟩ := ga H1 n _ sv ls l (r1.mono hS) (r2.mono hS) hsm hP
    refine op_callK (by simp only [go_sem, binC]; exact k2) ?_
    obtain ⟨aa, haa⟩ := oa.shape
    have hatl := atL_len ls (7, 7) l
    rw [hatl] at haa
    subst haa
    simp only [go_sem, binC]
    have hb2 := hx2.get hb (by simp)
    have hb32 := hx2.get hb3 (by simp)
    have hx02 := hx1.tr hx2
    refine seq_assoc (seq_reg ?_)
    simp only [go_sem, binC, e2, gc_of hb2, inBlk_some]
    obtain ⟨wl, H4, k4, hx4, ol⟩ := gl n (vw 0 H) H2 sv l (agx_sub hx02) r2 (by omega)
    refine op_callK (by simp only [go_sem, binC]; exact k4) ?_
    obtain ⟨al, hal⟩ := ol.shape
    rw [hsl] at hal
    subst hal
    simp only [go_sem, binC]
    have oa4 := oa.keep (Nat.le_refl _) hx4 (fun _ _ => by simp)
    have hallat : (atL n ls (7, 7) l).all labB = true := atL_lab hlab rfl l
    have hx14 := hx2.tr hx4
    have hl4 := hx14.1
    refine seq_block (wpc_loop ?_)
    suffices hh : ∀ (m j : Nat) (e : Env) (Hd : Heap), j + m = (allL n l).length → AgX [] H4 Hd → (∀ q, q < j → (inB (does.getD q 0) 0 2 && doN n ls l ts homes q (does.getD q 0)) = true) → e 2 = ptr H.length 0 → e 3 = ptr (H.length + 1) 0 → e 7 = .slice aa (allL n l).length (allL n l).length → e 57 = .slice al (allL n l).length (allL n l).length → e 58 = .int .i64 (allL n l).length → e 59 = .int .i64 j → Go.Proofs.YtbjeldblaclpnaaI.W F H.length _ e Hd _ from
      hh (allL n l).length 0 _ H4 (by omega) (AgX.refl _ _) (fun q h => by omega) (by simp only [go_sem, binC, e2]) (by simp only [go_sem, binC, e3]) (by simp only [go_sem, binC]) (by simp only [go_sem, binC]) (by simp only [go_sem, binC]) (by (simp only [go_sem, binC]) <;> rfl)
    clear e2 e3 e38 e39 e40
    intro m
    induction m with
    | zero =>
      intro j e Hd hj hxd hdo e2 e3 e7 e57 e58 e59
      have hAD : allDo n ls l ts homes does = true := all_yes fun q hq => hdo q (by omega)
      refine lp_step ?_
      refine seq_reg ?_
      simp only [go_sem, binC, e58, e59]
      refine seq_cond (t := false) (by simp only [go_sem, binC]; rw [decide_eq_false (by omega)]) ?_
      simp only [go_sem, binC]
      refine seq_exit ?_
      simp only [go_sem, binC, thenX_e, out_e, thenX_n]
      refine seq_reg ?_
      simp only [go_sem, binC]
      rw [hAD]
      exact wpc_ret ⟨Or.inr rfl, .bool true, (by (simp only [go_sem, binC]) <;> rfl), rfl, rfl⟩
    | succ m ih2 =>
      intro j e Hd hj hxd hdo e2 e3 e7 e57 e58 e59
      have hjl : j < (allL n l).length := by omega
      have hja : j < (atL n ls (7, 7) l).length := by omega
      have hjs : j < (allSL n l).length := by omega
      have hjd : j < does.length := by omega
      have hw2 : IntKind.i64.wrap ((j : Int) + 1) = ((j + 1 : Nat) : Int) := by rw [wrap_id (by omega) (by omega)]; omega
      have hx1d := hx14.tr hxd
      have hx0d := hx1.tr hx1d
      have hb2d := hx1d.get hb (by simp)
      have hb3d := hx1d.get hb3 (by simp)
      have hno : (inB (does.getD j 0) 0 2 && doN n ls l ts homes j (does.getD j 0)) = false → allDo n ls l ts homes does = false := fun h => all_no hjd h
      have hin : inB (does.getD j 0) 0 2 = true := by
        rw [hosts_all] at hdB
        exact List.all_eq_true.1 hdB j (by simpa using hjd)
      have qd := inB_iff.1 hin
      have hdoe := doN_eq (ts := ts) (homes := homes) (h := does.getD j 0) hjs hja
      obtain ⟨db, do_, hdv, hdg⟩ := gcD (r5.mono (agx_sub hx0d)) hjd
      simp only [Value.slice.injEq, and_true] at hdv
      subst hdv
      obtain ⟨ba, ca, hwa, gca, rda⟩ := (oa4.keep (Nat.le_refl _) hxd (fun _ _ => by simp)).at hja
      rw [hatl] at hwa
      simp only [Value.slice.injEq, and_true] at hwa
      subst hwa
      obtain ⟨bs, cs, hws, gcs, rds⟩ := (ol.keep (Nat.le_refl _) hxd (fun _ _ => by simp)).at hjs
      rw [hsl] at hws
      simp only [Value.slice.injEq, and_true] at hws
      subst hws
      have hokj := progB_okA hP (List.getElem_mem hjs)
      have hoj : labB (atL n ls (7, 7) l)[j] = true := List.all_eq_true.1 hallat _ (List.getElem_mem hja)
      generalize (atL n ls (7, 7) l)[j] = hr at rda hoj hdoe
      generalize (allSL n l)[j] = sj at rds hokj hdoe
      obtain ⟨ra, rb⟩ := hr
      obtain ⟨_, _, rfl, ⟨hq1, _⟩, ⟨hq2, _⟩⟩ := rda
      simp only at hq1 hq2
      subst hq1 hq2
      have rdsc := rds
      obtain ⟨sk, sx, sa, sbb, sc, sg, tv, ev, tl, el, hs2, hcs, rg, otv, oev, _, _⟩ := anyS_rd rds
      subst hcs
      have hldd := hx0d.1
      refine lp_step ?_
      refine seq_reg ?_
      simp only [go_sem, binC, e58, e59]
      refine seq_cond (t := true) (by simp only [go_sem, binC]; rw [decide_eq_true (by omega)]) ?_
      simp only [go_sem, binC]
      refine seq_skip (seq_block (seq_reg ?_))
      simp only [go_sem, binC, e57, e59]
      refine ⟨⟨by omega, by omega⟩, ?_⟩
      simp only [go_sem, binC, Int.toNat_natCast, Nat.zero_add, gcs, otv, oev]
      refine ⟨by omega, ?_⟩
      refine wpc_gen fun H5 hH5 => ?_
      have hx5 : AgX [] Hd H5 := hH5 ▸ AgX.app [] _ _
      have hs5 : H5[Hd.length]? = some ⟨[.int .i64 sk, .int .i64 sx, .int .i64 sa, .int .i64 sbb, .int .i64 sc, .int .i64 sg, tv, ev], 0, 0, false, true⟩ := hH5 ▸ get_new0 _ _
      clear hH5
      have hb25 := hx5.get hb2d (by simp)
      have hb35 := hx5.get hb3d (by simp)
      have gca5 := gcK gca hx5
      have hdg5 := gcK hdg hx5
      have hx05 := hx0d.tr hx5
      refine seq_regD ?_
      simp only [go_sem, binC, e2, e3, e7, gc_of hb25, gc_of hb35, gc_of hs5, inBlk_some, osv, otv, oev]
      refine ⟨⟨by omega, by omega⟩, ?_⟩
      simp only [go_sem, binC, Int.toNat_natCast, Nat.zero_add, gca5, e3, gc_of hb35, inBlk_some]
      refine ⟨⟨by omega, by omega⟩, ?_⟩
      simp only [go_sem, binC, Int.toNat_natCast, Nat.mul_one, hdg5]
      refine op_callQ (by simp only [go_sem, binC]; exact gd H5 _ sv _ _ _ ls ts homes sj (ra, rb) (does.getD j 0) osv (r1.mono (agx_sub hx05)) hlab (r3.mono (agx_sub hx05)) (trK_iff.1 hk) (r4.mono (agx_sub hx05)) hho (Co.anyS.mono (agx_sub hx05) rdsc) hokj hoj qd.1 qd.2) ?_
      rw [← hdoe]
      cases hst : doN n ls l ts homes j (does.getD j 0) with
      | false =>
        simp only [go_sem, binC]
        refine wpc_cond (t := true) rfl ?_
        simp only [go_sem, binC]
        refine seq_reg ?_
        simp only [go_sem, binC]
        refine wpc_ret ?_
        simp only [go_sem, binC, out_r, thenX_r]
        refine ⟨Or.inr rfl, .bool false, (by (simp only [go_sem, binC]) <;> rfl), ?_, rfl⟩
        rw [hno (by rw [hin, hst]; rfl)]
      | true =>
        simp only [go_sem, binC]
        refine wpc_cond (t := false) rfl ?_
        simp only [go_sem, binC]
        refine wpc_skip ?_
        simp only [go_sem, binC, out_n, thenX_n]
        refine wpc_reg ?_
        simp only [go_sem, binC, e59, hw2]
        simp only [go_sem, binC, thenX_n]
        refine ih2 (j + 1) _ H5 (by omega) (hxd.tr hx5) (fun q hq => ?_) (by simp only [go_sem, binC, e2]) (by simp only [go_sem, binC, e3]) (by simp only [go_sem, binC, e7]) (by simp only [go_sem, binC, e57]) (by simp only [go_sem, binC, e58]) (by simp only [go_sem, binC])
        by_cases hqj : q = j
        · subst hqj; rw [hin, hst]; rfl
        · exact hdo q (by omega)
  | succ k ih =>
    intro v e hv hall e2 e3 e38 e39 e40
    have hvh : v < homes.length := by omega
    have hvl : v < ls.length := by have := hho.1; omega
    have hw1 : IntKind.i64.wrap ((v : Int) + 1) = ((v + 1 : Nat) : Int) := by rw [wrap_id (by omega) (by omega)]; omega
    obtain ⟨hb', ho', hhv, hhg⟩ := gcD r41 hvh
    simp only [Value.slice.injEq, and_true] at hhv
    subst hhv
    have hrg : 0 ≤ homes.getD v 0 ∧ homes.getD v 0 ≤ 2 := by
      have := hho.2 homes[v] (List.getElem_mem hvh)
      simpa [List.getD, hvh] using this
    refine lp_step ?_
    refine seq_reg ?_
    simp only [go_sem, binC, e39, e40]
    refine seq_cond (t := true) (by simp only [go_sem, binC]; rw [decide_eq_true (by omega)]) ?_
    simp only [go_sem, binC]
    refine seq_skip (seq_block (seq_reg ?_))
    simp only [go_sem, binC, e38, e40]
    refine ⟨⟨by omega, by omega⟩, ?_⟩
    simp only [go_sem, binC, Int.toNat_natCast, Nat.mul_one, hhg]
    refine seq_reg ?_
    simp only [go_sem, binC, e2, e3, gc_of hb, gc_of hb3, inBlk_some, osv]
    refine op_callQ (by simp only [go_sem, binC]; exact ghm H1 _ _ _ ls ts v (homes.getD v 0) osv (r1.mono hS) hlab (r3.mono hS) (trK_iff.1 hk) (by omega) (by omega) hrg.1 hrg.2) ?_
    cases hp : hmB ls ts v (homes.getD v 0) with
    | false =>
      have hAH : allHome ls ts homes = false := all_no hvl hp
      simp only [go_sem, binC]
      refine wpc_cond (t := true) rfl ?_
      simp only [go_sem, binC]
      refine seq_reg ?_
      simp only [go_sem, binC]
      refine wpc_ret ?_
      simp only [go_sem, binC, out_r, thenX_r]
      refine ⟨Or.inr rfl, .bool false, (by (simp only [go_sem, binC]) <;> rfl), ?_, rfl⟩
      rw [hAH]
      rfl
    | true =>
      simp only [go_sem, binC]
      refine wpc_cond (t := false) rfl ?_
      simp only [go_sem, binC]
      refine wpc_skip ?_
      simp only [go_sem, binC, out_n, thenX_n]
      refine wpc_reg ?_
      simp only [go_sem, binC, e40, hw1]
      simp only [go_sem, binC, thenX_n]
      refine ih (v + 1) _ (by omega) (fun q hq => ?_) (by simp only [go_sem, binC, e2]) (by simp only [go_sem, binC, e3]) (by simp only [go_sem, binC, e38]) (by simp only [go_sem, binC, e39]) (by simp only [go_sem, binC])
      by_cases hqv : q = v
      · subst hqv; exact hp
      · exact hall q (by omega)
end Go.Proofs.YtbjeldblaclpnaaI
end
section
/- The law FnPlanMore on the ideal machine. -/
set_option linter.unusedVariables false
set_option linter.unusedSimpArgs false
namespace Go.Proofs.YtbjeldblaclpnaaI
open Go Go.RowKit
theorem witB7 (a : Int) : witB a 7 = true := by
  simp [witB, show hasB 7 0 = true by decide, show hasB 7 1 = true by decide, show hasB 7 2 = true by decide]
theorem planOkV_iff {n : Nat} {p : TProg n} {ts homes does : List Int} : planOkV n p ts homes does = true ↔ typeP n p = true ∧ trK ts = true ∧ homesB p.1.length homes = true ∧ (does.length : Int) = sizeV n p ∧ (∀ v, v < p.1.length → hmB p.1 ts v (homes.getD v 0) = true) ∧ (∀ j, j < does.length → (0 ≤ does.getD j 0 ∧ does.getD j 0 ≤ 2) ∧ doN n p.1 p.2 ts homes j (does.getD j 0) = true) := by
  unfold planOkV allHome allDo
  simp only [Bool.and_eq_true, decide_eq_true_eq, List.all_eq_true, List.mem_range, inB_iff]
end Go.Proofs.YtbjeldblaclpnaaI
end
section
/- What is found; the law FnPlanFind on the ideal machine. -/
set_option linter.unusedVariables false
set_option linter.unusedSimpArgs false
namespace Go.Proofs.YtbjeldblaclpnaaI
open Go Go.RowKit
def planL (o : Option (List Int)) (ts : List Int) (d : List Int → List Int) : List Int × List Int × List Int := match o with
  | none => ([], [], [])
  | some homes => (ts, homes, d homes)
theorem sl_nilS (H : Heap) : SlR Co.int (vw 0 H) nilS [] := ⟨by simp, none, rfl, .inl rfl⟩
theorem PlanR.sls {lo : Nat} {H : Heap} {tv hv dv : Value} {ts : List Int} {o : Option (List Int)} {d : List Int → List Int} (h : PlanR lo H tv hv dv ts o d) : SlR Co.int (vw 0 H) tv (planL o ts d).1 ∧ SlR Co.int (vw 0 H) hv (planL o ts d).2.1 ∧ SlR Co.int (vw 0 H) dv (planL o ts d).2.2 := by
  cases o with
  | none =>
    obtain ⟨rfl, rfl, rfl⟩ := h
    exact ⟨sl_nilS H, sl_nilS H, sl_nilS H⟩
  | some homes =>
    have h : PlanOwn lo H tv hv dv ts homes (d homes) := h
    exact ⟨(h.t (vw 0 H)).sl rfl (fun _ _ h => h), (h.h (vw 0 H)).sl rfl (fun _ _ h => h), (h.d (vw 0 H)).sl rfl (fun _ _ h => h)⟩
theorem PlanZ.sls {lo : Nat} {H : Heap} {tv hv dv : Value} {ts : List Int} {o : Option (List Int)} {d : List Int → List Int} (h : PlanZ lo H tv hv dv ts o d) : SlR Co.int (vw 0 H) tv (planL o ts d).1 ∧ SlR Co.int (vw 0 H) hv (planL o ts d).2.1 ∧ SlR Co.int (vw 0 H) dv (planL o ts d).2.2 := by
  cases o with
  | none =>
    obtain ⟨rfl, rfl, rfl⟩ := h
    exact ⟨sl_nilS H, sl_nilS H, sl_nilS H⟩
  | some homes =>
    obtain ⟨b1, b2, b3, rfl, rfl, rfl, o1, o2, o3, _⟩ := h
    exact ⟨o1.sl, o2.sl, o3.sl⟩
end Go.Proofs.YtbjeldblaclpnaaI
end
section
/- The draw DrawPlanStep. -/
set_option linter.unusedVariables false
set_option linter.unusedSimpArgs false
namespace Go.Proofs.YtbjeldblaclpnaaI
open Go Go.RowKit
end Go.Proofs.YtbjeldblaclpnaaI
end
section
/- The law FnPlanOk on the ideal machine. -/
set_option linter.unusedVariables false
set_option linter.unusedSimpArgs false
namespace Go.Proofs.YtbjeldblaclpnaaI
open Go Go.RowKit
def c_iProgSize : IFn := ⟨1, 9, [.t 2],
 .seq (.reg none [
    ⟨(some 1), none, .box (.t 0)⟩,
    ⟨(some 2), none, .mov (.c (.int .i64 0))⟩])
 (.seq (.seq (.reg none [
     ⟨(some 3), none, .load true 2 (.t 1)⟩,
     ⟨(some 4), none, .call .q (.f 61) [(.t 3)]⟩,
     ⟨(some 5), none, .un .not (.t 4)⟩])
  (.cond (.t 5) (.seq (.reg none [
      ⟨(some 2), none, .mov (.c (.int .i64 (-1)))⟩])
   (.ret)) (.skip)))
 (.seq (.reg none [
    ⟨(some 6), none, .fad 1 (.t 1)⟩,
    ⟨(some 7), none, .load false 1 (.t 6)⟩,
    ⟨(some 8), none, .call .q (.f 62) [(.t 7)]⟩,
    ⟨(some 2), none, .mov (.t 8)⟩])
 (.ret)))⟩
def SizeOk (F : Nat → Option IFn) (f : Nat) : Prop := ∀ (H : Heap) (n : Nat) (lv sv : Value) (ls : List (Int × Int)) (l : List (TStep n)), SlR Co.p2 (vw 0 H) lv ls → SlR (Co.step n) (vw 0 H) sv l → (Co.prog n).sm (ls, l) → progB n (ls, l) = true → QC F f [.agg #[lv, sv]] H (.int .i64 ((allL n l).length : Int))
theorem iProgSize_ok {F : Nat → Option IFn} {f : Nat} (hf : F f = some c_iProgSize) (gp : ProgOk F 61) (gc : ∀ n, CntOk F 62 n) : SizeOk F f := by
  intro H n lv sv ls l r1 r2 hsm hP
  have olv : one lv = true := by obtain ⟨_, a, rfl, _⟩ := r1; rfl
  have osv : one sv = true := by obtain ⟨_, a, rfl, _⟩ := r2; rfl
  refine QC.mk hf rfl ?_
  refine seq_reg ?_
  simp only [go_sem, binC, olv, osv]
  refine wpc_gen fun H1 hH1 => ?_
  have hx1 : AgX [] H H1 := hH1 ▸ AgX.app [] _ _
  have hb : H1[H.length]? = some ⟨[lv, sv], 0, 0, false, true⟩ := hH1 ▸ get_new0 _ _
  clear hH1
  have hS := agx_sub hx1
  refine seq_assoc (seq_reg ?_)
  simp only [go_sem, binC, gc_of hb, inBlk_some, olv, osv]
  refine op_callQ (by simp only [go_sem, binC]; exact gp H1 n _ (ls, l) (prog_rd (r1.mono hS) (r2.mono hS)) hsm) ?_
  simp only [go_sem, binC, hP]
  refine seq_cond (t := false) rfl ?_
  simp only [go_sem, binC]
  refine seq_skip (seq_reg ?_)
  simp only [go_sem, binC, gc_of hb, inBlk_some]
  refine op_callQ (by simp only [go_sem, binC]; exact gc n H1 sv l (r2.mono hS)) ?_
  simp only [go_sem, binC]
  refine wpc_ret ⟨Or.inr rfl, _, (by (simp only [go_sem, binC]) <;> rfl), ?_, rfl⟩
  have hc := progB_cnt hP hsm
  simp only at hc
  rw [cntL_len]
  unfold Wr
  rw [wrap_id (by omega) (by omega)]
end Go.Proofs.YtbjeldblaclpnaaI
end
section
/- The law FnPlanStepMore on the ideal machine. -/
set_option linter.unusedVariables false
set_option linter.unusedSimpArgs false
namespace Go.Proofs.YtbjeldblaclpnaaI
open Go Go.RowKit
end Go.Proofs.YtbjeldblaclpnaaI
end
section
/- The law FnPlanStep on the ideal machine. -/
set_option linter.unusedVariables false
set_option linter.unusedSimpArgs false
namespace Go.Proofs.YtbjeldblaclpnaaI
open Go Go.RowKit
def c_lcHas : IFn := ⟨2, 10, [.t 4],
 .seq (.reg none [
    ⟨(some 4), none, .mov (.c (.bool false))⟩])
 (.seq (.reg none [
    ⟨(some 5), none, .mov (.t 0)⟩,
    ⟨(some 6), none, .mov (.t 1)⟩,
    ⟨(some 7), none, .bin .shr (.t 5) (.t 6)⟩,
    ⟨(some 8), none, .bin .rem (.t 7) (.c (.int .i64 2))⟩,
    ⟨(some 9), none, .bin .eql (.t 8) (.c (.int .i64 1))⟩,
    ⟨(some 4), none, .mov (.t 9)⟩])
 (.ret))⟩
theorem lcHas_ok {F : Nat → Option IFn} {f : Nat} (hf : F f = some c_lcHas) : ∀ (H : Heap) (s h : Int), 0 ≤ s → s ≤ 7 → 0 ≤ h → h ≤ 2 → QC F f [.int .i64 s, .int .i64 h] H (.bool (hasB s h)) := by
  intro H s h h1 h2 h3 h4
  have hB := has_rem h1 h2 h3 h4
  refine QC.mk hf rfl ?_
  refine seq_reg ?_
  simp only [go_sem, binC]
  refine seq_reg ?_
  simp only [go_sem, binC]
  refine shr_rule (by omega) ?_
  simp only [go_sem, binC]
  refine rem_rule ?_
  simp only [go_sem, binC]
  refine wpc_ret ⟨Or.inr rfl, _, (by (simp only [go_sem, binC]) <;> rfl), ?_, rfl⟩
  refine congrArg _ ?_
  by_cases h5 : hasB s h = true
  · rw [h5]; exact beq_t (hB.2 h5)
  · rw [Bool.not_eq_true] at h5
    rw [h5]
    exact beq_f (fun h6 => by rw [hB.1 h6] at h5; cases h5)
end Go.Proofs.YtbjeldblaclpnaaI
end
section
/- The law FnPlanAlone on the ideal machine. -/
set_option linter.unusedVariables false
set_option linter.unusedSimpArgs false
namespace Go.Proofs.YtbjeldblaclpnaaI
open Go Go.RowKit
def lawAlT : ICode := .seq (.reg (some 10) [
    ⟨(some 71), none, .lit 1 3 3 [(.int .i64 0), (.int .i64 0), (.int .i64 0)] [(0, 1, (.c (.int .i64 1))), (1, 1, (.c (.int .i64 3))), (2, 1, (.c (.int .i64 5)))]⟩,
    ⟨(some 72), none, .fad 0 (.t 3)⟩,
    ⟨(some 73), none, .load false 1 (.t 72)⟩,
    ⟨(some 74), none, .len (.t 73)⟩,
    ⟨(some 75), none, .mks 1 3 8 [(.int .i64 0)] (.t 74) (.t 74)⟩,
    ⟨(some 76), none, .load true 2 (.t 3)⟩,
    ⟨(some 77), none, .call .q (.f 20) [(.t 76)]⟩,
    ⟨(some 78), none, .mks 1 3 8 [(.int .i64 0)] (.t 77) (.t 77)⟩,
    ⟨(some 79), none, .build [(.slice none 0 0), (.slice none 0 0), (.slice none 0 0)] [(0, 1, (.t 71)), (1, 1, (.t 75)), (2, 1, (.t 78))]⟩,
    ⟨(some 11), none, .new [(.slice none 0 0), (.slice none 0 0), (.slice none 0 0)]⟩,
    ⟨none, none, .store 3 (.t 11) (.t 79)⟩])
 (.seq (.reg none [
    ⟨(some 80), none, .load true 2 (.t 3)⟩,
    ⟨(some 81), none, .load true 3 (.t 11)⟩,
    ⟨(some 82), none, .call .q (.f 21) [(.t 80), (.t 81)]⟩,
    ⟨(some 83), none, .mov (.t 9)⟩,
    ⟨(some 84), none, .beq false (.t 82) (.t 83)⟩,
    ⟨(some 2), none, .mov (.t 84)⟩])
 (.ret))
def c_lawAl : IFn := ⟨1, 85, [.t 2],
 .seq (.reg none [
    ⟨(some 2), none, .mov (.c (.bool false))⟩])
 (.seq (.seq (.reg none [
     ⟨(some 12), none, .mov (.t 0)⟩,
     ⟨(some 13), none, .len (.t 12)⟩,
     ⟨(some 14), none, .bin .gtr (.t 13) (.c (.int .i64 1048576))⟩])
  (.cond (.t 14) (.seq (.reg none [
      ⟨(some 2), none, .mov (.c (.bool true))⟩])
   (.ret)) (.skip)))
 (.seq (.reg none [
    ⟨(some 16), none, .mov (.t 0)⟩,
    ⟨(some 17), none, .call .k (.f 14) [(.t 16)]⟩,
    ⟨(some 15), none, .mov (.t 17)⟩,
    ⟨(some 18), none, .ext (.t 15) 0⟩,
    ⟨(some 19), none, .ext (.t 15) 1⟩,
    ⟨(some 3), none, .new [(.slice none 0 0), (.slice none 0 0)]⟩,
    ⟨none, none, .store 2 (.t 3) (.t 18)⟩,
    ⟨(some 4), none, .mov (.t 19)⟩])
 (.seq (.reg none [
    ⟨(some 21), none, .load true 2 (.t 3)⟩,
    ⟨(some 22), none, .mov (.t 4)⟩,
    ⟨(some 23), none, .call .k (.f 15) [(.t 21), (.t 22)]⟩,
    ⟨(some 20), none, .mov (.t 23)⟩,
    ⟨(some 24), none, .ext (.t 20) 0⟩,
    ⟨(some 25), none, .ext (.t 20) 1⟩,
    ⟨(some 5), none, .new [(.slice none 0 0), (.slice none 0 0), (.slice none 0 0)]⟩,
    ⟨none, none, .store 3 (.t 5) (.t 24)⟩,
    ⟨(some 6), none, .mov (.t 25)⟩])
 (.seq (.reg none [
    ⟨(some 27), none, .load true 2 (.t 3)⟩,
    ⟨(some 28), none, .mov (.t 4)⟩,
    ⟨(some 29), none, .call .k (.f 16) [(.t 27), (.t 28)]⟩,
    ⟨(some 26), none, .mov (.t 29)⟩,
    ⟨(some 30), none, .ext (.t 26) 0⟩,
    ⟨(some 31), none, .ext (.t 26) 1⟩,
    ⟨(some 7), none, .new [(.slice none 0 0), (.slice none 0 0), (.slice none 0 0)]⟩,
    ⟨none, none, .store 3 (.t 7) (.t 30)⟩,
    ⟨(some 8), none, .mov (.t 31)⟩])
 (.seq (.seq (.reg none [
     ⟨(some 32), none, .mov (.t 8)⟩,
     ⟨(some 33), none, .mov (.t 6)⟩,
     ⟨(some 34), none, .beq true (.t 32) (.t 33)⟩,
     ⟨(some 35), none, .mov (.t 34)⟩,
     ⟨(some 36), (some (35, false)), .load true 3 (.t 7)⟩,
     ⟨(some 37), (some (35, false)), .load true 3 (.t 5)⟩,
     ⟨(some 38), (some (35, false)), .call .q (.f 17) [(.t 36), (.t 37)]⟩,
     ⟨(some 39), (some (35, false)), .un .not (.t 38)⟩,
     ⟨(some 40), none, .pick (.t 35) (.c (.bool true)) (.t 39)⟩,
     ⟨(some 41), none, .mov (.t 40)⟩,
     ⟨(some 42), (some (41, false)), .load true 2 (.t 3)⟩,
     ⟨(some 43), (some (41, false)), .call .q (.f 18) [(.t 42)]⟩,
     ⟨(some 44), (some (41, false)), .un .not (.t 43)⟩,
     ⟨(some 45), none, .pick (.t 41) (.c (.bool true)) (.t 44)⟩])
  (.cond (.t 45) (.seq (.reg none [
      ⟨(some 46), none, .mov (.t 8)⟩,
      ⟨(some 47), none, .mov (.t 6)⟩,
      ⟨(some 48), none, .beq false (.t 46) (.t 47)⟩,
      ⟨(some 49), none, .mov (.t 48)⟩,
      ⟨(some 50), (some (49, true)), .load true 3 (.t 7)⟩,
      ⟨(some 51), (some (49, true)), .load true 3 (.t 5)⟩,
      ⟨(some 52), (some (49, true)), .call .q (.f 17) [(.t 50), (.t 51)]⟩,
      ⟨(some 53), none, .pick (.t 49) (.t 52) (.c (.bool false))⟩,
      ⟨(some 2), none, .mov (.t 53)⟩])
   (.ret)) (.skip)))
 (.seq (.reg none [
    ⟨(some 9), none, .mov (.c (.bool true))⟩])
 (.seq (.seq (.reg none [
     ⟨(some 10), none, .mov (.c (.int .i64 0))⟩])
  (.block 0 (.loop (.seq (.seq (.reg none [
        ⟨(some 54), none, .mov (.t 10)⟩,
        ⟨(some 55), none, .fad 0 (.t 3)⟩,
        ⟨(some 56), none, .load false 1 (.t 55)⟩,
        ⟨(some 57), none, .len (.t 56)⟩,
        ⟨(some 58), none, .bin .lss (.t 54) (.t 57)⟩])
     (.cond (.t 58) (.skip) (.exit 0)))
    (.seq (.block 1 (.reg none [
        ⟨(some 61), none, .mov (.t 9)⟩,
        ⟨(some 62), none, .mov (.t 61)⟩,
        ⟨(some 63), (some (62, true)), .fad 0 (.t 3)⟩,
        ⟨(some 64), (some (62, true)), .load false 1 (.t 63)⟩,
        ⟨(some 65), (some (62, true)), .mov (.t 10)⟩,
        ⟨(some 66), (some (62, true)), .iad 2 (.t 64) (.t 65)⟩,
        ⟨(some 67), (some (62, true)), .fad 0 (.t 66)⟩,
        ⟨(some 68), (some (62, true)), .load false 1 (.t 67)⟩,
        ⟨(some 69), (some (62, true)), .call .q (.f 19) [(.t 68), (.c (.int .i64 0))]⟩,
        ⟨(some 70), none, .pick (.t 62) (.t 69) (.c (.bool false))⟩,
        ⟨(some 9), none, .mov (.t 70)⟩]))
    (.reg none [
      ⟨(some 59), none, .mov (.t 10)⟩,
      ⟨(some 60), none, .bin .add (.t 59) (.c (.int .i64 1))⟩,
      ⟨(some 10), none, .mov (.t 60)⟩]))))))
 lawAlT)))))))⟩
theorem getD_rep0 (k v : Nat) : (List.replicate k (0 : Int)).getD v 0 = 0 := by
  simp only [List.getD, List.getElem?_replicate]
  split <;> rfl
theorem all_getD {α : Type} {P : α → Bool} {l : List α} {a : α} (h : l.all P = true) {i : Nat} (hi : i < l.length) : P (l.getD i a) = true := by
  have := List.all_eq_true.1 h _ (List.getElem_mem hi)
  simpa [List.getD, hi] using this
theorem atT_kn {ls : List (Int × Int)} (hl : ls.all labB = true) (hk : ∀ i, i < ls.length → hasB (ls.getD i (0, 0)).1 0 = true) : ∀ (n : Nat) (h : Int × Int) (s : TStep n), labB h = true → hasB h.1 0 = true → (∀ t ∈ allT n s, varB ls.length t.2.1 = true) → ∀ o ∈ atT n ls h s, hasB o.1 0 = true
  | 0, _, s, _, _, _ => s.elim
  | n + 1, h, (k, x, v, g, th, el), hh, h0, hv => by
    rw [allT_succ] at hv
    have go : ∀ (h : Int × Int) (l : List (TStep n)), labB h = true → hasB h.1 0 = true → (∀ t ∈ allL n l, varB ls.length t.2.1 = true) → ∀ o ∈ atL n ls h l, hasB o.1 0 = true := fun h l hh h0 hv o ho => by
      unfold atL at ho
      obtain ⟨aq, h1, h2⟩ := List.mem_flatten.1 ho
      obtain ⟨t, ht, rfl⟩ := List.mem_map.1 h1
      exact atT_kn hl hk n h t hh h0 (fun u hu => hv u (List.mem_flatten.2 ⟨_, List.mem_map_of_mem ht, hu⟩)) o h2
    have hx : varB ls.length x = true := hv _ List.mem_cons_self
    have hxi := varB_i.1 hx
    have hlx : labB (ls.getD x.toNat (0, 0)) = true := all_getD hl (by omega)
    have hkx := hk x.toNat (by omega)
    have hb : hasB (lboth h (ls.getD x.toNat (0, 0))).1 0 = true := by
      generalize ls.getD x.toNat (0, 0) = lx at *
      unfold lboth
      rw [hh, hlx]
      have b1 := labB_bd hh
      have b2 := labB_bd hlx
      simp only [Bool.and_self, if_true]
      rw [hasB_both b1.1 b2.1, h0, hkx]
      rfl
    intro o ho
    rw [atT_succ] at ho
    rcases List.mem_cons.1 ho with rfl | ho
    · exact h0
    · rcases List.mem_append.1 ho with ho | ho
      · exact go _ th (lboth_bd _ _) hb (fun t ht => hv t (List.mem_cons_of_mem _ (List.mem_append_left _ ht))) o ho
      · exact go _ el (lboth_bd _ _) hb (fun t ht => hv t (List.mem_cons_of_mem _ (List.mem_append_right _ ht))) o ho
/-- A host that everybody trusts may do all just if it may know all. -/
theorem plan_alone {n : Nat} {ls : List (Int × Int)} {l : List (TStep n)} (ht : typeP n (ls, l) = true) : planOkV n (ls, l) [1, 3, 5] (List.replicate ls.length 0) (List.replicate (allL n l).length 0) = ls.all fun a => hasB a.1 0 := by
  have hP : progB n (ls, l) = true := by
    have := ht
    unfold typeP at this
    simp only [Bool.and_eq_true] at this
    exact this.1
  have hlab := progB_lab hP
  have h135 : byS [1, 3, 5] 0 3 = 7 := by decide
  have hm : ∀ v, hmB ls [1, 3, 5] v 0 = hasB (ls.getD v.toNat (0, 0)).1 0 := fun v => by
    unfold hmB
    rw [h135, witB7, Bool.and_true]
  cases hall : ls.all fun a => hasB a.1 0 with
  | true =>
    have hk : ∀ i, i < ls.length → hasB (ls.getD i (0, 0)).1 0 = true := fun i hi => all_getD (P := fun a => hasB a.1 0) hall hi
    refine planOkV_iff.2 ⟨ht, by decide, homesB_iff.2 ⟨by simp, fun x hx => by rw [(List.mem_replicate.1 hx).2]; omega⟩, by rw [List.length_replicate, sizeV_yes hP], fun v hv => ?_, fun j hj => ?_⟩
    · rw [getD_rep0, hm, Int.toNat_natCast]
      exact hk v hv
    · rw [getD_rep0]
      rw [List.length_replicate] at hj
      refine ⟨by omega, ?_⟩
      have hsl := allSL_len l
      have hal := atL_len ls (7, 7) l
      have hj1 : j < (allSL n l).length := by omega
      have hj2 : j < (atL n ls (7, 7) l).length := by omega
      show doN n ls l [1, 3, 5] (List.replicate ls.length 0) j 0 = true
      rw [doN_eq hj1 hj2]
      have hok := (progB_okA hP (List.getElem_mem hj1)).1
      have hown : hasB ((atL n ls (7, 7) l)[j]).1 0 = true := by
        have hmem := List.getElem_mem hj2
        generalize (atL n ls (7, 7) l)[j] = o at hmem
        unfold atL at hmem
        obtain ⟨aq, h1, h2⟩ := List.mem_flatten.1 hmem
        obtain ⟨t, htm, rfl⟩ := List.mem_map.1 h1
        exact atT_kn hlab hk n (7, 7) t rfl (by decide) (fun u hu => by
          have := progB_sh hP u (List.mem_flatten.2 ⟨_, List.mem_map_of_mem htm, hu⟩)
          exact shB_var this) o h2
      generalize (atL n ls (7, 7) l)[j] = own at hown
      generalize hsh : shA (allSL n l)[j] = sh at hok
      unfold doesB
      rw [hown, h135, witB7]
      simp only [Bool.and_self, Bool.true_and, Bool.and_eq_true, Bool.or_eq_true]
      refine ⟨?_, Or.inr (by rw [getD_rep0]; exact hown)⟩
      rw [List.all_eq_true]
      intro v hv
      have hvi := makesL_in hok v hv
      unfold mkP
      rw [getD_rep0, hown, hk _ (by omega)]
      rfl
  | false =>
    rw [Bool.eq_false_iff]
    intro h
    obtain ⟨_, _, _, _, a5, _⟩ := planOkV_iff.1 h
    rw [List.all_eq_false] at hall
    obtain ⟨x, hx, hx2⟩ := hall
    obtain ⟨i, hi, rfl⟩ := List.getElem_of_mem hx
    have h2 := a5 i hi
    rw [getD_rep0, hm, Int.toNat_natCast] at h2
    exact hx2 (by simpa [List.getD, hi] using h2)
theorem lawAl_ok {F : Nat → Option IFn} {f : Nat} (hf : F f = some c_lawAl) (gd : DrawNumsOk F 14) (gs : FindS F 15) (gi : FindI F 16) (gpe : PlanEq F 17) (gp : PlanOkV F 21) (gt : TypeP F 18) (gz : SizeOk F 20) (glh : ∀ (H : Heap) (s h : Int), 0 ≤ s → s ≤ 7 → 0 ≤ h → h ≤ 2 → QC F 19 [.int .i64 s, .int .i64 h] H (.bool (hasB s h))) : LawB F f := by
  intro H v code hv
  have hv0 := hv
  obtain ⟨h0, a, rfl, _⟩ := hv
  refine QC.mk hf rfl ?_
  refine seq_reg ?_
  simp only [go_sem, binC]
  refine seq_assoc (seq_reg ?_)
  simp only [go_sem, binC]
  by_cases hbig : 1048576 < (code.length : Int)
  · refine seq_cond (t := true) (by simp only [go_sem, binC]; rw [decide_eq_true hbig]) ?_
    simp only [go_sem, binC]
    refine seq_assoc (seq_reg ?_)
    simp only [go_sem, binC]
    exact seq_ret ⟨Or.inr rfl, .bool true, by simp only [go_sem, binC], rfl, rfl⟩
  refine seq_cond (t := false) (by simp only [go_sem, binC]; rw [decide_eq_false hbig]) ?_
  simp only [go_sem, binC]
  refine seq_skip (seq_reg ?_)
  simp only [go_sem, binC]
  obtain ⟨d, lv, sv, tv, ls, l, ts, H1, k, hx, r1, r2, r3, r4⟩ := gd H _ code hv0
  have hl1 := hx.1
  obtain ⟨hls0, la, rfl, _⟩ := id r1
  obtain ⟨hsl0, sa, rfl, _⟩ := id r2
  obtain ⟨_, ta, rfl, _⟩ := id r4
  refine op_callK (by simp only [go_sem, binC]; exact k) ?_
  simp only [go_sem, binC]
  refine ⟨by omega, ?_⟩
  refine wpc_gen fun H2 hH2 => ?_
  have hb : H2[H1.length]? = some ⟨[.slice la ls.length ls.length, .slice sa l.length l.length], 0, 0, false, true⟩ := hH2 ▸ get_new0 _ _
  have hy : AgX [] H1 H2 := hH2 ▸ AgX.app [] _ _
  have hl2 : H2.length = H1.length + 1 := by rw [hH2, List.length_append]; rfl
  replace r1 := r1.mono (agx_sub hy)
  replace r2 := r2.mono (agx_sub hy)
  replace r4 := r4.mono (agx_sub hy)
  clear hH2 k
  refine seq_reg ?_
  simp only [go_sem, binC, gc_of hb, inBlk_some]
  obtain ⟨_, H3, k3, tv2, hv2, dv2, rfl, hx3, pz⟩ := gs H2 d _ _ _ ls l ts r1 r2 r3 r4
  obtain ⟨z1, z2, z3⟩ := pz.sls
  generalize hPL : planL (findV d (ls, l) ts) ts (doesL d (ls, l) ts) = P at z1 z2 z3
  refine op_callK (by simp only [go_sem, binC]; exact k3) ?_
  obtain ⟨_, za, rfl, _⟩ := id z1
  obtain ⟨_, zb, rfl, _⟩ := id z2
  obtain ⟨_, zc, rfl, _⟩ := id z3
  have hl3 := hx3.1
  simp only [go_sem, binC]
  refine ⟨by omega, ?_⟩
  refine wpc_gen fun H4 hH4 => ?_
  have hx4 : AgX [] H3 H4 := hH4 ▸ AgX.app [] _ _
  have hbz : H4[H3.length]? = some ⟨[.slice za P.1.length P.1.length, .slice zb P.2.1.length P.2.1.length, .slice zc P.2.2.length P.2.2.length], 0, 0, false, true⟩ := hH4 ▸ get_new0 _ _
  have hl4 : H4.length = H3.length + 1 := by rw [hH4, List.length_append]; rfl
  clear hH4 k3 pz
  have hx24 := hx3.tr hx4
  replace hb := hx24.get hb (by simp)
  replace r1 := r1.mono (agx_sub hx24)
  replace r2 := r2.mono (agx_sub hx24)
  replace r4 := r4.mono (agx_sub hx24)
  replace z1 := z1.mono (agx_sub hx4)
  replace z2 := z2.mono (agx_sub hx4)
  replace z3 := z3.mono (agx_sub hx4)
  refine seq_reg ?_
  simp only [go_sem, binC, gc_of hb, inBlk_some]
  obtain ⟨pv, hv3, dv, H5, k5, hx5, pr⟩ := gi H4 d _ _ _ ls l ts r1 r2 r3 r4
  obtain ⟨i1, i2, i3⟩ := pr.sls
  rw [hPL] at i1 i2 i3
  refine op_callK (by simp only [go_sem, binC]; exact k5) ?_
  obtain ⟨_, ia, rfl, _⟩ := id i1
  obtain ⟨_, ib, rfl, _⟩ := id i2
  obtain ⟨_, ic, rfl, _⟩ := id i3
  have hl5 := hx5.1
  simp only [go_sem, binC]
  refine ⟨by omega, ?_⟩
  refine wpc_gen fun H6 hH6 => ?_
  have hx6 : AgX [] H5 H6 := hH6 ▸ AgX.app [] _ _
  have hbi : H6[H5.length]? = some ⟨[.slice ia P.1.length P.1.length, .slice ib P.2.1.length P.2.1.length, .slice ic P.2.2.length P.2.2.length], 0, 0, false, true⟩ := hH6 ▸ get_new0 _ _
  have hl6 : H6.length = H5.length + 1 := by rw [hH6, List.length_append]; rfl
  clear hH6 k5 pr
  have hx46 := hx5.tr hx6
  replace hb := hx46.get hb (by simp)
  replace hbz := hx46.get hbz (by simp)
  replace r1 := r1.mono (agx_sub hx46)
  replace r2 := r2.mono (agx_sub hx46)
  replace r4 := r4.mono (agx_sub hx46)
  replace z1 := z1.mono (agx_sub hx46)
  replace z2 := z2.mono (agx_sub hx46)
  replace z3 := z3.mono (agx_sub hx46)
  replace i1 := i1.mono (agx_sub hx6)
  replace i2 := i2.mono (agx_sub hx6)
  replace i3 := i3.mono (agx_sub hx6)
  have heq := gpe H6 _ _ _ _ _ _ _ _ _ _ _ _ i1 i2 i3 z1 z2 z3
  simp only [decide_true, Bool.and_self] at heq
  refine seq_assoc (seq_reg ?_)
  simp only [go_sem, binC, bne_self_eq_false, beq_self_eq_true, Bool.not_true, gc_of hbi, gc_of hbz, inBlk_some]
  refine op_callQ (by simp only [go_sem, binC]; exact heq) ?_
  simp only [go_sem, binC]
  have hkt := gt H6 d _ _ ls l r1 r2 r3
  generalize hfo : (findV d (ls, l) ts).isSome = fo at *
  simp only [go_sem, binC, gc_of hb, inBlk_some]
  refine op_callQ (by simp only [go_sem, binC]; exact hkt) ?_
  cases hty : typeP d (ls, l) with
  | false =>
    simp only [go_sem, binC]
    refine seq_cond (t := true) rfl ?_
    simp only [go_sem, binC]
    refine seq_assoc (seq_reg ?_)
    simp only [go_sem, binC, bne_self_eq_false, beq_self_eq_true, Bool.not_true, gc_of hbi, gc_of hbz, inBlk_some]
    refine op_callQ (by simp only [go_sem, binC]; exact heq) ?_
    simp only [go_sem, binC]
    exact seq_ret ⟨Or.inr rfl, .bool true, by simp only [go_sem, binC], rfl, rfl⟩
  | true =>
  have hplan := plan_alone hty
  have hPP : progB d (ls, l) = true := by
    have := hty
    unfold typeP at this
    simp only [Bool.and_eq_true] at this
    exact this.1
  have hlab := progB_lab hPP
  have hls4 : ls.length ≤ 4 := progB_len hPP
  have hcnt : (allL d l).length ≤ 8 := progB_cnt hPP r3
  simp only [go_sem, binC]
  refine seq_cond (t := false) rfl ?_
  simp only [go_sem, binC]
  refine seq_skip (seq_reg ?_)
  simp only [go_sem, binC]
  refine seq_assoc (seq_reg ?_)
  simp only [go_sem, binC]
  refine wpc_genK fun KK hKK => ?_
  have hT : ∀ e : Env, e 3 = ptr H1.length 0 → e 9 = .bool (ls.all fun a => hasB a.1 0) → wpc F H.length lawAlT e H6 KK := by
    intro e e3 e9
    rw [hKK]
    unfold lawAlT
    have hgq : ∀ (L : Heap) (o n : Nat), getCells (H6 ++ L) H1.length o n = inBlk (some ⟨[.slice la ls.length ls.length, .slice sa l.length l.length], 0, 0, false, true⟩) o n := fun L => gc_of ((AgX.app [] H6 L).get hb (by simp))
    have hzq := fun L => gz (H6 ++ L) d _ _ ls l (r1.mono (agx_sub (AgX.app [] H6 L))) (r2.mono (agx_sub (AgX.app [] H6 L))) r3 hPP
    generalize hN : (allL d l).length = N at *
    refine seq_regD ?_
    simp only [go_sem, binC, e3, gc_of hb, inBlk_some, hgq, Int.toNat_natCast, rep_intsK]
    refine ⟨by omega, ?_⟩
    refine op_callQ (by simp only [go_sem, binC]; exact hzq _) ?_
    simp only [go_sem, binC, Int.toNat_natCast, rep_intsK]
    refine ⟨by omega, ?_⟩
    simp only [go_sem, binC, sli]
    refine ⟨by omega, ?_⟩
    refine wpc_gen fun H7 hH7 => ?_
    have hx7 : AgX [] H6 H7 := hH7 ▸ AgX.app [] _ _
    have k0 : H7[H6.length]? = some ⟨ints [1, 3, 5], 1, 3, true, true⟩ := hH7 ▸ get_new0 _ _
    have k1 : H7[H6.length + 1]? = some ⟨ints (List.replicate ls.length 0), 1, 3, true, true⟩ := hH7 ▸ get_new _ _ 1
    have k2 : H7[H6.length + 2]? = some ⟨ints (List.replicate N 0), 1, 3, true, true⟩ := hH7 ▸ get_new _ _ 2
    have k3 : H7[H6.length + 3]? = some ⟨[sli H6.length 0 3, sli (H6.length + 1) 0 ls.length, sli (H6.length + 2) 0 N], 0, 0, false, true⟩ := hH7 ▸ get_new _ _ 3
    clear hH7
    have t1 : SlR Co.int (vw 0 H7) (sli H6.length 0 3) [1, 3, 5] := ints_sl0 (l := [1, 3, 5]) k0 (fun x hx => by simp only [List.mem_cons, List.not_mem_nil, or_false] at hx; unfold RgI; omega) (by simp)
    have t2 : SlR Co.int (vw 0 H7) (sli (H6.length + 1) 0 ls.length) (List.replicate ls.length 0) := by
      have := ints_sl0 (l := List.replicate ls.length 0) k1 (fun x hx => by rw [(List.mem_replicate.1 hx).2]; unfold RgI; omega) (by simp; omega)
      rwa [List.length_replicate] at this
    have t3 : SlR Co.int (vw 0 H7) (sli (H6.length + 2) 0 N) (List.replicate N 0) := by
      have := ints_sl0 (l := List.replicate N 0) k2 (fun x hx => by rw [(List.mem_replicate.1 hx).2]; unfold RgI; omega) (by simp; omega)
      rwa [List.length_replicate] at this
    have hk := gp H7 d _ _ _ _ _ ls l _ _ _ (r1.mono (agx_sub hx7)) (r2.mono (agx_sub hx7)) r3 t1 t2 t3
    rw [hplan] at hk
    have hb7 := hx7.get hb (by simp)
    simp only [sli] at k3 hk
    refine seq_reg ?_
    simp only [go_sem, binC, e3, e9, gc_of hb7, gc_of k3, inBlk_some, sli]
    refine op_callQ (by simp only [go_sem, binC]; exact hk) ?_
    simp only [go_sem, binC, e9, beq_self_eq_true]
    exact wpc_ret ⟨Or.inr rfl, .bool true, by simp only [go_sem, binC], rfl, rfl⟩
  refine seq_block (wpc_loop ?_)
  suffices hh : ∀ (k i : Nat) (e : Env), i + k = ls.length → e 3 = ptr H1.length 0 → e 9 = .bool ((ls.take i).all fun a => hasB a.1 0) → e 10 = .int .i64 i → W F H.length _ e H6 _ from
    hh ls.length 0 _ (by omega) (by simp only [go_sem, binC]) (by (simp only [go_sem, binC]) <;> rfl) (by (simp only [go_sem, binC]) <;> rfl)
  intro k
  induction k with
  | zero =>
    intro i e hi e3 e9 e10
    refine lp_step ?_
    refine seq_assoc (seq_reg ?_)
    simp only [go_sem, binC, e3, e10, gc_of hb, inBlk_some]
    refine seq_cond (t := false) (by simp only [go_sem, binC]; rw [decide_eq_false (by omega)]) ?_
    simp only [go_sem, binC]
    refine seq_exit ?_
    simp only [go_sem, binC, thenX_e, out_e, thenX_n]
    rw [List.take_of_length_le (by omega)] at e9
    exact hT _ (by simp only [go_sem, binC, e3]) (by simp only [go_sem, binC, e9])
  | succ k ih =>
    intro i e hi e3 e9 e10
    have hil : i < ls.length := by omega
    have hw1 : IntKind.i64.wrap ((i : Int) + 1) = ((i + 1 : Nat) : Int) := by rw [wrap_id (by omega) (by omega)]; omega
    obtain ⟨lb, lo', hla, hgl0, _⟩ := lab_at r1 (H := H6) (fun _ _ h => h) (x := (i : Int)) (by omega) (by omega)
    simp only [Value.slice.injEq, and_true] at hla
    subst hla
    have hgl := hgl0 []
    rw [List.append_nil, Int.toNat_natCast] at hgl
    have g0 : getCells H6 lb (lo' + i * 2) 1 = some [.int .i64 (ls.getD i (0, 0)).1] := by have := gc_part (off := 0) (k := 1) hgl (by omega); simpa using this
    have hlb := labB_bd (all_getD (a := (0, 0)) hlab hil)
    have htk : ((ls.take (i + 1)).all fun a => hasB a.1 0) = (((ls.take i).all fun a => hasB a.1 0) && hasB (ls.getD i (0, 0)).1 0) := by
      rw [List.take_add_one, List.getElem?_eq_getElem hil, List.all_append]
      simp [List.getD, hil]
    refine lp_step ?_
    refine seq_assoc (seq_reg ?_)
    simp only [go_sem, binC, e3, e10, gc_of hb, inBlk_some]
    refine seq_cond (t := true) (by simp only [go_sem, binC]; rw [decide_eq_true (by omega)]) ?_
    simp only [go_sem, binC]
    refine seq_skip (seq_block (wpc_reg ?_))
    simp only [go_sem, binC, e9]
    cases hpre : (ls.take i).all fun a => hasB a.1 0 with
    | false =>
      simp only [go_sem, binC, out_n, thenX_n]
      refine wpc_reg ?_
      simp only [go_sem, binC, e10, hw1]
      simp only [go_sem, binC, thenX_n]
      exact ih (i + 1) _ (by omega) (by simp only [go_sem, binC, e3]) (by simp only [go_sem, binC]; rw [htk, hpre]; rfl) (by simp only [go_sem, binC])
    | true =>
      simp only [go_sem, binC, e3, e10, gc_of hb, inBlk_some]
      refine ⟨⟨by omega, by omega⟩, ?_⟩
      simp only [go_sem, binC, Int.toNat_natCast, g0]
      refine op_callQ (by simp only [go_sem, binC]; exact glh H6 (ls.getD i (0, 0)).1 0 hlb.1.1 hlb.1.2 (by omega) (by omega)) ?_
      simp only [go_sem, binC, out_n, thenX_n]
      refine wpc_reg ?_
      simp only [go_sem, binC, e10, hw1]
      simp only [go_sem, binC, thenX_n]
      exact ih (i + 1) _ (by omega) (by simp only [go_sem, binC, e3]) (by simp only [go_sem, binC]; rw [htk, hpre]; rfl) (by simp only [go_sem, binC])
end Go.Proofs.YtbjeldblaclpnaaI
end
