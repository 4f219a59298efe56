/- Texts of this proof, merged: K22, K27, K28, K29, K21, H24, H26, H27, H28, K25. -/
import Derived.Test.YtbjeldblaclpnaaQg10
section
/- A program and a plan, drawn. -/
set_option linter.unusedVariables false
set_option linter.unusedSimpArgs false
namespace Go.Proofs.YtbjeldblaclpnaaI
open Go Go.RowKit
def drPlanD : ICode := .reg none [
        ⟨(some 54), none, .mov (.t 0)⟩,
        ⟨(some 55), none, .call .n (.f 87) [(.t 54)]⟩,
        ⟨none, none, .store 2 (.t 4) (.t 55)⟩]
def c_drPlan : IFn := ⟨1, 68, [.cell true 2 2, .cell true 3 3],
 .seq (.reg none [
    ⟨(some 2), none, .new [(.slice none 0 0), (.slice none 0 0)]⟩,
    ⟨(some 3), none, .new [(.slice none 0 0), (.slice none 0 0), (.slice none 0 0)]⟩])
 (.seq (.reg none [
    ⟨(some 11), none, .mov (.t 0)⟩,
    ⟨(some 12), none, .call .n (.f 87) [(.t 11)]⟩,
    ⟨(some 4), none, .new [(.slice none 0 0), (.slice none 0 0)]⟩,
    ⟨none, none, .store 2 (.t 4) (.t 12)⟩])
 (.seq (.seq (.reg none [
     ⟨(some 5), none, .mov (.c (.int .i64 0))⟩])
  (.block 0 (.loop (.seq (.seq (.reg none [
        ⟨(some 13), none, .mov (.t 5)⟩,
        ⟨(some 14), none, .bin .lss (.t 13) (.c (.int .i64 8))⟩])
     (.cond (.t 14) (.skip) (.exit 0)))
    (.seq (.block 1 (.seq (.reg none [
         ⟨(some 17), none, .mov (.t 0)⟩,
         ⟨(some 18), none, .call .n (.f 48) [(.t 17)]⟩,
         ⟨(some 6), none, .mov (.t 18)⟩])
      (.seq (.reg none [
         ⟨(some 20), none, .load true 2 (.t 4)⟩,
         ⟨(some 21), none, .mov (.t 6)⟩,
         ⟨(some 22), none, .call .k (.f 15) [(.t 20), (.t 21)]⟩,
         ⟨(some 19), none, .mov (.t 22)⟩,
         ⟨(some 23), none, .ext (.t 19) 0⟩,
         ⟨(some 24), none, .ext (.t 19) 1⟩,
         ⟨(some 7), none, .new [(.slice none 0 0), (.slice none 0 0), (.slice none 0 0)]⟩,
         ⟨none, none, .store 3 (.t 7) (.t 23)⟩,
         ⟨(some 8), none, .mov (.t 24)⟩])
      (.seq (.seq (.reg none [
          ⟨(some 25), none, .mov (.t 8)⟩,
          ⟨(some 26), none, .mov (.t 25)⟩,
          ⟨(some 27), (some (26, true)), .load true 2 (.t 4)⟩,
          ⟨(some 28), (some (26, true)), .call .q (.f 77) [(.t 27)]⟩,
          ⟨(some 29), (some (26, true)), .bin .gtr (.t 28) (.c (.int .i64 1))⟩,
          ⟨(some 30), none, .pick (.t 26) (.t 29) (.c (.bool false))⟩])
       (.cond (.t 30) (.seq (.seq (.reg none [
            ⟨(some 9), none, .mov (.c (.int .i64 0))⟩])
         (.block 2 (.loop (.seq (.seq (.reg none [
               ⟨(some 31), none, .mov (.t 9)⟩,
               ⟨(some 32), none, .fad 2 (.t 7)⟩,
               ⟨(some 33), none, .load false 1 (.t 32)⟩,
               ⟨(some 34), none, .len (.t 33)⟩,
               ⟨(some 35), none, .bin .lss (.t 31) (.t 34)⟩])
            (.cond (.t 35) (.skip) (.exit 2)))
           (.seq (.block 3 (.seq (.reg none [
                ⟨(some 38), none, .mov (.t 0)⟩,
                ⟨(some 39), none, .call .n (.f 45) [(.t 38), (.c (.int .i64 3))]⟩,
                ⟨(some 10), none, .mov (.t 39)⟩])
             (.seq (.reg none [
                ⟨(some 40), none, .load true 2 (.t 4)⟩,
                ⟨(some 41), none, .mov (.t 6)⟩,
                ⟨(some 42), none, .fad 1 (.t 7)⟩,
                ⟨(some 43), none, .load false 1 (.t 42)⟩,
                ⟨(some 44), none, .mov (.t 9)⟩,
                ⟨(some 45), none, .mov (.t 10)⟩,
                ⟨(some 46), none, .call .q (.f 35) [(.t 40), (.t 41), (.t 43), (.t 44), (.t 45)]⟩])
             (.cond (.t 46) (.reg none [
                ⟨(some 47), none, .fad 2 (.t 7)⟩,
                ⟨(some 48), none, .load false 1 (.t 47)⟩,
                ⟨(some 49), none, .mov (.t 9)⟩,
                ⟨(some 50), none, .mov (.t 10)⟩,
                ⟨(some 51), none, .iad 1 (.t 48) (.t 49)⟩,
                ⟨none, none, .store 1 (.t 51) (.t 50)⟩]) (.skip)))))
           (.reg none [
             ⟨(some 36), none, .mov (.t 9)⟩,
             ⟨(some 37), none, .bin .add (.t 36) (.c (.int .i64 1))⟩,
             ⟨(some 9), none, .mov (.t 37)⟩]))))))
        (.seq (.reg (some 3) [
           ⟨(some 52), none, .load true 2 (.t 4)⟩,
           ⟨(some 53), none, .load true 3 (.t 7)⟩,
           ⟨none, none, .store 2 (.t 2) (.t 52)⟩,
           ⟨none, none, .store 3 (.t 3) (.t 53)⟩])
        (.ret))) (.skip)))
      drPlanD))))
    (.reg none [
      ⟨(some 15), none, .mov (.t 5)⟩,
      ⟨(some 16), none, .bin .add (.t 15) (.c (.int .i64 1))⟩,
      ⟨(some 5), none, .mov (.t 16)⟩]))))))
 (.seq (.reg (some 13) [
    ⟨(some 56), none, .load true 2 (.t 4)⟩,
    ⟨(some 57), none, .mov (.t 0)⟩,
    ⟨(some 58), none, .call .n (.f 48) [(.t 57)]⟩,
    ⟨(some 59), none, .fad 0 (.t 4)⟩,
    ⟨(some 60), none, .load false 1 (.t 59)⟩,
    ⟨(some 61), none, .len (.t 60)⟩,
    ⟨(some 62), none, .mks 1 3 8 [(.int .i64 0)] (.t 61) (.t 61)⟩,
    ⟨(some 63), none, .load true 2 (.t 4)⟩,
    ⟨(some 64), none, .call .q (.f 77) [(.t 63)]⟩,
    ⟨(some 65), none, .max2 (.t 64) (.c (.int .i64 0))⟩,
    ⟨(some 66), none, .mks 1 3 8 [(.int .i64 0)] (.t 65) (.t 65)⟩,
    ⟨(some 67), none, .build [(.slice none 0 0), (.slice none 0 0), (.slice none 0 0)] [(0, 1, (.t 58)), (1, 1, (.t 62)), (2, 1, (.t 66))]⟩,
    ⟨none, none, .store 2 (.t 2) (.t 56)⟩,
    ⟨none, none, .store 3 (.t 3) (.t 67)⟩])
 (.ret))))⟩
theorem PlanZ.one {lo : Nat} {H : Heap} {tv hv dv : Value} {ts : List Int} {o : Option (List Int)} {d : List Int → List Int} (h : PlanZ lo H tv hv dv ts o d) : Go.Proofs.YtbjeldblaclpnaaI.one tv = true ∧ Go.Proofs.YtbjeldblaclpnaaI.one hv = true ∧ Go.Proofs.YtbjeldblaclpnaaI.one dv = true := by
  cases o with
  | none => obtain ⟨rfl, rfl, rfl⟩ := h; exact ⟨rfl, rfl, rfl⟩
  | some homes =>
    obtain ⟨b1, b2, b3, rfl, rfl, rfl, _⟩ := h
    exact ⟨rfl, rfl, rfl⟩
theorem ints_len (l : List Int) : (ints l).length = l.length := by simp [ints]
theorem rep_intsK (n : Nat) (a : Int) : (List.replicate n [Value.int .i64 a]).flatten = ints (List.replicate n a) := by
  induction n with
  | zero => rfl
  | succ n ih => rw [List.replicate_succ, List.replicate_succ, List.flatten_cons, ih]; rfl
/-- A program and a plan drawn: homes and does lie in blocks of their own that may be written. -/
def PlanQ (H H' : Heap) (v : Value) : Prop := ∃ (lv sv tv : Value) (b2 b3 : Nat) (ls : List (Int × Int)) (l : List (TStep 3)) (ts homes does : List Int), v = .tuple #[.agg #[lv, sv], .agg #[tv, sli b2 0 homes.length, sli b3 0 does.length]] ∧ ProgV 3 (vwl H.length [b2, b3] H') lv sv ls l ∧ SlR Co.int (vwl H.length [b2, b3] H') tv ts ∧ ts.length ≤ 3 ∧ IntsO 3 H.length H' b2 true homes ∧ IntsO 3 H.length H' b3 true does ∧ b2 ≠ b3 ∧ homes.length ≤ 100 ∧ does.length ≤ 1000
theorem drPlan_ok {F : Nat → Option IFn} {f : Nat} (hf : F f = some c_drPlan) (hpk : F 45 = some c_pick) {H0 : Heap} {rb : Nat} {bv : Value} {code : List Int} (hc : RdC H0 rb bv code) (gan : DrawS F H0 rb bv 87 [] 40000 (ProgQ 3)) (gtr : DrawS F H0 rb bv 48 [] 10 TrQ) (gf : FindS F 15) (gz : SizeV F 77) (gps : StepV F 35) : DrawS F H0 rb bv f [] 370000 PlanQ := by
  refine DrawS.mk hf rfl fun H p lo hs hp hp2 hlo => ?_
  have hl := hs.lt
  refine seq_reg ?_
  simp only [go_sem, binC]
  refine wpc_gen fun H1 hH1 => ?_
  have hs1 : St H0 rb bv p H1 := hH1 ▸ hs.appN hc _
  have ht1 : AgX [rb] H H1 := hH1 ▸ AgX.app [rb] _ _
  have hb2 : H1[H.length]? = some ⟨[nilS, nilS], 0, 0, false, true⟩ := hH1 ▸ get_new0 _ _
  have hb3 : H1[H.length + 1]? = some ⟨[nilS, nilS, nilS], 0, 0, false, true⟩ := hH1 ▸ get_new _ _ 1
  have hl1 : H1.length = H.length + 2 := by rw [hH1, List.length_append]; rfl
  clear hH1
  refine seq_reg ?_
  simp only [go_sem, binC]
  obtain ⟨v3, H3, p3, k3, x3, s3, c3, lv, sv, ls, l, rfl, hpv⟩ := gan H1 p lo hs1 hp (by omega) hlo
  refine op_callN (by simp only [go_sem, binC]; exact k3) ?_
  have olv : one lv = true := by obtain ⟨_, a, rfl, _⟩ := hpv.1; rfl
  have osv : one sv = true := by obtain ⟨_, a, rfl, _⟩ := hpv.2.1; rfl
  have hl3 := x3.1
  simp only [go_sem, binC, olv, osv]
  refine ⟨by omega, ?_⟩
  refine wpc_gen fun H4 hH4 => ?_
  have hs4 : St H0 rb bv p3 H4 := hH4 ▸ s3.appN hc _
  have ht4 : AgX [rb] H1 H4 := hH4 ▸ x3.appN _
  have hb4 : H4[H3.length]? = some ⟨[lv, sv], 0, 0, false, true⟩ := hH4 ▸ get_new0 _ _
  have hpv4 : ProgV 3 (vwl H1.length [H3.length] H4) lv sv ls l := hpv.mono (by subst hH4; exact vwl_sub (AgX.app [] _ _) (Nat.le_refl _) fun b' h1 h2 _ => ⟨by simp, by simp; omega⟩)
  clear hH4 hpv
  generalize hB4 : H3.length = b4 at *
  refine seq_assoc (seq_reg ?_)
  simp only [go_sem, binC]
  refine seq_block (wpc_loop ?_)
  suffices hh : ∀ (k i : Nat) (e : Env) (Hc : Heap) (q : Int) (lv sv : Value) (ls : List (Int × Int)) (l : List (TStep 3)), i + k = 8 → St H0 rb bv q Hc → (p ≤ q ∧ q ≤ p + 40000 + (i : Int) * 40020) → AgX [rb] H1 Hc → Hc[b4]? = some ⟨[lv, sv], 0, 0, false, true⟩ → ProgV 3 (vwl H1.length [b4] Hc) lv sv ls l → e 0 = ptr rb 0 → e 2 = ptr H.length 0 → e 3 = ptr (H.length + 1) 0 → e 4 = ptr b4 0 → e 5 = .int .i64 i → Go.Proofs.YtbjeldblaclpnaaI.W F lo _ e Hc _ from
    hh 8 0 _ H4 p3 lv sv ls l rfl hs4 (by omega) ht4 hb4 hpv4 (by simp only [go_sem, binC]) (by simp only [go_sem, binC]) (by simp only [go_sem, binC]) (by simp only [go_sem, binC]) (by (simp only [go_sem, binC]) <;> rfl)
  clear hpv4 hb4 olv osv
  intro k
  induction k with
  | zero =>
    intro i e Hc q lv sv ls l hi hsc hq hxc hbc hpc e0 e2 e3 e4 e5
    have hlc := hxc.1
    have hb4c := (List.getElem?_eq_some_iff.1 hbc).1
    have hrbl : rb < H1.length := by omega
    obtain ⟨_, la, rfl, _⟩ := id hpc.1
    have osv : one sv = true := by obtain ⟨_, a, rfl, _⟩ := hpc.2.1; rfl
    have hb2c := hxc.get hb2 (by simp; omega)
    have hb3c := hxc.get hb3 (by simp; omega)
    refine lp_step ?_
    refine seq_assoc (seq_reg ?_)
    simp only [go_sem, binC, e5]
    refine seq_cond (t := false) (by simp only [go_sem, binC]; rw [decide_eq_false (by omega)]) ?_
    simp only [go_sem, binC]
    refine seq_exit ?_
    simp only [go_sem, binC, thenX_e, out_e, thenX_n]
    obtain ⟨N, n1⟩ : ∃ N, Hc.length = N := ⟨_, rfl⟩
    have hg4 : ∀ (B L : Heap), B[b4]? = some ⟨[.slice la ls.length ls.length, sv], 0, 0, false, true⟩ → getCells (hide [rb, H.length] B ++ L) b4 0 2 = some [.slice la ls.length ls.length, sv] ∧ getCells (hide [rb, H.length] B ++ L) b4 0 1 = some [.slice la ls.length ls.length] := fun B L hb => ⟨gc_hidO L (by rw [gc_of hb]; rfl) (by simp; omega), gc_hidO L (by rw [gc_of hb]; rfl) (by simp; omega)⟩
    refine seq_regX [rb, H.length] (by simp; omega) ?_
    have q4 := hg4 Hc [] hbc
    rw [List.append_nil] at q4
    refine wpx_A rfl ?_
    simp only [go_sem, binC, e4, q4.1, osv]
    refine wpx_A rfl ?_
    simp only [go_sem, binC, e0]
    refine wpx_N rfl ?_
    obtain ⟨tw, Ha, qa, ka, xa, sa, ca, ts, hts, htl⟩ := gtr Hc q lo hsc (by omega) (by omega) hlo
    simp only [List.append_nil]
    refine op_callN (by simp only [go_sem, binC, e0]; exact ka) ?_
    refine ⟨fun b hb hl => xa.2 b hl (fun hm => hb (by simp only [List.mem_singleton] at hm; simp [hm])), ?_⟩
    have hba := xa.get hbc (by simp; omega)
    have hb2a := xa.get hb2c (by simp; omega)
    have hb3a := xa.get hb3c (by simp; omega)
    have hla := xa.1
    obtain ⟨_, ta, rfl, _⟩ := id hts
    obtain ⟨M, nA⟩ : ∃ M, Ha.length = M := ⟨_, rfl⟩
    have a4 := hg4 Ha [] hba
    rw [List.append_nil] at a4
    refine wpx_A rfl ?_
    simp only [go_sem, binC, e4, List.append_nil]
    refine wpx_A rfl ?_
    simp only [go_sem, binC, a4.2, List.append_nil]
    refine wpx_A rfl ?_
    simp only [go_sem, binC, List.append_nil]
    have hls := hpc.2.2.2.2.1
    refine wpx_A rfl ?_
    simp only [go_sem, binC, List.append_nil, hide_length, nA]
    refine ⟨by omega, ?_⟩
    simp only [go_sem, binC, List.append_nil, hide_length, nA, Int.toNat_natCast, rep_intsK]
    generalize hbk1 : (⟨ints (List.replicate ls.length 0), 1, 3, true, true⟩ : Blk) = k1
    have a5 := hg4 Ha [k1] hba
    refine wpx_A rfl ?_
    simp only [go_sem, binC, e4, a5.1, osv]
    have x1a : AgX [rb] H1 Ha := hxc.tr xa
    have hpa : ProgV 3 (vwl H1.length [b4] Ha) (.slice la ls.length ls.length) sv ls l := hpc.mono (vwl_sub xa (Nat.le_refl _) fun b' h1 h2 h3 => ⟨by simp; omega, h3⟩)
    have hvh : ∀ L, Sub (vwl H1.length [b4] Ha) (vw 0 (hide [rb, H.length] Ha ++ L)) := fun L => by
      intro b cs hb
      unfold vwl at hb
      unfold vw
      split at hb
      · rename_i hc2
        have hbl : b < Ha.length := by
          rcases Nat.lt_or_ge b Ha.length with h | h
          · exact h
          · rw [List.getElem?_eq_none h] at hb; cases hb
        rw [if_pos (Nat.zero_le _), List.getElem?_append_left (by rw [hide_length]; exact hbl), hide_get_ne (by simp; omega)]
        exact hb
      · cases hb
    have hgz := gz (hide [rb, H.length] Ha ++ [k1]) 3 _ _ ls l (hpa.1.mono (hvh _)) (hpa.2.1.mono (hvh _)) hpa.2.2.1
    have hzb : -1 ≤ sizeV 3 (ls, l) ∧ sizeV 3 (ls, l) ≤ 8 := by
      unfold sizeV
      by_cases h : progB 3 (ls, l) = true
      · rw [if_pos h]
        have := progB_cnt h hpc.2.2.1
        exact ⟨by omega, by omega⟩
      · rw [if_neg h]; omega
    generalize sizeV 3 (ls, l) = z at hgz hzb
    refine wpx_A rfl ?_
    refine op_callQ (by simp only [go_sem, binC]; exact hgz) ?_
    simp only [go_sem, binC]
    refine wpx_A rfl ?_
    simp only [go_sem, binC]
    obtain ⟨m, hm⟩ := Int.eq_ofNat_of_zero_le (show (0 : Int) ≤ if (0 : Int) > z then 0 else z by split <;> omega)
    have hm8 : m ≤ 8 := by
      have : (if (0 : Int) > z then 0 else z) ≤ 8 := by split <;> omega
      omega
    rw [show maxV (.int .i64 z) (.int .i64 0) = some (.int .i64 (m : Int)) from by rw [← hm]; rfl]
    simp only [go_sem, binC]
    refine wpx_A rfl ?_
    simp only [go_sem, binC, hide_length, nA]
    refine ⟨by omega, ?_⟩
    simp only [go_sem, binC, hide_length, nA, Int.toNat_natCast, rep_intsK]
    generalize hbk2 : (⟨ints (List.replicate m 0), 1, 3, true, true⟩ : Blk) = k2
    refine wpx_A rfl ?_
    simp only [go_sem, binC, sli]
    have hHb2 : (Ha ++ [k1, k2])[H.length]? = some ⟨[nilS, nilS], 0, 0, false, true⟩ := by rw [List.getElem?_append_left (by omega)]; exact hb2a
    have hHb3 : (Ha ++ [k1, k2])[H.length + 1]? = some ⟨[nilS, nilS, nilS], 0, 0, false, true⟩ := by rw [List.getElem?_append_left (by omega)]; exact hb3a
    have hk1 : (Ha ++ [k1, k2])[M]? = some k1 := by rw [← nA]; exact get_new0 _ _
    have hk2 : (Ha ++ [k1, k2])[M + 1]? = some k2 := by rw [← nA]; exact get_new _ _ 1
    have xak : AgX [] Ha (Ha ++ [k1, k2]) := AgX.app _ _ _
    have hlk : (Ha ++ [k1, k2]).length = M + 2 := by rw [List.length_append, nA]; rfl
    refine wpx_N rfl ?_
    generalize Ha ++ [k1, k2] = Hk at *
    have hb2l := (List.getElem?_eq_some_iff.1 hHb2).1
    have hb3l := (List.getElem?_eq_some_iff.1 hHb3).1
    simp only [go_sem, binC, e2, hHb2, osv]
    refine ⟨by omega, fun b hb hl => List.getElem?_set_ne (fun h => hb (by simp [h])), ?_⟩
    refine wpx_zero ?_
    have hb3s : ∀ kk : Blk, (Hk.set H.length kk)[H.length + 1]? = some ⟨[nilS, nilS, nilS], 0, 0, false, true⟩ := fun kk => by rw [List.getElem?_set_ne (by omega)]; exact hHb3
    simp only [go_sem, binC, e3, hb3s, sli, List.append_nil]
    refine ⟨by omega, ?_⟩
    refine wpc_genH fun Hf hHf => ?_
    have xkf : AgX [H.length, H.length + 1] Hk Hf := by
      rw [hHf]
      exact (AgX.set Hk H.length _).trans (AgX.set _ (H.length + 1) _) (fun _ h _ => by simp only [List.mem_singleton] at h; simp [h]) (fun _ h _ => by simp only [List.mem_singleton] at h; simp [h])
    have hfP : Hf[H.length]? = some ⟨[.slice la ls.length ls.length, sv], 0, 0, false, true⟩ := by rw [hHf, List.getElem?_set_ne (by omega), List.getElem?_set_self hb2l]
    have hfQ : Hf[H.length + 1]? = some ⟨[.slice ta ts.length ts.length, .slice (some ⟨M, 0, none⟩) ls.length ls.length, .slice (some ⟨M + 1, 0, none⟩) m m], 0, 0, false, true⟩ := by rw [hHf, List.getElem?_set_self (by rw [List.length_set]; exact hb3l)]
    clear hHf
    have xaf : AgX [H.length, H.length + 1] Ha Hf := xak.trans xkf (fun _ h _ => by cases h) (fun _ h _ => h)
    have hf1 := xkf.get hk1 (by simp; omega)
    have hf2 := xkf.get hk2 (by simp; omega)
    rw [← hbk1] at hf1
    rw [← hbk2] at hf2
    refine wpc_ret ⟨Or.inr rfl, .tuple #[.agg #[.slice la ls.length ls.length, sv], .agg #[.slice ta ts.length ts.length, .slice (some ⟨M, 0, none⟩) ls.length ls.length, .slice (some ⟨M + 1, 0, none⟩) m m]], ?_, qa, ?_, ?_, by omega, ?_⟩
    · simp [resV, resL, res1, putE_get, notT, ptr, gc_of hfP, gc_of hfQ, inBlk_some, valOf, e2, e3]
    · exact ht1.trans (x1a.trans xaf (zs := [rb, H.length, H.length + 1]) (fun b h _ => by simp only [List.mem_singleton] at h; simp [h]) (fun b h _ => by simp only [List.mem_cons, List.not_mem_nil, or_false] at h ⊢; omega)) (fun _ h _ => h) (fun b h hlt => by simp only [List.mem_cons, List.not_mem_nil, or_false] at h ⊢; omega)
    · exact sa.mono hc xaf (fun b h => by simp only [List.mem_cons, List.not_mem_nil, or_false] at h; omega)
    · refine ⟨.slice la ls.length ls.length, sv, .slice ta ts.length ts.length, M, M + 1, ls, l, ts, List.replicate ls.length 0, List.replicate m 0, by simp [sli], ?_, ?_, htl, ⟨by omega, by simp; omega, hf1, fun x hx => by rw [(List.mem_replicate.1 hx).2]; unfold RgI; exact ⟨by omega, by omega⟩⟩, ⟨by omega, by simp; omega, hf2, fun x hx => by rw [(List.mem_replicate.1 hx).2]; unfold RgI; exact ⟨by omega, by omega⟩⟩, by omega, by simp; omega, by simp; omega⟩
      · exact hpa.mono (vwl_sub xaf (by omega) fun b' h1 h2 h3 => ⟨by simp; omega, by simp; omega⟩)
      · exact hts.mono (vwl_sub xaf (by omega) fun b' h1 h2 h3 => ⟨by simp; omega, by simp; omega⟩)
  | succ k ih =>
    intro i e Hc q lv sv ls l hi hsc hq hxc hbc hpc e0 e2 e3 e4 e5
    have hdi : decide ((i : Int) < 8) = true := decide_eq_true (by omega)
    have hw1 : IntKind.i64.wrap ((i : Int) + 1) = ((i + 1 : Nat) : Int) := by rw [wrap_id (by omega) (by omega)]; omega
    have olv : one lv = true := by obtain ⟨_, a, rfl, _⟩ := hpc.1; rfl
    have osv : one sv = true := by obtain ⟨_, a, rfl, _⟩ := hpc.2.1; rfl
    have hlc := hxc.1
    have hb4c := (List.getElem?_eq_some_iff.1 hbc).1
    refine lp_step ?_
    refine seq_assoc (seq_reg ?_)
    simp only [go_sem, binC, e5, hdi]
    refine seq_cond (t := true) (by simp only [go_sem, binC]) ?_
    simp only [go_sem, binC]
    refine seq_skip (seq_block (seq_reg ?_))
    simp only [go_sem, binC, e0]
    obtain ⟨tw, Ha, qa, ka, xa, sa, ca, ts, hts, htl⟩ := gtr Hc q lo hsc (by omega) (by omega) hlo
    refine op_callN (by simp only [go_sem, binC, e0]; exact ka) ?_
    simp only [go_sem, binC]
    have hla := xa.1
    have hba := xa.get hbc (by simp; omega)
    have hpa : ProgV 3 (vw 0 Ha) lv sv ls l := hpc.mono ((vwl_sub xa (lo' := H1.length) (xs' := []) (Nat.le_refl _) fun b' h1 h2 h3 => ⟨by simp; omega, by simp⟩).trans (vwl0 _ _ _))
    obtain ⟨_, ta, rfl, _⟩ := id hts
    refine seq_reg ?_
    simp only [go_sem, binC, e4, gc_of hba, inBlk_some, olv, osv]
    obtain ⟨w, Hb, kb, tv, hv, dv, rfl, xb, hz⟩ := gf Ha 3 _ _ _ ls l ts hpa.1 hpa.2.1 hpa.2.2.1 (hts.mono (vwl0 _ _ _))
    refine op_callK (by simp only [go_sem, binC]; exact kb) ?_
    obtain ⟨q1, q2, q3⟩ := hz.one
    have hlb := xb.1
    simp only [go_sem, binC, q1, q2, q3]
    refine ⟨by omega, ?_⟩
    refine wpc_gen fun Hn hHn => ?_
    have xn : AgX [] Hb Hn := hHn ▸ AgX.app [] _ _
    have hb7 : Hn[Hb.length]? = some ⟨[tv, hv, dv], 0, 0, false, true⟩ := hHn ▸ get_new0 _ _
    have hln : Hn.length = Hb.length + 1 := by rw [hHn, List.length_append]; rfl
    clear hHn
    have xan : AgX [] Ha Hn := xb.tr xn
    have xcn : AgX [rb] Hc Hn := xa.trans xan (fun _ h _ => h) (fun _ h _ => by cases h)
    have sn : St H0 rb bv qa Hn := sa.mono hc xan (fun _ h => by cases h)
    have hbn := xan.get hba (by simp)
    have hpn : ProgV 3 (vw 0 Hn) lv sv ls l := hpa.mono (agx_sub xan)
    have htn : SlR Co.int (vw 0 Hn) (.slice ta ts.length ts.length) ts := (hts.mono (vwl0 _ _ _)).mono (agx_sub xan)
    refine wpc_genK fun KK hKK => ?_
    have hD : ∀ e' : Env, e' 0 = ptr rb 0 → e' 2 = ptr H.length 0 → e' 3 = ptr (H.length + 1) 0 → e' 4 = ptr b4 0 → e' 5 = .int .i64 i → wpc F lo drPlanD e' Hn KK := by
      intro e' f0 f2 f3 f4 f5
      rw [hKK]
      unfold drPlanD
      refine wpc_reg ?_
      simp only [go_sem, binC, f0]
      obtain ⟨vz, Hz, qz, kz, xz, sz, cz, lv', sv', ls', l', rfl, hpz⟩ := gan Hn qa lo sn (by omega) (by omega) hlo
      refine op_callN (by simp only [go_sem, binC, f0]; exact kz) ?_
      have olv' : one lv' = true := by obtain ⟨_, a, rfl, _⟩ := hpz.1; rfl
      have osv' : one sv' = true := by obtain ⟨_, a, rfl, _⟩ := hpz.2.1; rfl
      have hlz := xz.1
      have hbz := xz.get hbn (by simp; omega)
      have hbzl := (List.getElem?_eq_some_iff.1 hbz).1
      simp only [go_sem, binC, f4, hbz, olv', osv']
      refine ⟨by omega, ?_⟩
      simp only [go_sem, binC, out_n, thenX_n]
      have hxs : AgX [b4] Hz (Hz.set b4 ⟨[lv', sv'], 0, 0, false, true⟩) := AgX.set _ _ _
      have hpz' : ProgV 3 (vwl H1.length [b4] (Hz.set b4 ⟨[lv', sv'], 0, 0, false, true⟩)) lv' sv' ls' l' := hpz.mono (vwl_sub hxs (by omega) fun b' h1 h2 h3 => ⟨by simp; omega, by simp; omega⟩)
      refine wpc_reg ?_
      simp only [go_sem, binC, f5, hw1]
      simp only [go_sem, binC, thenX_n]
      exact ih (i + 1) _ (Hz.set b4 ⟨[lv', sv'], 0, 0, false, true⟩) qz lv' sv' ls' l' (by omega) (sz.setN hc (by omega) _) (by omega) (((hxc.tr xcn).tr xz).setN (by omega) _) (List.getElem?_set_self hbzl) hpz' (by simp only [go_sem, binC, f0]) (by simp only [go_sem, binC, f2]) (by simp only [go_sem, binC, f3]) (by simp only [go_sem, binC, f4]) (by simp only [go_sem, binC])
    refine seq_assoc (seq_reg ?_)
    cases hfv : findV 3 (ls, l) ts with
    | none =>
      simp only [go_sem, binC, Option.isSome_none]
      refine seq_cond (t := false) rfl ?_
      simp only [go_sem, binC]
      refine seq_skip ?_
      exact hD _ (by simp only [go_sem, binC, e0]) (by simp only [go_sem, binC, e2]) (by simp only [go_sem, binC, e3]) (by simp only [go_sem, binC, e4]) (by simp only [go_sem, binC, e5])
    | some homes =>
    rw [hfv] at hz
    obtain ⟨b1, bh, bd, rfl, rfl, rfl, o1, o2, o3, d12, d13, d23⟩ := hz
    simp only [go_sem, binC, Option.isSome_some, e4, gc_of hbn, inBlk_some, olv, osv]
    refine op_callQ (by simp only [go_sem, binC]; exact gz Hn 3 _ _ ls l hpn.1 hpn.2.1 hpn.2.2.1) ?_
    simp only [go_sem, binC]
    by_cases hz1 : 1 < sizeV 3 (ls, l)
    case neg =>
      refine seq_cond (t := false) (by simp only [go_sem, binC]; rw [decide_eq_false hz1]) ?_
      simp only [go_sem, binC]
      refine seq_skip ?_
      exact hD _ (by simp only [go_sem, binC, e0]) (by simp only [go_sem, binC, e2]) (by simp only [go_sem, binC, e3]) (by simp only [go_sem, binC, e4]) (by simp only [go_sem, binC, e5])
    refine seq_cond (t := true) (by simp only [go_sem, binC]; rw [decide_eq_true hz1]) ?_
    simp only [go_sem, binC]
    refine seq_assoc (seq_assoc (seq_reg ?_))
    simp only [go_sem, binC]
    have hP : progB 3 (ls, l) = true := by
      unfold sizeV at hz1
      by_cases h : progB 3 (ls, l) = true
      · exact h
      · rw [if_neg h] at hz1; omega
    have hdl : (doesL 3 (ls, l) ts homes).length = (allL 3 l).length := doesL_len
    have hcnt : (allL 3 l).length ≤ 8 := progB_cnt hP hpn.2.2.1
    have on2 := o2.keep (Nat.le_refl _) xn (by simp)
    have on3 := o3.keep (Nat.le_refl _) xn (by simp)
    have on1 := o1.keep (Nat.le_refl _) xn (by simp)
    have g1 := on1.ge
    have g2 := on2.ge
    have g3 := on3.ge
    have l1' := o1.lt
    have l2' := o2.lt
    have l3' := o3.lt
    generalize doesL 3 (ls, l) ts homes = does0 at *
    refine seq_block (wpc_loop ?_)
    suffices hh : ∀ (k j : Nat) (e : Env) (Hd : Heap) (qd : Int) (cur : List Int), j + k = does0.length → St H0 rb bv qd Hd → (qa ≤ qd ∧ qd ≤ qa + (j : Int)) → AgX [rb, bd] Hn Hd → IntsO 3 Ha.length Hd bd true cur → cur.length = does0.length → e 0 = ptr rb 0 → e 2 = ptr H.length 0 → e 3 = ptr (H.length + 1) 0 → e 4 = ptr b4 0 → e 6 = .slice ta ts.length ts.length → e 7 = ptr Hb.length 0 → e 9 = .int .i64 j → Go.Proofs.YtbjeldblaclpnaaI.W F lo _ e Hd _ from
      hh does0.length 0 _ Hn qa does0 (by omega) sn (by omega) (AgX.refl _ _) on3 rfl (by simp only [go_sem, binC, e0]) (by simp only [go_sem, binC, e2]) (by simp only [go_sem, binC, e3]) (by simp only [go_sem, binC, e4]) (by simp only [go_sem, binC]) (by simp only [go_sem, binC]) (by (simp only [go_sem, binC]) <;> rfl)
    have hrbl : rb < H1.length := by omega
    have hmem : homes.length = ls.length := by
      unfold findV at hfv
      by_cases hc2 : (typeP 3 (ls, l) && trK ts) = true
      · rw [if_pos hc2] at hfv
        exact (hmL_el _ _ (List.mem_of_find?_eq_some hfv)).1
      · rw [if_neg hc2] at hfv; cases hfv
    have hls100 := hpn.2.2.2.2.1
    clear hD
    intro k
    induction k with
    | zero =>
      intro j e Hd qd cur hj sd hqd xd od hcl e0 e2 e3 e4 e6 e7 e9
      have hb7d := xd.get hb7 (by simp; omega)
      have hbnd := xd.get hbn (by simp; omega)
      have x1n : AgX [rb] H1 Hn := hxc.tr xcn
      have x1d : AgX [rb, bd] H1 Hd := x1n.trans xd (fun _ h _ => by simp only [List.mem_singleton] at h; simp [h]) (fun _ h _ => h)
      have hb2d := x1d.get hb2 (by simp; omega)
      have hb3d := x1d.get hb3 (by simp; omega)
      have hb2l := (List.getElem?_eq_some_iff.1 hb2d).1
      have hb3l := (List.getElem?_eq_some_iff.1 hb3d).1
      have hb3s : ∀ kk : Blk, (Hd.set H.length kk)[H.length + 1]? = some ⟨[nilS, nilS, nilS], 0, 0, false, true⟩ := fun kk => by rw [List.getElem?_set_ne (by omega)]; exact hb3d
      refine lp_step ?_
      refine seq_assoc (seq_reg ?_)
      simp only [go_sem, binC, e7, e9, gc_of hb7d, inBlk_some]
      refine seq_cond (t := false) (by simp only [go_sem, binC]; rw [decide_eq_false (by omega)]) ?_
      simp only [go_sem, binC]
      refine seq_exit ?_
      simp only [go_sem, binC, thenX_e, out_e, thenX_n]
      have hb4l := (List.getElem?_eq_some_iff.1 hbn).1
      have g4 : getCells Hd b4 0 2 = some [lv, sv] := by rw [gc_of hbnd]; rfl
      have g7 : getCells Hd Hb.length 0 3 = some [sli b1 0 ts.length, sli bh 0 homes.length, sli bd 0 does0.length] := by rw [gc_of hb7d]; rfl
      have g4' : ∀ kk : Blk, getCells (Hd.set H.length kk) b4 0 2 = some [lv, sv] := fun kk => by rw [gc_of (show (Hd.set H.length kk)[b4]? = some ⟨[lv, sv], 0, 0, false, true⟩ by rw [List.getElem?_set_ne (by omega)]; exact hbnd)]; rfl
      have g7' : ∀ kk : Blk, getCells (Hd.set H.length kk) Hb.length 0 3 = some [sli b1 0 ts.length, sli bh 0 homes.length, sli bd 0 does0.length] := fun kk => by rw [gc_of (show (Hd.set H.length kk)[Hb.length]? = some ⟨[sli b1 0 ts.length, sli bh 0 homes.length, sli bd 0 does0.length], 0, 0, false, true⟩ by rw [List.getElem?_set_ne (by omega)]; exact hb7d)]; rfl
      refine seq_assoc ?_
      refine wpc_genE fun ex he => ?_
      have y2 : ex 2 = ptr H.length 0 := by rw [he]; simp only [go_sem, binC, e2]
      have y3 : ex 3 = ptr (H.length + 1) 0 := by rw [he]; simp only [go_sem, binC, e3]
      have y4 : ex 4 = ptr b4 0 := by rw [he]; simp only [go_sem, binC, e4]
      have y7 : ex 7 = ptr Hb.length 0 := by rw [he]; simp only [go_sem, binC, e7]
      clear he
      refine seq_regV (q := 2) (k := 0) (ea := putE (putE ex (some 52) (.agg #[lv, sv])) (some 53) (.agg #[sli b1 0 ts.length, sli bh 0 homes.length, sli bd 0 does0.length])) rfl rfl rfl ?_
      simp only [go_sem, binC, y2, hb2d, olv, osv]
      refine ⟨by omega, ?_⟩
      refine ⟨frees_cons _ (iop_load (by simp only [go_sem, binC, y4]) g4) (iop_load (by simp only [go_sem, binC, y4]) (g4' _)) (frees_cons _ (iop_load (by simp only [go_sem, binC, y7]) g7) (iop_load (by simp only [go_sem, binC, y7]) (g7' _)) rfl), _, rfl, ?_⟩
      simp only [go_sem, binC, y3, hb3s, sli]
      refine ⟨by omega, ?_⟩
      refine wpc_genH fun Hf hHf => ?_
      have xdf : AgX [H.length, H.length + 1] Hd Hf := by
        rw [hHf]
        exact (AgX.set Hd H.length _).trans (AgX.set _ (H.length + 1) _) (fun _ h _ => by simp only [List.mem_singleton] at h; simp [h]) (fun _ h _ => by simp only [List.mem_singleton] at h; simp [h])
      have hfP : Hf[H.length]? = some ⟨[lv, sv], 0, 0, false, true⟩ := by rw [hHf, List.getElem?_set_ne (by omega), List.getElem?_set_self hb2l]
      have hfQ : Hf[H.length + 1]? = some ⟨[sli b1 0 ts.length, sli bh 0 homes.length, sli bd 0 does0.length], 0, 0, false, true⟩ := by rw [hHf, List.getElem?_set_self (by rw [List.length_set]; exact hb3l)]; rfl
      clear hHf
      have x1f : AgX [rb, bd, H.length, H.length + 1] H1 Hf := x1d.trans xdf (fun _ h _ => by simp only [List.mem_cons, List.not_mem_nil, or_false] at h ⊢; omega) (fun _ h _ => by simp only [List.mem_cons, List.not_mem_nil, or_false] at h ⊢; omega)
      have xcf : AgX [rb, bd, H.length, H.length + 1] Hc Hf := (xcn.trans xd (zs := [rb, bd]) (fun _ h _ => by simp only [List.mem_singleton] at h; simp [h]) (fun _ h _ => h)).trans xdf (fun _ h _ => by simp only [List.mem_cons, List.not_mem_nil, or_false] at h ⊢; omega) (fun _ h _ => by simp only [List.mem_cons, List.not_mem_nil, or_false] at h ⊢; omega)
      have xnf : AgX [rb, bd, H.length, H.length + 1] Hn Hf := xd.trans xdf (fun _ h _ => by simp only [List.mem_cons, List.not_mem_nil, or_false] at h ⊢; omega) (fun _ h _ => by simp only [List.mem_cons, List.not_mem_nil, or_false] at h ⊢; omega)
      have hpf : ProgV 3 (vwl H.length [bh, bd] Hf) lv sv ls l := hpc.mono (vwl_sub xcf (by omega) fun b' h1 h2 h3 => ⟨by simp; omega, by simp; omega⟩)
      have of1 := on1.keep (Nat.le_refl _) xnf (by simp; omega)
      have of2 := on2.keep (lo' := H.length) (by omega) xnf (by simp; omega)
      have of3 := od.keep (lo' := H.length) (by omega) xdf (by simp; omega)
      refine seq_ret ?_
      rw [hKK]
      simp only [go_sem, binC, out_r, thenX_r]
      refine ⟨Or.inr rfl, .tuple #[.agg #[lv, sv], .agg #[sli b1 0 ts.length, sli bh 0 homes.length, sli bd 0 does0.length]], ?_, qd, ?_, ?_, by omega, ?_⟩
      · simp [resV, resL, res1, putE_get, notT, ptr, gc_of hfP, gc_of hfQ, inBlk_some, valOf, y2, y3, sli]
      · exact ht1.trans x1f (fun _ h _ => h) (fun b h hlt => by simp only [List.mem_cons, List.not_mem_nil, or_false] at h ⊢; omega)
      · exact sd.mono hc xdf (fun b h => by simp only [List.mem_cons, List.not_mem_nil, or_false] at h; omega)
      · refine ⟨lv, sv, sli b1 0 ts.length, bh, bd, ls, l, ts, homes, cur, by rw [hcl], hpf, ?_, htl, of2, of3, d23, by omega, by omega⟩
        exact ints_sl (o := 0) (lo := H.length) (xs := [bh, bd]) (l := ts) of1.blk (by omega) (by simp; omega) of1.rg (Nat.zero_le _) (by omega)
    | succ k ihj =>
      intro j e Hd qd cur hj sd hqd xd od hcl e0 e2 e3 e4 e6 e7 e9
      have hjl : j < does0.length := by omega
      have hw2 : IntKind.i64.wrap ((j : Int) + 1) = ((j + 1 : Nat) : Int) := by rw [wrap_id (by omega) (by omega)]; omega
      have hb7d := xd.get hb7 (by simp; omega)
      refine lp_step ?_
      refine seq_assoc (seq_reg ?_)
      simp only [go_sem, binC, e7, e9, gc_of hb7d, inBlk_some]
      refine seq_cond (t := true) (by simp only [go_sem, binC]; rw [decide_eq_true (by omega)]) ?_
      simp only [go_sem, binC]
      refine seq_skip (seq_block (seq_reg ?_))
      simp only [go_sem, binC, e0]
      refine op_draw (n := 3) hpk hc sd (by omega) (by omega) hlo (by simp only [go_sem, binC, e0]) (by simp only [go_sem, binC]) fun He hle xe se => ?_
      simp only [go_sem, binC]
      have hpk3 := pickV_bd code qd (n := 3) (by omega)
      generalize pickV code qd 3 = hv3 at *
      have xne : AgX [rb, bd] Hn He := xd.trans xe (fun _ h _ => h) (fun _ h _ => by simp only [List.mem_singleton] at h; simp [h])
      have xce : AgX [rb, bd] Hc He := xcn.trans xne (fun _ h _ => by simp only [List.mem_singleton] at h; simp [h]) (fun _ h _ => h)
      have xae : AgX [rb, bd] Ha He := xan.trans xne (fun _ h _ => by cases h) (fun _ h _ => h)
      have hpe : ProgV 3 (vw 0 He) lv sv ls l := hpc.mono ((vwl_sub xce (lo' := H1.length) (xs' := []) (Nat.le_refl _) fun b' h1 h2 h3 => ⟨by simp; omega, by simp⟩).trans (vwl0 _ _ _))
      have hte : SlR Co.int (vw 0 He) (.slice ta ts.length ts.length) ts := hts.mono ((vwl_sub xae (lo' := Hc.length) (xs' := []) (Nat.le_refl _) fun b' h1 h2 h3 => ⟨by simp; omega, by simp⟩).trans (vwl0 _ _ _))
      have oe2 := on2.keep (Nat.le_refl _) xne (by simp; omega)
      have oe3 := od.keep (Nat.le_refl _) xe (by simp; omega)
      have hb7e := xne.get hb7 (by simp; omega)
      have hbne := xne.get hbn (by simp; omega)
      refine seq_reg ?_
      simp only [go_sem, binC, e4, e6, e7, e9, gc_of hb7e, gc_of hbne, inBlk_some, olv, osv]
      refine op_callQ (by simp only [go_sem, binC, e6, e9]; exact gps He 3 _ _ _ _ ls l ts homes j hv3 hpe.1 hpe.2.1 hpe.2.2.1 hte oe2.sl) ?_
      simp only [go_sem, binC]
      cases hst : stepV 3 (ls, l) ts homes j hv3 with
      | false =>
        refine wpc_cond (t := false) rfl ?_
        simp only [go_sem, binC]
        refine wpc_skip ?_
        simp only [go_sem, binC, out_n, thenX_n]
        refine wpc_reg ?_
        simp only [go_sem, binC, e9, hw2]
        simp only [go_sem, binC, thenX_n]
        exact ihj (j + 1) _ He (qd + 1) cur (by omega) se (by omega) xne oe3 hcl (by simp only [go_sem, binC, e0]) (by simp only [go_sem, binC, e2]) (by simp only [go_sem, binC, e3]) (by simp only [go_sem, binC, e4]) (by simp only [go_sem, binC, e6]) (by simp only [go_sem, binC, e7]) (by simp only [go_sem, binC])
      | true =>
        refine wpc_cond (t := true) rfl ?_
        simp only [go_sem, binC]
        have hbd := oe3.blk
        have hbdl := oe3.lt
        refine wpc_reg ?_
        simp only [go_sem, binC, e7, e9, gc_of hb7e, inBlk_some]
        refine ⟨⟨by omega, by omega⟩, ?_⟩
        simp only [go_sem, binC, Int.toNat_natCast, Nat.mul_one, hbd, ints_len, ints_set]
        refine ⟨⟨by omega, by omega⟩, ?_⟩
        simp only [go_sem, binC, out_n, thenX_n]
        have hxs : AgX [bd] He (He.set bd ⟨ints (cur.set j hv3), 1, 3, true, true⟩) := AgX.set _ _ _
        have os3 : IntsO 3 Ha.length (He.set bd ⟨ints (cur.set j hv3), 1, 3, true, true⟩) bd true (cur.set j hv3) := ⟨od.ge, by rw [List.length_set]; exact od.len, List.getElem?_set_self hbdl, fun x hx => by
          rcases List.mem_or_eq_of_mem_set hx with h | rfl
          · exact od.rg x h
          · exact ⟨by omega, by omega⟩⟩
        refine wpc_reg ?_
        simp only [go_sem, binC, e9, hw2]
        simp only [go_sem, binC, thenX_n]
        exact ihj (j + 1) _ _ (qd + 1) (cur.set j hv3) (by omega) (se.setN hc (by omega) _) (by omega) (xne.trans hxs (fun _ h _ => h) (fun _ h _ => by simp only [List.mem_singleton] at h; simp [h])) os3 (by rw [List.length_set]; exact hcl) (by simp only [go_sem, binC, e0]) (by simp only [go_sem, binC, e2]) (by simp only [go_sem, binC, e3]) (by simp only [go_sem, binC, e4]) (by simp only [go_sem, binC, e6]) (by simp only [go_sem, binC, e7]) (by simp only [go_sem, binC])
end Go.Proofs.YtbjeldblaclpnaaI
end
section
/- A program and a plan, some spoilt. -/
set_option linter.unusedVariables false
set_option linter.unusedSimpArgs false
namespace Go.Proofs.YtbjeldblaclpnaaI
open Go Go.RowKit
def drOffT : ICode := .seq (.reg (some 3) [
    ⟨(some 54), none, .load true 2 (.t 4)⟩,
    ⟨(some 55), none, .load true 3 (.t 5)⟩,
    ⟨none, none, .store 2 (.t 2) (.t 54)⟩,
    ⟨none, none, .store 3 (.t 3) (.t 55)⟩])
 (.ret)
def c_drOff : IFn := ⟨1, 56, [.cell true 2 2, .cell true 3 3],
 .seq (.reg none [
    ⟨(some 2), none, .new [(.slice none 0 0), (.slice none 0 0)]⟩,
    ⟨(some 3), none, .new [(.slice none 0 0), (.slice none 0 0), (.slice none 0 0)]⟩])
 (.seq (.reg none [
    ⟨(some 7), none, .mov (.t 0)⟩,
    ⟨(some 8), none, .call .n (.f 46) [(.t 7)]⟩,
    ⟨(some 6), none, .mov (.t 8)⟩,
    ⟨(some 9), none, .ext (.t 6) 0⟩,
    ⟨(some 10), none, .ext (.t 6) 1⟩,
    ⟨(some 4), none, .new [(.slice none 0 0), (.slice none 0 0)]⟩,
    ⟨(some 5), none, .new [(.slice none 0 0), (.slice none 0 0), (.slice none 0 0)]⟩,
    ⟨none, none, .store 2 (.t 4) (.t 9)⟩,
    ⟨none, none, .store 3 (.t 5) (.t 10)⟩])
 (.seq (.seq (.reg none [
     ⟨(some 11), none, .mov (.t 0)⟩,
     ⟨(some 12), none, .call .n (.f 45) [(.t 11), (.c (.int .i64 16))]⟩])
  (.block 0 (.seq (.reg none [
      ⟨(some 14), none, .bin .eql (.t 12) (.c (.int .i64 0))⟩,
      ⟨(some 13), none, .mov (.t 14)⟩])
   (.cond (.t 13) (.seq (.reg none [
       ⟨(some 15), none, .fad 1 (.t 5)⟩,
       ⟨(some 16), none, .load false 1 (.t 15)⟩,
       ⟨(some 17), none, .len (.t 16)⟩,
       ⟨(some 18), none, .bin .gtr (.t 17) (.c (.int .i64 0))⟩])
    (.cond (.t 18) (.reg (some 5) [
       ⟨(some 19), none, .fad 1 (.t 5)⟩,
       ⟨(some 20), none, .load false 1 (.t 19)⟩,
       ⟨(some 21), none, .mov (.t 0)⟩,
       ⟨(some 22), none, .call .n (.f 45) [(.t 21), (.c (.int .i64 5))]⟩,
       ⟨(some 23), none, .bin .sub (.t 22) (.c (.int .i64 1))⟩,
       ⟨(some 24), none, .iad 1 (.t 20) (.c (.int .i64 0))⟩,
       ⟨none, none, .store 1 (.t 24) (.t 23)⟩]) (.skip))) (.seq (.reg none [
       ⟨(some 26), none, .bin .eql (.t 12) (.c (.int .i64 1))⟩,
       ⟨(some 25), none, .mov (.t 26)⟩])
    (.cond (.t 25) (.seq (.reg none [
        ⟨(some 27), none, .fad 2 (.t 5)⟩,
        ⟨(some 28), none, .load false 1 (.t 27)⟩,
        ⟨(some 29), none, .len (.t 28)⟩,
        ⟨(some 30), none, .bin .gtr (.t 29) (.c (.int .i64 0))⟩])
     (.cond (.t 30) (.reg (some 10) [
        ⟨(some 31), none, .fad 2 (.t 5)⟩,
        ⟨(some 32), none, .load false 1 (.t 31)⟩,
        ⟨(some 33), none, .mov (.t 0)⟩,
        ⟨(some 34), none, .fad 2 (.t 5)⟩,
        ⟨(some 35), none, .load false 1 (.t 34)⟩,
        ⟨(some 36), none, .len (.t 35)⟩,
        ⟨(some 37), none, .call .n (.f 45) [(.t 33), (.t 36)]⟩,
        ⟨(some 38), none, .mov (.t 0)⟩,
        ⟨(some 39), none, .call .n (.f 45) [(.t 38), (.c (.int .i64 5))]⟩,
        ⟨(some 40), none, .bin .sub (.t 39) (.c (.int .i64 1))⟩,
        ⟨(some 41), none, .iad 1 (.t 32) (.t 37)⟩,
        ⟨none, none, .store 1 (.t 41) (.t 40)⟩]) (.skip))) (.seq (.reg none [
        ⟨(some 43), none, .bin .eql (.t 12) (.c (.int .i64 2))⟩,
        ⟨(some 42), none, .mov (.t 43)⟩])
     (.cond (.t 42) (.reg none [
        ⟨(some 44), none, .mov (.t 0)⟩,
        ⟨(some 45), none, .call .n (.f 48) [(.t 44)]⟩,
        ⟨(some 46), none, .fad 0 (.t 5)⟩,
        ⟨none, none, .store 1 (.t 46) (.t 45)⟩]) (.seq (.reg none [
         ⟨(some 48), none, .bin .eql (.t 12) (.c (.int .i64 3))⟩,
         ⟨(some 47), none, .mov (.t 48)⟩])
      (.cond (.t 47) (.reg none [
         ⟨(some 49), none, .fad 2 (.t 5)⟩,
         ⟨(some 50), none, .load false 1 (.t 49)⟩,
         ⟨(some 51), none, .lit 1 3 1 [(.int .i64 0)] [(0, 1, (.c (.int .i64 0)))]⟩,
         ⟨(some 52), none, .app 1 3 8 false (.t 50) (.t 51)⟩,
         ⟨(some 53), none, .fad 2 (.t 5)⟩,
         ⟨none, none, .store 1 (.t 53) (.t 52)⟩]) (.skip)))))))))))
 drOffT))⟩
/-- A program and a plan that were drawn: what they show. -/
def OffQ (H H' : Heap) (v : Value) : Prop := ∃ (lv sv tv hv dv : Value) (ls : List (Int × Int)) (l : List (TStep 3)) (ts homes does : List Int), v = .tuple #[.agg #[lv, sv], .agg #[tv, hv, dv]] ∧ ProgV 3 (vwl H.length [] H') lv sv ls l ∧ SlR Co.int (vwl H.length [] H') tv ts ∧ SlR Co.int (vwl H.length [] H') hv homes ∧ SlR Co.int (vwl H.length [] H') dv does ∧ ts.length ≤ 3 ∧ homes.length ≤ 100 ∧ does.length ≤ 1001
theorem sl_one {V : Vw} {v : Value} {l : List Int} (h : SlR Co.int V v l) : one v = true := by obtain ⟨_, a, rfl, _⟩ := h; rfl
set_option maxHeartbeats 4000000 in
theorem drOff_ok {F : Nat → Option IFn} {f : Nat} (hf : F f = some c_drOff) (hpk : F 45 = some c_pick) {H0 : Heap} {rb : Nat} {bv : Value} {code : List Int} (hc : RdC H0 rb bv code) (gpl : DrawS F H0 rb bv 46 [] 370000 PlanQ) (gtr : DrawS F H0 rb bv 48 [] 10 TrQ) : DrawS F H0 rb bv f [] 370020 OffQ := by
  refine DrawS.mk hf rfl fun H p lo hs hp hp2 hlo => ?_
  have hl := hs.lt
  have hc0 := hc.low
  refine seq_reg ?_
  simp only [go_sem, binC]
  refine wpc_gen fun H1 hH1 => ?_
  have hs1 : St H0 rb bv p H1 := hH1 ▸ hs.appN hc _
  have ht1 : AgX [rb] H H1 := hH1 ▸ AgX.app [rb] _ _
  have hb2 : H1[H.length]? = some ⟨[nilS, nilS], 0, 0, false, true⟩ := hH1 ▸ get_new0 _ _
  have hb3 : H1[H.length + 1]? = some ⟨[nilS, nilS, nilS], 0, 0, false, true⟩ := hH1 ▸ get_new _ _ 1
  have hn1 : H1.length = H.length + 2 := by rw [hH1, List.length_append]; rfl
  clear hH1
  refine seq_reg ?_
  simp only [go_sem, binC]
  obtain ⟨w, Ha, qa, ka, xa, sa, ca, lv, sv, tv, b2, b3, ls, l, ts, homes, does, rfl, hpa, hta, htl, oh, od, hne, hhl, hdl⟩ := gpl H1 p lo hs1 hp (by omega) hlo
  refine op_callN (by simp only [go_sem, binC]; exact ka) ?_
  have olv : one lv = true := by obtain ⟨_, a, rfl, _⟩ := hpa.1; rfl
  have osv : one sv = true := by obtain ⟨_, a, rfl, _⟩ := hpa.2.1; rfl
  have hla := xa.1
  obtain ⟨_, ta, rfl, _⟩ := id hta
  simp only [go_sem, binC, olv, osv, sli]
  refine ⟨by omega, by omega, ?_⟩
  refine wpc_gen fun Hb hHb => ?_
  have xb : AgX [] Ha Hb := hHb ▸ AgX.app [] _ _
  have hb4 : Hb[Ha.length]? = some ⟨[lv, sv], 0, 0, false, true⟩ := hHb ▸ get_new0 _ _
  have hb5 : Hb[Ha.length + 1]? = some ⟨[.slice ta ts.length ts.length, .slice (some ⟨b2, 0, none⟩) homes.length homes.length, .slice (some ⟨b3, 0, none⟩) does.length does.length], 0, 0, false, true⟩ := hHb ▸ get_new _ _ 1
  have hnb : Hb.length = Ha.length + 2 := by rw [hHb, List.length_append]; rfl
  clear hHb
  have sb : St H0 rb bv qa Hb := sa.mono hc xb (fun _ h => by cases h)
  have ohb := oh.keep (Nat.le_refl _) xb (by simp)
  have odb := od.keep (Nat.le_refl _) xb (by simp)
  have hb2g := oh.ge
  have hb3g := od.ge
  have hb2l := oh.lt
  have hb3l := od.lt
  have x1b : AgX [rb] H1 Hb := xa.trans xb (fun _ h _ => h) (fun _ h _ => by cases h)
  have htb : SlR Co.int (vwl H1.length [b2, b3] Hb) (.slice ta ts.length ts.length) ts := hta.mono (vwl_sub xb (Nat.le_refl _) fun b' h1 h2 h3 => ⟨by simp, h3⟩)
  have hpb : ProgV 3 (vwl H1.length [b2, b3] Hb) lv sv ls l := hpa.mono (vwl_sub xb (Nat.le_refl _) fun b' h1 h2 h3 => ⟨by simp, h3⟩)
  have hTs : ∀ (Hx : Heap) (xs : List Nat), AgX xs Hb Hx → (∀ b', b' ∈ xs → b' = rb ∨ b' = b2 ∨ b' = b3 ∨ b' = Ha.length + 1) → SlR Co.int (vwl H1.length [] Hx) (.slice ta ts.length ts.length) ts := fun Hx xs hx hz => hta.mono (vwl_sub (xb.trans hx (zs := xs) (fun _ h _ => by cases h) (fun _ h _ => h)) (Nat.le_refl _) fun b' h1 h2 h3 => ⟨fun hm => by have := hz b' hm; simp only [List.mem_cons, List.not_mem_nil, or_false] at h3; omega, by simp⟩)
  have hIs : ∀ (Hx : Heap) (bb : Nat) (so : Bool) (l0 : List Int), IntsO 3 H1.length Hx bb so l0 → SlR Co.int (vwl H1.length [] Hx) (.slice (some ⟨bb, 0, none⟩) l0.length l0.length) l0 := fun Hx bb so l0 h => ints_sl (o := 0) (lo := H1.length) (xs := []) (l := l0) h.blk h.ge (by simp) h.rg (Nat.zero_le _) (by have := h.len; omega)
  refine wpc_genK fun KK hKK => ?_
  have hT : ∀ (e' : Env) (Hf : Heap) (q : Int) (tv hv dv : Value) (ts' homes' does' : List Int), e' 2 = ptr H.length 0 → e' 3 = ptr (H.length + 1) 0 → e' 4 = ptr Ha.length 0 → e' 5 = ptr (Ha.length + 1) 0 → AgX [rb, b2, b3, Ha.length + 1] Hb Hf → Hf[Ha.length + 1]? = some ⟨[tv, hv, dv], 0, 0, false, true⟩ → St H0 rb bv q Hf → qa ≤ q ∧ q ≤ qa + 20 → SlR Co.int (vwl H1.length [] Hf) tv ts' → SlR Co.int (vwl H1.length [] Hf) hv homes' → SlR Co.int (vwl H1.length [] Hf) dv does' → ts'.length ≤ 3 → homes'.length ≤ 100 → does'.length ≤ 1001 → wpc F lo drOffT e' Hf KK := by
    intro e' Hf q tv hv dv ts' homes' does' e2 e3 e4 e5 xf hb5f sf hq st sh sd ht' hh' hd'
    rw [hKK]
    have o1 := sl_one st
    have o2 := sl_one sh
    have o3 := sl_one sd
    have x1f : AgX [rb, b2, b3, Ha.length + 1] H1 Hf := x1b.trans xf (fun b h _ => by simp only [List.mem_singleton] at h; simp [h]) (fun _ h _ => h)
    have hb2f := x1f.get hb2 (by simp; omega)
    have hb3f := x1f.get hb3 (by simp; omega)
    have hb4f := xf.get hb4 (by simp; omega)
    have hb2fl := (List.getElem?_eq_some_iff.1 hb2f).1
    have hb3fl := (List.getElem?_eq_some_iff.1 hb3f).1
    have g4 : getCells Hf Ha.length 0 2 = some [lv, sv] := by rw [gc_of hb4f]; rfl
    have g5 : getCells Hf (Ha.length + 1) 0 3 = some [tv, hv, dv] := by rw [gc_of hb5f]; rfl
    have g4' : ∀ kk : Blk, getCells (Hf.set H.length kk) Ha.length 0 2 = some [lv, sv] := fun kk => by rw [gc_of (show (Hf.set H.length kk)[Ha.length]? = some ⟨[lv, sv], 0, 0, false, true⟩ by rw [List.getElem?_set_ne (by omega)]; exact hb4f)]; rfl
    have g5' : ∀ kk : Blk, getCells (Hf.set H.length kk) (Ha.length + 1) 0 3 = some [tv, hv, dv] := fun kk => by rw [gc_of (show (Hf.set H.length kk)[Ha.length + 1]? = some ⟨[tv, hv, dv], 0, 0, false, true⟩ by rw [List.getElem?_set_ne (by omega)]; exact hb5f)]; rfl
    have hb3s : ∀ kk : Blk, (Hf.set H.length kk)[H.length + 1]? = some ⟨[nilS, nilS, nilS], 0, 0, false, true⟩ := fun kk => by rw [List.getElem?_set_ne (by omega)]; exact hb3f
    unfold drOffT
    refine seq_regV (q := 2) (k := 0) (ea := putE (putE e' (some 54) (.agg #[lv, sv])) (some 55) (.agg #[tv, hv, dv])) rfl rfl rfl ?_
    simp only [go_sem, binC, e2, hb2f, olv, osv]
    refine ⟨by omega, ?_⟩
    refine ⟨frees_cons _ (iop_load (by simp only [go_sem, binC, e4]) g4) (iop_load (by simp only [go_sem, binC, e4]) (g4' _)) (frees_cons _ (iop_load (by simp only [go_sem, binC, e5]) g5) (iop_load (by simp only [go_sem, binC, e5]) (g5' _)) rfl), _, rfl, ?_⟩
    simp only [go_sem, binC, e3, hb3s, o1, o2, o3]
    refine ⟨by omega, ?_⟩
    refine wpc_genH fun Hz hHz => ?_
    have xfz : AgX [H.length, H.length + 1] Hf Hz := by
      rw [hHz]
      exact (AgX.set Hf H.length _).trans (AgX.set _ (H.length + 1) _) (fun _ h _ => by simp only [List.mem_singleton] at h; simp [h]) (fun _ h _ => by simp only [List.mem_singleton] at h; simp [h])
    have hfP : Hz[H.length]? = some ⟨[lv, sv], 0, 0, false, true⟩ := by rw [hHz, List.getElem?_set_ne (by omega), List.getElem?_set_self hb2fl]
    have hfQ : Hz[H.length + 1]? = some ⟨[tv, hv, dv], 0, 0, false, true⟩ := by rw [hHz, List.getElem?_set_self (by rw [List.length_set]; exact hb3fl)]
    clear hHz
    have x1z : AgX [rb, b2, b3, Ha.length + 1, H.length, H.length + 1] H1 Hz := x1f.trans xfz (fun _ h _ => by simp only [List.mem_cons, List.not_mem_nil, or_false] at h ⊢; omega) (fun _ h _ => by simp only [List.mem_cons, List.not_mem_nil, or_false] at h ⊢; omega)
    have xaz : AgX [rb, b2, b3, Ha.length + 1, H.length, H.length + 1] Ha Hz := (xb.trans xf (zs := [rb, b2, b3, Ha.length + 1]) (fun _ h _ => by cases h) (fun _ h _ => h)).trans xfz (fun _ h _ => by simp only [List.mem_cons, List.not_mem_nil, or_false] at h ⊢; omega) (fun _ h _ => by simp only [List.mem_cons, List.not_mem_nil, or_false] at h ⊢; omega)
    have hsub : Sub (vwl H1.length [] Hf) (vwl H.length [] Hz) := vwl_sub xfz (by omega) fun b' h1 h2 h3 => ⟨by simp; omega, by simp⟩
    refine wpc_ret ⟨Or.inr rfl, .tuple #[.agg #[lv, sv], .agg #[tv, hv, dv]], ?_, q, ?_, ?_, by omega, ?_⟩
    · simp [resV, resL, res1, putE_get, notT, ptr, gc_of hfP, gc_of hfQ, inBlk_some, valOf, e2, e3]
    · exact ht1.trans x1z (fun _ h _ => h) (fun b h hlt => by simp only [List.mem_cons, List.not_mem_nil, or_false] at h ⊢; omega)
    · exact sf.mono hc xfz (fun b h => by simp only [List.mem_cons, List.not_mem_nil, or_false] at h; omega)
    · exact ⟨lv, sv, tv, hv, dv, ls, l, ts', homes', does', rfl, hpa.mono (vwl_sub xaz (by omega) fun b' h1 h2 h3 => ⟨by simp only [List.mem_cons, List.not_mem_nil, or_false] at h3 ⊢; omega, by simp⟩), st.mono hsub, sh.mono hsub, sd.mono hsub, ht', hh', hd'⟩
  refine seq_assoc (seq_reg ?_)
  simp only [go_sem, binC]
  refine op_draw (n := 16) hpk hc sb (by omega) (by omega) hlo (by simp only [go_sem, binC]) (by simp only [go_sem, binC]) fun He hle xe se => ?_
  simp only [go_sem, binC]
  have hpx := pickV_bd code qa (n := 16) (by omega)
  generalize pickV code qa 16 = x at *
  refine wpc_genE fun ex he => ?_
  have e0 : ex 0 = ptr rb 0 := by rw [he]; simp only [go_sem, binC]
  have e2 : ex 2 = ptr H.length 0 := by rw [he]; simp only [go_sem, binC]
  have e3 : ex 3 = ptr (H.length + 1) 0 := by rw [he]; simp only [go_sem, binC]
  have e4 : ex 4 = ptr Ha.length 0 := by rw [he]; simp only [go_sem, binC]
  have e5 : ex 5 = ptr (Ha.length + 1) 0 := by rw [he]; simp only [go_sem, binC]
  have e12 : ex 12 = .int .i64 x := by rw [he]; simp only [go_sem, binC]
  clear he
  have hb5e := xe.get hb5 (by simp; omega)
  have oht := ohb.keep (Nat.le_refl _) xe (by simp; omega)
  have odt := odb.keep (Nat.le_refl _) xe (by simp; omega)
  have h5l := (List.getElem?_eq_some_iff.1 hb5e).1
  have xe4 : AgX [rb, b2, b3, Ha.length + 1] Hb He := xe.trans (AgX.refl [] He) (fun b h _ => by simp only [List.mem_singleton] at h; simp [h]) (fun _ h _ => by cases h)
  have hle2 := xe.1
  refine seq_block (seq_reg ?_)
  simp only [go_sem, binC, e12]
  by_cases h0 : x = 0
  · refine wpc_cond (t := true) (by simp only [go_sem, binC]; simp [h0]) ?_
    simp only [go_sem, binC]
    refine seq_reg ?_
    simp only [go_sem, binC, e5, gc_of hb5e, inBlk_some]
    by_cases hz : (0 : Int) < (homes.length : Int)
    · refine wpc_cond (t := true) (by simp only [go_sem, binC]; rw [decide_eq_true hz]) ?_
      simp only [go_sem, binC]
      refine wpc_regX [rb] (by simp; omega) ?_
      obtain ⟨N, n1⟩ : ∃ N, He.length = N := ⟨_, rfl⟩
      have g5 : ∀ (B L : Heap), B[Ha.length + 1]? = some ⟨[.slice ta ts.length ts.length, .slice (some ⟨b2, 0, none⟩) homes.length homes.length, .slice (some ⟨b3, 0, none⟩) does.length does.length], 0, 0, false, true⟩ → getCells (hide [rb] B ++ L) (Ha.length + 1) 1 1 = some [.slice (some ⟨b2, 0, none⟩) homes.length homes.length] := fun B L hb => gc_hidO L (by rw [gc_of hb]; rfl) (by simp; omega)
      have q5 := g5 He [] hb5e
      rw [List.append_nil] at q5
      refine wpx_A rfl ?_
      simp only [go_sem, binC, e5, List.append_nil]
      refine wpx_A rfl ?_
      simp only [go_sem, binC, q5, List.append_nil]
      refine wpx_A rfl ?_
      simp only [go_sem, binC, e0]
      refine wpx_pick (n := 5) hpk hc se (by omega) (by omega) hlo (by simp only [go_sem, binC, e0]) (by simp only [go_sem, binC]) fun B1 hl1 hx2 hs2 => ?_
      have hk1 := pickV_bd code (qa + 1) (n := 5) (by omega)
      generalize pickV code (qa + 1) 5 = y at *
      refine wpx_A rfl ?_
      simp only [go_sem, binC]
      refine wpx_zero ?_
      have hwy : IntKind.i64.wrap (y - 1) = y - 1 := wrap_id (by omega) (by omega)
      have o1 := oht.keep (Nat.le_refl _) hx2 (by simp; omega)
      have d1 := odt.keep (Nat.le_refl _) hx2 (by simp; omega)
      have hb51 := hx2.get hb5e (by simp; omega)
      have h1b := o1.blk
      have h1l := o1.lt
      simp only [go_sem, binC, hwy, List.append_nil]
      refine ⟨⟨by omega, by omega⟩, ?_⟩
      simp only [go_sem, binC, Int.toNat_zero, Nat.mul_one, h1b, ints_len, ints_set, List.append_nil]
      refine ⟨⟨by omega, by omega⟩, ?_⟩
      simp only [go_sem, binC, out_n, thenX_n]
      have xs1 : AgX [b2] B1 (B1.set b2 ⟨ints (homes.set 0 (y - 1)), 1, 3, true, true⟩) := AgX.set _ _ _
      have os1 : IntsO 3 H1.length (B1.set b2 ⟨ints (homes.set 0 (y - 1)), 1, 3, true, true⟩) b2 true (homes.set 0 (y - 1)) := ⟨o1.ge, by rw [List.length_set]; exact o1.len, List.getElem?_set_self h1l, fun a ha => by
        rcases List.mem_or_eq_of_mem_set ha with h | rfl
        · exact o1.rg a h
        · exact ⟨by omega, by omega⟩⟩
      have ds1 := d1.keep (Nat.le_refl _) xs1 (by simp; omega)
      have xz : AgX [rb, b2, b3, Ha.length + 1] Hb (B1.set b2 ⟨ints (homes.set 0 (y - 1)), 1, 3, true, true⟩) := (xe.tr hx2).trans xs1 (fun b h _ => by simp only [List.mem_singleton] at h; simp [h]) (fun b h _ => by simp only [List.mem_singleton] at h; simp [h])
      have hv := hIs _ _ _ _ os1
      rw [List.length_set] at hv
      exact hT _ _ (qa + 1 + 1) _ _ _ ts (homes.set 0 (y - 1)) does (by simp only [go_sem, binC, e2]) (by simp only [go_sem, binC, e3]) (by simp only [go_sem, binC, e4]) (by simp only [go_sem, binC, e5]) xz (xs1.get hb51 (by simp; omega)) (hs2.setN hc (by omega) _) (by omega) (hTs _ _ xz (by simp)) hv (hIs _ _ _ _ ds1) htl (by rw [List.length_set]; exact hhl) (by omega)
    · refine wpc_cond (t := false) (by simp only [go_sem, binC]; rw [decide_eq_false hz]) ?_
      simp only [go_sem, binC]
      refine wpc_skip ?_
      simp only [go_sem, binC, out_n, thenX_n]
      exact hT _ He (qa + 1) _ _ _ ts homes does (by simp only [go_sem, binC, e2]) (by simp only [go_sem, binC, e3]) (by simp only [go_sem, binC, e4]) (by simp only [go_sem, binC, e5]) xe4 hb5e se (by omega) (hTs He _ xe4 (by simp)) (hIs _ _ _ _ oht) (hIs _ _ _ _ odt) htl hhl (by omega)
  refine wpc_cond (t := false) (by simp only [go_sem, binC]; simp [h0]) ?_
  simp only [go_sem, binC]
  refine seq_reg ?_
  simp only [go_sem, binC, e12]
  by_cases h1 : x = 1
  · refine wpc_cond (t := true) (by simp only [go_sem, binC]; simp [h1]) ?_
    simp only [go_sem, binC]
    refine seq_reg ?_
    simp only [go_sem, binC, e5, gc_of hb5e, inBlk_some]
    by_cases hz : (0 : Int) < (does.length : Int)
    · refine wpc_cond (t := true) (by simp only [go_sem, binC]; rw [decide_eq_true hz]) ?_
      simp only [go_sem, binC]
      refine wpc_regX [rb] (by simp; omega) ?_
      obtain ⟨N, n1⟩ : ∃ N, He.length = N := ⟨_, rfl⟩
      have g5 : ∀ (B L : Heap), B[Ha.length + 1]? = some ⟨[.slice ta ts.length ts.length, .slice (some ⟨b2, 0, none⟩) homes.length homes.length, .slice (some ⟨b3, 0, none⟩) does.length does.length], 0, 0, false, true⟩ → getCells (hide [rb] B ++ L) (Ha.length + 1) 2 1 = some [.slice (some ⟨b3, 0, none⟩) does.length does.length] := fun B L hb => gc_hidO L (by rw [gc_of hb]; rfl) (by simp; omega)
      have q5 := g5 He [] hb5e
      rw [List.append_nil] at q5
      refine wpx_A rfl ?_
      simp only [go_sem, binC, e5, List.append_nil]
      refine wpx_A rfl ?_
      simp only [go_sem, binC, q5, List.append_nil]
      refine wpx_A rfl ?_
      simp only [go_sem, binC, e0]
      refine wpx_A rfl ?_
      simp only [go_sem, binC, e5, List.append_nil]
      refine wpx_A rfl ?_
      simp only [go_sem, binC, q5, List.append_nil]
      refine wpx_A rfl ?_
      simp only [go_sem, binC, e0]
      refine wpx_pick (n := (does.length : Int)) hpk hc se (by omega) (by omega) hlo (by simp only [go_sem, binC, e0]) (by simp only [go_sem, binC]) fun B1 hl1 hx2 hs2 => ?_
      have hk1 := pickV_bd code (qa + 1) (n := (does.length : Int)) (by omega)
      generalize pickV code (qa + 1) (does.length : Int) = y at *
      refine wpx_A rfl ?_
      simp only [go_sem, binC]
      refine wpx_pick (n := 5) hpk hc hs2 (by omega) (by omega) hlo (by simp only [go_sem, binC, e0]) (by simp only [go_sem, binC]) fun B2 hl2 hx3 hs3 => ?_
      have hk2 := pickV_bd code (qa + 1 + 1) (n := 5) (by omega)
      generalize pickV code (qa + 1 + 1) 5 = z at *
      refine wpx_A rfl ?_
      simp only [go_sem, binC]
      refine wpx_zero ?_
      have hwy : IntKind.i64.wrap (z - 1) = z - 1 := wrap_id (by omega) (by omega)
      have o1 := oht.keep (Nat.le_refl _) (hx2.tr hx3) (by simp; omega)
      have d1 := odt.keep (Nat.le_refl _) (hx2.tr hx3) (by simp; omega)
      have hb51 := (hx2.tr hx3).get hb5e (by simp; omega)
      have h1b := d1.blk
      have h1l := d1.lt
      simp only [go_sem, binC, hwy, List.append_nil]
      refine ⟨⟨by omega, by omega⟩, ?_⟩
      simp only [go_sem, binC, Nat.mul_one, h1b, ints_len, ints_set, List.append_nil]
      refine ⟨⟨by omega, by omega⟩, ?_⟩
      simp only [go_sem, binC, out_n, thenX_n]
      have xs1 : AgX [b3] B2 (B2.set b3 ⟨ints (does.set y.toNat (z - 1)), 1, 3, true, true⟩) := AgX.set _ _ _
      have os1 : IntsO 3 H1.length (B2.set b3 ⟨ints (does.set y.toNat (z - 1)), 1, 3, true, true⟩) b3 true (does.set y.toNat (z - 1)) := ⟨d1.ge, by rw [List.length_set]; exact d1.len, List.getElem?_set_self h1l, fun a ha => by
        rcases List.mem_or_eq_of_mem_set ha with h | rfl
        · exact d1.rg a h
        · exact ⟨by omega, by omega⟩⟩
      have ds1 := o1.keep (Nat.le_refl _) xs1 (by simp; omega)
      have xz : AgX [rb, b2, b3, Ha.length + 1] Hb (B2.set b3 ⟨ints (does.set y.toNat (z - 1)), 1, 3, true, true⟩) := (xe.tr (hx2.tr hx3)).trans xs1 (fun b h _ => by simp only [List.mem_singleton] at h; simp [h]) (fun b h _ => by simp only [List.mem_singleton] at h; simp [h])
      have hv := hIs _ _ _ _ os1
      rw [List.length_set] at hv
      exact hT _ _ (qa + 1 + 1 + 1) _ _ _ ts homes (does.set y.toNat (z - 1)) (by simp only [go_sem, binC, e2]) (by simp only [go_sem, binC, e3]) (by simp only [go_sem, binC, e4]) (by simp only [go_sem, binC, e5]) xz (xs1.get hb51 (by simp; omega)) (hs3.setN hc (by omega) _) (by omega) (hTs _ _ xz (by simp)) (hIs _ _ _ _ ds1) hv htl hhl (by rw [List.length_set]; omega)
    · refine wpc_cond (t := false) (by simp only [go_sem, binC]; rw [decide_eq_false hz]) ?_
      simp only [go_sem, binC]
      refine wpc_skip ?_
      simp only [go_sem, binC, out_n, thenX_n]
      exact hT _ He (qa + 1) _ _ _ ts homes does (by simp only [go_sem, binC, e2]) (by simp only [go_sem, binC, e3]) (by simp only [go_sem, binC, e4]) (by simp only [go_sem, binC, e5]) xe4 hb5e se (by omega) (hTs He _ xe4 (by simp)) (hIs _ _ _ _ oht) (hIs _ _ _ _ odt) htl hhl (by omega)
  refine wpc_cond (t := false) (by simp only [go_sem, binC]; simp [h1]) ?_
  simp only [go_sem, binC]
  refine seq_reg ?_
  simp only [go_sem, binC, e12]
  by_cases h2 : x = 2
  · refine wpc_cond (t := true) (by simp only [go_sem, binC]; simp [h2]) ?_
    simp only [go_sem, binC]
    refine wpc_reg ?_
    simp only [go_sem, binC, e0]
    obtain ⟨tw, Hc, qc, kc, xc, sc, cc, ts2, hts2, htl2⟩ := gtr He (qa + 1) lo se (by omega) (by omega) hlo
    refine op_callN (by simp only [go_sem, binC, e0]; exact kc) ?_
    have ot2 := sl_one hts2
    have hb5c := xc.get hb5e (by simp; omega)
    simp only [go_sem, binC, e5, hb5c, ot2]
    obtain ⟨_, ta2, rfl, _⟩ := id hts2
    refine ⟨⟨by omega, by simp only [go_sem, binC], by simp only [go_sem, binC]⟩, ?_⟩
    simp only [go_sem, binC, out_n, thenX_n]
    have xs1 : AgX [Ha.length + 1] Hc (Hc.set (Ha.length + 1) ⟨[.slice ta2 ts2.length ts2.length, .slice (some ⟨b2, 0, none⟩) homes.length homes.length, .slice (some ⟨b3, 0, none⟩) does.length does.length], 0, 0, false, true⟩) := AgX.set _ _ _
    have xes := xc.trans xs1 (zs := [rb, Ha.length + 1]) (fun b h _ => by simp only [List.mem_singleton] at h; simp [h]) (fun b h _ => by simp only [List.mem_singleton] at h; simp [h])
    have xz := xe.trans xes (zs := [rb, b2, b3, Ha.length + 1]) (fun b h _ => by simp only [List.mem_singleton] at h; simp [h]) (fun b h _ => by simp only [List.mem_cons, List.not_mem_nil, or_false] at h ⊢; omega)
    have os1 := oht.keep (Nat.le_refl _) xes (by simp; omega)
    have ds1 := odt.keep (Nat.le_refl _) xes (by simp; omega)
    have h5cl := (List.getElem?_eq_some_iff.1 hb5c).1
    have hv2 := hts2.mono (vwl_sub xs1 (lo' := H1.length) (xs' := []) (by omega) fun b' h1 h2 h3 => ⟨by simp; omega, by simp⟩)
    exact hT _ _ qc _ _ _ ts2 homes does (by simp only [go_sem, binC, e2]) (by simp only [go_sem, binC, e3]) (by simp only [go_sem, binC, e4]) (by simp only [go_sem, binC, e5]) xz (List.getElem?_set_self h5cl) (sc.setN hc (by omega) _) (by omega) hv2 (hIs _ _ _ _ os1) (hIs _ _ _ _ ds1) htl2 hhl (by omega)
  refine wpc_cond (t := false) (by simp only [go_sem, binC]; simp [h2]) ?_
  simp only [go_sem, binC]
  refine seq_reg ?_
  simp only [go_sem, binC, e12]
  by_cases h3 : x = 3
  · refine wpc_cond (t := true) (by simp only [go_sem, binC]; simp [h3]) ?_
    simp only [go_sem, binC]
    refine wpc_reg ?_
    simp only [go_sem, binC, e5, gc_of hb5e, inBlk_some]
    refine op_app_I1 (lo := H1.length) odt (by simp only [go_sem, binC, sli]) (by simp only [go_sem, binC, sli]) ⟨by omega, by omega⟩ (by omega) (by omega) (by omega) fun Hc b' so' xc hb' _ oc => ?_
    have hb5c := xc.get hb5e (by simp; omega)
    have h5cl := (List.getElem?_eq_some_iff.1 hb5c).1
    have hlc := xc.1
    simp only [go_sem, binC, e5, hb5c, sli]
    refine ⟨by omega, ?_⟩
    simp only [go_sem, binC, out_n, thenX_n]
    have xs1 := AgX.set Hc (Ha.length + 1) ⟨[.slice ta ts.length ts.length, .slice (some ⟨b2, 0, none⟩) homes.length homes.length, .slice (some ⟨b', 0, none⟩) (does ++ [0]).length (does ++ [0]).length], 0, 0, false, true⟩
    have xes := xc.trans xs1 (zs := [b3, Ha.length + 1]) (fun b h _ => by simp only [List.mem_singleton] at h; simp [h]) (fun b h _ => by simp only [List.mem_singleton] at h; simp [h])
    have xz := xe.trans xes (zs := [rb, b2, b3, Ha.length + 1]) (fun b h _ => by simp only [List.mem_singleton] at h; simp [h]) (fun b h _ => by simp only [List.mem_cons, List.not_mem_nil, or_false] at h ⊢; omega)
    have os1 := oht.keep (Nat.le_refl _) xes (by simp; omega)
    have ds1 := oc.keep (Nat.le_refl _) xs1 (by simp; omega)
    exact hT _ _ (qa + 1) _ _ _ ts homes (does ++ [0]) (by simp only [go_sem, binC, e2]) (by simp only [go_sem, binC, e3]) (by simp only [go_sem, binC, e4]) (by simp only [go_sem, binC, e5]) xz (List.getElem?_set_self h5cl) ((se.mono hc xc (fun b h => by simp only [List.mem_singleton] at h; omega)).setN hc (by omega) _) (by omega) (hTs _ _ xz (by simp)) (hIs _ _ _ _ os1) (hIs _ _ _ _ ds1) htl hhl (by simp; omega)
  refine wpc_cond (t := false) (by simp only [go_sem, binC]; simp [h3]) ?_
  simp only [go_sem, binC]
  refine wpc_skip ?_
  simp only [go_sem, binC, out_n, thenX_n]
  exact hT _ He (qa + 1) _ _ _ ts homes does (by simp only [go_sem, binC, e2]) (by simp only [go_sem, binC, e3]) (by simp only [go_sem, binC, e4]) (by simp only [go_sem, binC, e5]) xe4 hb5e se (by omega) (hTs He _ xe4 (by simp)) (hIs _ _ _ _ oht) (hIs _ _ _ _ odt) htl hhl (by omega)
end Go.Proofs.YtbjeldblaclpnaaI
end
section
/- The draws of plans. -/
set_option linter.unusedVariables false
set_option linter.unusedSimpArgs false
namespace Go.Proofs.YtbjeldblaclpnaaI
open Go Go.RowKit
end Go.Proofs.YtbjeldblaclpnaaI
end
section
/- The draw DrawPlanStep. -/
set_option linter.unusedVariables false
set_option linter.unusedSimpArgs false
namespace Go.Proofs.YtbjeldblaclpnaaI
open Go Go.RowKit
def drPStT : ICode := .seq (.reg (some 11) [
    ⟨(some 62), none, .load true 2 (.t 8)⟩,
    ⟨(some 63), none, .fad 0 (.t 9)⟩,
    ⟨(some 64), none, .load false 1 (.t 63)⟩,
    ⟨(some 65), none, .fad 1 (.t 9)⟩,
    ⟨(some 66), none, .load false 1 (.t 65)⟩,
    ⟨(some 67), none, .mov (.t 10)⟩,
    ⟨(some 68), none, .mov (.t 11)⟩,
    ⟨none, none, .store 2 (.t 2) (.t 62)⟩,
    ⟨(some 3), none, .mov (.t 64)⟩,
    ⟨(some 4), none, .mov (.t 66)⟩,
    ⟨(some 5), none, .mov (.t 67)⟩,
    ⟨(some 6), none, .mov (.t 68)⟩])
 (.ret)
def c_drPSt : IFn := ⟨1, 69, [.cell true 2 2, .t 3, .t 4, .t 5, .t 6],
 .seq (.reg none [
    ⟨(some 2), none, .new [(.slice none 0 0), (.slice none 0 0)]⟩,
    ⟨(some 3), none, .mov (.c (.slice none 0 0))⟩,
    ⟨(some 4), none, .mov (.c (.slice none 0 0))⟩,
    ⟨(some 5), none, .mov (.c (.int .i64 0))⟩,
    ⟨(some 6), none, .mov (.c (.int .i64 0))⟩])
 (.seq (.reg none [
    ⟨(some 13), none, .mov (.t 0)⟩,
    ⟨(some 14), none, .call .n (.f 44) [(.t 13)]⟩,
    ⟨(some 7), none, .mov (.t 14)⟩])
 (.seq (.reg none [
    ⟨(some 16), none, .mov (.t 7)⟩,
    ⟨(some 17), none, .call .n (.f 75) [(.t 16)]⟩,
    ⟨(some 15), none, .mov (.t 17)⟩,
    ⟨(some 18), none, .ext (.t 15) 0⟩,
    ⟨(some 19), none, .ext (.t 15) 1⟩,
    ⟨(some 8), none, .new [(.slice none 0 0), (.slice none 0 0)]⟩,
    ⟨(some 9), none, .new [(.slice none 0 0), (.slice none 0 0), (.slice none 0 0)]⟩,
    ⟨none, none, .store 2 (.t 8) (.t 18)⟩,
    ⟨none, none, .store 3 (.t 9) (.t 19)⟩])
 (.seq (.reg none [
    ⟨(some 20), none, .mov (.t 7)⟩,
    ⟨(some 21), none, .load true 2 (.t 8)⟩,
    ⟨(some 22), none, .call .q (.f 77) [(.t 21)]⟩,
    ⟨(some 23), none, .bin .add (.t 22) (.c (.int .i64 2))⟩,
    ⟨(some 24), none, .call .n (.f 45) [(.t 20), (.t 23)]⟩,
    ⟨(some 25), none, .mov (.t 7)⟩,
    ⟨(some 26), none, .call .n (.f 45) [(.t 25), (.c (.int .i64 8))]⟩,
    ⟨(some 27), none, .bin .quo (.t 26) (.c (.int .i64 7))⟩,
    ⟨(some 28), none, .bin .sub (.t 24) (.t 27)⟩,
    ⟨(some 10), none, .mov (.t 28)⟩])
 (.seq (.reg none [
    ⟨(some 29), none, .mov (.t 7)⟩,
    ⟨(some 30), none, .call .n (.f 45) [(.t 29), (.c (.int .i64 4))]⟩,
    ⟨(some 31), none, .mov (.t 7)⟩,
    ⟨(some 32), none, .call .n (.f 45) [(.t 31), (.c (.int .i64 8))]⟩,
    ⟨(some 33), none, .bin .quo (.t 32) (.c (.int .i64 7))⟩,
    ⟨(some 34), none, .bin .sub (.t 30) (.t 33)⟩,
    ⟨(some 11), none, .mov (.t 34)⟩])
 (.seq (.seq (.reg none [
     ⟨(some 12), none, .mov (.c (.int .i64 0))⟩])
  (.block 0 (.loop (.seq (.seq (.reg none [
        ⟨(some 35), none, .mov (.t 12)⟩,
        ⟨(some 36), none, .bin .lss (.t 35) (.c (.int .i64 12))⟩,
        ⟨(some 37), none, .mov (.t 36)⟩,
        ⟨(some 38), (some (37, true)), .mov (.t 7)⟩,
        ⟨(some 39), (some (37, true)), .call .n (.f 45) [(.t 38), (.c (.int .i64 12))]⟩,
        ⟨(some 40), (some (37, true)), .bin .gtr (.t 39) (.c (.int .i64 0))⟩,
        ⟨(some 41), none, .pick (.t 37) (.t 40) (.c (.bool false))⟩,
        ⟨(some 42), none, .mov (.t 41)⟩,
        ⟨(some 43), (some (42, true)), .load true 2 (.t 8)⟩,
        ⟨(some 44), (some (42, true)), .fad 0 (.t 9)⟩,
        ⟨(some 45), (some (42, true)), .load false 1 (.t 44)⟩,
        ⟨(some 46), (some (42, true)), .fad 1 (.t 9)⟩,
        ⟨(some 47), (some (42, true)), .load false 1 (.t 46)⟩,
        ⟨(some 48), (some (42, true)), .mov (.t 10)⟩,
        ⟨(some 49), (some (42, true)), .mov (.t 11)⟩,
        ⟨(some 50), (some (42, true)), .call .q (.f 35) [(.t 43), (.t 45), (.t 47), (.t 48), (.t 49)]⟩,
        ⟨(some 51), (some (42, true)), .un .not (.t 50)⟩,
        ⟨(some 52), none, .pick (.t 42) (.t 51) (.c (.bool false))⟩])
     (.cond (.t 52) (.skip) (.exit 0)))
    (.seq (.block 1 (.seq (.reg none [
         ⟨(some 55), none, .mov (.t 7)⟩,
         ⟨(some 56), none, .load true 2 (.t 8)⟩,
         ⟨(some 57), none, .call .q (.f 77) [(.t 56)]⟩,
         ⟨(some 58), none, .bin .add (.t 57) (.c (.int .i64 1))⟩,
         ⟨(some 59), none, .call .n (.f 45) [(.t 55), (.t 58)]⟩,
         ⟨(some 10), none, .mov (.t 59)⟩])
      (.reg none [
        ⟨(some 60), none, .mov (.t 7)⟩,
        ⟨(some 61), none, .call .n (.f 45) [(.t 60), (.c (.int .i64 3))]⟩,
        ⟨(some 11), none, .mov (.t 61)⟩])))
    (.reg none [
      ⟨(some 53), none, .mov (.t 12)⟩,
      ⟨(some 54), none, .bin .add (.t 53) (.c (.int .i64 1))⟩,
      ⟨(some 12), none, .mov (.t 54)⟩]))))))
 drPStT)))))⟩
def DrawStepOk (F : Nat → Option IFn) (f : Nat) : Prop := ∀ (H : Heap) (v : Value) (code : List Int), SlR Co.byte (vw 0 H) v code → ∃ (d : Nat) (lv sv tv hw : Value) (x y : Int) (ls : List (Int × Int)) (l : List (TStep d)) (ts homes : List Int) (H' : Heap), KC F f [v] H (.tuple #[.agg #[lv, sv], tv, hw, .int .i64 x, .int .i64 y]) H' ∧
  (AgX [] H H' ∧ SlR Co.p2 (vw 0 H') lv ls ∧ SlR (Co.step d) (vw 0 H') sv l ∧ (Co.prog d).sm (ls, l) ∧ SlR Co.int (vw 0 H') tv ts ∧ SlR Co.int (vw 0 H') hw homes ∧ ts.length ≤ 3 ∧ homes.length ≤ 100 ∧ RgI x ∧ RgI y)
theorem sizeV_rg {n : Nat} {p : TProg n} (hs : (Co.prog n).sm p) : -1 ≤ sizeV n p ∧ sizeV n p ≤ 8 := by
  unfold sizeV
  by_cases h : progB n p = true
  · rw [if_pos h]
    have := progB_cnt h hs
    exact ⟨by omega, by omega⟩
  · rw [if_neg h]; omega
set_option maxHeartbeats 4000000 in
set_option maxRecDepth 20000 in
theorem drPSt_ok {F : Nat → Option IFn} {f : Nat} (hf : F f = some c_drPSt) (hop : F 44 = some c_l6Open) (hpk : F 45 = some c_pick) (goff : ∀ {H0 : Heap} {rb : Nat} {bv : Value} {code : List Int}, RdC H0 rb bv code → DrawS F H0 rb bv 75 [] 370020 OffQ) (gz : SizeV F 77) (gst : StepV F 35) : DrawStepOk F f := by
  intro H v code hv
  suffices h : ∃ w H', KC F f [v] H w H' ∧ (∃ (d : Nat) (lv sv tv hw : Value) (x y : Int) (ls : List (Int × Int)) (l : List (TStep d)) (ts homes : List Int), w = .tuple #[.agg #[lv, sv], tv, hw, .int .i64 x, .int .i64 y] ∧ (AgX [] H H' ∧ SlR Co.p2 (vw 0 H') lv ls ∧ SlR (Co.step d) (vw 0 H') sv l ∧ (Co.prog d).sm (ls, l) ∧ SlR Co.int (vw 0 H') tv ts ∧ SlR Co.int (vw 0 H') hw homes ∧ ts.length ≤ 3 ∧ homes.length ≤ 100 ∧ RgI x ∧ RgI y)) by
    obtain ⟨w, H', h1, d, lv, sv, tv, hw, x, y, ls, l, ts, homes, rfl, h2⟩ := h
    exact ⟨d, lv, sv, tv, hw, x, y, ls, l, ts, homes, H', h1, h2⟩
  refine KC.mk hf rfl ?_
  refine seq_reg ?_
  simp only [go_sem, binC]
  refine wpc_gen fun H1 hH1 => ?_
  have ht1 : AgX [] H H1 := hH1 ▸ AgX.app [] _ _
  have hb1 : H1[H.length]? = some ⟨[nilS, nilS], 0, 0, false, true⟩ := hH1 ▸ get_new0 _ _
  have hn1 : H1.length = H.length + 1 := by rw [hH1, List.length_append]; rfl
  clear hH1
  refine seq_reg ?_
  simp only [go_sem, binC]
  obtain ⟨bv, code', k2, hc, hs2⟩ := l6Open_ok hop (hv.mono (agx_sub ht1)) H.length ht1.1
  refine op_callN (by simp only [go_sem, binC]; exact k2) ?_
  simp only [go_sem, binC]
  refine wpc_gen fun H2 hH2 => ?_
  rw [← hH2] at hs2
  have x12 : AgX [] H1 H2 := hH2 ▸ AgX.app [] _ _
  have hn2 : H2.length = H1.length + 1 := by rw [hH2, List.length_append]; rfl
  clear hH2
  refine seq_reg ?_
  simp only [go_sem, binC]
  obtain ⟨v3, H3, p3, k3, x3, s3, c3, lv, sv, tv, hw, dv, ls, l, ts, homes, does, rfl, hpv, hts, hhs, hds, htl, hhl, hdl⟩ := goff hc H2 0 H.length hs2 (by omega) (by omega) (by omega)
  refine op_callN (by simp only [go_sem, binC]; exact k3) ?_
  obtain ⟨r1, r2, r3, r4⟩ := hpv
  obtain ⟨_, la, rfl, _⟩ := id r1
  obtain ⟨_, sa, rfl, _⟩ := id r2
  obtain ⟨_, ta, rfl, _⟩ := id hts
  obtain ⟨_, ha, rfl, _⟩ := id hhs
  obtain ⟨_, da, rfl, _⟩ := id hds
  have hl3 := x3.1
  simp only [go_sem, binC]
  refine ⟨by omega, by omega, ?_⟩
  refine wpc_gen fun H5 hH5 => ?_
  have x35 : AgX [] H3 H5 := hH5 ▸ AgX.app [] _ _
  have hbx5 : H5[H3.length]? = some ⟨[.slice la ls.length ls.length, .slice sa l.length l.length], 0, 0, false, true⟩ := hH5 ▸ get_new0 _ _
  have hbp5 : H5[H3.length + 1]? = some ⟨[.slice ta ts.length ts.length, .slice ha homes.length homes.length, .slice da does.length does.length], 0, 0, false, true⟩ := hH5 ▸ get_new _ _ 1
  have hn5 : H5.length = H3.length + 2 := by rw [hH5, List.length_append]; rfl
  clear hH5
  have s5 : St H1 H1.length bv p3 H5 := s3.mono hc x35 (fun _ h => by cases h)
  have x15 : AgX [H1.length] H1 H5 := (x12.trans x3 (zs := [H1.length]) (fun _ h _ => by cases h) (fun _ h _ => h)).trans x35 (fun _ h _ => h) (fun _ h _ => by cases h)
  have hb5 := x15.get hb1 (by simp; omega)
  have hs35 : Sub (vwl H2.length [] H3) (vwl H2.length [] H5) := vwl_sub x35 (Nat.le_refl _) fun b' h1 h2 _ => ⟨by simp, by simp⟩
  replace r1 := r1.mono hs35
  replace r2 := r2.mono hs35
  replace hts := hts.mono hs35
  replace hhs := hhs.mono hs35
  have hvwc : ∀ {Hc : Heap}, AgX [H1.length] H5 Hc → Sub (vwl H2.length [] H5) (vw 0 Hc) := fun hx => (vwl_sub hx (Nat.le_refl _) (xs' := []) fun b' h1 h2 _ => ⟨by simp; omega, by simp⟩).trans (vwl0 _ _ _)
  have hzr := sizeV_rg r3
  have hzq : ∀ {Hc : Heap}, AgX [H1.length] H5 Hc → _ := fun hx => gz _ 3 _ _ ls l (r1.mono (hvwc hx)) (r2.mono (hvwc hx)) r3
  generalize sizeV 3 (ls, l) = z at hzr hzq
  have eq7 : ∀ x : Int, 0 ≤ x → x ≤ 100 → binI .quo .i64 x 7 = some (.int .i64 (x / 7)) := fun x h1 h2 => by rw [quo_eq (by omega), Int.tdiv_eq_ediv_of_nonneg h1, wrap_id (by omega) (by omega)]
  -- the step
  refine seq_reg ?_
  simp only [go_sem, binC, gc_of hbx5, inBlk_some]
  refine op_callQ (by simp only [go_sem, binC]; exact hzq (AgX.refl _ _)) ?_
  simp only [go_sem, binC]
  rw [wrap_id (x := z + 2) (by omega) (by omega)]
  refine op_draw (n := z + 2) hpk hc s5 (by omega) (by omega) (by omega) (by simp only [go_sem, binC]) (by simp only [go_sem, binC]) fun H6 hl6 hx6 hs6 => ?_
  simp only [go_sem, binC]
  refine op_draw (n := 8) hpk hc hs6 (by omega) (by omega) (by omega) (by simp only [go_sem, binC]) (by simp only [go_sem, binC]) fun H7 hl7 hx7 hs7 => ?_
  have d1 := pickV_bd code' p3 (n := z + 2) (by omega)
  have d2 := pickV_bd code' (p3 + 1) (n := 8) (by omega)
  simp only [go_sem, binC, eq7 (pickV code' (p3 + 1) 8) (by omega) (by omega)]
  rw [wrap_id (x := pickV code' p3 (z + 2) - pickV code' (p3 + 1) 8 / 7) (by omega) (by omega)]
  generalize hv0 : pickV code' p3 (z + 2) - pickV code' (p3 + 1) 8 / 7 = v0
  have hr0 : RgI v0 := by unfold RgI; omega
  refine seq_reg ?_
  simp only [go_sem, binC]
  refine op_draw (n := 4) hpk hc hs7 (by omega) (by omega) (by omega) (by simp only [go_sem, binC]) (by simp only [go_sem, binC]) fun H8 hl8 hx8 hs8 => ?_
  simp only [go_sem, binC]
  refine op_draw (n := 8) hpk hc hs8 (by omega) (by omega) (by omega) (by simp only [go_sem, binC]) (by simp only [go_sem, binC]) fun H9 hl9 hx9 hs9 => ?_
  have d3 := pickV_bd code' (p3 + 1 + 1) (n := 4) (by omega)
  have d4 := pickV_bd code' (p3 + 1 + 1 + 1) (n := 8) (by omega)
  simp only [go_sem, binC, eq7 (pickV code' (p3 + 1 + 1 + 1) 8) (by omega) (by omega)]
  rw [wrap_id (x := pickV code' (p3 + 1 + 1) 4 - pickV code' (p3 + 1 + 1 + 1) 8 / 7) (by omega) (by omega)]
  generalize hg0 : pickV code' (p3 + 1 + 1) 4 - pickV code' (p3 + 1 + 1 + 1) 8 / 7 = g0
  have hr1 : RgI g0 := by unfold RgI; omega
  have hx59 : AgX [H1.length] H5 H9 := ((hx6.tr hx7).tr hx8).tr hx9
  refine seq_assoc (seq_reg ?_)
  simp only [go_sem, binC]
  refine wpc_genK fun KK hKK => ?_
  have hend : ∀ (e : Env) (Hc : Heap) (q : Int) (x y : Int), AgX [H1.length] H5 Hc → RgI x → RgI y → e 2 = ptr H.length 0 → e 8 = ptr H3.length 0 → e 9 = ptr (H3.length + 1) 0 → e 10 = .int .i64 x → e 11 = .int .i64 y → wpc F H.length drPStT e Hc KK := by
    intro e Hc q x y hx rx ry e2 e8 e9 e10 e11
    have hbc := hx.get hb5 (by simp; omega)
    have hbxc := hx.get hbx5 (by simp; omega)
    have hbpc := hx.get hbp5 (by simp; omega)
    have hbl := (List.getElem?_eq_some_iff.1 hbc).1
    have gx : ∀ kk : Blk, (Hc.set H.length kk)[H3.length]? = some ⟨[.slice la ls.length ls.length, .slice sa l.length l.length], 0, 0, false, true⟩ := fun kk => by rw [List.getElem?_set_ne (by omega)]; exact hbxc
    have gp : ∀ kk : Blk, (Hc.set H.length kk)[H3.length + 1]? = some ⟨[.slice ta ts.length ts.length, .slice ha homes.length homes.length, .slice da does.length does.length], 0, 0, false, true⟩ := fun kk => by rw [List.getElem?_set_ne (by omega)]; exact hbpc
    unfold drPStT
    refine seq_regV (q := 7) (k := 3) (ea := putE (putE (putE (putE (putE (putE (putE e (some 62) (.agg #[.slice la ls.length ls.length, .slice sa l.length l.length])) (some 63) (ptr (H3.length + 1) 0)) (some 64) (.slice ta ts.length ts.length)) (some 65) (ptr (H3.length + 1) 1)) (some 66) (.slice ha homes.length homes.length)) (some 67) (.int .i64 x)) (some 68) (.int .i64 y)) rfl rfl rfl ?_
    simp only [go_sem, binC, e2, hbc]
    have c1 : getCells Hc H3.length 0 2 = some [.slice la ls.length ls.length, .slice sa l.length l.length] := by rw [gc_of hbxc]; rfl
    have c1' : ∀ kk : Blk, getCells (Hc.set H.length kk) H3.length 0 2 = some [.slice la ls.length ls.length, .slice sa l.length l.length] := fun kk => by rw [gc_of (gx kk)]; rfl
    have c2 : getCells Hc (H3.length + 1) 0 1 = some [.slice ta ts.length ts.length] := by rw [gc_of hbpc]; rfl
    have c2' : ∀ kk : Blk, getCells (Hc.set H.length kk) (H3.length + 1) 0 1 = some [.slice ta ts.length ts.length] := fun kk => by rw [gc_of (gp kk)]; rfl
    have c3 : getCells Hc (H3.length + 1) 1 1 = some [.slice ha homes.length homes.length] := by rw [gc_of hbpc]; rfl
    have c3' : ∀ kk : Blk, getCells (Hc.set H.length kk) (H3.length + 1) 1 1 = some [.slice ha homes.length homes.length] := fun kk => by rw [gc_of (gp kk)]; rfl
    refine ⟨frees_cons _ (iop_load (by simp only [go_sem, binC, e8]) c1) (iop_load (by simp only [go_sem, binC, e8]) (c1' _)) (frees_cons _ (by simp only [go_sem, binC, e9, iop, ptr]) (by simp only [go_sem, binC, e9, iop, ptr]) (frees_cons _ (by simp only [go_sem, binC, iop, ptr, c2, Option.bind_some]) (by simp only [go_sem, binC, iop, ptr, c2', Option.bind_some]) (frees_cons _ (by simp only [go_sem, binC, e9, iop, ptr]) (by simp only [go_sem, binC, e9, iop, ptr]) (frees_cons _ (by simp only [go_sem, binC, iop, ptr, c3, Option.bind_some]) (by simp only [go_sem, binC, iop, ptr, c3', Option.bind_some]) (frees_cons _ (by simp only [go_sem, binC, e10, iop]) (by simp only [go_sem, binC, e10, iop]) (frees_cons _ (by simp only [go_sem, binC, e11, iop]) (by simp only [go_sem, binC, e11, iop]) rfl)))))), _, frees_cons (.slice ta ts.length ts.length) (by simp only [go_sem, binC, iop]) (by simp only [go_sem, binC, iop]) (frees_cons (.slice ha homes.length homes.length) (by simp only [go_sem, binC, iop]) (by simp only [go_sem, binC, iop]) (frees_cons (.int .i64 x) (by simp only [go_sem, binC, iop]) (by simp only [go_sem, binC, iop]) rfl)), ?_⟩
    simp only [go_sem, binC]
    have hvf : Sub (vwl H2.length [] H5) (vw 0 (Hc.set H.length ⟨[.slice la ls.length ls.length, .slice sa l.length l.length], 0, 0, false, true⟩)) := ((vwl_sub hx (Nat.le_refl _) (xs' := []) fun b' h1 h2 _ => ⟨by simp; omega, by simp⟩ : Sub (vwl H2.length [] H5) (vwl H2.length [] Hc)).trans (vwl_sub (AgX.set Hc H.length _) (Nat.le_refl _) (xs' := []) fun b' h1 h2 _ => ⟨by simp; omega, by simp⟩)).trans (vwl0 _ _ _)
    rw [hKK]
    refine wpc_ret ⟨Or.inr rfl, .tuple #[.agg #[.slice la ls.length ls.length, .slice sa l.length l.length], .slice ta ts.length ts.length, .slice ha homes.length homes.length, .int .i64 x, .int .i64 y], ?_, ?_⟩
    · simp [resV, resL, res1, putE_get, notT, e2, ptr, gc_set hbl, inBlk_some, valOf]
    · refine ⟨3, _, _, _, _, x, y, ls, l, ts, homes, rfl, ?_, r1.mono hvf, r2.mono hvf, r3, hts.mono hvf, hhs.mono hvf, htl, hhl, rx, ry⟩
      exact ((ht1.trans x15 (zs := [H1.length]) (fun _ h _ => by cases h) (fun b h1 h2 => h1)).trans hx (zs := []) (fun b h1 h2 => by simp only [List.mem_singleton] at h1; omega) (fun b h1 h2 => by simp only [List.mem_singleton] at h1; omega)).setN (Nat.le_refl _) _
  refine seq_block (wpc_loop ?_)
  suffices h : ∀ (k i : Nat) (e : Env) (Hc : Heap) (q : Int) (x y : Int), i + k = 12 → AgX [H1.length] H5 Hc → St H1 H1.length bv q Hc → (0 ≤ q ∧ q + 3 * (k : Int) ≤ 900000) → RgI x → RgI y → e 2 = ptr H.length 0 → e 7 = ptr H1.length 0 → e 8 = ptr H3.length 0 → e 9 = ptr (H3.length + 1) 0 → e 10 = .int .i64 x → e 11 = .int .i64 y → e 12 = .int .i64 i → W F H.length _ e Hc _ from
    h 12 0 _ H9 (p3 + 1 + 1 + 1 + 1) v0 g0 rfl hx59 hs9 (by omega) hr0 hr1 (by simp only [go_sem, binC]) (by simp only [go_sem, binC]) (by simp only [go_sem, binC]) (by simp only [go_sem, binC]) (by simp only [go_sem, binC]) (by simp only [go_sem, binC]) (by (simp only [go_sem, binC]) <;> rfl)
  intro k
  induction k with
  | zero =>
    intro i e Hc q x y hik hx hs hq rx ry e2 e7 e8 e9 e10 e11 e12
    refine lp_step ?_
    refine seq_assoc (seq_reg ?_)
    simp only [go_sem, binC, e12]
    have hlt : decide ((i : Int) < 12) = false := decide_eq_false (by omega)
    simp only [go_sem, binC, hlt]
    refine seq_cond (t := false) rfl ?_
    simp only [go_sem, binC]
    refine seq_exit ?_
    simp only [go_sem, binC, thenX_e, out_e, thenX_n]
    exact hend _ Hc q x y hx rx ry (by simp only [go_sem, binC, e2]) (by simp only [go_sem, binC, e8]) (by simp only [go_sem, binC, e9]) (by simp only [go_sem, binC, e10]) (by simp only [go_sem, binC, e11])
  | succ k ih =>
    intro i e Hc q x y hik hx hs hq rx ry e2 e7 e8 e9 e10 e11 e12
    have hbxc := hx.get hbx5 (by simp; omega)
    have hbpc := hx.get hbp5 (by simp; omega)
    have hlt : decide ((i : Int) < 12) = true := decide_eq_true (by omega)
    have hw1 : IntKind.i64.wrap ((i : Int) + 1) = ((i + 1 : Nat) : Int) := by rw [wrap_id (by omega) (by omega)]; omega
    refine lp_step ?_
    refine seq_assoc (seq_reg ?_)
    simp only [go_sem, binC, e12]
    simp only [go_sem, binC, hlt]
    refine op_draw (n := 12) hpk hc hs (by omega) (by omega) (by omega) (by simp only [go_sem, binC, e7]) (by simp only [go_sem, binC]) fun Hd hld hxd hsd => ?_
    have hxd5 := hx.tr hxd
    have hbxd := hxd.get hbxc (by simp; omega)
    have hbpd := hxd.get hbpc (by simp; omega)
    simp only [go_sem, binC]
    by_cases h0 : 0 < pickV code' q 12
    · simp only [go_sem, binC, decide_eq_true h0, e8, e9, e10, e11, gc_of hbxd, gc_of hbpd, inBlk_some]
      refine op_callB (by simp only [go_sem, binC, e8, e9, e10, e11]; exact gst Hd 3 _ _ _ _ ls l ts homes x y (r1.mono (hvwc hxd5)) (r2.mono (hvwc hxd5)) r3 (hts.mono (hvwc hxd5)) (hhs.mono (hvwc hxd5))) (fun hb => ?_) (fun hb => ?_)
      · simp only [go_sem, binC]
        refine seq_cond (t := false) rfl ?_
        simp only [go_sem, binC]
        refine seq_exit ?_
        simp only [go_sem, binC, thenX_e, out_e, thenX_n]
        exact hend _ _ q x y hxd5 rx ry (by simp only [go_sem, binC, e2]) (by simp only [go_sem, binC, e8]) (by simp only [go_sem, binC, e9]) (by simp only [go_sem, binC, e10]) (by simp only [go_sem, binC, e11])
      · simp only [go_sem, binC]
        refine seq_cond (t := true) rfl ?_
        simp only [go_sem, binC]
        refine seq_skip (seq_block ?_)
        refine seq_reg ?_
        simp only [go_sem, binC, e7, e8, gc_of hbxd, inBlk_some]
        refine op_callQ (by simp only [go_sem, binC]; exact hzq hxd5) ?_
        simp only [go_sem, binC, e7]
        rw [wrap_id (x := z + 1) (by omega) (by omega)]
        refine op_draw (n := z + 1) hpk hc hsd (by omega) (by omega) (by omega) (by simp only [go_sem, binC, e7]) (by simp only [go_sem, binC]) fun He hle hxe hse => ?_
        simp only [go_sem, binC]
        refine wpc_reg ?_
        simp only [go_sem, binC, e7]
        refine op_draw (n := 3) hpk hc hse (by omega) (by omega) (by omega) (by simp only [go_sem, binC, e7]) (by simp only [go_sem, binC]) fun Hf hlf hxf hsf => ?_
        simp only [go_sem, binC, out_n, thenX_n]
        refine wpc_reg ?_
        simp only [go_sem, binC, e12, hw1]
        have b1 := pickV_i64 code' (q + 1) (n := z + 1) (by omega)
        have b2 := pickV_bd code' (q + 1 + 1) (n := 3) (by omega)
        exact ih (i + 1) _ _ (q + 1 + 1 + 1) (pickV code' (q + 1) (z + 1)) (pickV code' (q + 1 + 1) 3) (by omega) ((hxd5.tr hxe).tr hxf) hsf (by omega) (by unfold RgI; omega) (by unfold RgI; omega) (by simp only [go_sem, binC, e2]) (by simp only [go_sem, binC, e7]) (by simp only [go_sem, binC, e8]) (by simp only [go_sem, binC, e9]) (by simp only [go_sem, binC]) (by simp only [go_sem, binC]) (by simp only [go_sem, binC])
    · simp only [go_sem, binC, decide_eq_false h0]
      refine seq_cond (t := false) rfl ?_
      simp only [go_sem, binC]
      refine seq_exit ?_
      simp only [go_sem, binC, thenX_e, out_e, thenX_n]
      exact hend _ _ q x y hxd5 rx ry (by simp only [go_sem, binC, e2]) (by simp only [go_sem, binC, e8]) (by simp only [go_sem, binC, e9]) (by simp only [go_sem, binC, e10]) (by simp only [go_sem, binC, e11])
end Go.Proofs.YtbjeldblaclpnaaI
end
section
/- Whether a plan is as it may be (the program's). -/
set_option linter.unusedVariables false
set_option linter.unusedSimpArgs false
namespace Go.Proofs.YtbjeldblaclpnaaI
open Go Go.RowKit
end Go.Proofs.YtbjeldblaclpnaaI
end
section
/- The law FnPlanMore on the ideal machine. -/
set_option linter.unusedVariables false
set_option linter.unusedSimpArgs false
namespace Go.Proofs.YtbjeldblaclpnaaI
open Go Go.RowKit
theorem trK777 : trK [7, 7, 7] = true := by decide
theorem byS777 {h : Int} (h0 : 0 ≤ h) (h2 : h ≤ 2) : byS [7, 7, 7] h 3 = 7 := by
  have : h = 0 ∨ h = 1 ∨ h = 2 := by omega
  rcases this with rfl | rfl | rfl <;> decide
theorem witB7 (a : Int) : witB a 7 = true := by
  simp [witB, show hasB 7 0 = true by decide, show hasB 7 1 = true by decide, show hasB 7 2 = true by decide]
theorem doesB_more {ls : List (Int × Int)} {ts homes : List Int} {s : Shal} {st : Int} {own : Int × Int} {h : Int} (h0 : 0 ≤ h) (h2 : h ≤ 2) (hb : doesB ls ts homes s st own h = true) : doesB ls [7, 7, 7] homes s st own h = true := by
  unfold doesB at hb ⊢
  simp only [Bool.and_eq_true] at hb
  rw [byS777 h0 h2, witB7, hb.1.1, hb.2.1, hb.2.2]
  rfl
theorem doN_more {n : Nat} {ls : List (Int × Int)} {l : List (TStep n)} {ts homes : List Int} {j : Nat} {h : Int} (h0 : 0 ≤ h) (h2 : h ≤ 2) (hb : doN n ls l ts homes j h = true) : doN n ls l [7, 7, 7] homes j h = true := by
  unfold doN at hb ⊢
  split at hb
  · rename_i s own e1 e2
    exact doesB_more h0 h2 hb
  · cases hb
end Go.Proofs.YtbjeldblaclpnaaI
end
section
/- The law FnPlanOk on the ideal machine. -/
set_option linter.unusedVariables false
set_option linter.unusedSimpArgs false
namespace Go.Proofs.YtbjeldblaclpnaaI
open Go Go.RowKit
end Go.Proofs.YtbjeldblaclpnaaI
end
section
/- The law FnPlanStepMore on the ideal machine. -/
set_option linter.unusedVariables false
set_option linter.unusedSimpArgs false
namespace Go.Proofs.YtbjeldblaclpnaaI
open Go Go.RowKit
def c_lawSM : IFn := ⟨1, 52, [.t 2],
 .seq (.reg none [
    ⟨(some 2), none, .mov (.c (.bool false))⟩])
 (.seq (.seq (.reg none [
     ⟨(some 9), none, .mov (.t 0)⟩,
     ⟨(some 10), none, .len (.t 9)⟩,
     ⟨(some 11), none, .bin .gtr (.t 10) (.c (.int .i64 1048576))⟩])
  (.cond (.t 11) (.seq (.reg none [
      ⟨(some 2), none, .mov (.c (.bool true))⟩])
   (.ret)) (.skip)))
 (.seq (.reg none [
    ⟨(some 13), none, .mov (.t 0)⟩,
    ⟨(some 14), none, .call .k (.f 37) [(.t 13)]⟩,
    ⟨(some 12), none, .mov (.t 14)⟩,
    ⟨(some 15), none, .ext (.t 12) 0⟩,
    ⟨(some 16), none, .ext (.t 12) 1⟩,
    ⟨(some 17), none, .ext (.t 12) 2⟩,
    ⟨(some 18), none, .ext (.t 12) 3⟩,
    ⟨(some 19), none, .ext (.t 12) 4⟩,
    ⟨(some 3), none, .new [(.slice none 0 0), (.slice none 0 0)]⟩,
    ⟨none, none, .store 2 (.t 3) (.t 15)⟩,
    ⟨(some 4), none, .mov (.t 16)⟩,
    ⟨(some 5), none, .mov (.t 17)⟩,
    ⟨(some 6), none, .mov (.t 18)⟩,
    ⟨(some 7), none, .mov (.t 19)⟩])
 (.seq (.reg none [
    ⟨(some 20), none, .load true 2 (.t 3)⟩,
    ⟨(some 21), none, .mov (.t 4)⟩,
    ⟨(some 22), none, .mov (.t 5)⟩,
    ⟨(some 23), none, .mov (.t 6)⟩,
    ⟨(some 24), none, .mov (.t 7)⟩,
    ⟨(some 25), none, .call .q (.f 36) [(.t 20), (.t 21), (.t 22), (.t 23), (.t 24)]⟩,
    ⟨(some 8), none, .mov (.t 25)⟩])
 (.seq (.seq (.reg none [
     ⟨(some 26), none, .mov (.t 8)⟩,
     ⟨(some 27), none, .load true 2 (.t 3)⟩,
     ⟨(some 28), none, .mov (.t 4)⟩,
     ⟨(some 29), none, .mov (.t 5)⟩,
     ⟨(some 30), none, .mov (.t 6)⟩,
     ⟨(some 31), none, .mov (.t 7)⟩,
     ⟨(some 32), none, .call .q (.f 35) [(.t 27), (.t 28), (.t 29), (.t 30), (.t 31)]⟩,
     ⟨(some 33), none, .beq true (.t 26) (.t 32)⟩,
     ⟨(some 34), none, .mov (.t 33)⟩,
     ⟨(some 35), (some (34, false)), .mov (.t 8)⟩,
     ⟨(some 36), (some (34, false)), .un .not (.t 35)⟩,
     ⟨(some 37), none, .pick (.t 34) (.c (.bool true)) (.t 36)⟩])
  (.cond (.t 37) (.seq (.reg none [
      ⟨(some 38), none, .mov (.t 8)⟩,
      ⟨(some 39), none, .load true 2 (.t 3)⟩,
      ⟨(some 40), none, .mov (.t 4)⟩,
      ⟨(some 41), none, .mov (.t 5)⟩,
      ⟨(some 42), none, .mov (.t 6)⟩,
      ⟨(some 43), none, .mov (.t 7)⟩,
      ⟨(some 44), none, .call .q (.f 35) [(.t 39), (.t 40), (.t 41), (.t 42), (.t 43)]⟩,
      ⟨(some 45), none, .beq false (.t 38) (.t 44)⟩,
      ⟨(some 2), none, .mov (.t 45)⟩])
   (.ret)) (.skip)))
 (.seq (.reg none [
    ⟨(some 46), none, .load true 2 (.t 3)⟩,
    ⟨(some 47), none, .lit 1 3 3 [(.int .i64 0), (.int .i64 0), (.int .i64 0)] [(0, 1, (.c (.int .i64 7))), (1, 1, (.c (.int .i64 7))), (2, 1, (.c (.int .i64 7)))]⟩,
    ⟨(some 48), none, .mov (.t 5)⟩,
    ⟨(some 49), none, .mov (.t 6)⟩,
    ⟨(some 50), none, .mov (.t 7)⟩,
    ⟨(some 51), none, .call .q (.f 36) [(.t 46), (.t 47), (.t 48), (.t 49), (.t 50)]⟩,
    ⟨(some 2), none, .mov (.t 51)⟩])
 (.ret))))))⟩
theorem stepV_iff {n : Nat} {p : TProg n} {ts homes : List Int} {j h : Int} : stepV n p ts homes j h = true ↔ progB n p = true ∧ trK ts = true ∧ homesB p.1.length homes = true ∧ (0 ≤ j ∧ j ≤ sizeV n p - 1) ∧ (0 ≤ h ∧ h ≤ 2) ∧ doN n p.1 p.2 ts homes j.toNat h = true := by
  unfold stepV
  simp only [Bool.and_eq_true, inB_iff]
theorem stepV_more {n : Nat} {p : TProg n} {ts homes : List Int} {j h : Int} (hs : stepV n p ts homes j h = true) : stepV n p [7, 7, 7] homes j h = true := by
  obtain ⟨a1, a2, a3, a4, a5, a6⟩ := stepV_iff.1 hs
  exact stepV_iff.2 ⟨a1, trK777, a3, a4, a5, doN_more a5.1 a5.2 a6⟩
theorem lawSM_ok {F : Nat → Option IFn} {f : Nat} (hf : F f = some c_lawSM) (gd : DrawStepOk F 37) (gi : StepV F 36) (gs : StepV F 35) : LawB F f := by
  intro H v code hv
  have hv0 := hv
  obtain ⟨h0, a, rfl, _⟩ := hv
  refine QC.mk hf rfl ?_
  refine seq_reg ?_
  simp only [go_sem, binC]
  refine seq_assoc (seq_reg ?_)
  simp only [go_sem, binC]
  by_cases hbig : 1048576 < (code.length : Int)
  · refine seq_cond (t := true) (by simp only [go_sem, binC]; rw [decide_eq_true hbig]) ?_
    simp only [go_sem, binC]
    refine seq_assoc (seq_reg ?_)
    simp only [go_sem, binC]
    exact seq_ret ⟨Or.inr rfl, .bool true, by simp only [go_sem, binC], rfl, rfl⟩
  refine seq_cond (t := false) (by simp only [go_sem, binC]; rw [decide_eq_false hbig]) ?_
  simp only [go_sem, binC]
  refine seq_skip (seq_reg ?_)
  simp only [go_sem, binC]
  obtain ⟨d, lv, sv, tv, hw, x, y, ls, l, ts, homes, H1, k, hx, r1, r2, r3, r4, r5, htl, hhl, rx, ry⟩ := gd H _ code hv0
  have hl1 := hx.1
  obtain ⟨hls0, la, rfl, _⟩ := id r1
  obtain ⟨hsl0, sa, rfl, _⟩ := id r2
  obtain ⟨_, ta, rfl, _⟩ := id r4
  obtain ⟨_, ha, rfl, _⟩ := id r5
  refine op_callK (by simp only [go_sem, binC]; exact k) ?_
  simp only [go_sem, binC]
  refine ⟨by omega, ?_⟩
  refine wpc_gen fun H2 hH2 => ?_
  have hb : H2[H1.length]? = some ⟨[.slice la ls.length ls.length, .slice sa l.length l.length], 0, 0, false, true⟩ := hH2 ▸ get_new0 _ _
  have hy : AgX [] H1 H2 := hH2 ▸ AgX.app [] _ _
  have hl2 : H2.length = H1.length + 1 := by rw [hH2, List.length_append]; rfl
  replace r1 := r1.mono (agx_sub hy)
  replace r2 := r2.mono (agx_sub hy)
  replace r4 := r4.mono (agx_sub hy)
  replace r5 := r5.mono (agx_sub hy)
  clear hH2 k
  have hk1 := gi H2 d _ _ _ _ ls l ts homes x y r1 r2 r3 r4 r5
  have hk2 := gs H2 d _ _ _ _ ls l ts homes x y r1 r2 r3 r4 r5
  refine seq_reg ?_
  simp only [go_sem, binC, gc_of hb, inBlk_some]
  refine op_callQ (by simp only [go_sem, binC]; exact hk1) ?_
  simp only [go_sem, binC]
  refine seq_assoc (seq_reg ?_)
  simp only [go_sem, binC, gc_of hb, inBlk_some]
  refine op_callQ (by simp only [go_sem, binC]; exact hk2) ?_
  cases hok : stepV d (ls, l) ts homes x y with
  | false =>
    simp only [go_sem, binC, bne_self_eq_false, beq_self_eq_true]
    refine seq_cond (t := true) rfl ?_
    simp only [go_sem, binC]
    refine seq_assoc (seq_reg ?_)
    simp only [go_sem, binC, gc_of hb, inBlk_some]
    refine op_callQ (by simp only [go_sem, binC]; exact hk2) ?_
    rw [hok]
    simp only [go_sem, binC, beq_self_eq_true]
    exact seq_ret ⟨Or.inr rfl, .bool true, by simp only [go_sem, binC], rfl, rfl⟩
  | true =>
  simp only [go_sem, binC, bne_self_eq_false, beq_self_eq_true]
  refine seq_cond (t := false) rfl ?_
  simp only [go_sem, binC]
  have ht7 : SlR Co.int (vw 0 (H2 ++ [⟨[.int .i64 7, .int .i64 7, .int .i64 7], 1, 3, true, true⟩])) (.slice (some ⟨H2.length, 0, none⟩) 3 3) [7, 7, 7] := ints_sl0 (l := [7, 7, 7]) (get_new0 _ _) (fun x hx => by simp only [List.mem_cons, List.not_mem_nil, or_false, or_self] at hx; subst hx; exact ⟨by omega, by omega⟩) (by simp)
  have hS := agx_sub (AgX.app [] H2 [⟨[.int .i64 7, .int .i64 7, .int .i64 7], 1, 3, true, true⟩])
  have hk3 := gi _ d _ _ _ _ ls l [7, 7, 7] homes x y (r1.mono hS) (r2.mono hS) r3 ht7 (r5.mono hS)
  rw [stepV_more hok] at hk3
  refine seq_skip (seq_reg ?_)
  simp only [go_sem, binC, gc_of hb, inBlk_some]
  refine op_callQ (by simp only [go_sem, binC]; exact hk3) ?_
  simp only [go_sem, binC]
  exact wpc_ret ⟨Or.inr rfl, .bool true, by simp only [go_sem, binC], rfl, rfl⟩
end Go.Proofs.YtbjeldblaclpnaaI
end
section
/- The law FnPlanStep on the ideal machine. -/
set_option linter.unusedVariables false
set_option linter.unusedSimpArgs false
namespace Go.Proofs.YtbjeldblaclpnaaI
open Go Go.RowKit
def c_iTypeSets : IFn := ⟨1, 26, [.t 2],
 .seq (.reg none [
    ⟨(some 1), none, .box (.t 0)⟩,
    ⟨(some 2), none, .mov (.c (.slice none 0 0))⟩])
 (.seq (.seq (.reg none [
     ⟨(some 6), none, .load true 2 (.t 1)⟩,
     ⟨(some 7), none, .call .q (.f 61) [(.t 6)]⟩,
     ⟨(some 8), none, .un .not (.t 7)⟩])
  (.cond (.t 8) (.seq (.reg none [
      ⟨(some 2), none, .mov (.c (.slice none 0 0))⟩])
   (.ret)) (.skip)))
 (.seq (.reg none [
    ⟨(some 3), none, .mov (.c (.slice none 0 0))⟩])
 (.seq (.seq (.reg none [
     ⟨(some 9), none, .fad 1 (.t 1)⟩,
     ⟨(some 10), none, .load false 1 (.t 9)⟩,
     ⟨(some 11), none, .call .k (.f 55) [(.t 10)]⟩,
     ⟨(some 12), none, .len (.t 11)⟩,
     ⟨(some 13), none, .mov (.c (.int .i64 0))⟩])
  (.block 0 (.loop (.seq (.reg none [
       ⟨(some 14), none, .bin .lss (.t 13) (.t 12)⟩])
    (.seq (.cond (.t 14) (.skip) (.exit 0))
    (.seq (.block 1 (.seq (.reg none [
         ⟨(some 15), none, .iad 8 (.t 11) (.t 13)⟩,
         ⟨(some 16), none, .load true 8 (.t 15)⟩,
         ⟨(some 5), none, .new [(.int .i64 0), (.int .i64 0), (.int .i64 0), (.int .i64 0), (.int .i64 0), (.int .i64 0), (.slice none 0 0), (.slice none 0 0)]⟩,
         ⟨none, none, .store 8 (.t 5) (.t 16)⟩])
      (.reg none [
        ⟨(some 17), none, .mov (.t 3)⟩,
        ⟨(some 18), none, .load true 2 (.t 1)⟩,
        ⟨(some 19), none, .load true 8 (.t 5)⟩,
        ⟨(some 20), none, .lit 8 85 1 [(.int .i64 0), (.int .i64 0), (.int .i64 0), (.int .i64 0), (.int .i64 0), (.int .i64 0), (.slice none 0 0), (.slice none 0 0)] [(0, 8, (.t 19))]⟩,
        ⟨(some 21), none, .call .q (.f 83) [(.t 18), (.t 20)]⟩,
        ⟨(some 22), none, .lit 1 3 1 [(.int .i64 0)] [(0, 1, (.t 21))]⟩,
        ⟨(some 23), none, .app 1 3 8 false (.t 17) (.t 22)⟩,
        ⟨(some 3), none, .mov (.t 23)⟩])))
    (.reg none [
      ⟨(some 24), none, .bin .add (.t 13) (.c (.int .i64 1))⟩,
      ⟨(some 13), none, .mov (.t 24)⟩])))))))
 (.seq (.reg none [
    ⟨(some 25), none, .mov (.t 3)⟩,
    ⟨(some 2), none, .mov (.t 25)⟩])
 (.ret)))))⟩
def c_iTypeAt : IFn := ⟨1, 8, [.t 2],
 .seq (.reg none [
    ⟨(some 1), none, .box (.t 0)⟩,
    ⟨(some 2), none, .mov (.c (.slice none 0 0))⟩])
 (.seq (.seq (.reg none [
     ⟨(some 3), none, .load true 2 (.t 1)⟩,
     ⟨(some 4), none, .call .q (.f 61) [(.t 3)]⟩,
     ⟨(some 5), none, .un .not (.t 4)⟩])
  (.cond (.t 5) (.seq (.reg none [
      ⟨(some 2), none, .mov (.c (.slice none 0 0))⟩])
   (.ret)) (.skip)))
 (.seq (.reg none [
    ⟨(some 6), none, .load true 2 (.t 1)⟩,
    ⟨(some 7), none, .call .k (.f 53) [(.t 6)]⟩,
    ⟨(some 2), none, .mov (.t 7)⟩])
 (.ret)))⟩
def c_lcHas : IFn := ⟨2, 10, [.t 4],
 .seq (.reg none [
    ⟨(some 4), none, .mov (.c (.bool false))⟩])
 (.seq (.reg none [
    ⟨(some 5), none, .mov (.t 0)⟩,
    ⟨(some 6), none, .mov (.t 1)⟩,
    ⟨(some 7), none, .bin .shr (.t 5) (.t 6)⟩,
    ⟨(some 8), none, .bin .rem (.t 7) (.c (.int .i64 2))⟩,
    ⟨(some 9), none, .bin .eql (.t 8) (.c (.int .i64 1))⟩,
    ⟨(some 4), none, .mov (.t 9)⟩])
 (.ret))⟩
def lawStT : ICode := .seq (.reg none [
    ⟨(some 69), none, .load true 2 (.t 3)⟩,
    ⟨(some 70), none, .call .k (.f 39) [(.t 69)]⟩,
    ⟨(some 71), none, .mov (.t 6)⟩,
    ⟨(some 72), none, .iad 2 (.t 70) (.t 71)⟩,
    ⟨(some 73), none, .fad 0 (.t 72)⟩,
    ⟨(some 74), none, .load false 1 (.t 73)⟩,
    ⟨(some 75), none, .mov (.t 7)⟩,
    ⟨(some 76), none, .call .q (.f 19) [(.t 74), (.t 75)]⟩,
    ⟨(some 2), none, .mov (.t 76)⟩])
 (.ret)
def c_lawSt : IFn := ⟨1, 77, [.t 2],
 .seq (.reg none [
    ⟨(some 2), none, .mov (.c (.bool false))⟩])
 (.seq (.seq (.reg none [
     ⟨(some 11), none, .mov (.t 0)⟩,
     ⟨(some 12), none, .len (.t 11)⟩,
     ⟨(some 13), none, .bin .gtr (.t 12) (.c (.int .i64 1048576))⟩])
  (.cond (.t 13) (.seq (.reg none [
      ⟨(some 2), none, .mov (.c (.bool true))⟩])
   (.ret)) (.skip)))
 (.seq (.reg none [
    ⟨(some 15), none, .mov (.t 0)⟩,
    ⟨(some 16), none, .call .k (.f 37) [(.t 15)]⟩,
    ⟨(some 14), none, .mov (.t 16)⟩,
    ⟨(some 17), none, .ext (.t 14) 0⟩,
    ⟨(some 18), none, .ext (.t 14) 1⟩,
    ⟨(some 19), none, .ext (.t 14) 2⟩,
    ⟨(some 20), none, .ext (.t 14) 3⟩,
    ⟨(some 21), none, .ext (.t 14) 4⟩,
    ⟨(some 3), none, .new [(.slice none 0 0), (.slice none 0 0)]⟩,
    ⟨none, none, .store 2 (.t 3) (.t 17)⟩,
    ⟨(some 4), none, .mov (.t 18)⟩,
    ⟨(some 5), none, .mov (.t 19)⟩,
    ⟨(some 6), none, .mov (.t 20)⟩,
    ⟨(some 7), none, .mov (.t 21)⟩])
 (.seq (.reg none [
    ⟨(some 22), none, .load true 2 (.t 3)⟩,
    ⟨(some 23), none, .mov (.t 4)⟩,
    ⟨(some 24), none, .mov (.t 5)⟩,
    ⟨(some 25), none, .mov (.t 6)⟩,
    ⟨(some 26), none, .mov (.t 7)⟩,
    ⟨(some 27), none, .call .q (.f 36) [(.t 22), (.t 23), (.t 24), (.t 25), (.t 26)]⟩,
    ⟨(some 8), none, .mov (.t 27)⟩])
 (.seq (.seq (.reg none [
     ⟨(some 28), none, .mov (.t 8)⟩,
     ⟨(some 29), none, .load true 2 (.t 3)⟩,
     ⟨(some 30), none, .mov (.t 4)⟩,
     ⟨(some 31), none, .mov (.t 5)⟩,
     ⟨(some 32), none, .mov (.t 6)⟩,
     ⟨(some 33), none, .mov (.t 7)⟩,
     ⟨(some 34), none, .call .q (.f 35) [(.t 29), (.t 30), (.t 31), (.t 32), (.t 33)]⟩,
     ⟨(some 35), none, .beq true (.t 28) (.t 34)⟩,
     ⟨(some 36), none, .mov (.t 35)⟩,
     ⟨(some 37), (some (36, false)), .mov (.t 8)⟩,
     ⟨(some 38), (some (36, false)), .un .not (.t 37)⟩,
     ⟨(some 39), none, .pick (.t 36) (.c (.bool true)) (.t 38)⟩])
  (.cond (.t 39) (.seq (.reg none [
      ⟨(some 40), none, .mov (.t 8)⟩,
      ⟨(some 41), none, .load true 2 (.t 3)⟩,
      ⟨(some 42), none, .mov (.t 4)⟩,
      ⟨(some 43), none, .mov (.t 5)⟩,
      ⟨(some 44), none, .mov (.t 6)⟩,
      ⟨(some 45), none, .mov (.t 7)⟩,
      ⟨(some 46), none, .call .q (.f 35) [(.t 41), (.t 42), (.t 43), (.t 44), (.t 45)]⟩,
      ⟨(some 47), none, .beq false (.t 40) (.t 46)⟩,
      ⟨(some 2), none, .mov (.t 47)⟩])
   (.ret)) (.skip)))
 (.seq (.reg none [
    ⟨(some 48), none, .load true 2 (.t 3)⟩,
    ⟨(some 49), none, .call .k (.f 38) [(.t 48)]⟩,
    ⟨(some 50), none, .mov (.t 6)⟩,
    ⟨(some 51), none, .iad 1 (.t 49) (.t 50)⟩,
    ⟨(some 52), none, .load false 1 (.t 51)⟩,
    ⟨(some 9), none, .mov (.t 52)⟩])
 (.seq (.seq (.reg none [
     ⟨(some 10), none, .mov (.c (.int .i64 0))⟩])
  (.block 0 (.loop (.seq (.seq (.reg none [
        ⟨(some 53), none, .mov (.t 10)⟩,
        ⟨(some 54), none, .bin .lss (.t 53) (.c (.int .i64 3))⟩])
     (.cond (.t 54) (.skip) (.exit 0)))
    (.seq (.block 1 (.seq (.reg none [
         ⟨(some 57), none, .mov (.t 9)⟩,
         ⟨(some 58), none, .mov (.t 10)⟩,
         ⟨(some 59), none, .call .q (.f 19) [(.t 57), (.t 58)]⟩,
         ⟨(some 60), none, .mov (.t 59)⟩,
         ⟨(some 61), (some (60, true)), .mov (.t 4)⟩,
         ⟨(some 62), (some (60, true)), .mov (.t 10)⟩,
         ⟨(some 63), (some (60, true)), .iad 1 (.t 61) (.t 62)⟩,
         ⟨(some 64), (some (60, true)), .load false 1 (.t 63)⟩,
         ⟨(some 65), (some (60, true)), .mov (.t 7)⟩,
         ⟨(some 66), (some (60, true)), .call .q (.f 19) [(.t 64), (.t 65)]⟩,
         ⟨(some 67), (some (60, true)), .un .not (.t 66)⟩,
         ⟨(some 68), none, .pick (.t 60) (.t 67) (.c (.bool false))⟩])
      (.cond (.t 68) (.seq (.reg none [
          ⟨(some 2), none, .mov (.c (.bool false))⟩])
       (.ret)) (.skip))))
    (.reg none [
      ⟨(some 55), none, .mov (.t 10)⟩,
      ⟨(some 56), none, .bin .add (.t 55) (.c (.int .i64 1))⟩,
      ⟨(some 10), none, .mov (.t 56)⟩]))))))
 lawStT))))))⟩
theorem byS_has {ts : List Int} {h : Int} {i : Nat} (hi : i < 3) : hasB (byS ts h 3) i = hasB (ts.getD i 0) h := by
  simp only [byS]
  have : i = 0 ∨ i = 1 ∨ i = 2 := by omega
  rcases this with rfl | rfl | rfl <;> cases h0 : hasB (ts.getD 0 0) h <;> cases h1 : hasB (ts.getD 1 0) h <;> cases h2 : hasB (ts.getD 2 0) h <;> decide
theorem lcHas_ok {F : Nat → Option IFn} {f : Nat} (hf : F f = some c_lcHas) : ∀ (H : Heap) (s h : Int), 0 ≤ s → s ≤ 7 → 0 ≤ h → h ≤ 2 → QC F f [.int .i64 s, .int .i64 h] H (.bool (hasB s h)) := by
  intro H s h h1 h2 h3 h4
  have hB := has_rem h1 h2 h3 h4
  refine QC.mk hf rfl ?_
  refine seq_reg ?_
  simp only [go_sem, binC]
  refine seq_reg ?_
  simp only [go_sem, binC]
  refine shr_rule (by omega) ?_
  simp only [go_sem, binC]
  refine rem_rule ?_
  simp only [go_sem, binC]
  refine wpc_ret ⟨Or.inr rfl, _, (by (simp only [go_sem, binC]) <;> rfl), ?_, rfl⟩
  refine congrArg _ ?_
  by_cases h5 : hasB s h = true
  · rw [h5]; exact beq_t (hB.2 h5)
  · rw [Bool.not_eq_true] at h5
    rw [h5]
    exact beq_f (fun h6 => by rw [hB.1 h6] at h5; cases h5)
theorem iTypeAt_ok {F : Nat → Option IFn} {f : Nat} (hf : F f = some c_iTypeAt) (gp : ProgOk F 61) (ga : AtP F 53) (H : Heap) (n : Nat) (lv sv : Value) (ls : List (Int × Int)) (l : List (TStep n)) (r1 : SlR Co.p2 (vw 0 H) lv ls) (r2 : SlR (Co.step n) (vw 0 H) sv l) (hsm : (Co.prog n).sm (ls, l)) (hP : progB n (ls, l) = true) :
    ∃ w H', KC F f [.agg #[lv, sv]] H w H' ∧ (AgX [] H H' ∧ SlR Co.p2 (vw 0 H') w (atL n ls (7, 7) l)) := by
  have olv : one lv = true := by obtain ⟨_, a, rfl, _⟩ := r1; rfl
  have osv : one sv = true := by obtain ⟨_, a, rfl, _⟩ := r2; rfl
  refine KC.mk hf rfl ?_
  refine seq_reg ?_
  simp only [go_sem, binC, olv, osv]
  refine wpc_gen fun H1 hH1 => ?_
  have hx1 : AgX [] H H1 := hH1 ▸ AgX.app [] _ _
  have hb : H1[H.length]? = some ⟨[lv, sv], 0, 0, false, true⟩ := hH1 ▸ get_new0 _ _
  clear hH1
  have hS := agx_sub hx1
  refine seq_assoc (seq_reg ?_)
  simp only [go_sem, binC, gc_of hb, inBlk_some, olv, osv]
  refine op_callQ (by simp only [go_sem, binC]; exact gp H1 n _ (ls, l) (prog_rd (r1.mono hS) (r2.mono hS)) hsm) ?_
  simp only [go_sem, binC, hP]
  refine seq_cond (t := false) rfl ?_
  simp only [go_sem, binC]
  refine seq_skip (seq_reg ?_)
  simp only [go_sem, binC, gc_of hb, inBlk_some, olv, osv]
  obtain ⟨w, H2, k, hx2, hw⟩ := ga H1 n lv sv ls l (r1.mono hS) (r2.mono hS) hsm hP
  refine op_callK (by simp only [go_sem, binC]; exact k) ?_
  simp only [go_sem, binC]
  have hxx := hx1.tr hx2
  obtain ⟨aw, rfl⟩ := hw.shape
  exact wpc_ret ⟨Or.inr rfl, _, (by (simp only [go_sem, binC]) <;> rfl), hxx, hw.sl rfl (agx_sub hx2)⟩
theorem iTypeSets_ok {F : Nat → Option IFn} {f : Nat} (hf : F f = some c_iTypeSets) (gp : ProgOk F 61) (ga : ∀ n, AllP F 55 n) (gs : ∀ n, STOk F 83 n) : SetsOk F f := by
  intro H n lv sv ls l r1 r2 hsm hP
  have olv : one lv = true := by obtain ⟨_, a, rfl, _⟩ := r1; rfl
  have osv : one sv = true := by obtain ⟨_, a, rfl, _⟩ := r2; rfl
  have hcnt : (allL n l).length ≤ 8 := progB_cnt hP hsm
  have hlab : ls.all labB = true := progB_lab hP
  have hsl := allSL_len l
  refine KC.mk hf rfl ?_
  refine seq_reg ?_
  simp only [go_sem, binC, olv, osv]
  refine wpc_gen fun H1 hH1 => ?_
  have hx1 : AgX [] H H1 := hH1 ▸ AgX.app [] _ _
  have hb1 : H1[H.length]? = some ⟨[lv, sv], 0, 0, false, true⟩ := hH1 ▸ get_new0 _ _
  clear hH1
  have hS := agx_sub hx1
  refine seq_assoc (seq_reg ?_)
  simp only [go_sem, binC, gc_of hb1, inBlk_some, olv, osv]
  refine op_callQ (by simp only [go_sem, binC]; exact gp H1 n _ (ls, l) (prog_rd (r1.mono hS) (r2.mono hS)) hsm) ?_
  simp only [go_sem, binC, hP]
  refine seq_cond (t := false) rfl ?_
  simp only [go_sem, binC]
  refine seq_skip (seq_reg ?_)
  simp only [go_sem, binC]
  refine seq_assoc (seq_reg ?_)
  simp only [go_sem, binC, gc_of hb1, inBlk_some, osv]
  obtain ⟨wl, H3, k3, hx3, ol⟩ := ga n (vw 0 H) H1 sv l hS r2 (by omega)
  refine op_callK (by simp only [go_sem, binC]; exact k3) ?_
  obtain ⟨al, rfl⟩ := ol.shape
  simp only [go_sem, binC]
  have hx03 := hx1.tr hx3
  have hb3 := hx3.get hb1 (by simp)
  have hl03 := hx03.1
  refine seq_block (wpc_loop ?_)
  have hl3 := hx3.1
  have hl03 := hx03.1
  suffices hh : ∀ (k i : Nat) (e : Env) (Hc : Heap) (u : Value), i + k = (allSL n l).length → AgX [] H3 Hc → LsV (fun _ => none) Co.int 1 3 H3.length Hc u ((setsA n ls l).take i) → e 1 = ptr H.length 0 → e 3 = u → e 11 = .slice al (allSL n l).length (allSL n l).length → e 12 = .int .i64 (allSL n l).length → e 13 = .int .i64 i → W F H.length _ e Hc _ from
    hh (allSL n l).length 0 _ H3 nilS (by omega) (AgX.refl _ _) (by simpa using LsV.nil) (by simp only [go_sem, binC]) (by (simp only [go_sem, binC]) <;> rfl) (by simp only [go_sem, binC]) (by simp only [go_sem, binC]) (by (simp only [go_sem, binC]) <;> rfl)
  intro k
  induction k with
  | zero =>
    intro i e Hc u hi hxc hu e1 e3 e11 e12 e13
    refine lp_step ?_
    refine seq_reg ?_
    simp only [go_sem, binC, e12, e13]
    refine seq_cond (t := false) (by simp only [go_sem, binC]; rw [decide_eq_false (by omega)]) ?_
    simp only [go_sem, binC]
    refine seq_exit ?_
    simp only [go_sem, binC, thenX_e, out_e, thenX_n]
    refine seq_reg ?_
    simp only [go_sem, binC, e3]
    rw [List.take_of_length_le (by unfold setsA; rw [List.length_map]; omega)] at hu
    obtain ⟨au, rfl⟩ := hu.shape
    exact wpc_ret ⟨Or.inr rfl, _, (by (simp only [go_sem, binC]) <;> rfl), hx03.tr hxc, (hu.mono (V' := vw 0 Hc) (fun _ _ h => by cases h)).sl rfl (fun _ _ h => h)⟩
  | succ k ih =>
    intro i e Hc u hi hxc hu e1 e3 e11 e12 e13
    have hil : i < (allSL n l).length := by omega
    have hw1 : IntKind.i64.wrap ((i : Int) + 1) = ((i + 1 : Nat) : Int) := by rw [wrap_id (by omega) (by omega)]; omega
    have hxH := hx03.tr hxc
    have hlc0 := hxc.1
    have hbc := hxc.get hb3 (by simp)
    obtain ⟨bs, cs, hws, gcs, rds⟩ := (ol.keep (Nat.le_refl _) hxc (fun _ _ => by simp)).at hil
    simp only [Value.slice.injEq, and_true] at hws
    subst hws
    have hokA := progB_okA hP (List.getElem_mem hil)
    have htk : (setsA n ls l).take (i + 1) = (setsA n ls l).take i ++ [stA ls (allSL n l)[i]] := by
      unfold setsA
      rw [List.take_add_one, List.getElem?_eq_getElem (by rw [List.length_map]; exact hil), List.getElem_map]
      rfl
    have hbd : R7 (stA ls (allSL n l)[i]) := stT_bd hlab _ _
    generalize (allSL n l)[i] = s at rds hokA htk hbd
    have rdsc := rds
    obtain ⟨sk, sx, sa, sbb, sc, sg, tv, ev, tl, el, hs2, hcs, rg, otv, oev, _, _⟩ := anyS_rd rds
    subst hcs
    refine lp_step ?_
    refine seq_reg ?_
    simp only [go_sem, binC, e12, e13]
    refine seq_cond (t := true) (by simp only [go_sem, binC]; rw [decide_eq_true (by omega)]) ?_
    simp only [go_sem, binC]
    refine seq_skip (seq_block (seq_reg ?_))
    simp only [go_sem, binC, e11, e13]
    refine ⟨⟨by omega, by omega⟩, ?_⟩
    simp only [go_sem, binC, Int.toNat_natCast, Nat.zero_add, gcs, otv, oev]
    refine ⟨by omega, ?_⟩
    refine wpc_gen fun H5 hH5 => ?_
    have hx5 : AgX [] Hc H5 := hH5 ▸ AgX.app [] _ _
    have hs5 : H5[Hc.length]? = some ⟨[.int .i64 sk, .int .i64 sx, .int .i64 sa, .int .i64 sbb, .int .i64 sc, .int .i64 sg, tv, ev], 0, 0, false, true⟩ := hH5 ▸ get_new0 _ _
    clear hH5
    have hb5 := hx5.get hbc (by simp)
    have hxH5 := hxH.tr hx5
    have hu5 := hu.keep (Nat.le_refl _) hx5 (fun _ _ => by simp)
    have hl5 := hx5.1
    have hlc := hxc.1
    refine wpc_reg ?_
    simp only [go_sem, binC, e1, e3, gc_of hb5, gc_of hs5, inBlk_some, olv, osv, otv, oev]
    generalize hH6 : H5 ++ [(⟨[.int .i64 sk, .int .i64 sx, .int .i64 sa, .int .i64 sbb, .int .i64 sc, .int .i64 sg, tv, ev], 8, 85, true, true⟩ : Blk)] = H6
    have hx6 : AgX [] H5 H6 := hH6 ▸ AgX.app [] _ _
    have hbl : H6[H5.length]? = some ⟨[.int .i64 sk, .int .i64 sx, .int .i64 sa, .int .i64 sbb, .int .i64 sc, .int .i64 sg, tv, ev], 8, 85, true, true⟩ := hH6 ▸ get_new0 _ _
    clear hH6
    have hxH6 := hxH5.tr hx6
    have hl6 := hx6.1
    have hlist : SlR (Co.step (s.1 + 1)) (vw 0 H6) (sli H5.length 0 1) [s.2] := by
      refine ⟨by simp, _, rfl, .inr ⟨H5.length, 0, rfl, fun i hi => ?_⟩⟩
      obtain rfl : i = 0 := by simpa using hi
      refine ⟨[.int .i64 sk, .int .i64 sx, .int .i64 sa, .int .i64 sbb, .int .i64 sc, .int .i64 sg, tv, ev], ?_, (Co.step (s.1 + 1)).mono (agx_sub hxH6) rdsc⟩
      unfold rng vw
      rw [if_pos (Nat.zero_le _), hbl, step_w]
      rfl
    have hsets := gs (s.1 + 1) H6 _ sv _ ls [s.2] osv (r1.mono (agx_sub hxH6)) hlist hlab (fun t ht => hokA.2 t (by simpa [allL] using ht))
    have hst1 : stL (s.1 + 1) ls [s.2] = stA ls s := by
      unfold stL stA
      simp only [List.map_cons, List.map_nil, List.foldl_cons, List.foldl_nil]
      exact orS_0 hbd
    rw [hst1] at hsets
    have hu6 := hu5.keep (Nat.le_refl _) hx6 (fun _ _ => by simp)
    refine op_callQ (by simp only [go_sem, binC]; exact hsets) ?_
    simp only [go_sem, binC]
    refine op_app_ls1 (V := fun _ => none) (A := Co.int) (lo := H3.length) (a := stA ls s) hu6 (by simp only [go_sem, binC, e3]) (by (simp only [go_sem, binC]) <;> rfl) rfl ⟨rfl, by omega, by omega⟩ (by omega) (by omega) (by rw [List.length_take]; omega) (by omega) fun H7 u7 hx7 hca7 hn7 ho7 => ?_
    simp only [go_sem, binC, out_n, thenX_n]
    have hxd7 : AgX [] H3 H7 := ((hxc.tr hx5).tr hx6).trans hx7 (fun _ h _ => h) (fun b hb hl => by have := (hu6.blk hb).1; omega)
    refine wpc_reg ?_
    simp only [go_sem, binC, e13, hw1]
    simp only [go_sem, binC, thenX_n]
    exact ih (i + 1) _ H7 u7 (by omega) hxd7 (by rw [htk]; exact ho7) (by simp only [go_sem, binC, e1]) (by simp only [go_sem, binC]) (by simp only [go_sem, binC, e11]) (by simp only [go_sem, binC, e12]) (by simp only [go_sem, binC])
theorem stA_iff {n : Nat} {ls : List (Int × Int)} {l : List (TStep n)} {ts homes : List Int} {j : Nat} {h : Int} (hd : doN n ls l ts homes j h = true) (h1 : j < (allSL n l).length) (h2 : j < (atL n ls (7, 7) l).length) : hasB ((atL n ls (7, 7) l)[j]).1 h = true ∧ witB (stA ls (allSL n l)[j]) (byS ts h 3) = true := by
  rw [doN_eq h1 h2] at hd
  unfold doesB at hd
  simp only [Bool.and_eq_true] at hd
  exact ⟨hd.1.1, hd.1.2⟩
theorem wit_tr {a h : Int} {ts : List Int} (hw : witB a (byS ts h 3) = true) {i : Nat} (hi : i < 3) (ht : hasB a i = true) : hasB (ts.getD i 0) h = true := by
  rw [← byS_has hi]
  simp only [witB, Bool.and_eq_true, Bool.not_eq_true', Bool.and_eq_false_iff] at hw
  have : i = 0 ∨ i = 1 ∨ i = 2 := by omega
  rcases this with rfl | rfl | rfl
  · rcases hw.1 with h | h
    · rw [show hasB a ((0 : Nat) : Int) = hasB a 0 from rfl, h] at ht; cases ht
    · simpa using h
  · rcases hw.2.1 with h | h
    · rw [show hasB a ((1 : Nat) : Int) = hasB a 1 from rfl, h] at ht; cases ht
    · simpa using h
  · rcases hw.2.2 with h | h
    · rw [show hasB a ((2 : Nat) : Int) = hasB a 2 from rfl, h] at ht; cases ht
    · simpa using h
theorem lawSt_ok {F : Nat → Option IFn} {f : Nat} (hf : F f = some c_lawSt) (gd : DrawStepOk F 37) (gi : StepV F 36) (gs : StepV F 35) (gts : SetsOk F 38) (gta : ∀ (H : Heap) (n : Nat) (lv sv : Value) (ls : List (Int × Int)) (l : List (TStep n)), SlR Co.p2 (vw 0 H) lv ls → SlR (Co.step n) (vw 0 H) sv l → (Co.prog n).sm (ls, l) → progB n (ls, l) = true →
    ∃ w H', KC F 39 [.agg #[lv, sv]] H w H' ∧ (AgX [] H H' ∧ SlR Co.p2 (vw 0 H') w (atL n ls (7, 7) l))) (glh : ∀ (H : Heap) (s h : Int), 0 ≤ s → s ≤ 7 → 0 ≤ h → h ≤ 2 → QC F 19 [.int .i64 s, .int .i64 h] H (.bool (hasB s h))) : LawB F f := by
  intro H v code hv
  have hv0 := hv
  obtain ⟨h0, a, rfl, _⟩ := hv
  refine QC.mk hf rfl ?_
  refine seq_reg ?_
  simp only [go_sem, binC]
  refine seq_assoc (seq_reg ?_)
  simp only [go_sem, binC]
  by_cases hbig : 1048576 < (code.length : Int)
  · refine seq_cond (t := true) (by simp only [go_sem, binC]; rw [decide_eq_true hbig]) ?_
    simp only [go_sem, binC]
    refine seq_assoc (seq_reg ?_)
    simp only [go_sem, binC]
    exact seq_ret ⟨Or.inr rfl, .bool true, by simp only [go_sem, binC], rfl, rfl⟩
  refine seq_cond (t := false) (by simp only [go_sem, binC]; rw [decide_eq_false hbig]) ?_
  simp only [go_sem, binC]
  refine seq_skip (seq_reg ?_)
  simp only [go_sem, binC]
  obtain ⟨d, lv, sv, tv, hw, x, y, ls, l, ts, homes, H1, k, hx, r1, r2, r3, r4, r5, htl, hhl, rx, ry⟩ := gd H _ code hv0
  have hl1 := hx.1
  obtain ⟨hls0, la, rfl, _⟩ := id r1
  obtain ⟨hsl0, sa, rfl, _⟩ := id r2
  obtain ⟨_, ta, rfl, _⟩ := id r4
  obtain ⟨_, ha, rfl, _⟩ := id r5
  refine op_callK (by simp only [go_sem, binC]; exact k) ?_
  simp only [go_sem, binC]
  refine ⟨by omega, ?_⟩
  refine wpc_gen fun H2 hH2 => ?_
  have hb : H2[H1.length]? = some ⟨[.slice la ls.length ls.length, .slice sa l.length l.length], 0, 0, false, true⟩ := hH2 ▸ get_new0 _ _
  have hy : AgX [] H1 H2 := hH2 ▸ AgX.app [] _ _
  have hl2 : H2.length = H1.length + 1 := by rw [hH2, List.length_append]; rfl
  replace r1 := r1.mono (agx_sub hy)
  replace r2 := r2.mono (agx_sub hy)
  replace r4 := r4.mono (agx_sub hy)
  replace r5 := r5.mono (agx_sub hy)
  clear hH2 k
  have hk1 := gi H2 d _ _ _ _ ls l ts homes x y r1 r2 r3 r4 r5
  have hk2 := gs H2 d _ _ _ _ ls l ts homes x y r1 r2 r3 r4 r5
  refine seq_reg ?_
  simp only [go_sem, binC, gc_of hb, inBlk_some]
  refine op_callQ (by simp only [go_sem, binC]; exact hk1) ?_
  simp only [go_sem, binC]
  refine seq_assoc (seq_reg ?_)
  simp only [go_sem, binC, gc_of hb, inBlk_some]
  refine op_callQ (by simp only [go_sem, binC]; exact hk2) ?_
  cases hok : stepV d (ls, l) ts homes x y with
  | false =>
    simp only [go_sem, binC, bne_self_eq_false, beq_self_eq_true]
    refine seq_cond (t := true) rfl ?_
    simp only [go_sem, binC]
    refine seq_assoc (seq_reg ?_)
    simp only [go_sem, binC, gc_of hb, inBlk_some]
    refine op_callQ (by simp only [go_sem, binC]; exact hk2) ?_
    rw [hok]
    simp only [go_sem, binC, beq_self_eq_true]
    exact seq_ret ⟨Or.inr rfl, .bool true, by simp only [go_sem, binC], rfl, rfl⟩
  | true =>
  simp only [go_sem, binC, bne_self_eq_false, beq_self_eq_true]
  refine seq_cond (t := false) rfl ?_
  simp only [go_sem, binC]
  obtain ⟨a1, a2, a3, a4, a5, a6⟩ := stepV_iff.1 hok
  simp only at a1 a3 a6
  rw [sizeV_yes a1] at a4
  have hsl := allSL_len l
  have hal := atL_len ls (7, 7) l
  obtain ⟨j, rfl⟩ : ∃ j : Nat, x = (j : Int) := Int.eq_ofNat_of_zero_le a4.1
  rw [Int.toNat_natCast] at a6
  have hj1 : j < (allSL d l).length := by omega
  have hj2 : j < (atL d ls (7, 7) l).length := by omega
  obtain ⟨q1, q2⟩ := stA_iff a6 hj1 hj2
  have hlab : ls.all labB = true := progB_lab a1
  have hst7 : R7 (stA ls (allSL d l)[j]) := stT_bd hlab _ _
  have hoj : labB (atL d ls (7, 7) l)[j] = true := List.all_eq_true.1 (atL_lab hlab rfl l) _ (List.getElem_mem hj2)
  have hob := labB_bd hoj
  obtain ⟨htr3, htrr⟩ := trK_iff.1 a2
  have htsb : ∀ i : Nat, i < 3 → 0 ≤ ts.getD i 0 ∧ ts.getD i 0 ≤ 7 := fun i hi => by
    have := inB_iff.1 (htrr i (by omega)).1
    simpa [List.getD, show i < ts.length by omega] using this
  refine seq_skip (seq_reg ?_)
  simp only [go_sem, binC, gc_of hb, inBlk_some]
  obtain ⟨wv, H3, k3, hx3, rw3⟩ := gts H2 d _ _ ls l r1 r2 r3 a1
  refine op_callK (by simp only [go_sem, binC]; exact k3) ?_
  have hsj : j < (setsA d ls l).length := by unfold setsA; rw [List.length_map]; exact hj1
  obtain ⟨sb, so, rfl, hsg⟩ := gcD rw3 hsj
  rw [show (setsA d ls l).getD j 0 = stA ls (allSL d l)[j] from by unfold setsA; simp [List.getD, hj1]] at hsg
  simp only [go_sem, binC]
  refine ⟨⟨by omega, by omega⟩, ?_⟩
  simp only [go_sem, binC, Int.toNat_natCast, Nat.mul_one, hsg]
  have hb3 := hx3.get hb (by simp)
  replace r1 := r1.mono (agx_sub hx3)
  replace r2 := r2.mono (agx_sub hx3)
  replace r4 := r4.mono (agx_sub hx3)
  generalize stA ls (allSL d l)[j] = st at *
  refine seq_assoc (seq_reg ?_)
  simp only [go_sem, binC]
  refine wpc_genK fun KK hKK => ?_
  have hT : ∀ e : Env, e 3 = ptr H1.length 0 → e 6 = .int .i64 j → e 7 = .int .i64 y → wpc F H.length lawStT e H3 KK := by
    intro e e3 e6 e7
    rw [hKK]
    unfold lawStT
    obtain ⟨av, H4, k4, hx4, rw4⟩ := gta H3 d _ _ ls l r1 r2 r3 a1
    refine seq_reg ?_
    simp only [go_sem, binC, e3, gc_of hb3, inBlk_some]
    refine op_callK (by simp only [go_sem, binC]; exact k4) ?_
    obtain ⟨lb, lo', rfl, hgl0, _⟩ := lab_at rw4 (H := H4) (fun _ _ h => h) (x := (j : Int)) (by omega) (by omega)
    have hgl := hgl0 []
    rw [List.append_nil, Int.toNat_natCast] at hgl
    have g0 : getCells H4 lb (lo' + j * 2) 1 = some [.int .i64 ((atL d ls (7, 7) l).getD j (0, 0)).1] := by have := gc_part (off := 0) (k := 1) hgl (by omega); simpa using this
    rw [show (atL d ls (7, 7) l).getD j (0, 0) = (atL d ls (7, 7) l)[j] from by simp [List.getD, hj2]] at g0
    simp only [go_sem, binC, e6]
    refine ⟨⟨by omega, by omega⟩, ?_⟩
    simp only [go_sem, binC, Int.toNat_natCast, g0, e7]
    have hc := glh H4 (atL d ls (7, 7) l)[j].1 y hob.1.1 hob.1.2 a5.1 a5.2
    rw [q1] at hc
    refine op_callQ (by simp only [go_sem, binC, e7]; exact hc) ?_
    simp only [go_sem, binC]
    exact wpc_ret ⟨Or.inr rfl, .bool true, by simp only [go_sem, binC], rfl, rfl⟩
  refine seq_block (wpc_loop ?_)
  suffices hh : ∀ (k i : Nat) (e : Env), i + k = 3 → e 3 = ptr H1.length 0 → e 4 = .slice ta ts.length ts.length → e 6 = .int .i64 j → e 7 = .int .i64 y → e 9 = .int .i64 st → e 10 = .int .i64 i → W F H.length _ e H3 _ from
    hh 3 0 _ rfl (by simp only [go_sem, binC]) (by simp only [go_sem, binC]) (by simp only [go_sem, binC]) (by simp only [go_sem, binC]) (by simp only [go_sem, binC]) (by (simp only [go_sem, binC]) <;> rfl)
  intro k
  induction k with
  | zero =>
    intro i e hi e3 e4 e6 e7 e9 e10
    refine lp_step ?_
    refine seq_assoc (seq_reg ?_)
    simp only [go_sem, binC, e10]
    refine seq_cond (t := false) (by simp only [go_sem, binC]; rw [decide_eq_false (by omega)]) ?_
    simp only [go_sem, binC]
    refine seq_exit ?_
    simp only [go_sem, binC, thenX_e, out_e, thenX_n]
    exact hT _ (by simp only [go_sem, binC, e3]) (by simp only [go_sem, binC, e6]) (by simp only [go_sem, binC, e7])
  | succ k ih =>
    intro i e hi e3 e4 e6 e7 e9 e10
    have hw1 : IntKind.i64.wrap ((i : Int) + 1) = ((i + 1 : Nat) : Int) := by rw [wrap_id (by omega) (by omega)]; omega
    have hvh : i < ts.length := by omega
    obtain ⟨hb', ho', hhv, hhg⟩ := gcD r4 hvh
    simp only [Value.slice.injEq, and_true] at hhv
    subst hhv
    have htb := htsb i (by omega)
    have hwt := fun hh => wit_tr q2 (show i < 3 by omega) hh
    generalize ts.getD i 0 = ti at *
    refine lp_step ?_
    refine seq_assoc (seq_reg ?_)
    simp only [go_sem, binC, e10]
    refine seq_cond (t := true) (by simp only [go_sem, binC]; rw [decide_eq_true (by omega)]) ?_
    simp only [go_sem, binC]
    refine seq_skip (seq_block (seq_reg ?_))
    simp only [go_sem, binC, e9, e10]
    refine op_callQ (by simp only [go_sem, binC, e9, e10]; exact glh H3 st i hst7.1 hst7.2 (by omega) (by omega)) ?_
    cases hs : hasB st i with
    | false =>
      simp only [go_sem, binC]
      refine wpc_cond (t := false) rfl ?_
      simp only [go_sem, binC]
      refine wpc_skip ?_
      simp only [go_sem, binC, out_n, thenX_n]
      refine wpc_reg ?_
      simp only [go_sem, binC, e10, hw1]
      simp only [go_sem, binC, thenX_n]
      exact ih (i + 1) _ (by omega) (by simp only [go_sem, binC, e3]) (by simp only [go_sem, binC, e4]) (by simp only [go_sem, binC, e6]) (by simp only [go_sem, binC, e7]) (by simp only [go_sem, binC, e9]) (by simp only [go_sem, binC])
    | true =>
      simp only [go_sem, binC, e4, e7, e10]
      refine ⟨⟨by omega, by omega⟩, ?_⟩
      simp only [go_sem, binC, Int.toNat_natCast, Nat.mul_one, hhg]
      have hc := glh H3 ti y htb.1 htb.2 a5.1 a5.2
      rw [hwt hs] at hc
      refine op_callQ (by simp only [go_sem, binC, e7]; exact hc) ?_
      simp only [go_sem, binC]
      refine wpc_cond (t := false) rfl ?_
      simp only [go_sem, binC]
      refine wpc_skip ?_
      simp only [go_sem, binC, out_n, thenX_n]
      refine wpc_reg ?_
      simp only [go_sem, binC, e10, hw1]
      simp only [go_sem, binC, thenX_n]
      exact ih (i + 1) _ (by omega) (by simp only [go_sem, binC, e3]) (by simp only [go_sem, binC, e4]) (by simp only [go_sem, binC, e6]) (by simp only [go_sem, binC, e7]) (by simp only [go_sem, binC, e9]) (by simp only [go_sem, binC])
end Go.Proofs.YtbjeldblaclpnaaI
end
section
/- Whether a step may be done by a host (the program's). -/
set_option linter.unusedVariables false
set_option linter.unusedSimpArgs false
namespace Go.Proofs.YtbjeldblaclpnaaI
open Go Go.RowKit
def c_iPlanStep : IFn := ⟨5, 57, [.t 10],
 .seq (.reg none [
    ⟨(some 5), none, .box (.t 0)⟩,
    ⟨(some 10), none, .mov (.c (.bool false))⟩])
 (.seq (.seq (.reg none [
     ⟨(some 11), none, .load true 2 (.t 5)⟩,
     ⟨(some 12), none, .call .q (.f 61) [(.t 11)]⟩,
     ⟨(some 13), none, .un .not (.t 12)⟩,
     ⟨(some 14), none, .mov (.t 13)⟩,
     ⟨(some 15), (some (14, false)), .mov (.t 1)⟩,
     ⟨(some 16), (some (14, false)), .call .q (.f 52) [(.t 15)]⟩,
     ⟨(some 17), (some (14, false)), .un .not (.t 16)⟩,
     ⟨(some 18), none, .pick (.t 14) (.c (.bool true)) (.t 17)⟩,
     ⟨(some 19), none, .mov (.t 18)⟩,
     ⟨(some 20), (some (19, false)), .mov (.t 2)⟩,
     ⟨(some 21), (some (19, false)), .fad 0 (.t 5)⟩,
     ⟨(some 22), (some (19, false)), .load false 1 (.t 21)⟩,
     ⟨(some 23), (some (19, false)), .len (.t 22)⟩,
     ⟨(some 24), (some (19, false)), .call .q (.f 63) [(.t 20), (.t 23)]⟩,
     ⟨(some 25), (some (19, false)), .un .not (.t 24)⟩,
     ⟨(some 26), none, .pick (.t 19) (.c (.bool true)) (.t 25)⟩,
     ⟨(some 27), none, .mov (.t 26)⟩,
     ⟨(some 28), (some (27, false)), .mov (.t 3)⟩,
     ⟨(some 29), (some (27, false)), .fad 1 (.t 5)⟩,
     ⟨(some 30), (some (27, false)), .load false 1 (.t 29)⟩,
     ⟨(some 31), (some (27, false)), .call .q (.f 62) [(.t 30)]⟩,
     ⟨(some 32), (some (27, false)), .bin .sub (.t 31) (.c (.int .i64 1))⟩,
     ⟨(some 33), (some (27, false)), .call .q (.f 81) [(.t 28), (.c (.int .i64 0)), (.t 32)]⟩,
     ⟨(some 34), (some (27, false)), .un .not (.t 33)⟩,
     ⟨(some 35), none, .pick (.t 27) (.c (.bool true)) (.t 34)⟩,
     ⟨(some 36), none, .mov (.t 35)⟩,
     ⟨(some 37), (some (36, false)), .mov (.t 4)⟩,
     ⟨(some 38), (some (36, false)), .call .q (.f 82) [(.t 37)]⟩,
     ⟨(some 39), (some (36, false)), .un .not (.t 38)⟩,
     ⟨(some 40), none, .pick (.t 36) (.c (.bool true)) (.t 39)⟩])
  (.cond (.t 40) (.seq (.reg none [
      ⟨(some 10), none, .mov (.c (.bool false))⟩])
   (.ret)) (.skip)))
 (.seq (.reg (some 15) [
    ⟨(some 41), none, .load true 2 (.t 5)⟩,
    ⟨(some 42), none, .mov (.t 1)⟩,
    ⟨(some 43), none, .mov (.t 2)⟩,
    ⟨(some 44), none, .fad 1 (.t 5)⟩,
    ⟨(some 45), none, .load false 1 (.t 44)⟩,
    ⟨(some 46), none, .call .k (.f 55) [(.t 45)]⟩,
    ⟨(some 47), none, .mov (.t 3)⟩,
    ⟨(some 48), none, .iad 8 (.t 46) (.t 47)⟩,
    ⟨(some 49), none, .load true 8 (.t 48)⟩,
    ⟨(some 50), none, .load true 2 (.t 5)⟩,
    ⟨(some 51), none, .call .k (.f 53) [(.t 50)]⟩,
    ⟨(some 52), none, .mov (.t 3)⟩,
    ⟨(some 53), none, .iad 2 (.t 51) (.t 52)⟩,
    ⟨(some 54), none, .load true 2 (.t 53)⟩,
    ⟨(some 55), none, .mov (.t 4)⟩,
    ⟨(some 56), none, .call .q (.f 65) [(.t 41), (.t 42), (.t 43), (.t 49), (.t 54), (.t 55)]⟩,
    ⟨(some 10), none, .mov (.t 56)⟩])
 (.ret)))⟩
theorem iPlanStep_ok {F : Nat → Option IFn} {f : Nat} (hf : F f = some c_iPlanStep) (gp : ProgOk F 61) (gt : TrOk F 52) (ghk : HostsI F 63) (gc : ∀ n, CntOk F 62 n) (gi : ∀ (H : Heap) (a b c : Int), QC F 81 [.int .i64 a, .int .i64 b, .int .i64 c] H (.bool (inB a b c))) (gih : ∀ (H : Heap) (a : Int), QC F 82 [.int .i64 a] H (.bool (inB a 0 2))) (ga : AtP F 53) (gl : ∀ n, AllP F 55 n) (gd : DoesOk F 65) : StepV F f := by
  intro H n lv sv tw hw ls l ts homes j h r1 r2 hsm r3 r4
  have osv : one sv = true := by obtain ⟨_, a, rfl, _⟩ := r2; rfl
  obtain ⟨_, la, rfl, _⟩ := id r1
  obtain ⟨_, ta, rfl, _⟩ := id r3
  obtain ⟨_, ha, rfl, _⟩ := id r4
  refine QC.mk hf rfl ?_
  refine seq_reg ?_
  simp only [go_sem, binC, osv]
  refine wpc_gen fun H1 hH1 => ?_
  have hx1 : AgX [] H H1 := hH1 ▸ AgX.app [] _ _
  have hb : H1[H.length]? = some ⟨[.slice la ls.length ls.length, sv], 0, 0, false, true⟩ := hH1 ▸ get_new0 _ _
  clear hH1
  have hS := agx_sub hx1
  have hl1 := hx1.1
  have hcntz : progB n (ls, l) = true → sizeV n (ls, l) = ((allL n l).length : Int) := sizeV_yes
  unfold stepV
  show wpc F H.length _ _ _ (fin _ fun w _ => w = .bool (progB n (ls, l) && (trK ts && (homesB ls.length homes && (inB j 0 (sizeV n (ls, l) - 1) && (inB h 0 2 && doN n ls l ts homes j.toNat h))))) ∧ scal w = true)
  generalize sizeV n (ls, l) = z at *
  generalize hdn : doN n ls l ts homes j.toNat h = dn
  refine seq_assoc (seq_reg ?_)
  refine wpo_cut 17 fun Kc hK => ?_
  simp only [List.take_succ_cons, List.take_zero, List.drop_succ_cons, List.drop_zero] at hK ⊢
  simp only [go_sem, binC, gc_of hb, inBlk_some, osv]
  refine op_callQ (by simp only [go_sem, binC]; exact gp H1 n _ (ls, l) (prog_rd (r1.mono hS) (r2.mono hS)) hsm) ?_
  cases hP : progB n (ls, l) with
  | false =>
    simp only [go_sem, binC]
    refine hK _ _ ?_
    simp only [go_sem, binC]
    refine seq_cond (t := true) rfl ?_
    simp only [go_sem, binC]
    refine seq_assoc (seq_reg ?_)
    simp only [go_sem, binC]
    exact seq_ret ⟨Or.inr rfl, .bool false, (by (simp only [go_sem, binC]) <;> rfl), by simp [*], rfl⟩
  | true =>
  simp only [go_sem, binC]
  refine op_callQ (by simp only [go_sem, binC]; exact gt.k H1 _ ts (r3.mono hS)) ?_
  cases hk : trK ts with
  | false =>
    simp only [go_sem, binC]
    refine hK _ _ ?_
    simp only [go_sem, binC]
    refine seq_cond (t := true) rfl ?_
    simp only [go_sem, binC]
    refine seq_assoc (seq_reg ?_)
    simp only [go_sem, binC]
    exact seq_ret ⟨Or.inr rfl, .bool false, (by (simp only [go_sem, binC]) <;> rfl), by simp [*], rfl⟩
  | true =>
  simp only [go_sem, binC, gc_of hb, inBlk_some, osv]
  refine op_callQ (by simp only [go_sem, binC]; exact ghk H1 _ homes ls.length (r4.mono hS)) ?_
  have hhB : (decide ((homes.length : Int) = ls.length) && hostsB homes) = homesB ls.length homes := by
    unfold homesB
    congr 1
    exact decide_eq_decide.2 (by omega)
  rw [hhB]
  cases hh : homesB ls.length homes with
  | false =>
    simp only [go_sem, binC]
    refine hK _ _ ?_
    simp only [go_sem, binC]
    refine seq_cond (t := true) rfl ?_
    simp only [go_sem, binC]
    refine seq_assoc (seq_reg ?_)
    simp only [go_sem, binC]
    exact seq_ret ⟨Or.inr rfl, .bool false, (by (simp only [go_sem, binC]) <;> rfl), by simp [*], rfl⟩
  | true =>
  simp only [go_sem, binC]
  refine hK _ _ ?_
  simp only [go_sem, binC, gc_of hb, inBlk_some, osv]
  have hsz := hcntz hP
  have hlab : ls.all labB = true := progB_lab hP
  have hcnt : (allL n l).length ≤ 8 := progB_cnt hP hsm
  have hsl := allSL_len l
  have hatl := atL_len ls (7, 7) l
  have hho := homesB_iff.1 hh
  have hcw : Wr (cntL n l) = z := by
    rw [cntL_len]
    unfold Wr
    rw [wrap_id (by omega) (by omega), hsz]
  refine op_callQ (by simp only [go_sem, binC]; exact gc n H1 sv l (r2.mono hS)) ?_
  rw [hcw]
  have hw1 : IntKind.i64.wrap (z - 1) = z - 1 := wrap_id (by omega) (by omega)
  simp only [go_sem, binC, hw1]
  refine op_callQ (by simp only [go_sem, binC]; exact gi H1 j 0 _) ?_
  cases hj : inB j 0 (z - 1) with
  | false =>
    simp only [go_sem, binC]
    refine seq_cond (t := true) rfl ?_
    simp only [go_sem, binC]
    refine seq_assoc (seq_reg ?_)
    simp only [go_sem, binC]
    exact seq_ret ⟨Or.inr rfl, .bool false, (by (simp only [go_sem, binC]) <;> rfl), by simp [*], rfl⟩
  | true =>
  simp only [go_sem, binC]
  refine op_callQ (by simp only [go_sem, binC]; exact gih H1 h) ?_
  cases hi : inB h 0 2 with
  | false =>
    simp only [go_sem, binC]
    refine seq_cond (t := true) rfl ?_
    simp only [go_sem, binC]
    refine seq_assoc (seq_reg ?_)
    simp only [go_sem, binC]
    exact seq_ret ⟨Or.inr rfl, .bool false, (by (simp only [go_sem, binC]) <;> rfl), by simp [*], rfl⟩
  | true =>
  have qj := inB_iff.1 hj
  have qh := inB_iff.1 hi
  obtain ⟨i, rfl⟩ := Int.eq_ofNat_of_zero_le qj.1
  rw [show ((i : Nat) : Int).toNat = i from Int.toNat_natCast i] at hdn
  have hjs : i < (allSL n l).length := by omega
  have hja : i < (atL n ls (7, 7) l).length := by omega
  simp only [go_sem, binC]
  refine seq_cond (t := false) rfl ?_
  simp only [go_sem, binC]
  refine seq_skip (seq_regD ?_)
  simp only [go_sem, binC, gc_of hb, inBlk_some, osv]
  obtain ⟨wl, H2, k2, hx2, ol⟩ := gl n (vw 0 H) H1 sv l (agx_sub hx1) r2 (by omega)
  refine op_callK (by simp only [go_sem, binC]; exact k2) ?_
  obtain ⟨al, hal⟩ := ol.shape
  rw [hsl] at hal
  subst hal
  obtain ⟨bs, cs, hws, gcs, rds⟩ := ol.at hjs
  rw [hsl] at hws
  simp only [Value.slice.injEq, and_true] at hws
  subst hws
  have hokj := progB_okA hP (List.getElem_mem hjs)
  have hdoe := doN_eq (ts := ts) (homes := homes) (h := h) hjs hja
  have hallat : (atL n ls (7, 7) l).all labB = true := atL_lab hlab rfl l
  have hoj : labB (atL n ls (7, 7) l)[i] = true := List.all_eq_true.1 hallat _ (List.getElem_mem hja)
  have hx02 := hx1.tr hx2
  have hb2 := hx2.get hb (by simp)
  obtain ⟨wa, H4, k4, hx4, oa⟩ := ga H2 n _ sv ls l (r1.mono (agx_sub hx02)) (r2.mono (agx_sub hx02)) hsm hP
  obtain ⟨aa, haa⟩ := oa.shape
  rw [hatl] at haa
  subst haa
  obtain ⟨ba, ca, hwa, gca, rda⟩ := oa.at hja
  rw [hatl] at hwa
  simp only [Value.slice.injEq, and_true] at hwa
  subst hwa
  generalize (atL n ls (7, 7) l)[i] = hr at rda hoj hdoe
  generalize (allSL n l)[i] = sj at rds hokj hdoe
  obtain ⟨ra, rb⟩ := hr
  obtain ⟨_, _, rfl, ⟨hq1, _⟩, ⟨hq2, _⟩⟩ := rda
  simp only at hq1 hq2
  subst hq1 hq2
  have rdsc := rds
  obtain ⟨sk, sx, sa, sbb, sc, sg, tv, ev, tl, el, hs2, hcs, rg, otv, oev, _, _⟩ := anyS_rd rds
  subst hcs
  have hx04 := hx02.tr hx4
  simp only [go_sem, binC]
  refine ⟨⟨by omega, by omega⟩, ?_⟩
  simp only [go_sem, binC, Int.toNat_natCast, Nat.zero_add, gcs, otv, oev, gc_of hb2, inBlk_some, osv]
  refine op_callK (by simp only [go_sem, binC]; exact k4) ?_
  simp only [go_sem, binC]
  refine ⟨⟨by omega, by omega⟩, ?_⟩
  simp only [go_sem, binC, Int.toNat_natCast, Nat.zero_add, gca]
  refine op_callQ (by simp only [go_sem, binC]; exact gd H4 _ sv _ _ _ ls ts homes sj (ra, rb) h osv (r1.mono (agx_sub hx04)) hlab (r3.mono (agx_sub hx04)) (trK_iff.1 hk) (r4.mono (agx_sub hx04)) hho (Co.anyS.mono (agx_sub hx04) rdsc) hokj hoj qh.1 qh.2) ?_
  rw [← hdoe, hdn]
  simp only [go_sem, binC]
  exact wpc_ret ⟨Or.inr rfl, .bool dn, (by (simp only [go_sem, binC]) <;> rfl), by simp [*], rfl⟩
end Go.Proofs.YtbjeldblaclpnaaI
end
