/- Texts of this proof, merged: K27, K28, K30, K21, H24, H29, H30, GL54, BL54. -/
import Derived.Test.YtbjeldblaclpnaaQe11
import Derived.Test.YtbjeldblaclpnaaRows
section
/- A program and a plan, some spoilt. -/
set_option linter.unusedVariables false
set_option linter.unusedSimpArgs false
namespace Go.Proofs.YtbjeldblaclpnaaI
open Go Go.RowKit
def drOffT : ICode := .seq (.reg (some 3) [
    ⟨(some 54), none, .load true 2 (.t 4)⟩,
    ⟨(some 55), none, .load true 3 (.t 5)⟩,
    ⟨none, none, .store 2 (.t 2) (.t 54)⟩,
    ⟨none, none, .store 3 (.t 3) (.t 55)⟩])
 (.ret)
def c_drOff : IFn := ⟨1, 56, [.cell true 2 2, .cell true 3 3],
 .seq (.reg none [
    ⟨(some 2), none, .new [(.slice none 0 0), (.slice none 0 0)]⟩,
    ⟨(some 3), none, .new [(.slice none 0 0), (.slice none 0 0), (.slice none 0 0)]⟩])
 (.seq (.reg none [
    ⟨(some 7), none, .mov (.t 0)⟩,
    ⟨(some 8), none, .call .n (.f 46) [(.t 7)]⟩,
    ⟨(some 6), none, .mov (.t 8)⟩,
    ⟨(some 9), none, .ext (.t 6) 0⟩,
    ⟨(some 10), none, .ext (.t 6) 1⟩,
    ⟨(some 4), none, .new [(.slice none 0 0), (.slice none 0 0)]⟩,
    ⟨(some 5), none, .new [(.slice none 0 0), (.slice none 0 0), (.slice none 0 0)]⟩,
    ⟨none, none, .store 2 (.t 4) (.t 9)⟩,
    ⟨none, none, .store 3 (.t 5) (.t 10)⟩])
 (.seq (.seq (.reg none [
     ⟨(some 11), none, .mov (.t 0)⟩,
     ⟨(some 12), none, .call .n (.f 45) [(.t 11), (.c (.int .i64 16))]⟩])
  (.block 0 (.seq (.reg none [
      ⟨(some 14), none, .bin .eql (.t 12) (.c (.int .i64 0))⟩,
      ⟨(some 13), none, .mov (.t 14)⟩])
   (.cond (.t 13) (.seq (.reg none [
       ⟨(some 15), none, .fad 1 (.t 5)⟩,
       ⟨(some 16), none, .load false 1 (.t 15)⟩,
       ⟨(some 17), none, .len (.t 16)⟩,
       ⟨(some 18), none, .bin .gtr (.t 17) (.c (.int .i64 0))⟩])
    (.cond (.t 18) (.reg (some 5) [
       ⟨(some 19), none, .fad 1 (.t 5)⟩,
       ⟨(some 20), none, .load false 1 (.t 19)⟩,
       ⟨(some 21), none, .mov (.t 0)⟩,
       ⟨(some 22), none, .call .n (.f 45) [(.t 21), (.c (.int .i64 5))]⟩,
       ⟨(some 23), none, .bin .sub (.t 22) (.c (.int .i64 1))⟩,
       ⟨(some 24), none, .iad 1 (.t 20) (.c (.int .i64 0))⟩,
       ⟨none, none, .store 1 (.t 24) (.t 23)⟩]) (.skip))) (.seq (.reg none [
       ⟨(some 26), none, .bin .eql (.t 12) (.c (.int .i64 1))⟩,
       ⟨(some 25), none, .mov (.t 26)⟩])
    (.cond (.t 25) (.seq (.reg none [
        ⟨(some 27), none, .fad 2 (.t 5)⟩,
        ⟨(some 28), none, .load false 1 (.t 27)⟩,
        ⟨(some 29), none, .len (.t 28)⟩,
        ⟨(some 30), none, .bin .gtr (.t 29) (.c (.int .i64 0))⟩])
     (.cond (.t 30) (.reg (some 10) [
        ⟨(some 31), none, .fad 2 (.t 5)⟩,
        ⟨(some 32), none, .load false 1 (.t 31)⟩,
        ⟨(some 33), none, .mov (.t 0)⟩,
        ⟨(some 34), none, .fad 2 (.t 5)⟩,
        ⟨(some 35), none, .load false 1 (.t 34)⟩,
        ⟨(some 36), none, .len (.t 35)⟩,
        ⟨(some 37), none, .call .n (.f 45) [(.t 33), (.t 36)]⟩,
        ⟨(some 38), none, .mov (.t 0)⟩,
        ⟨(some 39), none, .call .n (.f 45) [(.t 38), (.c (.int .i64 5))]⟩,
        ⟨(some 40), none, .bin .sub (.t 39) (.c (.int .i64 1))⟩,
        ⟨(some 41), none, .iad 1 (.t 32) (.t 37)⟩,
        ⟨none, none, .store 1 (.t 41) (.t 40)⟩]) (.skip))) (.seq (.reg none [
        ⟨(some 43), none, .bin .eql (.t 12) (.c (.int .i64 2))⟩,
        ⟨(some 42), none, .mov (.t 43)⟩])
     (.cond (.t 42) (.reg none [
        ⟨(some 44), none, .mov (.t 0)⟩,
        ⟨(some 45), none, .call .n (.f 48) [(.t 44)]⟩,
        ⟨(some 46), none, .fad 0 (.t 5)⟩,
        ⟨none, none, .store 1 (.t 46) (.t 45)⟩]) (.seq (.reg none [
         ⟨(some 48), none, .bin .eql (.t 12) (.c (.int .i64 3))⟩,
         ⟨(some 47), none, .mov (.t 48)⟩])
      (.cond (.t 47) (.reg none [
         ⟨(some 49), none, .fad 2 (.t 5)⟩,
         ⟨(some 50), none, .load false 1 (.t 49)⟩,
         ⟨(some 51), none, .lit 1 3 1 [(.int .i64 0)] [(0, 1, (.c (.int .i64 0)))]⟩,
         ⟨(some 52), none, .app 1 3 8 false (.t 50) (.t 51)⟩,
         ⟨(some 53), none, .fad 2 (.t 5)⟩,
         ⟨none, none, .store 1 (.t 53) (.t 52)⟩]) (.skip)))))))))))
 drOffT))⟩
/-- A program and a plan that were drawn: what they show. -/
def OffQ (H H' : Heap) (v : Value) : Prop := ∃ (lv sv tv hv dv : Value) (ls : List (Int × Int)) (l : List (TStep 3)) (ts homes does : List Int), v = .tuple #[.agg #[lv, sv], .agg #[tv, hv, dv]] ∧ ProgV 3 (vwl H.length [] H') lv sv ls l ∧ SlR Co.int (vwl H.length [] H') tv ts ∧ SlR Co.int (vwl H.length [] H') hv homes ∧ SlR Co.int (vwl H.length [] H') dv does ∧ ts.length ≤ 3 ∧ homes.length ≤ 100 ∧ does.length ≤ 1001
theorem sl_one {V : Vw} {v : Value} {l : List Int} (h : SlR Co.int V v l) : one v = true := by obtain ⟨_, a, rfl, _⟩ := h; rfl
set_option maxHeartbeats 4000000 in
theorem drOff_ok {F : Nat → Option IFn} {f : Nat} (hf : F f = some c_drOff) (hpk : F 45 = some c_pick) {H0 : Heap} {rb : Nat} {bv : Value} {code : List Int} (hc : RdC H0 rb bv code) (gpl : DrawS F H0 rb bv 46 [] 370000 PlanQ) (gtr : DrawS F H0 rb bv 48 [] 10 TrQ) : DrawS F H0 rb bv f [] 370020 OffQ := by
  refine DrawS.mk hf rfl fun H p lo hs hp hp2 hlo => ?_
  have hl := hs.lt
  have hc0 := hc.low
  refine seq_reg ?_
  simp only [go_sem, binC]
  refine wpc_gen fun H1 hH1 => ?_
  have hs1 : St H0 rb bv p H1 := hH1 ▸ hs.appN hc _
  have ht1 : AgX [rb] H H1 := hH1 ▸ AgX.app [rb] _ _
  have hb2 : H1[H.length]? = some ⟨[nilS, nilS], 0, 0, false, true⟩ := hH1 ▸ get_new0 _ _
  have hb3 : H1[H.length + 1]? = some ⟨[nilS, nilS, nilS], 0, 0, false, true⟩ := hH1 ▸ get_new _ _ 1
  have hn1 : H1.length = H.length + 2 := by rw [hH1, List.length_append]; rfl
  clear hH1
  refine seq_reg ?_
  simp only [go_sem, binC]
  obtain ⟨w, Ha, qa, ka, xa, sa, ca, lv, sv, tv, b2, b3, ls, l, ts, homes, does, rfl, hpa, hta, htl, oh, od, hne, hhl, hdl⟩ := gpl H1 p lo hs1 hp (by omega) hlo
  refine op_callN (by simp only [go_sem, binC]; exact ka) ?_
  have olv : one lv = true := by obtain ⟨_, a, rfl, _⟩ := hpa.1; rfl
  have osv : one sv = true := by obtain ⟨_, a, rfl, _⟩ := hpa.2.1; rfl
  have hla := xa.1
  obtain ⟨_, ta, rfl, _⟩ := id hta
  simp only [go_sem, binC, olv, osv, sli]
  refine ⟨by omega, by omega, ?_⟩
  refine wpc_gen fun Hb hHb => ?_
  have xb : AgX [] Ha Hb := hHb ▸ AgX.app [] _ _
  have hb4 : Hb[Ha.length]? = some ⟨[lv, sv], 0, 0, false, true⟩ := hHb ▸ get_new0 _ _
  have hb5 : Hb[Ha.length + 1]? = some ⟨[.slice ta ts.length ts.length, .slice (some ⟨b2, 0, none⟩) homes.length homes.length, .slice (some ⟨b3, 0, none⟩) does.length does.length], 0, 0, false, true⟩ := hHb ▸ get_new _ _ 1
  have hnb : Hb.length = Ha.length + 2 := by rw [hHb, List.length_append]; rfl
  clear hHb
  have sb : St H0 rb bv qa Hb := sa.mono hc xb (fun _ h => by cases h)
  have ohb := oh.keep (Nat.le_refl _) xb (by simp)
  have odb := od.keep (Nat.le_refl _) xb (by simp)
  have hb2g := oh.ge
  have hb3g := od.ge
  have hb2l := oh.lt
  have hb3l := od.lt
  have x1b : AgX [rb] H1 Hb := xa.trans xb (fun _ h _ => h) (fun _ h _ => by cases h)
  have htb : SlR Co.int (vwl H1.length [b2, b3] Hb) (.slice ta ts.length ts.length) ts := hta.mono (vwl_sub xb (Nat.le_refl _) fun b' h1 h2 h3 => ⟨by simp, h3⟩)
  have hpb : ProgV 3 (vwl H1.length [b2, b3] Hb) lv sv ls l := hpa.mono (vwl_sub xb (Nat.le_refl _) fun b' h1 h2 h3 => ⟨by simp, h3⟩)
  have hTs : ∀ (Hx : Heap) (xs : List Nat), AgX xs Hb Hx → (∀ b', b' ∈ xs → b' = rb ∨ b' = b2 ∨ b' = b3 ∨ b' = Ha.length + 1) → SlR Co.int (vwl H1.length [] Hx) (.slice ta ts.length ts.length) ts := fun Hx xs hx hz => hta.mono (vwl_sub (xb.trans hx (zs := xs) (fun _ h _ => by cases h) (fun _ h _ => h)) (Nat.le_refl _) fun b' h1 h2 h3 => ⟨fun hm => by have := hz b' hm; simp only [List.mem_cons, List.not_mem_nil, or_false] at h3; omega, by simp⟩)
  have hIs : ∀ (Hx : Heap) (bb : Nat) (so : Bool) (l0 : List Int), IntsO 3 H1.length Hx bb so l0 → SlR Co.int (vwl H1.length [] Hx) (.slice (some ⟨bb, 0, none⟩) l0.length l0.length) l0 := fun Hx bb so l0 h => ints_sl (o := 0) (lo := H1.length) (xs := []) (l := l0) h.blk h.ge (by simp) h.rg (Nat.zero_le _) (by have := h.len; omega)
  refine wpc_genK fun KK hKK => ?_
  have hT : ∀ (e' : Env) (Hf : Heap) (q : Int) (tv hv dv : Value) (ts' homes' does' : List Int), e' 2 = ptr H.length 0 → e' 3 = ptr (H.length + 1) 0 → e' 4 = ptr Ha.length 0 → e' 5 = ptr (Ha.length + 1) 0 → AgX [rb, b2, b3, Ha.length + 1] Hb Hf → Hf[Ha.length + 1]? = some ⟨[tv, hv, dv], 0, 0, false, true⟩ → St H0 rb bv q Hf → qa ≤ q ∧ q ≤ qa + 20 → SlR Co.int (vwl H1.length [] Hf) tv ts' → SlR Co.int (vwl H1.length [] Hf) hv homes' → SlR Co.int (vwl H1.length [] Hf) dv does' → ts'.length ≤ 3 → homes'.length ≤ 100 → does'.length ≤ 1001 → wpc F lo drOffT e' Hf KK := by
    intro e' Hf q tv hv dv ts' homes' does' e2 e3 e4 e5 xf hb5f sf hq st sh sd ht' hh' hd'
    rw [hKK]
    have o1 := sl_one st
    have o2 := sl_one sh
    have o3 := sl_one sd
    have x1f : AgX [rb, b2, b3, Ha.length + 1] H1 Hf := x1b.trans xf (fun b h _ => by simp only [List.mem_singleton] at h; simp [h]) (fun _ h _ => h)
    have hb2f := x1f.get hb2 (by simp; omega)
    have hb3f := x1f.get hb3 (by simp; omega)
    have hb4f := xf.get hb4 (by simp; omega)
    have hb2fl := (List.getElem?_eq_some_iff.1 hb2f).1
    have hb3fl := (List.getElem?_eq_some_iff.1 hb3f).1
    have g4 : getCells Hf Ha.length 0 2 = some [lv, sv] := by rw [gc_of hb4f]; rfl
    have g5 : getCells Hf (Ha.length + 1) 0 3 = some [tv, hv, dv] := by rw [gc_of hb5f]; rfl
    have g4' : ∀ kk : Blk, getCells (Hf.set H.length kk) Ha.length 0 2 = some [lv, sv] := fun kk => by rw [gc_of (show (Hf.set H.length kk)[Ha.length]? = some ⟨[lv, sv], 0, 0, false, true⟩ by rw [List.getElem?_set_ne (by omega)]; exact hb4f)]; rfl
    have g5' : ∀ kk : Blk, getCells (Hf.set H.length kk) (Ha.length + 1) 0 3 = some [tv, hv, dv] := fun kk => by rw [gc_of (show (Hf.set H.length kk)[Ha.length + 1]? = some ⟨[tv, hv, dv], 0, 0, false, true⟩ by rw [List.getElem?_set_ne (by omega)]; exact hb5f)]; rfl
    have hb3s : ∀ kk : Blk, (Hf.set H.length kk)[H.length + 1]? = some ⟨[nilS, nilS, nilS], 0, 0, false, true⟩ := fun kk => by rw [List.getElem?_set_ne (by omega)]; exact hb3f
    unfold drOffT
    refine seq_regV (q := 2) (k := 0) (ea := putE (putE e' (some 54) (.agg #[lv, sv])) (some 55) (.agg #[tv, hv, dv])) rfl rfl rfl ?_
    simp only [go_sem, binC, e2, hb2f, olv, osv]
    refine ⟨by omega, ?_⟩
    refine ⟨frees_cons _ (iop_load (by simp only [go_sem, binC, e4]) g4) (iop_load (by simp only [go_sem, binC, e4]) (g4' _)) (frees_cons _ (iop_load (by simp only [go_sem, binC, e5]) g5) (iop_load (by simp only [go_sem, binC, e5]) (g5' _)) rfl), _, rfl, ?_⟩
    simp only [go_sem, binC, e3, hb3s, o1, o2, o3]
    refine ⟨by omega, ?_⟩
    refine wpc_genH fun Hz hHz => ?_
    have xfz : AgX [H.length, H.length + 1] Hf Hz := by
      rw [hHz]
      exact (AgX.set Hf H.length _).trans (AgX.set _ (H.length + 1) _) (fun _ h _ => by simp only [List.mem_singleton] at h; simp [h]) (fun _ h _ => by simp only [List.mem_singleton] at h; simp [h])
    have hfP : Hz[H.length]? = some ⟨[lv, sv], 0, 0, false, true⟩ := by rw [hHz, List.getElem?_set_ne (by omega), List.getElem?_set_self hb2fl]
    have hfQ : Hz[H.length + 1]? = some ⟨[tv, hv, dv], 0, 0, false, true⟩ := by rw [hHz, List.getElem?_set_self (by rw [List.length_set]; exact hb3fl)]
    clear hHz
    have x1z : AgX [rb, b2, b3, Ha.length + 1, H.length, H.length + 1] H1 Hz := x1f.trans xfz (fun _ h _ => by simp only [List.mem_cons, List.not_mem_nil, or_false] at h ⊢; omega) (fun _ h _ => by simp only [List.mem_cons, List.not_mem_nil, or_false] at h ⊢; omega)
    have xaz : AgX [rb, b2, b3, Ha.length + 1, H.length, H.length + 1] Ha Hz := (xb.trans xf (zs := [rb, b2, b3, Ha.length + 1]) (fun _ h _ => by cases h) (fun _ h _ => h)).trans xfz (fun _ h _ => by simp only [List.mem_cons, List.not_mem_nil, or_false] at h ⊢; omega) (fun _ h _ => by simp only [List.mem_cons, List.not_mem_nil, or_false] at h ⊢; omega)
    have hsub : Sub (vwl H1.length [] Hf) (vwl H.length [] Hz) := vwl_sub xfz (by omega) fun b' h1 h2 h3 => ⟨by simp; omega, by simp⟩
    refine wpc_ret ⟨Or.inr rfl, .tuple #[.agg #[lv, sv], .agg #[tv, hv, dv]], ?_, q, ?_, ?_, by omega, ?_⟩
    · simp [resV, resL, res1, putE_get, notT, ptr, gc_of hfP, gc_of hfQ, inBlk_some, valOf, e2, e3]
    · exact ht1.trans x1z (fun _ h _ => h) (fun b h hlt => by simp only [List.mem_cons, List.not_mem_nil, or_false] at h ⊢; omega)
    · exact sf.mono hc xfz (fun b h => by simp only [List.mem_cons, List.not_mem_nil, or_false] at h; omega)
    · exact ⟨lv, sv, tv, hv, dv, ls, l, ts', homes', does', rfl, hpa.mono (vwl_sub xaz (by omega) fun b' h1 h2 h3 => ⟨by simp only [List.mem_cons, List.not_mem_nil, or_false] at h3 ⊢; omega, by simp⟩), st.mono hsub, sh.mono hsub, sd.mono hsub, ht', hh', hd'⟩
  refine seq_assoc (seq_reg ?_)
  simp only [go_sem, binC]
  refine op_draw (n := 16) hpk hc sb (by omega) (by omega) hlo (by simp only [go_sem, binC]) (by simp only [go_sem, binC]) fun He hle xe se => ?_
  simp only [go_sem, binC]
  have hpx := pickV_bd code qa (n := 16) (by omega)
  generalize pickV code qa 16 = x at *
  refine wpc_genE fun ex he => ?_
  have e0 : ex 0 = ptr rb 0 := by rw [he]; simp only [go_sem, binC]
  have e2 : ex 2 = ptr H.length 0 := by rw [he]; simp only [go_sem, binC]
  have e3 : ex 3 = ptr (H.length + 1) 0 := by rw [he]; simp only [go_sem, binC]
  have e4 : ex 4 = ptr Ha.length 0 := by rw [he]; simp only [go_sem, binC]
  have e5 : ex 5 = ptr (Ha.length + 1) 0 := by rw [he]; simp only [go_sem, binC]
  have e12 : ex 12 = .int .i64 x := by rw [he]; simp only [go_sem, binC]
  clear he
  have hb5e := xe.get hb5 (by simp; omega)
  have oht := ohb.keep (Nat.le_refl _) xe (by simp; omega)
  have odt := odb.keep (Nat.le_refl _) xe (by simp; omega)
  have h5l := (List.getElem?_eq_some_iff.1 hb5e).1
  have xe4 : AgX [rb, b2, b3, Ha.length + 1] Hb He := xe.trans (AgX.refl [] He) (fun b h _ => by simp only [List.mem_singleton] at h; simp [h]) (fun _ h _ => by cases h)
  have hle2 := xe.1
  refine seq_block (seq_reg ?_)
  simp only [go_sem, binC, e12]
  by_cases h0 : x = 0
  · refine wpc_cond (t := true) (by simp only [go_sem, binC]; simp [h0]) ?_
    simp only [go_sem, binC]
    refine seq_reg ?_
    simp only [go_sem, binC, e5, gc_of hb5e, inBlk_some]
    by_cases hz : (0 : Int) < (homes.length : Int)
    · refine wpc_cond (t := true) (by simp only [go_sem, binC]; rw [decide_eq_true hz]) ?_
      simp only [go_sem, binC]
      refine wpc_regX [rb] (by simp; omega) ?_
      obtain ⟨N, n1⟩ : ∃ N, He.length = N := ⟨_, rfl⟩
      have g5 : ∀ (B L : Heap), B[Ha.length + 1]? = some ⟨[.slice ta ts.length ts.length, .slice (some ⟨b2, 0, none⟩) homes.length homes.length, .slice (some ⟨b3, 0, none⟩) does.length does.length], 0, 0, false, true⟩ → getCells (hide [rb] B ++ L) (Ha.length + 1) 1 1 = some [.slice (some ⟨b2, 0, none⟩) homes.length homes.length] := fun B L hb => gc_hidO L (by rw [gc_of hb]; rfl) (by simp; omega)
      have q5 := g5 He [] hb5e
      rw [List.append_nil] at q5
      refine wpx_A rfl ?_
      simp only [go_sem, binC, e5, List.append_nil]
      refine wpx_A rfl ?_
      simp only [go_sem, binC, q5, List.append_nil]
      refine wpx_A rfl ?_
      simp only [go_sem, binC, e0]
      refine wpx_pick (n := 5) hpk hc se (by omega) (by omega) hlo (by simp only [go_sem, binC, e0]) (by simp only [go_sem, binC]) fun B1 hl1 hx2 hs2 => ?_
      have hk1 := pickV_bd code (qa + 1) (n := 5) (by omega)
      generalize pickV code (qa + 1) 5 = y at *
      refine wpx_A rfl ?_
      simp only [go_sem, binC]
      refine wpx_zero ?_
      have hwy : IntKind.i64.wrap (y - 1) = y - 1 := wrap_id (by omega) (by omega)
      have o1 := oht.keep (Nat.le_refl _) hx2 (by simp; omega)
      have d1 := odt.keep (Nat.le_refl _) hx2 (by simp; omega)
      have hb51 := hx2.get hb5e (by simp; omega)
      have h1b := o1.blk
      have h1l := o1.lt
      simp only [go_sem, binC, hwy, List.append_nil]
      refine ⟨⟨by omega, by omega⟩, ?_⟩
      simp only [go_sem, binC, Int.toNat_zero, Nat.mul_one, h1b, ints_len, ints_set, List.append_nil]
      refine ⟨⟨by omega, by omega⟩, ?_⟩
      simp only [go_sem, binC, out_n, thenX_n]
      have xs1 : AgX [b2] B1 (B1.set b2 ⟨ints (homes.set 0 (y - 1)), 1, 3, true, true⟩) := AgX.set _ _ _
      have os1 : IntsO 3 H1.length (B1.set b2 ⟨ints (homes.set 0 (y - 1)), 1, 3, true, true⟩) b2 true (homes.set 0 (y - 1)) := ⟨o1.ge, by rw [List.length_set]; exact o1.len, List.getElem?_set_self h1l, fun a ha => by
        rcases List.mem_or_eq_of_mem_set ha with h | rfl
        · exact o1.rg a h
        · exact ⟨by omega, by omega⟩⟩
      have ds1 := d1.keep (Nat.le_refl _) xs1 (by simp; omega)
      have xz : AgX [rb, b2, b3, Ha.length + 1] Hb (B1.set b2 ⟨ints (homes.set 0 (y - 1)), 1, 3, true, true⟩) := (xe.tr hx2).trans xs1 (fun b h _ => by simp only [List.mem_singleton] at h; simp [h]) (fun b h _ => by simp only [List.mem_singleton] at h; simp [h])
      have hv := hIs _ _ _ _ os1
      rw [List.length_set] at hv
      exact hT _ _ (qa + 1 + 1) _ _ _ ts (homes.set 0 (y - 1)) does (by simp only [go_sem, binC, e2]) (by simp only [go_sem, binC, e3]) (by simp only [go_sem, binC, e4]) (by simp only [go_sem, binC, e5]) xz (xs1.get hb51 (by simp; omega)) (hs2.setN hc (by omega) _) (by omega) (hTs _ _ xz (by simp)) hv (hIs _ _ _ _ ds1) htl (by rw [List.length_set]; exact hhl) (by omega)
    · refine wpc_cond (t := false) (by simp only [go_sem, binC]; rw [decide_eq_false hz]) ?_
      simp only [go_sem, binC]
      refine wpc_skip ?_
      simp only [go_sem, binC, out_n, thenX_n]
      exact hT _ He (qa + 1) _ _ _ ts homes does (by simp only [go_sem, binC, e2]) (by simp only [go_sem, binC, e3]) (by simp only [go_sem, binC, e4]) (by simp only [go_sem, binC, e5]) xe4 hb5e se (by omega) (hTs He _ xe4 (by simp)) (hIs _ _ _ _ oht) (hIs _ _ _ _ odt) htl hhl (by omega)
  refine wpc_cond (t := false) (by simp only [go_sem, binC]; simp [h0]) ?_
  simp only [go_sem, binC]
  refine seq_reg ?_
  simp only [go_sem, binC, e12]
  by_cases h1 : x = 1
  · refine wpc_cond (t := true) (by simp only [go_sem, binC]; simp [h1]) ?_
    simp only [go_sem, binC]
    refine seq_reg ?_
    simp only [go_sem, binC, e5, gc_of hb5e, inBlk_some]
    by_cases hz : (0 : Int) < (does.length : Int)
    · refine wpc_cond (t := true) (by simp only [go_sem, binC]; rw [decide_eq_true hz]) ?_
      simp only [go_sem, binC]
      refine wpc_regX [rb] (by simp; omega) ?_
      obtain ⟨N, n1⟩ : ∃ N, He.length = N := ⟨_, rfl⟩
      have g5 : ∀ (B L : Heap), B[Ha.length + 1]? = some ⟨[.slice ta ts.length ts.length, .slice (some ⟨b2, 0, none⟩) homes.length homes.length, .slice (some ⟨b3, 0, none⟩) does.length does.length], 0, 0, false, true⟩ → getCells (hide [rb] B ++ L) (Ha.length + 1) 2 1 = some [.slice (some ⟨b3, 0, none⟩) does.length does.length] := fun B L hb => gc_hidO L (by rw [gc_of hb]; rfl) (by simp; omega)
      have q5 := g5 He [] hb5e
      rw [List.append_nil] at q5
      refine wpx_A rfl ?_
      simp only [go_sem, binC, e5, List.append_nil]
      refine wpx_A rfl ?_
      simp only [go_sem, binC, q5, List.append_nil]
      refine wpx_A rfl ?_
      simp only [go_sem, binC, e0]
      refine wpx_A rfl ?_
      simp only [go_sem, binC, e5, List.append_nil]
      refine wpx_A rfl ?_
      simp only [go_sem, binC, q5, List.append_nil]
      refine wpx_A rfl ?_
      simp only [go_sem, binC, e0]
      refine wpx_pick (n := (does.length : Int)) hpk hc se (by omega) (by omega) hlo (by simp only [go_sem, binC, e0]) (by simp only [go_sem, binC]) fun B1 hl1 hx2 hs2 => ?_
      have hk1 := pickV_bd code (qa + 1) (n := (does.length : Int)) (by omega)
      generalize pickV code (qa + 1) (does.length : Int) = y at *
      refine wpx_A rfl ?_
      simp only [go_sem, binC]
      refine wpx_pick (n := 5) hpk hc hs2 (by omega) (by omega) hlo (by simp only [go_sem, binC, e0]) (by simp only [go_sem, binC]) fun B2 hl2 hx3 hs3 => ?_
      have hk2 := pickV_bd code (qa + 1 + 1) (n := 5) (by omega)
      generalize pickV code (qa + 1 + 1) 5 = z at *
      refine wpx_A rfl ?_
      simp only [go_sem, binC]
      refine wpx_zero ?_
      have hwy : IntKind.i64.wrap (z - 1) = z - 1 := wrap_id (by omega) (by omega)
      have o1 := oht.keep (Nat.le_refl _) (hx2.tr hx3) (by simp; omega)
      have d1 := odt.keep (Nat.le_refl _) (hx2.tr hx3) (by simp; omega)
      have hb51 := (hx2.tr hx3).get hb5e (by simp; omega)
      have h1b := d1.blk
      have h1l := d1.lt
      simp only [go_sem, binC, hwy, List.append_nil]
      refine ⟨⟨by omega, by omega⟩, ?_⟩
      simp only [go_sem, binC, Nat.mul_one, h1b, ints_len, ints_set, List.append_nil]
      refine ⟨⟨by omega, by omega⟩, ?_⟩
      simp only [go_sem, binC, out_n, thenX_n]
      have xs1 : AgX [b3] B2 (B2.set b3 ⟨ints (does.set y.toNat (z - 1)), 1, 3, true, true⟩) := AgX.set _ _ _
      have os1 : IntsO 3 H1.length (B2.set b3 ⟨ints (does.set y.toNat (z - 1)), 1, 3, true, true⟩) b3 true (does.set y.toNat (z - 1)) := ⟨d1.ge, by rw [List.length_set]; exact d1.len, List.getElem?_set_self h1l, fun a ha => by
        rcases List.mem_or_eq_of_mem_set ha with h | rfl
        · exact d1.rg a h
        · exact ⟨by omega, by omega⟩⟩
      have ds1 := o1.keep (Nat.le_refl _) xs1 (by simp; omega)
      have xz : AgX [rb, b2, b3, Ha.length + 1] Hb (B2.set b3 ⟨ints (does.set y.toNat (z - 1)), 1, 3, true, true⟩) := (xe.tr (hx2.tr hx3)).trans xs1 (fun b h _ => by simp only [List.mem_singleton] at h; simp [h]) (fun b h _ => by simp only [List.mem_singleton] at h; simp [h])
      have hv := hIs _ _ _ _ os1
      rw [List.length_set] at hv
      exact hT _ _ (qa + 1 + 1 + 1) _ _ _ ts homes (does.set y.toNat (z - 1)) (by simp only [go_sem, binC, e2]) (by simp only [go_sem, binC, e3]) (by simp only [go_sem, binC, e4]) (by simp only [go_sem, binC, e5]) xz (xs1.get hb51 (by simp; omega)) (hs3.setN hc (by omega) _) (by omega) (hTs _ _ xz (by simp)) (hIs _ _ _ _ ds1) hv htl hhl (by rw [List.length_set]; omega)
    · refine wpc_cond (t := false) (by simp only [go_sem, binC]; rw [decide_eq_false hz]) ?_
      simp only [go_sem, binC]
      refine wpc_skip ?_
      simp only [go_sem, binC, out_n, thenX_n]
      exact hT _ He (qa + 1) _ _ _ ts homes does (by simp only [go_sem, binC, e2]) (by simp only [go_sem, binC, e3]) (by simp only [go_sem, binC, e4]) (by simp only [go_sem, binC, e5]) xe4 hb5e se (by omega) (hTs He _ xe4 (by simp)) (hIs _ _ _ _ oht) (hIs _ _ _ _ odt) htl hhl (by omega)
  refine wpc_cond (t := false) (by simp only [go_sem, binC]; simp [h1]) ?_
  simp only [go_sem, binC]
  refine seq_reg ?_
  simp only [go_sem, binC, e12]
  by_cases h2 : x = 2
  · refine wpc_cond (t := true) (by simp only [go_sem, binC]; simp [h2]) ?_
    simp only [go_sem, binC]
    refine wpc_reg ?_
    simp only [go_sem, binC, e0]
    obtain ⟨tw, Hc, qc, kc, xc, sc, cc, ts2, hts2, htl2⟩ := gtr He (qa + 1) lo se (by omega) (by omega) hlo
    refine op_callN (by simp only [go_sem, binC, e0]; exact kc) ?_
    have ot2 := sl_one hts2
    have hb5c := xc.get hb5e (by simp; omega)
    simp only [go_sem, binC, e5, hb5c, ot2]
    obtain ⟨_, ta2, rfl, _⟩ := id hts2
    refine ⟨⟨by omega, by simp only [go_sem, binC], by simp only [go_sem, binC]⟩, ?_⟩
    simp only [go_sem, binC, out_n, thenX_n]
    have xs1 : AgX [Ha.length + 1] Hc (Hc.set (Ha.length + 1) ⟨[.slice ta2 ts2.length ts2.length, .slice (some ⟨b2, 0, none⟩) homes.length homes.length, .slice (some ⟨b3, 0, none⟩) does.length does.length], 0, 0, false, true⟩) := AgX.set _ _ _
    have xes := xc.trans xs1 (zs := [rb, Ha.length + 1]) (fun b h _ => by simp only [List.mem_singleton] at h; simp [h]) (fun b h _ => by simp only [List.mem_singleton] at h; simp [h])
    have xz := xe.trans xes (zs := [rb, b2, b3, Ha.length + 1]) (fun b h _ => by simp only [List.mem_singleton] at h; simp [h]) (fun b h _ => by simp only [List.mem_cons, List.not_mem_nil, or_false] at h ⊢; omega)
    have os1 := oht.keep (Nat.le_refl _) xes (by simp; omega)
    have ds1 := odt.keep (Nat.le_refl _) xes (by simp; omega)
    have h5cl := (List.getElem?_eq_some_iff.1 hb5c).1
    have hv2 := hts2.mono (vwl_sub xs1 (lo' := H1.length) (xs' := []) (by omega) fun b' h1 h2 h3 => ⟨by simp; omega, by simp⟩)
    exact hT _ _ qc _ _ _ ts2 homes does (by simp only [go_sem, binC, e2]) (by simp only [go_sem, binC, e3]) (by simp only [go_sem, binC, e4]) (by simp only [go_sem, binC, e5]) xz (List.getElem?_set_self h5cl) (sc.setN hc (by omega) _) (by omega) hv2 (hIs _ _ _ _ os1) (hIs _ _ _ _ ds1) htl2 hhl (by omega)
  refine wpc_cond (t := false) (by simp only [go_sem, binC]; simp [h2]) ?_
  simp only [go_sem, binC]
  refine seq_reg ?_
  simp only [go_sem, binC, e12]
  by_cases h3 : x = 3
  · refine wpc_cond (t := true) (by simp only [go_sem, binC]; simp [h3]) ?_
    simp only [go_sem, binC]
    refine wpc_reg ?_
    simp only [go_sem, binC, e5, gc_of hb5e, inBlk_some]
    refine op_app_I1 (lo := H1.length) odt (by simp only [go_sem, binC, sli]) (by simp only [go_sem, binC, sli]) ⟨by omega, by omega⟩ (by omega) (by omega) (by omega) fun Hc b' so' xc hb' _ oc => ?_
    have hb5c := xc.get hb5e (by simp; omega)
    have h5cl := (List.getElem?_eq_some_iff.1 hb5c).1
    have hlc := xc.1
    simp only [go_sem, binC, e5, hb5c, sli]
    refine ⟨by omega, ?_⟩
    simp only [go_sem, binC, out_n, thenX_n]
    have xs1 := AgX.set Hc (Ha.length + 1) ⟨[.slice ta ts.length ts.length, .slice (some ⟨b2, 0, none⟩) homes.length homes.length, .slice (some ⟨b', 0, none⟩) (does ++ [0]).length (does ++ [0]).length], 0, 0, false, true⟩
    have xes := xc.trans xs1 (zs := [b3, Ha.length + 1]) (fun b h _ => by simp only [List.mem_singleton] at h; simp [h]) (fun b h _ => by simp only [List.mem_singleton] at h; simp [h])
    have xz := xe.trans xes (zs := [rb, b2, b3, Ha.length + 1]) (fun b h _ => by simp only [List.mem_singleton] at h; simp [h]) (fun b h _ => by simp only [List.mem_cons, List.not_mem_nil, or_false] at h ⊢; omega)
    have os1 := oht.keep (Nat.le_refl _) xes (by simp; omega)
    have ds1 := oc.keep (Nat.le_refl _) xs1 (by simp; omega)
    exact hT _ _ (qa + 1) _ _ _ ts homes (does ++ [0]) (by simp only [go_sem, binC, e2]) (by simp only [go_sem, binC, e3]) (by simp only [go_sem, binC, e4]) (by simp only [go_sem, binC, e5]) xz (List.getElem?_set_self h5cl) ((se.mono hc xc (fun b h => by simp only [List.mem_singleton] at h; omega)).setN hc (by omega) _) (by omega) (hTs _ _ xz (by simp)) (hIs _ _ _ _ os1) (hIs _ _ _ _ ds1) htl hhl (by simp; omega)
  refine wpc_cond (t := false) (by simp only [go_sem, binC]; simp [h3]) ?_
  simp only [go_sem, binC]
  refine wpc_skip ?_
  simp only [go_sem, binC, out_n, thenX_n]
  exact hT _ He (qa + 1) _ _ _ ts homes does (by simp only [go_sem, binC, e2]) (by simp only [go_sem, binC, e3]) (by simp only [go_sem, binC, e4]) (by simp only [go_sem, binC, e5]) xe4 hb5e se (by omega) (hTs He _ xe4 (by simp)) (hIs _ _ _ _ oht) (hIs _ _ _ _ odt) htl hhl (by omega)
end Go.Proofs.YtbjeldblaclpnaaI
end
section
/- The draws of plans. -/
set_option linter.unusedVariables false
set_option linter.unusedSimpArgs false
namespace Go.Proofs.YtbjeldblaclpnaaI
open Go Go.RowKit
def c_drPO : IFn := ⟨1, 9, [.cell true 2 2, .cell true 3 3],
 .seq (.reg none [
    ⟨(some 2), none, .new [(.slice none 0 0), (.slice none 0 0)]⟩,
    ⟨(some 3), none, .new [(.slice none 0 0), (.slice none 0 0), (.slice none 0 0)]⟩])
 (.seq (.reg none [
    ⟨(some 4), none, .mov (.t 0)⟩,
    ⟨(some 5), none, .call .n (.f 44) [(.t 4)]⟩,
    ⟨(some 6), none, .call .n (.f 75) [(.t 5)]⟩,
    ⟨(some 7), none, .ext (.t 6) 0⟩,
    ⟨(some 8), none, .ext (.t 6) 1⟩,
    ⟨none, none, .store 2 (.t 2) (.t 7)⟩,
    ⟨none, none, .store 3 (.t 3) (.t 8)⟩])
 (.ret))⟩
/-- A program and a plan, drawn. -/
def DrawPl (F : Nat → Option IFn) (f : Nat) : Prop := ∀ (H : Heap) (v : Value) (code : List Int), SlR Co.byte (vw 0 H) v code → ∃ (d : Nat) (lv sv tv hv dv : Value) (ls : List (Int × Int)) (l : List (TStep d)) (ts homes does : List Int) (H' : Heap), KC F f [v] H (.tuple #[.agg #[lv, sv], .agg #[tv, hv, dv]]) H' ∧
  (AgX [] H H' ∧ SlR Co.p2 (vw 0 H') lv ls ∧ SlR (Co.step d) (vw 0 H') sv l ∧ (Co.prog d).sm (ls, l) ∧ SlR Co.int (vw 0 H') tv ts ∧ SlR Co.int (vw 0 H') hv homes ∧ SlR Co.int (vw 0 H') dv does ∧ ts.length ≤ 3 ∧ homes.length ≤ 100 ∧ does.length ≤ 1001)
theorem drPO_ok {F : Nat → Option IFn} {f : Nat} (hf : F f = some c_drPO) (hop : F 44 = some c_l6Open) (goff : ∀ {H0 : Heap} {rb : Nat} {bv : Value} {code : List Int}, RdC H0 rb bv code → DrawS F H0 rb bv 75 [] 370020 OffQ) : DrawPl F f := by
  intro H v code hv
  suffices h : ∃ w H', KC F f [v] H w H' ∧ (∃ (d : Nat) (lv sv tv hv dv : Value) (ls : List (Int × Int)) (l : List (TStep d)) (ts homes does : List Int), w = .tuple #[.agg #[lv, sv], .agg #[tv, hv, dv]] ∧ (AgX [] H H' ∧ SlR Co.p2 (vw 0 H') lv ls ∧ SlR (Co.step d) (vw 0 H') sv l ∧ (Co.prog d).sm (ls, l) ∧ SlR Co.int (vw 0 H') tv ts ∧ SlR Co.int (vw 0 H') hv homes ∧ SlR Co.int (vw 0 H') dv does ∧ ts.length ≤ 3 ∧ homes.length ≤ 100 ∧ does.length ≤ 1001)) by
    obtain ⟨w, H', h1, d, lv, sv, tv, hv, dv, ls, l, ts, homes, does, rfl, h2⟩ := h
    exact ⟨d, lv, sv, tv, hv, dv, ls, l, ts, homes, does, H', h1, h2⟩
  refine KC.mk hf rfl ?_
  refine seq_reg ?_
  simp only [go_sem, binC]
  refine wpc_gen fun H1 hH1 => ?_
  have ht1 : AgX [] H H1 := hH1 ▸ AgX.app [] _ _
  have hb1 : H1[H.length]? = some ⟨[nilS, nilS], 0, 0, false, true⟩ := hH1 ▸ get_new0 _ _
  have hb2 : H1[H.length + 1]? = some ⟨[nilS, nilS, nilS], 0, 0, false, true⟩ := hH1 ▸ get_new _ _ 1
  have hn1 : H1.length = H.length + 2 := by rw [hH1, List.length_append]; rfl
  clear hH1
  refine seq_reg ?_
  simp only [go_sem, binC]
  obtain ⟨bv, code', k2, hc, hs2⟩ := l6Open_ok hop (hv.mono (agx_sub ht1)) H.length ht1.1
  refine op_callN (by simp only [go_sem, binC]; exact k2) ?_
  simp only [go_sem, binC]
  obtain ⟨H2, hH2⟩ : ∃ H2, H2 = H1 ++ [rBlk bv 0] := ⟨_, rfl⟩
  have xr : AgX [] H1 H2 := hH2 ▸ AgX.app [] H1 _
  have hn2 : H2.length = H1.length + 1 := by rw [hH2, List.length_append]; rfl
  rw [← hH2] at hs2 ⊢
  clear hH2
  obtain ⟨v3, H3, p3, k3, x3, s3, c3, lv, sv, tv, hv, dv, ls, l, ts, homes, does, rfl, hpv, hts, hhs, hds, htl, hhl, hdl⟩ := goff hc H2 0 H.length hs2 (by omega) (by omega) (by omega)
  refine op_callN (by simp only [go_sem, binC]; exact k3) ?_
  obtain ⟨r1, r2, r3, r4⟩ := hpv
  have olv : one lv = true := by obtain ⟨_, a, rfl, _⟩ := r1; rfl
  have osv : one sv = true := by obtain ⟨_, a, rfl, _⟩ := r2; rfl
  have o1 := sl_one hts
  have o2 := sl_one hhs
  have o3 := sl_one hds
  have hl3 := x3.1
  have hx13 : AgX [H1.length] H1 H3 := xr.trans x3 (fun _ h _ => by cases h) (fun _ h _ => h)
  have hb1f := hx13.get hb1 (by simp; omega)
  have hb2f := hx13.get hb2 (by simp; omega)
  have hb1l := (List.getElem?_eq_some_iff.1 hb1f).1
  have hb2l := (List.getElem?_eq_some_iff.1 hb2f).1
  have hb2s : ∀ kk : Blk, (H3.set H.length kk)[H.length + 1]? = some ⟨[nilS, nilS, nilS], 0, 0, false, true⟩ := fun kk => by rw [List.getElem?_set_ne (by omega)]; exact hb2f
  simp only [go_sem, binC, hb1f, hb2s, olv, osv, o1, o2, o3]
  refine wpc_genH fun Hz hHz => ?_
  have xfz : AgX [H.length, H.length + 1] H3 Hz := by
    rw [hHz]
    exact (AgX.set H3 H.length _).trans (AgX.set _ (H.length + 1) _) (fun _ h _ => by simp only [List.mem_singleton] at h; simp [h]) (fun _ h _ => by simp only [List.mem_singleton] at h; simp [h])
  have hfP : Hz[H.length]? = some ⟨[lv, sv], 0, 0, false, true⟩ := by rw [hHz, List.getElem?_set_ne (by omega), List.getElem?_set_self hb1l]
  have hfQ : Hz[H.length + 1]? = some ⟨[tv, hv, dv], 0, 0, false, true⟩ := by rw [hHz, List.getElem?_set_self (by rw [List.length_set]; exact hb2l)]
  clear hHz
  have hvf : Sub (vwl H2.length [] H3) (vw 0 Hz) := (vwl_sub xfz (show H.length ≤ H2.length by omega) (xs' := []) fun b' h1 h2 h3 => ⟨by simp; omega, by simp⟩).trans (vwl0 _ _ _)
  refine wpc_ret ⟨Or.inr rfl, .tuple #[.agg #[lv, sv], .agg #[tv, hv, dv]], ?_, ?_⟩
  · simp [resV, resL, res1, putE_get, notT, ptr, gc_of hfP, gc_of hfQ, inBlk_some, valOf]
  · refine ⟨3, lv, sv, tv, hv, dv, ls, l, ts, homes, does, rfl, ?_, r1.mono hvf, r2.mono hvf, r3, hts.mono hvf, hhs.mono hvf, hds.mono hvf, htl, hhl, hdl⟩
    exact (ht1.trans hx13 (zs := [H1.length]) (fun _ h _ => by cases h) (fun _ h _ => h)).trans xfz (zs := []) (fun b h1 h2 => by simp only [List.mem_singleton] at h1; omega) (fun b h1 h2 => by simp only [List.mem_cons, List.not_mem_nil, or_false] at h1; omega)
end Go.Proofs.YtbjeldblaclpnaaI
end
section
/- The draw DrawPlanFind; the laws' comparison of plans. -/
set_option linter.unusedVariables false
set_option linter.unusedSimpArgs false
namespace Go.Proofs.YtbjeldblaclpnaaI
open Go Go.RowKit
end Go.Proofs.YtbjeldblaclpnaaI
end
section
/- Whether a plan is as it may be (the program's). -/
set_option linter.unusedVariables false
set_option linter.unusedSimpArgs false
namespace Go.Proofs.YtbjeldblaclpnaaI
open Go Go.RowKit
def c_iPlanOk : IFn := ⟨2, 82, [.t 4],
 .seq (.reg none [
    ⟨(some 2), none, .box (.t 0)⟩,
    ⟨(some 3), none, .box (.t 1)⟩,
    ⟨(some 4), none, .mov (.c (.bool false))⟩])
 (.seq (.seq (.reg (some 24) [
     ⟨(some 10), none, .load true 2 (.t 2)⟩,
     ⟨(some 11), none, .call .q (.f 43) [(.t 10)]⟩,
     ⟨(some 12), none, .un .not (.t 11)⟩,
     ⟨(some 13), none, .mov (.t 12)⟩,
     ⟨(some 14), (some (13, false)), .fad 0 (.t 3)⟩,
     ⟨(some 15), (some (13, false)), .load false 1 (.t 14)⟩,
     ⟨(some 16), (some (13, false)), .call .q (.f 52) [(.t 15)]⟩,
     ⟨(some 17), (some (13, false)), .un .not (.t 16)⟩,
     ⟨(some 18), none, .pick (.t 13) (.c (.bool true)) (.t 17)⟩,
     ⟨(some 19), none, .mov (.t 18)⟩,
     ⟨(some 20), (some (19, false)), .fad 1 (.t 3)⟩,
     ⟨(some 21), (some (19, false)), .load false 1 (.t 20)⟩,
     ⟨(some 22), (some (19, false)), .fad 0 (.t 2)⟩,
     ⟨(some 23), (some (19, false)), .load false 1 (.t 22)⟩,
     ⟨(some 24), (some (19, false)), .len (.t 23)⟩,
     ⟨(some 25), (some (19, false)), .call .q (.f 63) [(.t 21), (.t 24)]⟩,
     ⟨(some 26), (some (19, false)), .un .not (.t 25)⟩,
     ⟨(some 27), none, .pick (.t 19) (.c (.bool true)) (.t 26)⟩,
     ⟨(some 28), none, .mov (.t 27)⟩,
     ⟨(some 29), (some (28, false)), .fad 2 (.t 3)⟩,
     ⟨(some 30), (some (28, false)), .load false 1 (.t 29)⟩,
     ⟨(some 31), (some (28, false)), .fad 1 (.t 2)⟩,
     ⟨(some 32), (some (28, false)), .load false 1 (.t 31)⟩,
     ⟨(some 33), (some (28, false)), .call .q (.f 62) [(.t 32)]⟩,
     ⟨(some 34), (some (28, false)), .call .q (.f 63) [(.t 30), (.t 33)]⟩,
     ⟨(some 35), (some (28, false)), .un .not (.t 34)⟩,
     ⟨(some 36), none, .pick (.t 28) (.c (.bool true)) (.t 35)⟩])
  (.cond (.t 36) (.seq (.reg none [
      ⟨(some 4), none, .mov (.c (.bool false))⟩])
   (.ret)) (.skip)))
 (.seq (.seq (.reg none [
     ⟨(some 37), none, .fad 1 (.t 3)⟩,
     ⟨(some 38), none, .load false 1 (.t 37)⟩,
     ⟨(some 39), none, .len (.t 38)⟩,
     ⟨(some 40), none, .mov (.c (.int .i64 0))⟩])
  (.block 0 (.loop (.seq (.reg none [
       ⟨(some 41), none, .bin .lss (.t 40) (.t 39)⟩])
    (.seq (.cond (.t 41) (.skip) (.exit 0))
    (.seq (.block 1 (.seq (.reg none [
         ⟨(some 42), none, .mov (.t 40)⟩,
         ⟨(some 43), none, .iad 1 (.t 38) (.t 40)⟩,
         ⟨(some 44), none, .load false 1 (.t 43)⟩,
         ⟨(some 5), none, .mov (.t 42)⟩,
         ⟨(some 6), none, .mov (.t 44)⟩])
      (.seq (.reg none [
         ⟨(some 45), none, .load true 2 (.t 2)⟩,
         ⟨(some 46), none, .fad 0 (.t 3)⟩,
         ⟨(some 47), none, .load false 1 (.t 46)⟩,
         ⟨(some 48), none, .mov (.t 5)⟩,
         ⟨(some 49), none, .mov (.t 6)⟩,
         ⟨(some 50), none, .call .q (.f 64) [(.t 45), (.t 47), (.t 48), (.t 49)]⟩,
         ⟨(some 51), none, .un .not (.t 50)⟩])
      (.cond (.t 51) (.seq (.reg none [
          ⟨(some 4), none, .mov (.c (.bool false))⟩])
       (.ret)) (.skip)))))
    (.reg none [
      ⟨(some 52), none, .bin .add (.t 40) (.c (.int .i64 1))⟩,
      ⟨(some 40), none, .mov (.t 52)⟩])))))))
 (.seq (.reg none [
    ⟨(some 53), none, .load true 2 (.t 2)⟩,
    ⟨(some 54), none, .call .k (.f 53) [(.t 53)]⟩,
    ⟨(some 7), none, .mov (.t 54)⟩])
 (.seq (.seq (.reg none [
     ⟨(some 55), none, .fad 1 (.t 2)⟩,
     ⟨(some 56), none, .load false 1 (.t 55)⟩,
     ⟨(some 57), none, .call .k (.f 55) [(.t 56)]⟩,
     ⟨(some 58), none, .len (.t 57)⟩,
     ⟨(some 59), none, .mov (.c (.int .i64 0))⟩])
  (.block 2 (.loop (.seq (.reg none [
       ⟨(some 60), none, .bin .lss (.t 59) (.t 58)⟩])
    (.seq (.cond (.t 60) (.skip) (.exit 2))
    (.seq (.block 3 (.seq (.reg none [
         ⟨(some 61), none, .mov (.t 59)⟩,
         ⟨(some 62), none, .iad 8 (.t 57) (.t 59)⟩,
         ⟨(some 63), none, .load true 8 (.t 62)⟩,
         ⟨(some 9), none, .new [(.int .i64 0), (.int .i64 0), (.int .i64 0), (.int .i64 0), (.int .i64 0), (.int .i64 0), (.slice none 0 0), (.slice none 0 0)]⟩,
         ⟨(some 8), none, .mov (.t 61)⟩,
         ⟨none, none, .store 8 (.t 9) (.t 63)⟩])
      (.seq (.reg (some 15) [
         ⟨(some 64), none, .load true 2 (.t 2)⟩,
         ⟨(some 65), none, .fad 0 (.t 3)⟩,
         ⟨(some 66), none, .load false 1 (.t 65)⟩,
         ⟨(some 67), none, .fad 1 (.t 3)⟩,
         ⟨(some 68), none, .load false 1 (.t 67)⟩,
         ⟨(some 69), none, .load true 8 (.t 9)⟩,
         ⟨(some 70), none, .mov (.t 7)⟩,
         ⟨(some 71), none, .mov (.t 8)⟩,
         ⟨(some 72), none, .iad 2 (.t 70) (.t 71)⟩,
         ⟨(some 73), none, .load true 2 (.t 72)⟩,
         ⟨(some 74), none, .fad 2 (.t 3)⟩,
         ⟨(some 75), none, .load false 1 (.t 74)⟩,
         ⟨(some 76), none, .mov (.t 8)⟩,
         ⟨(some 77), none, .iad 1 (.t 75) (.t 76)⟩,
         ⟨(some 78), none, .load false 1 (.t 77)⟩,
         ⟨(some 79), none, .call .q (.f 65) [(.t 64), (.t 66), (.t 68), (.t 69), (.t 73), (.t 78)]⟩,
         ⟨(some 80), none, .un .not (.t 79)⟩])
      (.cond (.t 80) (.seq (.reg none [
          ⟨(some 4), none, .mov (.c (.bool false))⟩])
       (.ret)) (.skip)))))
    (.reg none [
      ⟨(some 81), none, .bin .add (.t 59) (.c (.int .i64 1))⟩,
      ⟨(some 59), none, .mov (.t 81)⟩])))))))
 (.seq (.reg none [
    ⟨(some 4), none, .mov (.c (.bool true))⟩])
 (.ret))))))⟩
theorem hosts_all {l : List Int} : hostsB l = (List.range l.length).all fun j => inB (l.getD j 0) 0 2 := by
  rw [Bool.eq_iff_iff]
  unfold hostsB
  rw [List.all_eq_true, List.all_eq_true]
  constructor
  · intro h i hi
    have hil : i < l.length := by simpa using hi
    have := h l[i] (List.getElem_mem hil)
    simpa [List.getD, hil] using this
  · intro h x hx
    obtain ⟨i, hi, rfl⟩ := List.getElem_of_mem hx
    have := h i (by simpa using hi)
    simpa [List.getD, hi] using this
theorem allDo_hosts {n : Nat} {ls : List (Int × Int)} {l : List (TStep n)} {ts homes does : List Int} (h : hostsB does = false) : allDo n ls l ts homes does = false := by
  rw [Bool.eq_false_iff] at h ⊢
  intro h'
  refine h ?_
  rw [hosts_all]
  unfold allDo at h'
  rw [List.all_eq_true] at h' ⊢
  intro i hi
  have := h' i hi
  rw [Bool.and_eq_true] at this
  exact this.1
theorem iPlanOk_ok {F : Nat → Option IFn} {f : Nat} (hf : F f = some c_iPlanOk) (gty : TypeP F 43) (gt : TrOk F 52) (ghk : HostsI F 63) (gc : ∀ n, CntOk F 62 n) (ghm : HomeI F 64) (ga : AtP F 53) (gl : ∀ n, AllP F 55 n) (gd : DoesOk F 65) : PlanOkV F f := by
  intro H n lv sv tw hw dw ls l ts homes does r1 r2 hsm r3 r4 r5
  have osv : one sv = true := by obtain ⟨_, a, rfl, _⟩ := r2; rfl
  obtain ⟨_, la, rfl, _⟩ := id r1
  obtain ⟨_, ta, rfl, _⟩ := id r3
  obtain ⟨_, ha, rfl, _⟩ := id r4
  obtain ⟨hd0, da, rfl, _⟩ := id r5
  refine QC.mk hf rfl ?_
  refine seq_reg ?_
  simp only [go_sem, binC, osv]
  refine wpc_gen fun H1 hH1 => ?_
  have hx1 : AgX [] H H1 := hH1 ▸ AgX.app [] _ _
  have hb : H1[H.length]? = some ⟨[.slice la ls.length ls.length, sv], 0, 0, false, true⟩ := hH1 ▸ get_new0 _ _
  have hb3 : H1[H.length + 1]? = some ⟨[.slice ta ts.length ts.length, .slice ha homes.length homes.length, .slice da does.length does.length], 0, 0, false, true⟩ := hH1 ▸ get_new _ _ 1
  clear hH1
  have hS := agx_sub hx1
  have hl1 := (List.getElem?_eq_some_iff.1 hb3).1
  have hcntz : progB n (ls, l) = true → sizeV n (ls, l) = ((allL n l).length : Int) := sizeV_yes
  unfold planOkV
  show wpc F H.length _ _ _ (fin _ fun w _ => w = .bool (typeP n (ls, l) && (trK ts && (homesB ls.length homes && (decide ((does.length : Int) = sizeV n (ls, l)) && (allHome ls ts homes && allDo n ls l ts homes does))))) ∧ scal w = true)
  generalize sizeV n (ls, l) = z at *
  refine seq_assoc (seq_regD ?_)
  simp only [go_sem, binC, gc_of hb, inBlk_some, osv]
  refine op_callQ (by simp only [go_sem, binC]; exact gty H1 n _ _ ls l (r1.mono hS) (r2.mono hS) hsm) ?_
  cases hT : typeP n (ls, l) with
  | false =>
    simp only [go_sem, binC]
    refine seq_cond (t := true) rfl ?_
    simp only [go_sem, binC]
    refine seq_assoc (seq_reg ?_)
    simp only [go_sem, binC]
    exact seq_ret ⟨Or.inr rfl, .bool false, (by (simp only [go_sem, binC]) <;> rfl), rfl, rfl⟩
  | true =>
  have hP : progB n (ls, l) = true := by
    unfold typeP at hT
    simp only [Bool.and_eq_true] at hT
    exact hT.1
  simp only [go_sem, binC, gc_of hb3, inBlk_some]
  refine op_callQ (by simp only [go_sem, binC]; exact gt.k H1 _ ts (r3.mono hS)) ?_
  cases hk : trK ts with
  | false =>
    simp only [go_sem, binC]
    refine seq_cond (t := true) rfl ?_
    simp only [go_sem, binC]
    refine seq_assoc (seq_reg ?_)
    simp only [go_sem, binC]
    exact seq_ret ⟨Or.inr rfl, .bool false, (by (simp only [go_sem, binC]) <;> rfl), rfl, rfl⟩
  | true =>
  simp only [go_sem, binC, gc_of hb, gc_of hb3, inBlk_some]
  refine op_callQ (by simp only [go_sem, binC]; exact ghk H1 _ homes ls.length (r4.mono hS)) ?_
  have hhB : (decide ((homes.length : Int) = ls.length) && hostsB homes) = homesB ls.length homes := by
    unfold homesB
    congr 1
    exact decide_eq_decide.2 (by omega)
  rw [hhB]
  cases hh : homesB ls.length homes with
  | false =>
    simp only [go_sem, binC]
    refine seq_cond (t := true) rfl ?_
    simp only [go_sem, binC]
    refine seq_assoc (seq_reg ?_)
    simp only [go_sem, binC]
    exact seq_ret ⟨Or.inr rfl, .bool false, (by (simp only [go_sem, binC]) <;> rfl), rfl, rfl⟩
  | true =>
  simp only [go_sem, binC, gc_of hb, gc_of hb3, inBlk_some]
  have hsz := hcntz hP
  have hlab : ls.all labB = true := progB_lab hP
  have hls4 : ls.length ≤ 4 := progB_len hP
  have hcnt : (allL n l).length ≤ 8 := progB_cnt hP hsm
  have hsl := allSL_len l
  have hho := homesB_iff.1 hh
  have hcw : Wr (cntL n l) = z := by
    rw [cntL_len]
    unfold Wr
    rw [wrap_id (by omega) (by omega), hsz]
  refine op_callQ (by simp only [go_sem, binC]; exact gc n H1 sv l (r2.mono hS)) ?_
  rw [hcw]
  simp only [go_sem, binC]
  refine op_callQ (by simp only [go_sem, binC]; exact ghk H1 _ does z (r5.mono hS)) ?_
  cases hhd : (decide ((does.length : Int) = z) && hostsB does) with
  | false =>
    have hfin : (decide ((does.length : Int) = z) && (allHome ls ts homes && allDo n ls l ts homes does)) = false := by
      rcases Bool.and_eq_false_iff.1 hhd with h | h
      · rw [h]; rfl
      · rw [allDo_hosts h, Bool.and_false, Bool.and_false]
    rw [hfin]
    simp only [go_sem, binC]
    refine seq_cond (t := true) rfl ?_
    simp only [go_sem, binC]
    refine seq_assoc (seq_reg ?_)
    simp only [go_sem, binC]
    exact seq_ret ⟨Or.inr rfl, .bool false, (by (simp only [go_sem, binC]) <;> rfl), rfl, rfl⟩
  | true =>
  rw [Bool.and_eq_true, decide_eq_true_eq] at hhd
  obtain ⟨hz, hdB⟩ := hhd
  rw [decide_eq_true hz]
  simp only [go_sem, binC]
  refine seq_cond (t := false) rfl ?_
  simp only [go_sem, binC]
  refine seq_skip (seq_assoc (seq_reg ?_))
  simp only [go_sem, binC, gc_of hb3, inBlk_some]
  refine seq_block (wpc_loop ?_)
  have r41 := r4.mono hS
  suffices hh : ∀ (k v : Nat) (e : Env), v + k = homes.length → (∀ q, q < v → hmB ls ts q (homes.getD q 0) = true) → e 2 = ptr H.length 0 → e 3 = ptr (H.length + 1) 0 → e 38 = .slice ha homes.length homes.length → e 39 = .int .i64 homes.length → e 40 = .int .i64 v → Go.Proofs.YtbjeldblaclpnaaI.W F H.length _ e H1 _ from
    hh homes.length 0 _ (by omega) (fun q h => by omega) (by simp only [go_sem, binC]) (by simp only [go_sem, binC]) (by simp only [go_sem, binC]) (by simp only [go_sem, binC]) (by (simp only [go_sem, binC]) <;> rfl)
  intro k
  induction k with
  | zero =>
    intro v e hv hall e2 e3 e38 e39 e40
    have hAH : allHome ls ts homes = true := all_yes fun q hq => hall q (by have := hho.1; omega)
    rw [hAH]
    refine lp_step ?_
    refine seq_reg ?_
    simp only [go_sem, binC, e39, e40]
    refine seq_cond (t := false) (by simp only [go_sem, binC]; rw [decide_eq_false (by omega)]) ?_
    simp only [go_sem, binC]
    refine seq_exit ?_
    simp only [go_sem, binC, thenX_e, out_e, thenX_n]
    refine seq_reg ?_
    simp only [go_sem, binC, e2, gc_of hb, inBlk_some, osv]
    obtain ⟨wa, H2, k2, hx2, oa⟩ := ga H1 n _ sv ls l (r1.mono hS) (r2.mono hS) hsm hP
    refine op_callK (by simp only [go_sem, binC]; exact k2) ?_
    obtain ⟨aa, haa⟩ := oa.shape
    have hatl := atL_len ls (7, 7) l
    rw [hatl] at haa
    subst haa
    simp only [go_sem, binC]
    have hb2 := hx2.get hb (by simp)
    have hb32 := hx2.get hb3 (by simp)
    have hx02 := hx1.tr hx2
    refine seq_assoc (seq_reg ?_)
    simp only [go_sem, binC, e2, gc_of hb2, inBlk_some]
    obtain ⟨wl, H4, k4, hx4, ol⟩ := gl n (vw 0 H) H2 sv l (agx_sub hx02) r2 (by omega)
    refine op_callK (by simp only [go_sem, binC]; exact k4) ?_
    obtain ⟨al, hal⟩ := ol.shape
    rw [hsl] at hal
    subst hal
    simp only [go_sem, binC]
    have oa4 := oa.keep (Nat.le_refl _) hx4 (fun _ _ => by simp)
    have hallat : (atL n ls (7, 7) l).all labB = true := atL_lab hlab rfl l
    have hx14 := hx2.tr hx4
    have hl4 := hx14.1
    refine seq_block (wpc_loop ?_)
    suffices hh : ∀ (m j : Nat) (e : Env) (Hd : Heap), j + m = (allL n l).length → AgX [] H4 Hd → (∀ q, q < j → (inB (does.getD q 0) 0 2 && doN n ls l ts homes q (does.getD q 0)) = true) → e 2 = ptr H.length 0 → e 3 = ptr (H.length + 1) 0 → e 7 = .slice aa (allL n l).length (allL n l).length → e 57 = .slice al (allL n l).length (allL n l).length → e 58 = .int .i64 (allL n l).length → e 59 = .int .i64 j → Go.Proofs.YtbjeldblaclpnaaI.W F H.length _ e Hd _ from
      hh (allL n l).length 0 _ H4 (by omega) (AgX.refl _ _) (fun q h => by omega) (by simp only [go_sem, binC, e2]) (by simp only [go_sem, binC, e3]) (by simp only [go_sem, binC]) (by simp only [go_sem, binC]) (by simp only [go_sem, binC]) (by (simp only [go_sem, binC]) <;> rfl)
    clear e2 e3 e38 e39 e40
    intro m
    induction m with
    | zero =>
      intro j e Hd hj hxd hdo e2 e3 e7 e57 e58 e59
      have hAD : allDo n ls l ts homes does = true := all_yes fun q hq => hdo q (by omega)
      refine lp_step ?_
      refine seq_reg ?_
      simp only [go_sem, binC, e58, e59]
      refine seq_cond (t := false) (by simp only [go_sem, binC]; rw [decide_eq_false (by omega)]) ?_
      simp only [go_sem, binC]
      refine seq_exit ?_
      simp only [go_sem, binC, thenX_e, out_e, thenX_n]
      refine seq_reg ?_
      simp only [go_sem, binC]
      rw [hAD]
      exact wpc_ret ⟨Or.inr rfl, .bool true, (by (simp only [go_sem, binC]) <;> rfl), rfl, rfl⟩
    | succ m ih2 =>
      intro j e Hd hj hxd hdo e2 e3 e7 e57 e58 e59
      have hjl : j < (allL n l).length := by omega
      have hja : j < (atL n ls (7, 7) l).length := by omega
      have hjs : j < (allSL n l).length := by omega
      have hjd : j < does.length := by omega
      have hw2 : IntKind.i64.wrap ((j : Int) + 1) = ((j + 1 : Nat) : Int) := by rw [wrap_id (by omega) (by omega)]; omega
      have hx1d := hx14.tr hxd
      have hx0d := hx1.tr hx1d
      have hb2d := hx1d.get hb (by simp)
      have hb3d := hx1d.get hb3 (by simp)
      have hno : (inB (does.getD j 0) 0 2 && doN n ls l ts homes j (does.getD j 0)) = false → allDo n ls l ts homes does = false := fun h => all_no hjd h
      have hin : inB (does.getD j 0) 0 2 = true := by
        rw [hosts_all] at hdB
        exact List.all_eq_true.1 hdB j (by simpa using hjd)
      have qd := inB_iff.1 hin
      have hdoe := doN_eq (ts := ts) (homes := homes) (h := does.getD j 0) hjs hja
      obtain ⟨db, do_, hdv, hdg⟩ := gcD (r5.mono (agx_sub hx0d)) hjd
      simp only [Value.slice.injEq, and_true] at hdv
      subst hdv
      obtain ⟨ba, ca, hwa, gca, rda⟩ := (oa4.keep (Nat.le_refl _) hxd (fun _ _ => by simp)).at hja
      rw [hatl] at hwa
      simp only [Value.slice.injEq, and_true] at hwa
      subst hwa
      obtain ⟨bs, cs, hws, gcs, rds⟩ := (ol.keep (Nat.le_refl _) hxd (fun _ _ => by simp)).at hjs
      rw [hsl] at hws
      simp only [Value.slice.injEq, and_true] at hws
      subst hws
      have hokj := progB_okA hP (List.getElem_mem hjs)
      have hoj : labB (atL n ls (7, 7) l)[j] = true := List.all_eq_true.1 hallat _ (List.getElem_mem hja)
      generalize (atL n ls (7, 7) l)[j] = hr at rda hoj hdoe
      generalize (allSL n l)[j] = sj at rds hokj hdoe
      obtain ⟨ra, rb⟩ := hr
      obtain ⟨_, _, rfl, ⟨hq1, _⟩, ⟨hq2, _⟩⟩ := rda
      simp only at hq1 hq2
      subst hq1 hq2
      have rdsc := rds
      obtain ⟨sk, sx, sa, sbb, sc, sg, tv, ev, tl, el, hs2, hcs, rg, otv, oev, _, _⟩ := anyS_rd rds
      subst hcs
      have hldd := hx0d.1
      refine lp_step ?_
      refine seq_reg ?_
      simp only [go_sem, binC, e58, e59]
      refine seq_cond (t := true) (by simp only [go_sem, binC]; rw [decide_eq_true (by omega)]) ?_
      simp only [go_sem, binC]
      refine seq_skip (seq_block (seq_reg ?_))
      simp only [go_sem, binC, e57, e59]
      refine ⟨⟨by omega, by omega⟩, ?_⟩
      simp only [go_sem, binC, Int.toNat_natCast, Nat.zero_add, gcs, otv, oev]
      refine ⟨by omega, ?_⟩
      refine wpc_gen fun H5 hH5 => ?_
      have hx5 : AgX [] Hd H5 := hH5 ▸ AgX.app [] _ _
      have hs5 : H5[Hd.length]? = some ⟨[.int .i64 sk, .int .i64 sx, .int .i64 sa, .int .i64 sbb, .int .i64 sc, .int .i64 sg, tv, ev], 0, 0, false, true⟩ := hH5 ▸ get_new0 _ _
      clear hH5
      have hb25 := hx5.get hb2d (by simp)
      have hb35 := hx5.get hb3d (by simp)
      have gca5 := gcK gca hx5
      have hdg5 := gcK hdg hx5
      have hx05 := hx0d.tr hx5
      refine seq_regD ?_
      simp only [go_sem, binC, e2, e3, e7, gc_of hb25, gc_of hb35, gc_of hs5, inBlk_some, osv, otv, oev]
      refine ⟨⟨by omega, by omega⟩, ?_⟩
      simp only [go_sem, binC, Int.toNat_natCast, Nat.zero_add, gca5, e3, gc_of hb35, inBlk_some]
      refine ⟨⟨by omega, by omega⟩, ?_⟩
      simp only [go_sem, binC, Int.toNat_natCast, Nat.mul_one, hdg5]
      refine op_callQ (by simp only [go_sem, binC]; exact gd H5 _ sv _ _ _ ls ts homes sj (ra, rb) (does.getD j 0) osv (r1.mono (agx_sub hx05)) hlab (r3.mono (agx_sub hx05)) (trK_iff.1 hk) (r4.mono (agx_sub hx05)) hho (Co.anyS.mono (agx_sub hx05) rdsc) hokj hoj qd.1 qd.2) ?_
      rw [← hdoe]
      cases hst : doN n ls l ts homes j (does.getD j 0) with
      | false =>
        simp only [go_sem, binC]
        refine wpc_cond (t := true) rfl ?_
        simp only [go_sem, binC]
        refine seq_reg ?_
        simp only [go_sem, binC]
        refine wpc_ret ?_
        simp only [go_sem, binC, out_r, thenX_r]
        refine ⟨Or.inr rfl, .bool false, (by (simp only [go_sem, binC]) <;> rfl), ?_, rfl⟩
        rw [hno (by rw [hin, hst]; rfl)]
      | true =>
        simp only [go_sem, binC]
        refine wpc_cond (t := false) rfl ?_
        simp only [go_sem, binC]
        refine wpc_skip ?_
        simp only [go_sem, binC, out_n, thenX_n]
        refine wpc_reg ?_
        simp only [go_sem, binC, e59, hw2]
        simp only [go_sem, binC, thenX_n]
        refine ih2 (j + 1) _ H5 (by omega) (hxd.tr hx5) (fun q hq => ?_) (by simp only [go_sem, binC, e2]) (by simp only [go_sem, binC, e3]) (by simp only [go_sem, binC, e7]) (by simp only [go_sem, binC, e57]) (by simp only [go_sem, binC, e58]) (by simp only [go_sem, binC])
        by_cases hqj : q = j
        · subst hqj; rw [hin, hst]; rfl
        · exact hdo q (by omega)
  | succ k ih =>
    intro v e hv hall e2 e3 e38 e39 e40
    have hvh : v < homes.length := by omega
    have hvl : v < ls.length := by have := hho.1; omega
    have hw1 : IntKind.i64.wrap ((v : Int) + 1) = ((v + 1 : Nat) : Int) := by rw [wrap_id (by omega) (by omega)]; omega
    obtain ⟨hb', ho', hhv, hhg⟩ := gcD r41 hvh
    simp only [Value.slice.injEq, and_true] at hhv
    subst hhv
    have hrg : 0 ≤ homes.getD v 0 ∧ homes.getD v 0 ≤ 2 := by
      have := hho.2 homes[v] (List.getElem_mem hvh)
      simpa [List.getD, hvh] using this
    refine lp_step ?_
    refine seq_reg ?_
    simp only [go_sem, binC, e39, e40]
    refine seq_cond (t := true) (by simp only [go_sem, binC]; rw [decide_eq_true (by omega)]) ?_
    simp only [go_sem, binC]
    refine seq_skip (seq_block (seq_reg ?_))
    simp only [go_sem, binC, e38, e40]
    refine ⟨⟨by omega, by omega⟩, ?_⟩
    simp only [go_sem, binC, Int.toNat_natCast, Nat.mul_one, hhg]
    refine seq_reg ?_
    simp only [go_sem, binC, e2, e3, gc_of hb, gc_of hb3, inBlk_some, osv]
    refine op_callQ (by simp only [go_sem, binC]; exact ghm H1 _ _ _ ls ts v (homes.getD v 0) osv (r1.mono hS) hlab (r3.mono hS) (trK_iff.1 hk) (by omega) (by omega) hrg.1 hrg.2) ?_
    cases hp : hmB ls ts v (homes.getD v 0) with
    | false =>
      have hAH : allHome ls ts homes = false := all_no hvl hp
      simp only [go_sem, binC]
      refine wpc_cond (t := true) rfl ?_
      simp only [go_sem, binC]
      refine seq_reg ?_
      simp only [go_sem, binC]
      refine wpc_ret ?_
      simp only [go_sem, binC, out_r, thenX_r]
      refine ⟨Or.inr rfl, .bool false, (by (simp only [go_sem, binC]) <;> rfl), ?_, rfl⟩
      rw [hAH]
      rfl
    | true =>
      simp only [go_sem, binC]
      refine wpc_cond (t := false) rfl ?_
      simp only [go_sem, binC]
      refine wpc_skip ?_
      simp only [go_sem, binC, out_n, thenX_n]
      refine wpc_reg ?_
      simp only [go_sem, binC, e40, hw1]
      simp only [go_sem, binC, thenX_n]
      refine ih (v + 1) _ (by omega) (fun q hq => ?_) (by simp only [go_sem, binC, e2]) (by simp only [go_sem, binC, e3]) (by simp only [go_sem, binC, e38]) (by simp only [go_sem, binC, e39]) (by simp only [go_sem, binC])
      by_cases hqv : q = v
      · subst hqv; exact hp
      · exact hall q (by omega)
end Go.Proofs.YtbjeldblaclpnaaI
end
section
/- The law FnPlanMore on the ideal machine. -/
set_option linter.unusedVariables false
set_option linter.unusedSimpArgs false
namespace Go.Proofs.YtbjeldblaclpnaaI
open Go Go.RowKit
theorem planOkV_iff {n : Nat} {p : TProg n} {ts homes does : List Int} : planOkV n p ts homes does = true ↔ typeP n p = true ∧ trK ts = true ∧ homesB p.1.length homes = true ∧ (does.length : Int) = sizeV n p ∧ (∀ v, v < p.1.length → hmB p.1 ts v (homes.getD v 0) = true) ∧ (∀ j, j < does.length → (0 ≤ does.getD j 0 ∧ does.getD j 0 ≤ 2) ∧ doN n p.1 p.2 ts homes j (does.getD j 0) = true) := by
  unfold planOkV allHome allDo
  simp only [Bool.and_eq_true, decide_eq_true_eq, List.all_eq_true, List.mem_range, inB_iff]
end Go.Proofs.YtbjeldblaclpnaaI
end
section
/- What is found; the law FnPlanFind on the ideal machine. -/
set_option linter.unusedVariables false
set_option linter.unusedSimpArgs false
namespace Go.Proofs.YtbjeldblaclpnaaI
open Go Go.RowKit
def planL (o : Option (List Int)) (ts : List Int) (d : List Int → List Int) : List Int × List Int × List Int := match o with
  | none => ([], [], [])
  | some homes => (ts, homes, d homes)
theorem sl_nilS (H : Heap) : SlR Co.int (vw 0 H) nilS [] := ⟨by simp, none, rfl, .inl rfl⟩
theorem PlanR.sls {lo : Nat} {H : Heap} {tv hv dv : Value} {ts : List Int} {o : Option (List Int)} {d : List Int → List Int} (h : PlanR lo H tv hv dv ts o d) : SlR Co.int (vw 0 H) tv (planL o ts d).1 ∧ SlR Co.int (vw 0 H) hv (planL o ts d).2.1 ∧ SlR Co.int (vw 0 H) dv (planL o ts d).2.2 := by
  cases o with
  | none =>
    obtain ⟨rfl, rfl, rfl⟩ := h
    exact ⟨sl_nilS H, sl_nilS H, sl_nilS H⟩
  | some homes =>
    have h : PlanOwn lo H tv hv dv ts homes (d homes) := h
    exact ⟨(h.t (vw 0 H)).sl rfl (fun _ _ h => h), (h.h (vw 0 H)).sl rfl (fun _ _ h => h), (h.d (vw 0 H)).sl rfl (fun _ _ h => h)⟩
end Go.Proofs.YtbjeldblaclpnaaI
end
section
/- The law FnPlanFindAll on the ideal machine. -/
set_option linter.unusedVariables false
set_option linter.unusedSimpArgs false
namespace Go.Proofs.YtbjeldblaclpnaaI
open Go Go.RowKit
theorem hmL_mem {ls : List (Int × Int)} {ts : List Int} : ∀ (v : Nat) (l : List Int), l.length = v → (∀ x ∈ l, 0 ≤ x ∧ x ≤ 2) → (∀ i (h : i < l.length), hmB ls ts i l[i] = true) → l ∈ hmL ls ts v
  | 0, l, h, _, _ => by rw [List.eq_nil_of_length_eq_zero h]; simp [hmL]
  | v + 1, l, h, h2, h3 => by
    have hne : l ≠ [] := fun h' => by rw [h'] at h; simp at h
    have hd : l = l.dropLast ++ [l.getLast hne] := (List.dropLast_concat_getLast hne).symm
    simp only [hmL, List.mem_flatMap, List.mem_map]
    refine ⟨l.dropLast, hmL_mem v _ (by rw [List.length_dropLast]; omega) (fun x hx => h2 x (List.dropLast_subset _ hx)) (fun i hi => ?_), l.getLast hne, ?_, hd.symm⟩
    · rw [List.getElem_dropLast]
      exact h3 i (by rw [List.length_dropLast] at hi; omega)
    · have hb := h2 _ (List.getLast_mem hne)
      have hp := h3 (l.length - 1) (by omega)
      rw [← List.getLast_eq_getElem hne, show l.length - 1 = v by omega] at hp
      unfold hostsL
      refine List.mem_filter.2 ⟨?_, hp⟩
      rw [List.take_of_length_le (by simp)]
      simp only [List.mem_cons, List.not_mem_nil, or_false]
      omega
def lawFAT : ICode := .seq (.seq (.reg none [
     ⟨(some 9), none, .mov (.c (.int .i64 0))⟩])
  (.block 2 (.loop (.seq (.seq (.reg none [
        ⟨(some 74), none, .mov (.t 9)⟩,
        ⟨(some 75), none, .fad 2 (.t 4)⟩,
        ⟨(some 76), none, .load false 1 (.t 75)⟩,
        ⟨(some 77), none, .len (.t 76)⟩,
        ⟨(some 78), none, .bin .lss (.t 74) (.t 77)⟩])
     (.cond (.t 78) (.skip) (.exit 2)))
    (.seq (.block 3 (.seq (.reg (some 10) [
         ⟨(some 81), none, .fad 2 (.t 6)⟩,
         ⟨(some 82), none, .load false 1 (.t 81)⟩,
         ⟨(some 83), none, .mov (.t 9)⟩,
         ⟨(some 84), none, .iad 1 (.t 82) (.t 83)⟩,
         ⟨(some 85), none, .load false 1 (.t 84)⟩,
         ⟨(some 86), none, .fad 2 (.t 4)⟩,
         ⟨(some 87), none, .load false 1 (.t 86)⟩,
         ⟨(some 88), none, .mov (.t 9)⟩,
         ⟨(some 89), none, .iad 1 (.t 87) (.t 88)⟩,
         ⟨(some 90), none, .load false 1 (.t 89)⟩,
         ⟨(some 91), none, .bin .gtr (.t 85) (.t 90)⟩])
      (.cond (.t 91) (.seq (.reg none [
          ⟨(some 2), none, .mov (.c (.bool false))⟩])
       (.ret)) (.skip))))
    (.reg none [
      ⟨(some 79), none, .mov (.t 9)⟩,
      ⟨(some 80), none, .bin .add (.t 79) (.c (.int .i64 1))⟩,
      ⟨(some 9), none, .mov (.t 80)⟩]))))))
 (.seq (.reg none [
    ⟨(some 92), none, .mov (.t 7)⟩,
    ⟨(some 2), none, .mov (.t 92)⟩])
 (.ret))
def c_lawFA : IFn := ⟨1, 93, [.t 2],
 .seq (.reg none [
    ⟨(some 2), none, .mov (.c (.bool false))⟩])
 (.seq (.seq (.reg none [
     ⟨(some 10), none, .mov (.t 0)⟩,
     ⟨(some 11), none, .len (.t 10)⟩,
     ⟨(some 12), none, .bin .gtr (.t 11) (.c (.int .i64 1048576))⟩])
  (.cond (.t 12) (.seq (.reg none [
      ⟨(some 2), none, .mov (.c (.bool true))⟩])
   (.ret)) (.skip)))
 (.seq (.reg none [
    ⟨(some 14), none, .mov (.t 0)⟩,
    ⟨(some 15), none, .call .k (.f 32) [(.t 14)]⟩,
    ⟨(some 13), none, .mov (.t 15)⟩,
    ⟨(some 16), none, .ext (.t 13) 0⟩,
    ⟨(some 17), none, .ext (.t 13) 1⟩,
    ⟨(some 3), none, .new [(.slice none 0 0), (.slice none 0 0)]⟩,
    ⟨(some 4), none, .new [(.slice none 0 0), (.slice none 0 0), (.slice none 0 0)]⟩,
    ⟨none, none, .store 2 (.t 3) (.t 16)⟩,
    ⟨none, none, .store 3 (.t 4) (.t 17)⟩])
 (.seq (.reg none [
    ⟨(some 18), none, .load true 2 (.t 3)⟩,
    ⟨(some 19), none, .load true 3 (.t 4)⟩,
    ⟨(some 20), none, .call .q (.f 21) [(.t 18), (.t 19)]⟩,
    ⟨(some 5), none, .mov (.t 20)⟩])
 (.seq (.seq (.reg none [
     ⟨(some 21), none, .mov (.t 5)⟩,
     ⟨(some 22), none, .load true 2 (.t 3)⟩,
     ⟨(some 23), none, .load true 3 (.t 4)⟩,
     ⟨(some 24), none, .call .q (.f 33) [(.t 22), (.t 23)]⟩,
     ⟨(some 25), none, .beq true (.t 21) (.t 24)⟩,
     ⟨(some 26), none, .mov (.t 25)⟩,
     ⟨(some 27), (some (26, false)), .mov (.t 5)⟩,
     ⟨(some 28), (some (26, false)), .un .not (.t 27)⟩,
     ⟨(some 29), none, .pick (.t 26) (.c (.bool true)) (.t 28)⟩])
  (.cond (.t 29) (.seq (.reg none [
      ⟨(some 30), none, .mov (.t 5)⟩,
      ⟨(some 31), none, .load true 2 (.t 3)⟩,
      ⟨(some 32), none, .load true 3 (.t 4)⟩,
      ⟨(some 33), none, .call .q (.f 33) [(.t 31), (.t 32)]⟩,
      ⟨(some 34), none, .beq false (.t 30) (.t 33)⟩,
      ⟨(some 2), none, .mov (.t 34)⟩])
   (.ret)) (.skip)))
 (.seq (.reg none [
    ⟨(some 36), none, .load true 2 (.t 3)⟩,
    ⟨(some 37), none, .fad 0 (.t 4)⟩,
    ⟨(some 38), none, .load false 1 (.t 37)⟩,
    ⟨(some 39), none, .call .k (.f 16) [(.t 36), (.t 38)]⟩,
    ⟨(some 35), none, .mov (.t 39)⟩,
    ⟨(some 40), none, .ext (.t 35) 0⟩,
    ⟨(some 41), none, .ext (.t 35) 1⟩,
    ⟨(some 6), none, .new [(.slice none 0 0), (.slice none 0 0), (.slice none 0 0)]⟩,
    ⟨none, none, .store 3 (.t 6) (.t 40)⟩,
    ⟨(some 7), none, .mov (.t 41)⟩])
 (.seq (.seq (.reg none [
     ⟨(some 8), none, .mov (.c (.int .i64 0))⟩])
  (.block 0 (.loop (.seq (.seq (.reg none [
        ⟨(some 42), none, .mov (.t 8)⟩,
        ⟨(some 43), none, .fad 1 (.t 4)⟩,
        ⟨(some 44), none, .load false 1 (.t 43)⟩,
        ⟨(some 45), none, .len (.t 44)⟩,
        ⟨(some 46), none, .bin .lss (.t 42) (.t 45)⟩])
     (.cond (.t 46) (.skip) (.exit 0)))
    (.seq (.block 1 (.seq (.reg (some 10) [
         ⟨(some 49), none, .fad 1 (.t 6)⟩,
         ⟨(some 50), none, .load false 1 (.t 49)⟩,
         ⟨(some 51), none, .mov (.t 8)⟩,
         ⟨(some 52), none, .iad 1 (.t 50) (.t 51)⟩,
         ⟨(some 53), none, .load false 1 (.t 52)⟩,
         ⟨(some 54), none, .fad 1 (.t 4)⟩,
         ⟨(some 55), none, .load false 1 (.t 54)⟩,
         ⟨(some 56), none, .mov (.t 8)⟩,
         ⟨(some 57), none, .iad 1 (.t 55) (.t 56)⟩,
         ⟨(some 58), none, .load false 1 (.t 57)⟩,
         ⟨(some 59), none, .bin .neq (.t 53) (.t 58)⟩])
      (.cond (.t 59) (.seq (.reg (some 12) [
          ⟨(some 60), none, .mov (.t 7)⟩,
          ⟨(some 61), none, .mov (.t 60)⟩,
          ⟨(some 62), (some (61, true)), .fad 1 (.t 6)⟩,
          ⟨(some 63), (some (61, true)), .load false 1 (.t 62)⟩,
          ⟨(some 64), (some (61, true)), .mov (.t 8)⟩,
          ⟨(some 65), (some (61, true)), .iad 1 (.t 63) (.t 64)⟩,
          ⟨(some 66), (some (61, true)), .load false 1 (.t 65)⟩,
          ⟨(some 67), (some (61, true)), .fad 1 (.t 4)⟩,
          ⟨(some 68), (some (61, true)), .load false 1 (.t 67)⟩,
          ⟨(some 69), (some (61, true)), .mov (.t 8)⟩,
          ⟨(some 70), (some (61, true)), .iad 1 (.t 68) (.t 69)⟩,
          ⟨(some 71), (some (61, true)), .load false 1 (.t 70)⟩,
          ⟨(some 72), (some (61, true)), .bin .lss (.t 66) (.t 71)⟩,
          ⟨(some 73), none, .pick (.t 61) (.t 72) (.c (.bool false))⟩,
          ⟨(some 2), none, .mov (.t 73)⟩])
       (.ret)) (.skip))))
    (.reg none [
      ⟨(some 47), none, .mov (.t 8)⟩,
      ⟨(some 48), none, .bin .add (.t 47) (.c (.int .i64 1))⟩,
      ⟨(some 8), none, .mov (.t 48)⟩]))))))
 lawFAT))))))⟩
def lexLt (a b : List Int) : Prop := ∃ i, i < a.length ∧ (∀ j, j < i → a.getD j 0 = b.getD j 0) ∧ a.getD i 0 < b.getD i 0
theorem hostsL_sorted (P : Int → Bool) : (hostsL P 3).Pairwise (· < ·) := by
  unfold hostsL
  refine List.Pairwise.filter _ ?_
  decide
theorem getD_app_l {a b : List Int} {i : Nat} (h : i < a.length) : (a ++ b).getD i 0 = a.getD i 0 := by
  simp only [List.getD, List.getElem?_append_left h]
theorem getD_app_n {a : List Int} {x : Int} : (a ++ [x]).getD a.length 0 = x := by simp [List.getD]
theorem hmL_sorted {ls : List (Int × Int)} {ts : List Int} : ∀ v, (hmL ls ts v).Pairwise lexLt
  | 0 => by simp [hmL]
  | v + 1 => by
    have ih := hmL_sorted (ls := ls) (ts := ts) v
    unfold hmL
    rw [List.pairwise_flatMap]
    refine ⟨fun l hl => ?_, ?_⟩
    · rw [List.pairwise_map]
      refine (hostsL_sorted (hmB ls ts v)).imp fun {x y} hxy => ⟨l.length, by simp, fun j hj => ?_, ?_⟩
      · rw [getD_app_l hj, getD_app_l hj]
      · rw [getD_app_n, getD_app_n]; exact hxy
    · refine ih.imp_of_mem fun {a b} ha hb hab x hx y hy => ?_
      obtain ⟨p, _, rfl⟩ := List.mem_map.1 hx
      obtain ⟨q, _, rfl⟩ := List.mem_map.1 hy
      have h1 := (hmL_el v a ha).1
      have h2 := (hmL_el v b hb).1
      obtain ⟨i, hi, he, hlt⟩ := hab
      refine ⟨i, by simp; omega, fun j hj => ?_, ?_⟩
      · rw [getD_app_l (by omega), getD_app_l (by omega)]; exact he j hj
      · rw [getD_app_l (by omega), getD_app_l (by omega)]; exact hlt
theorem find_first {α : Type} {R : α → α → Prop} {P : α → Bool} : ∀ {L : List α}, L.Pairwise R → ∀ {b : α}, b ∈ L → P b = true → ∃ a, L.find? P = some a ∧ (a = b ∨ R a b)
  | [], _, b, hb, _ => by cases hb
  | x :: L, hp, b, hb, hP => by
    rw [List.pairwise_cons] at hp
    by_cases hx : P x = true
    · refine ⟨x, by rw [List.find?_cons, hx], ?_⟩
      rcases List.mem_cons.1 hb with rfl | h
      · exact .inl rfl
      · exact .inr (hp.1 b h)
    · rcases List.mem_cons.1 hb with rfl | h
      · exact absurd hP hx
      · obtain ⟨a, h1, h2⟩ := find_first hp.2 h hP
        exact ⟨a, by rw [List.find?_cons, Bool.not_eq_true _ |>.mp hx]; exact h1, h2⟩
theorem firstH_le {P : Int → Bool} {h : Int} (h0 : 0 ≤ h) (h2 : h ≤ 2) (hp : P h = true) : 0 ≤ firstH P ∧ firstH P ≤ h := by
  have hh : h = 0 ∨ h = 1 ∨ h = 2 := by omega
  unfold firstH
  rcases hh with rfl | rfl | rfl
  · rw [if_pos hp]; omega
  · rw [if_pos hp]; split <;> omega
  · rw [if_pos hp]; split
    · omega
    · split <;> omega
/-- If there is a plan one is found, and none stands ahead of it. -/
theorem plan_find {n : Nat} {ls : List (Int × Int)} {l : List (TStep n)} {ts homes does : List Int} (h : planOkV n (ls, l) ts homes does = true) : ∃ h0, findV n (ls, l) ts = some h0 ∧ h0.length = homes.length ∧ (doesL n (ls, l) ts h0).length = does.length ∧ (h0 = homes ∨ lexLt h0 homes) ∧ (h0 = homes → ∀ j, j < does.length → (doesL n (ls, l) ts h0).getD j 0 ≤ does.getD j 0) := by
  obtain ⟨a1, a2, a3, a4, a5, a6⟩ := planOkV_iff.1 h
  simp only at a3 a5 a6
  obtain ⟨b1, b2⟩ := homesB_iff.1 a3
  have hP : progB n (ls, l) = true := by
    have := a1
    unfold typeP at this
    simp only [Bool.and_eq_true] at this
    exact this.1
  rw [sizeV_yes hP] at a4
  have hm : homes ∈ hmL ls ts ls.length := hmL_mem _ _ b1 b2 fun i hi => by
    have := a5 i (by omega)
    simpa [List.getD, hi] using this
  have hsl := allSL_len l
  have hdl : (doesL n (ls, l) ts homes).length = (allL n l).length := doesL_len
  have hdo : ∀ j, j < does.length → 0 ≤ (doesL n (ls, l) ts homes).getD j 0 ∧ (doesL n (ls, l) ts homes).getD j 0 ≤ does.getD j 0 := fun j hj => by
    have hjs : j < (allSL n l).length := by omega
    have hjd : j < (doesL n (ls, l) ts homes).length := by omega
    have h4 := doesL_at (ts := ts) (homes := homes) hjs hjd
    have h8 : (doesL n (ls, l) ts homes).getD j 0 = firstH (doN n ls l ts homes j) := by rw [← h4]; simp [List.getD, hjd]
    rw [h8]
    exact firstH_le (a6 j hj).1.1 (a6 j hj).1.2 (a6 j hj).2
  have hfit : fitsB n (ls, l) ts homes = true := by
    unfold fitsB
    rw [Bool.not_eq_true', decide_eq_false_iff_not]
    intro hmem
    obtain ⟨j, hj, he⟩ := List.getElem_of_mem hmem
    have := (hdo j (by omega)).1
    rw [show (doesL n (ls, l) ts homes).getD j 0 = (doesL n (ls, l) ts homes)[j] from by simp [List.getD, hj], he] at this
    omega
  obtain ⟨h0, hf, hor⟩ := find_first (hmL_sorted ls.length) hm hfit
  refine ⟨h0, ?_, ?_, ?_, hor, fun he j hj => he ▸ (hdo j hj).2⟩
  · have hc : (typeP n (ls, l) && trK ts) = true := by rw [a2, Bool.and_true]; exact a1
    unfold findV
    rw [if_pos hc]
    exact hf
  · rw [(hmL_el _ _ (List.mem_of_find?_eq_some hf)).1, b1]
  · have hdl0 : (doesL n (ls, l) ts h0).length = (allL n l).length := doesL_len
    omega
theorem lawFA_ok {F : Nat → Option IFn} {f : Nat} (hf : F f = some c_lawFA) (gd : DrawPl F 32) (gi : PlanOkV F 21) (gs : PlanOkV F 33) (gfi : FindI F 16) : LawB F f := by
  intro H v code hv
  have hv0 := hv
  obtain ⟨h0, a, rfl, _⟩ := hv
  refine QC.mk hf rfl ?_
  refine seq_reg ?_
  simp only [go_sem, binC]
  refine seq_assoc (seq_reg ?_)
  simp only [go_sem, binC]
  by_cases hbig : 1048576 < (code.length : Int)
  · refine seq_cond (t := true) (by simp only [go_sem, binC]; rw [decide_eq_true hbig]) ?_
    simp only [go_sem, binC]
    refine seq_assoc (seq_reg ?_)
    simp only [go_sem, binC]
    exact seq_ret ⟨Or.inr rfl, .bool true, by simp only [go_sem, binC], rfl, rfl⟩
  refine seq_cond (t := false) (by simp only [go_sem, binC]; rw [decide_eq_false hbig]) ?_
  simp only [go_sem, binC]
  refine seq_skip (seq_reg ?_)
  simp only [go_sem, binC]
  obtain ⟨d, lv, sv, tv, hw, dw, ls, l, ts, homes, does, H1, k, hx, r1, r2, r3, r4, r5, r6, htl, hhl, hdl⟩ := gd H _ code hv0
  have hl1 := hx.1
  obtain ⟨hls0, la, rfl, _⟩ := id r1
  obtain ⟨hsl0, sa, rfl, _⟩ := id r2
  obtain ⟨_, ta, rfl, _⟩ := id r4
  obtain ⟨_, ha, rfl, _⟩ := id r5
  obtain ⟨_, da, rfl, _⟩ := id r6
  refine op_callK (by simp only [go_sem, binC]; exact k) ?_
  simp only [go_sem, binC]
  refine ⟨by omega, by omega, ?_⟩
  refine wpc_gen fun H2 hH2 => ?_
  have hb : H2[H1.length]? = some ⟨[.slice la ls.length ls.length, .slice sa l.length l.length], 0, 0, false, true⟩ := hH2 ▸ get_new0 _ _
  have hbp : H2[H1.length + 1]? = some ⟨[.slice ta ts.length ts.length, .slice ha homes.length homes.length, .slice da does.length does.length], 0, 0, false, true⟩ := hH2 ▸ get_new _ _ 1
  have hy : AgX [] H1 H2 := hH2 ▸ AgX.app [] _ _
  have hl2 : H2.length = H1.length + 2 := by rw [hH2, List.length_append]; rfl
  replace r1 := r1.mono (agx_sub hy)
  replace r2 := r2.mono (agx_sub hy)
  replace r4 := r4.mono (agx_sub hy)
  replace r5 := r5.mono (agx_sub hy)
  replace r6 := r6.mono (agx_sub hy)
  clear hH2 k
  have hk1 := gi H2 d _ _ _ _ _ ls l ts homes does r1 r2 r3 r4 r5 r6
  have hk2 := gs H2 d _ _ _ _ _ ls l ts homes does r1 r2 r3 r4 r5 r6
  refine seq_reg ?_
  simp only [go_sem, binC, gc_of hb, gc_of hbp, inBlk_some]
  refine op_callQ (by simp only [go_sem, binC]; exact hk1) ?_
  simp only [go_sem, binC]
  refine seq_assoc (seq_reg ?_)
  simp only [go_sem, binC, gc_of hb, gc_of hbp, inBlk_some]
  refine op_callQ (by simp only [go_sem, binC]; exact hk2) ?_
  cases hok : planOkV d (ls, l) ts homes does with
  | false =>
    simp only [go_sem, binC, bne_self_eq_false, beq_self_eq_true]
    refine seq_cond (t := true) rfl ?_
    simp only [go_sem, binC]
    refine seq_assoc (seq_reg ?_)
    simp only [go_sem, binC, gc_of hb, gc_of hbp, inBlk_some]
    refine op_callQ (by simp only [go_sem, binC]; exact hk2) ?_
    rw [hok]
    simp only [go_sem, binC, beq_self_eq_true]
    exact seq_ret ⟨Or.inr rfl, .bool true, by simp only [go_sem, binC], rfl, rfl⟩
  | true =>
  simp only [go_sem, binC, bne_self_eq_false, beq_self_eq_true]
  refine seq_cond (t := false) rfl ?_
  simp only [go_sem, binC]
  obtain ⟨h0, hov, hl0, hd0, hlex, hle⟩ := plan_find hok
  refine seq_skip (seq_reg ?_)
  simp only [go_sem, binC, gc_of hb, gc_of hbp, inBlk_some]
  obtain ⟨pv, hv3, dv, H5, k5, hx5, pr⟩ := gfi H2 d _ _ _ ls l ts r1 r2 r3 r4
  rw [hov] at pr k5
  obtain ⟨i1, i2, i3⟩ := pr.sls
  replace i2 : SlR Co.int (vw 0 H5) hv3 h0 := i2
  replace i3 : SlR Co.int (vw 0 H5) dv (doesL d (ls, l) ts h0) := i3
  refine op_callK (by simp only [go_sem, binC]; exact k5) ?_
  obtain ⟨_, ia, rfl, _⟩ := id i1
  obtain ⟨_, ib, rfl, _⟩ := id i2
  obtain ⟨_, ic, rfl, _⟩ := id i3
  have hl5 := hx5.1
  simp only [go_sem, binC]
  refine ⟨by omega, ?_⟩
  refine wpc_gen fun H6 hH6 => ?_
  have hx6 : AgX [] H5 H6 := hH6 ▸ AgX.app [] _ _
  have hbi : H6[H5.length]? = some ⟨[.slice ia (planL (some h0) ts (doesL d (ls, l) ts)).1.length (planL (some h0) ts (doesL d (ls, l) ts)).1.length, .slice ib h0.length h0.length, .slice ic (doesL d (ls, l) ts h0).length (doesL d (ls, l) ts h0).length], 0, 0, false, true⟩ := hH6 ▸ get_new0 _ _
  clear hH6 k5 pr
  have hx26 := hx5.tr hx6
  replace hbp := hx26.get hbp (by simp)
  replace r5 := r5.mono (agx_sub hx26)
  replace r6 := r6.mono (agx_sub hx26)
  replace i2 := i2.mono (agx_sub hx6)
  replace i3 := i3.mono (agx_sub hx6)
  generalize doesL d (ls, l) ts h0 = does0 at *
  generalize planL (some h0) ts (doesL d (ls, l) ts) = P at *
  refine seq_assoc (seq_reg ?_)
  simp only [go_sem, binC]
  refine wpc_genK fun KK hKK => ?_
  have hT : ∀ e : Env, h0 = homes → e 4 = ptr (H1.length + 1) 0 → e 6 = ptr H5.length 0 → e 7 = .bool true → wpc F H.length lawFAT e H6 KK := by
    intro e he e4 e6 e7
    have hle := hle he
    rw [hKK]
    unfold lawFAT
    refine seq_assoc (seq_reg ?_)
    simp only [go_sem, binC]
    refine seq_block (wpc_loop ?_)
    suffices hh : ∀ (k i : Nat) (e : Env), i + k = does.length → e 4 = ptr (H1.length + 1) 0 → e 6 = ptr H5.length 0 → e 7 = .bool true → e 9 = .int .i64 i → W F H.length _ e H6 _ from
      hh does.length 0 _ (by omega) (by simp only [go_sem, binC, e4]) (by simp only [go_sem, binC, e6]) (by simp only [go_sem, binC, e7]) (by (simp only [go_sem, binC]) <;> rfl)
    clear e4 e6 e7 e
    intro k
    induction k with
    | zero =>
      intro i e hi e4 e6 e7 e9
      refine lp_step ?_
      refine seq_assoc (seq_reg ?_)
      simp only [go_sem, binC, e9, e4, gc_of hbp, inBlk_some]
      refine seq_cond (t := false) (by simp only [go_sem, binC]; rw [decide_eq_false (by omega)]) ?_
      simp only [go_sem, binC]
      refine seq_exit ?_
      simp only [go_sem, binC, thenX_e, out_e, thenX_n]
      refine seq_reg ?_
      simp only [go_sem, binC, e7]
      exact wpc_ret ⟨Or.inr rfl, .bool true, by simp only [go_sem, binC], rfl, rfl⟩
    | succ k ih =>
      intro i e hi e4 e6 e7 e9
      have hw1 : IntKind.i64.wrap ((i : Int) + 1) = ((i + 1 : Nat) : Int) := by rw [wrap_id (by omega) (by omega)]; omega
      have hvd : i < does.length := by omega
      have hv0 : i < does0.length := by omega
      have hlei := hle i hvd
      obtain ⟨hb', ho', hhv, hhg⟩ := gcD r6 hvd
      obtain ⟨hb2', ho2', hhv2, hhg2⟩ := gcD i3 hv0
      simp only [Value.slice.injEq, and_true] at hhv hhv2
      subst hhv hhv2
      refine lp_step ?_
      refine seq_assoc (seq_reg ?_)
      simp only [go_sem, binC, e9, e4, gc_of hbp, inBlk_some]
      refine seq_cond (t := true) (by simp only [go_sem, binC]; rw [decide_eq_true (by omega)]) ?_
      simp only [go_sem, binC]
      refine seq_skip (seq_block (seq_regD ?_))
      simp only [go_sem, binC, e9, e4, e6, gc_of hbp, gc_of hbi, inBlk_some]
      refine ⟨⟨by omega, by omega⟩, ?_⟩
      simp only [go_sem, binC, Int.toNat_natCast, Nat.mul_one, hhg2, e9, e4, gc_of hbp, inBlk_some]
      refine ⟨⟨by omega, by omega⟩, ?_⟩
      simp only [go_sem, binC, Int.toNat_natCast, Nat.mul_one, hhg]
      refine wpc_cond (t := false) (by simp only [go_sem, binC]; rw [decide_eq_false (by omega)]) ?_
      simp only [go_sem, binC]
      refine wpc_skip ?_
      simp only [go_sem, binC, out_n, thenX_n]
      refine wpc_reg ?_
      simp only [go_sem, binC, e9, hw1]
      simp only [go_sem, binC, thenX_n]
      exact ih (i + 1) _ (by omega) (by simp only [go_sem, binC, e4]) (by simp only [go_sem, binC, e6]) (by simp only [go_sem, binC, e7]) (by simp only [go_sem, binC])
  refine seq_block (wpc_loop ?_)
  suffices hh : ∀ (k i : Nat) (e : Env), i + k = homes.length → (∀ j, j < i → h0.getD j 0 = homes.getD j 0) → e 4 = ptr (H1.length + 1) 0 → e 6 = ptr H5.length 0 → e 7 = .bool true → e 8 = .int .i64 i → W F H.length _ e H6 _ from
    hh homes.length 0 _ (by omega) (fun j hj => by omega) (by simp only [go_sem, binC]) (by simp only [go_sem, binC]) (by (simp only [go_sem, binC]) <;> rfl) (by (simp only [go_sem, binC]) <;> rfl)
  intro k
  induction k with
  | zero =>
    intro i e hi heq e4 e6 e7 e8
    have he : h0 = homes := List.ext_getElem hl0 fun j h1 h2 => by
      have := heq j (by omega)
      simpa [List.getD, h1, h2] using this
    refine lp_step ?_
    refine seq_assoc (seq_reg ?_)
    simp only [go_sem, binC, e8, e4, gc_of hbp, inBlk_some]
    refine seq_cond (t := false) (by simp only [go_sem, binC]; rw [decide_eq_false (by omega)]) ?_
    simp only [go_sem, binC]
    refine seq_exit ?_
    simp only [go_sem, binC, thenX_e, out_e, thenX_n]
    exact hT _ he (by simp only [go_sem, binC, e4]) (by simp only [go_sem, binC, e6]) (by simp only [go_sem, binC, e7])
  | succ k ih =>
    intro i e hi heq e4 e6 e7 e8
    have hw1 : IntKind.i64.wrap ((i : Int) + 1) = ((i + 1 : Nat) : Int) := by rw [wrap_id (by omega) (by omega)]; omega
    have hvd : i < homes.length := by omega
    have hv0 : i < h0.length := by omega
    have hlt : h0.getD i 0 ≠ homes.getD i 0 → h0.getD i 0 < homes.getD i 0 := fun hne => by
      rcases hlex with rfl | ⟨i', q1, q2, q3⟩
      · exact absurd rfl hne
      · rcases Nat.lt_trichotomy i' i with h | h | h
        · rw [heq i' h] at q3; omega
        · subst h; exact q3
        · exact absurd (q2 i h) hne
    obtain ⟨hb', ho', hhv, hhg⟩ := gcD r5 hvd
    obtain ⟨hb2', ho2', hhv2, hhg2⟩ := gcD i2 hv0
    simp only [Value.slice.injEq, and_true] at hhv hhv2
    subst hhv hhv2
    generalize hxx : h0.getD i 0 = x at hlt hhg2
    generalize hyy : homes.getD i 0 = y at hlt hhg
    refine lp_step ?_
    refine seq_assoc (seq_reg ?_)
    simp only [go_sem, binC, e8, e4, gc_of hbp, inBlk_some]
    refine seq_cond (t := true) (by simp only [go_sem, binC]; rw [decide_eq_true (by omega)]) ?_
    simp only [go_sem, binC]
    refine seq_skip (seq_block (seq_regD ?_))
    simp only [go_sem, binC, e8, e4, e6, gc_of hbp, gc_of hbi, inBlk_some]
    refine ⟨⟨by omega, by omega⟩, ?_⟩
    simp only [go_sem, binC, Int.toNat_natCast, Nat.mul_one, hhg2, e8, e4, gc_of hbp, inBlk_some]
    refine ⟨⟨by omega, by omega⟩, ?_⟩
    simp only [go_sem, binC, Int.toNat_natCast, Nat.mul_one, hhg]
    by_cases hne : x = y
    · refine wpc_cond (t := false) (by simp only [go_sem, binC]; simp [hne]) ?_
      simp only [go_sem, binC]
      refine wpc_skip ?_
      simp only [go_sem, binC, out_n, thenX_n]
      refine wpc_reg ?_
      simp only [go_sem, binC, e8, hw1]
      simp only [go_sem, binC, thenX_n]
      refine ih (i + 1) _ (by omega) (fun j hj => ?_) (by simp only [go_sem, binC, e4]) (by simp only [go_sem, binC, e6]) (by simp only [go_sem, binC, e7]) (by simp only [go_sem, binC])
      by_cases hji : j = i
      · subst hji; rw [hxx, hyy]; exact hne
      · exact heq j (by omega)
    · refine wpc_cond (t := true) (by simp only [go_sem, binC]; simp [hne]) ?_
      simp only [go_sem, binC]
      refine seq_regD ?_
      simp only [go_sem, binC, e7, e8, e4, e6, gc_of hbp, gc_of hbi, inBlk_some]
      refine ⟨⟨by omega, by omega⟩, ?_⟩
      simp only [go_sem, binC, Int.toNat_natCast, Nat.mul_one, hhg2, e8, e4, gc_of hbp, inBlk_some]
      refine ⟨⟨by omega, by omega⟩, ?_⟩
      simp only [go_sem, binC, Int.toNat_natCast, Nat.mul_one, hhg]
      refine wpc_ret ?_
      simp only [go_sem, binC, out_r, thenX_r]
      rw [hKK]
      exact ⟨Or.inr rfl, .bool true, by simp only [go_sem, binC]; rw [decide_eq_true (hlt hne)], rfl, rfl⟩
end Go.Proofs.YtbjeldblaclpnaaI
end
section
/- The functions that laws on drawn plans reach, as ideal functions. -/
set_option linter.unusedVariables false
set_option linter.unusedSimpArgs false
namespace Go.Proofs.YtbjeldblaclpnaaI
open Go Go.RowKit
def fnOf : Nat → Option IFn
  | 5 => some (c_lawFA)
  | 15 => some (c_sPlanFind)
  | 16 => some (c_iPlanFind)
  | 18 => some (c_sTypeOk)
  | 21 => some (c_iPlanOk)
  | 32 => some (c_drPO)
  | 33 => some (c_sPlanOk)
  | 35 => some (c_sPlanStep)
  | 43 => some (c_iTypeOk)
  | 44 => some (c_l6Open)
  | 45 => some (c_pick)
  | 46 => some (c_drPlan)
  | 48 => some (c_drTrusts)
  | 49 => some (c_sTrusts)
  | 50 => some (c_sSee)
  | 51 => some (c_lFind)
  | 52 => some (c_iTrusts)
  | 53 => some (c_iAt)
  | 54 => some (c_iHomes)
  | 55 => some (c_iAll)
  | 56 => some (c_iDoer)
  | 57 => some (c_conK)
  | 58 => some (c_plClone)
  | 59 => some (c_sWhy)
  | 60 => some (c_sProg)
  | 61 => some (c_iProg)
  | 62 => some (c_iSize)
  | 63 => some (c_iHostsOk)
  | 64 => some (c_iHome1)
  | 65 => some (c_iDoes)
  | 75 => some (c_drOff)
  | 76 => some (c_sHomes21)
  | 77 => some (c_sProgSize)
  | 78 => some (c_lHome)
  | 79 => some (c_sIn)
  | 80 => some (c_lStep)
  | 81 => some (c_iIn)
  | 82 => some (c_iHost)
  | 83 => some (c_iSets)
  | 85 => some (c_iVar)
  | 86 => some (c_iWhy0)
  | 87 => some (c_drFine)
  | 88 => some (c_drProg)
  | 90 => some (c_sEither)
  | 91 => some (c_sSet)
  | 92 => some (c_sHas)
  | 93 => some (c_sAllSteps)
  | 94 => some (c_sTypeAt)
  | 95 => some (c_sTypeSets)
  | 96 => some (c_sBy)
  | 97 => some (c_lDoes)
  | 98 => some (c_iSet)
  | 99 => some (c_iHas)
  | 100 => some (c_iLabels)
  | 101 => some (c_iEvery)
  | 102 => some (c_cloneI)
  | 103 => some (c_ixK)
  | 104 => some (c_sFine)
  | 105 => some (c_sLabelOk)
  | 106 => some (c_sSteps)
  | 107 => some (c_sCount)
  | 108 => some (c_con)
  | 109 => some (c_p1)
  | 110 => some (c_iLabelOk)
  | 111 => some (c_iSteps)
  | 112 => some (c_cfInt)
  | 113 => some (c_hk1)
  | 114 => some (c_iWithin)
  | 115 => some (c_iBy)
  | 116 => some (c_iMakes)
  | 122 => some (c_sWithin)
  | 123 => some (c_sVars21)
  | 124 => some (c_iSource)
  | 125 => some (c_iFlows)
  | 126 => some (c_sWithout)
  | 127 => some (c_drLabel)
  | 128 => some (c_drSteps)
  | 130 => some (c_sBoth)
  | 131 => some (c_sAll)
  | 132 => some (c_sAt)
  | 133 => some (c_sAny)
  | 134 => some (c_sSets)
  | 135 => some (c_iBoth)
  | 136 => some (c_sFlows)
  | 137 => some (c_sLBoth)
  | 138 => some (c_sValL)
  | 139 => some (c_sStep)
  | 140 => some (c_idx)
  | 141 => some (c_iVal)
  | 142 => some (c_ifInt)
  | 143 => some (c_vars)
  | 146 => some (c_drVal)
  | 147 => some (c_sVar)
  | 148 => some (c_sVal)
  | 149 => some (c_iNum)
  | _ => none
def cmOf (f : Nat) : CM := ⟨fun g => if [5, 18, 21, 33, 35, 43, 49, 52, 56, 57, 59, 60, 61, 62, 63, 64, 65, 76, 77, 78, 79, 80, 81, 82, 83, 85, 86, 90, 91, 92, 96, 98, 99, 101, 103, 104, 105, 106, 107, 108, 109, 110, 111, 112, 113, 114, 115, 122, 124, 125, 130, 131, 133, 134, 135, 136, 137, 138, 139, 140, 141, 142, 147, 148, 149].contains g then .q else if [44, 45, 46, 48, 50, 75, 87, 88, 100, 127, 128, 132, 146].contains g then .n else .k, if [44, 45, 46, 48, 50, 75, 87, 88, 100, 127, 128, 132, 146].contains f then .n else .q, [48, 51, 97].contains f⟩
theorem hF5 : cFn Try.prog cmOf 5 = some (c_lawFA) := by kernel_rfl
theorem hF15 : cFn Try.prog cmOf 15 = some (c_sPlanFind) := by kernel_rfl
theorem hF16 : cFn Try.prog cmOf 16 = some (c_iPlanFind) := by kernel_rfl
theorem hF18 : cFn Try.prog cmOf 18 = some (c_sTypeOk) := by kernel_rfl
theorem hF21 : cFn Try.prog cmOf 21 = some (c_iPlanOk) := by kernel_rfl
theorem hF32 : cFn Try.prog cmOf 32 = some (c_drPO) := by kernel_rfl
theorem hF33 : cFn Try.prog cmOf 33 = some (c_sPlanOk) := by kernel_rfl
theorem hF35 : cFn Try.prog cmOf 35 = some (c_sPlanStep) := by kernel_rfl
theorem hF43 : cFn Try.prog cmOf 43 = some (c_iTypeOk) := by kernel_rfl
theorem hF44 : cFn Try.prog cmOf 44 = some (c_l6Open) := by kernel_rfl
theorem hF45 : cFn Try.prog cmOf 45 = some (c_pick) := by kernel_rfl
theorem hF46 : cFn Try.prog cmOf 46 = some (c_drPlan) := by kernel_rfl
theorem hF48 : cFn Try.prog cmOf 48 = some (c_drTrusts) := by kernel_rfl
theorem hF49 : cFn Try.prog cmOf 49 = some (c_sTrusts) := by kernel_rfl
theorem hF50 : cFn Try.prog cmOf 50 = some (c_sSee) := by kernel_rfl
theorem hF51 : cFn Try.prog cmOf 51 = some (c_lFind) := by kernel_rfl
theorem hF52 : cFn Try.prog cmOf 52 = some (c_iTrusts) := by kernel_rfl
theorem hF53 : cFn Try.prog cmOf 53 = some (c_iAt) := by kernel_rfl
theorem hF54 : cFn Try.prog cmOf 54 = some (c_iHomes) := by kernel_rfl
theorem hF55 : cFn Try.prog cmOf 55 = some (c_iAll) := by kernel_rfl
theorem hF56 : cFn Try.prog cmOf 56 = some (c_iDoer) := by kernel_rfl
theorem hF57 : cFn Try.prog cmOf 57 = some (c_conK) := by kernel_rfl
theorem hF58 : cFn Try.prog cmOf 58 = some (c_plClone) := by kernel_rfl
theorem hF59 : cFn Try.prog cmOf 59 = some (c_sWhy) := by kernel_rfl
theorem hF60 : cFn Try.prog cmOf 60 = some (c_sProg) := by kernel_rfl
theorem hF61 : cFn Try.prog cmOf 61 = some (c_iProg) := by kernel_rfl
theorem hF62 : cFn Try.prog cmOf 62 = some (c_iSize) := by kernel_rfl
theorem hF63 : cFn Try.prog cmOf 63 = some (c_iHostsOk) := by kernel_rfl
theorem hF64 : cFn Try.prog cmOf 64 = some (c_iHome1) := by kernel_rfl
theorem hF65 : cFn Try.prog cmOf 65 = some (c_iDoes) := by kernel_rfl
theorem hF75 : cFn Try.prog cmOf 75 = some (c_drOff) := by kernel_rfl
theorem hF76 : cFn Try.prog cmOf 76 = some (c_sHomes21) := by kernel_rfl
theorem hF77 : cFn Try.prog cmOf 77 = some (c_sProgSize) := by kernel_rfl
theorem hF78 : cFn Try.prog cmOf 78 = some (c_lHome) := by kernel_rfl
theorem hF79 : cFn Try.prog cmOf 79 = some (c_sIn) := by kernel_rfl
theorem hF80 : cFn Try.prog cmOf 80 = some (c_lStep) := by kernel_rfl
theorem hF81 : cFn Try.prog cmOf 81 = some (c_iIn) := by kernel_rfl
theorem hF82 : cFn Try.prog cmOf 82 = some (c_iHost) := by kernel_rfl
theorem hF83 : cFn Try.prog cmOf 83 = some (c_iSets) := by kernel_rfl
theorem hF85 : cFn Try.prog cmOf 85 = some (c_iVar) := by kernel_rfl
theorem hF86 : cFn Try.prog cmOf 86 = some (c_iWhy0) := by kernel_rfl
theorem hF87 : cFn Try.prog cmOf 87 = some (c_drFine) := by kernel_rfl
theorem hF88 : cFn Try.prog cmOf 88 = some (c_drProg) := by kernel_rfl
theorem hF90 : cFn Try.prog cmOf 90 = some (c_sEither) := by kernel_rfl
theorem hF91 : cFn Try.prog cmOf 91 = some (c_sSet) := by kernel_rfl
theorem hF92 : cFn Try.prog cmOf 92 = some (c_sHas) := by kernel_rfl
theorem hF93 : cFn Try.prog cmOf 93 = some (c_sAllSteps) := by kernel_rfl
theorem hF94 : cFn Try.prog cmOf 94 = some (c_sTypeAt) := by kernel_rfl
theorem hF95 : cFn Try.prog cmOf 95 = some (c_sTypeSets) := by kernel_rfl
theorem hF96 : cFn Try.prog cmOf 96 = some (c_sBy) := by kernel_rfl
theorem hF97 : cFn Try.prog cmOf 97 = some (c_lDoes) := by kernel_rfl
theorem hF98 : cFn Try.prog cmOf 98 = some (c_iSet) := by kernel_rfl
theorem hF99 : cFn Try.prog cmOf 99 = some (c_iHas) := by kernel_rfl
theorem hF100 : cFn Try.prog cmOf 100 = some (c_iLabels) := by kernel_rfl
theorem hF101 : cFn Try.prog cmOf 101 = some (c_iEvery) := by kernel_rfl
theorem hF102 : cFn Try.prog cmOf 102 = some (c_cloneI) := by kernel_rfl
theorem hF103 : cFn Try.prog cmOf 103 = some (c_ixK) := by kernel_rfl
theorem hF104 : cFn Try.prog cmOf 104 = some (c_sFine) := by kernel_rfl
theorem hF105 : cFn Try.prog cmOf 105 = some (c_sLabelOk) := by kernel_rfl
theorem hF106 : cFn Try.prog cmOf 106 = some (c_sSteps) := by kernel_rfl
theorem hF107 : cFn Try.prog cmOf 107 = some (c_sCount) := by kernel_rfl
theorem hF108 : cFn Try.prog cmOf 108 = some (c_con) := by kernel_rfl
theorem hF109 : cFn Try.prog cmOf 109 = some (c_p1) := by kernel_rfl
theorem hF110 : cFn Try.prog cmOf 110 = some (c_iLabelOk) := by kernel_rfl
theorem hF111 : cFn Try.prog cmOf 111 = some (c_iSteps) := by kernel_rfl
theorem hF112 : cFn Try.prog cmOf 112 = some (c_cfInt) := by kernel_rfl
theorem hF113 : cFn Try.prog cmOf 113 = some (c_hk1) := by kernel_rfl
theorem hF114 : cFn Try.prog cmOf 114 = some (c_iWithin) := by kernel_rfl
theorem hF115 : cFn Try.prog cmOf 115 = some (c_iBy) := by kernel_rfl
theorem hF116 : cFn Try.prog cmOf 116 = some (c_iMakes) := by kernel_rfl
theorem hF122 : cFn Try.prog cmOf 122 = some (c_sWithin) := by kernel_rfl
theorem hF123 : cFn Try.prog cmOf 123 = some (c_sVars21) := by kernel_rfl
theorem hF124 : cFn Try.prog cmOf 124 = some (c_iSource) := by kernel_rfl
theorem hF125 : cFn Try.prog cmOf 125 = some (c_iFlows) := by kernel_rfl
theorem hF126 : cFn Try.prog cmOf 126 = some (c_sWithout) := by kernel_rfl
theorem hF127 : cFn Try.prog cmOf 127 = some (c_drLabel) := by kernel_rfl
theorem hF128 : cFn Try.prog cmOf 128 = some (c_drSteps) := by kernel_rfl
theorem hF130 : cFn Try.prog cmOf 130 = some (c_sBoth) := by kernel_rfl
theorem hF131 : cFn Try.prog cmOf 131 = some (c_sAll) := by kernel_rfl
theorem hF132 : cFn Try.prog cmOf 132 = some (c_sAt) := by kernel_rfl
theorem hF133 : cFn Try.prog cmOf 133 = some (c_sAny) := by kernel_rfl
theorem hF134 : cFn Try.prog cmOf 134 = some (c_sSets) := by kernel_rfl
theorem hF135 : cFn Try.prog cmOf 135 = some (c_iBoth) := by kernel_rfl
theorem hF136 : cFn Try.prog cmOf 136 = some (c_sFlows) := by kernel_rfl
theorem hF137 : cFn Try.prog cmOf 137 = some (c_sLBoth) := by kernel_rfl
theorem hF138 : cFn Try.prog cmOf 138 = some (c_sValL) := by kernel_rfl
theorem hF139 : cFn Try.prog cmOf 139 = some (c_sStep) := by kernel_rfl
theorem hF140 : cFn Try.prog cmOf 140 = some (c_idx) := by kernel_rfl
theorem hF141 : cFn Try.prog cmOf 141 = some (c_iVal) := by kernel_rfl
theorem hF142 : cFn Try.prog cmOf 142 = some (c_ifInt) := by kernel_rfl
theorem hF143 : cFn Try.prog cmOf 143 = some (c_vars) := by kernel_rfl
theorem hF146 : cFn Try.prog cmOf 146 = some (c_drVal) := by kernel_rfl
theorem hF147 : cFn Try.prog cmOf 147 = some (c_sVar) := by kernel_rfl
theorem hF148 : cFn Try.prog cmOf 148 = some (c_sVal) := by kernel_rfl
theorem hF149 : cFn Try.prog cmOf 149 = some (c_iNum) := by kernel_rfl
theorem hF (g : Nat) (fn : IFn) (h : fnOf g = some fn) : cFn Try.prog cmOf g = some fn := by
  unfold fnOf at h
  split at h
  · rw [← h]; exact hF5
  · rw [← h]; exact hF15
  · rw [← h]; exact hF16
  · rw [← h]; exact hF18
  · rw [← h]; exact hF21
  · rw [← h]; exact hF32
  · rw [← h]; exact hF33
  · rw [← h]; exact hF35
  · rw [← h]; exact hF43
  · rw [← h]; exact hF44
  · rw [← h]; exact hF45
  · rw [← h]; exact hF46
  · rw [← h]; exact hF48
  · rw [← h]; exact hF49
  · rw [← h]; exact hF50
  · rw [← h]; exact hF51
  · rw [← h]; exact hF52
  · rw [← h]; exact hF53
  · rw [← h]; exact hF54
  · rw [← h]; exact hF55
  · rw [← h]; exact hF56
  · rw [← h]; exact hF57
  · rw [← h]; exact hF58
  · rw [← h]; exact hF59
  · rw [← h]; exact hF60
  · rw [← h]; exact hF61
  · rw [← h]; exact hF62
  · rw [← h]; exact hF63
  · rw [← h]; exact hF64
  · rw [← h]; exact hF65
  · rw [← h]; exact hF75
  · rw [← h]; exact hF76
  · rw [← h]; exact hF77
  · rw [← h]; exact hF78
  · rw [← h]; exact hF79
  · rw [← h]; exact hF80
  · rw [← h]; exact hF81
  · rw [← h]; exact hF82
  · rw [← h]; exact hF83
  · rw [← h]; exact hF85
  · rw [← h]; exact hF86
  · rw [← h]; exact hF87
  · rw [← h]; exact hF88
  · rw [← h]; exact hF90
  · rw [← h]; exact hF91
  · rw [← h]; exact hF92
  · rw [← h]; exact hF93
  · rw [← h]; exact hF94
  · rw [← h]; exact hF95
  · rw [← h]; exact hF96
  · rw [← h]; exact hF97
  · rw [← h]; exact hF98
  · rw [← h]; exact hF99
  · rw [← h]; exact hF100
  · rw [← h]; exact hF101
  · rw [← h]; exact hF102
  · rw [← h]; exact hF103
  · rw [← h]; exact hF104
  · rw [← h]; exact hF105
  · rw [← h]; exact hF106
  · rw [← h]; exact hF107
  · rw [← h]; exact hF108
  · rw [← h]; exact hF109
  · rw [← h]; exact hF110
  · rw [← h]; exact hF111
  · rw [← h]; exact hF112
  · rw [← h]; exact hF113
  · rw [← h]; exact hF114
  · rw [← h]; exact hF115
  · rw [← h]; exact hF116
  · rw [← h]; exact hF122
  · rw [← h]; exact hF123
  · rw [← h]; exact hF124
  · rw [← h]; exact hF125
  · rw [← h]; exact hF126
  · rw [← h]; exact hF127
  · rw [← h]; exact hF128
  · rw [← h]; exact hF130
  · rw [← h]; exact hF131
  · rw [← h]; exact hF132
  · rw [← h]; exact hF133
  · rw [← h]; exact hF134
  · rw [← h]; exact hF135
  · rw [← h]; exact hF136
  · rw [← h]; exact hF137
  · rw [← h]; exact hF138
  · rw [← h]; exact hF139
  · rw [← h]; exact hF140
  · rw [← h]; exact hF141
  · rw [← h]; exact hF142
  · rw [← h]; exact hF143
  · rw [← h]; exact hF146
  · rw [← h]; exact hF147
  · rw [← h]; exact hF148
  · rw [← h]; exact hF149
  · cases h
theorem hMixed : Try.prog.follows .mixedOrders = true := by kernel_rfl
theorem ok_iIn : ∀ (H : Heap) (a b c : Int), QC fnOf 81 [.int .i64 a, .int .i64 b, .int .i64 c] H (.bool (inB a b c)) := iIn_ok rfl
theorem ok_sIn : ∀ (H : Heap) (a b c : Int), QC fnOf 79 [.int .i64 a, .int .i64 b, .int .i64 c] H (.bool (inB a b c)) := sIn_ok rfl
theorem ok_iSet : ∀ (H : Heap) (a : Int), QC fnOf 98 [.int .i64 a] H (.bool (inB a 0 7)) := iSet_ok rfl ok_iIn
theorem ok_iHost : ∀ (H : Heap) (a : Int), QC fnOf 82 [.int .i64 a] H (.bool (inB a 0 2)) := iHost_ok rfl ok_iIn
theorem ok_iNum : ∀ (H : Heap) (a : Int), QC fnOf 149 [.int .i64 a] H (.bool (inB a 0 9)) := iNum_ok rfl ok_iIn
theorem ok_sAll : ∀ H, QC fnOf 131 [] H (.int .i64 7) := sAll_ok rfl
theorem ok_sSet : ∀ (H : Heap) (a : Int), QC fnOf 91 [.int .i64 a] H (.bool (inB a 0 7)) := sSet_ok rfl ok_sIn ok_sAll
theorem ok_iLabelOk : LabOk fnOf 110 := iLabelOk_ok rfl ok_iSet
theorem ok_sLabelOk : LabOk fnOf 105 := sLabelOk_ok rfl ok_sSet
theorem ok_iVar : VarOk fnOf 85 := iVar_ok rfl ok_iIn
theorem ok_sVar : VarOk fnOf 147 := sVar_ok rfl ok_sIn
theorem ok_iVal : ValOk fnOf 141 := iVal_ok rfl ok_iNum ok_iVar
theorem ok_sVal : ValOk fnOf 148 := sVal_ok rfl ok_sIn ok_sVar
theorem ok_sSteps : ∀ n, StepsOk fnOf 106 n := fun n => (sSteps_all rfl rfl ok_sIn ok_sVar ok_sVal n).1
theorem ok_iSteps : ∀ n, StepsOk fnOf 111 n := iSteps_all rfl ok_iVar ok_iVal ok_iHost
theorem ok_sCount : ∀ n, CntOk fnOf 107 n := cnt_all (fun _ h => sCount_ok rfl h) (sCount_z rfl)
theorem ok_iSize : ∀ n, CntOk fnOf 62 n := cnt_all (fun _ h => iSize_ok rfl h) (iSize_z rfl)
theorem ok_sProg : ProgOk fnOf 60 := sProg_ok rfl ok_sLabelOk ok_sSteps ok_sCount
theorem ok_iProg : ProgOk fnOf 61 := iProg_ok rfl (con_ok rfl (idx_ok rfl (p1_ok rfl ok_iLabelOk))) ok_iSteps ok_iSize
theorem ok_sHas : HasOk fnOf 92 := sHas_ok rfl
theorem ok_sWit : WitOk fnOf 122 := sWithin_ok rfl ok_sHas
theorem ok_sBoth : BothOk fnOf 130 := sBoth_ok rfl ok_sHas
theorem ok_sLBoth : LBothOk fnOf 137 := sLBoth_ok rfl ok_sLabelOk ok_sBoth
theorem ok_sFlows : FlowsOk fnOf 136 := sFlows_ok rfl ok_sLabelOk ok_sWit
theorem ok_sAny : ∀ H, QC fnOf 133 [] H (.agg #[.int .i64 7, .int .i64 7]) := sAny_ok rfl ok_sAll
theorem ok_sFine : FineOk fnOf 104 := sFine_ok rfl (sValL_ok rfl ok_sAny ok_sLBoth) ok_sLBoth ok_sFlows ok_sBoth ok_sHas
theorem ok_sAllSteps : ∀ n, AllOk fnOf 93 n := sAllSteps_all rfl
theorem ok_sAt : ∀ n, AtOk fnOf 132 n := sAt_all rfl ok_sLBoth
theorem ok_sTypeAt : TypeAtOk fnOf 94 := sTypeAt_ok rfl ok_sProg ok_sAny ok_sAt
theorem ok_sWhy : WhyOk fnOf 59 := sWhy_ok rfl ok_sProg ok_sAllSteps ok_sTypeAt ok_sFine
theorem ok_sWithout : ∀ n, WoOk fnOf 126 n := sWithout_all rfl ok_sCount
theorem ok_drProg {H0 : Heap} {rb : Nat} {bv : Value} {code : List Int} (hc : RdC H0 rb bv code) : DrawS fnOf H0 rb bv 88 [] 40000 (ProgQ 3) := drProg_ok rfl rfl rfl rfl rfl ok_sProg hc
theorem ok_drFine {H0 : Heap} {rb : Nat} {bv : Value} {code : List Int} (hc : RdC H0 rb bv code) : DrawS fnOf H0 rb bv 87 [] 40000 (ProgQ 3) := drFine_ok rfl hc (ok_drProg hc) ok_sWhy ok_sWithout
theorem ok_iHas : HasOk fnOf 99 := iHas_ok rfl ok_iHost
theorem ok_iWit : WitOk fnOf 114 := iWithin_ok rfl
theorem ok_iBoth : ILBoth fnOf 135 := iBoth_ok rfl
theorem ok_iAt : AtP fnOf 53 := iAt_ok rfl (iLabels_all rfl ok_iBoth) (iEvery_ok rfl)
theorem ok_iWhy0 : WhyI fnOf 86 := iWhy0_ok rfl ok_iAt (iAll_all rfl) (iSource_ok rfl rfl ok_iBoth) (iFlows_ok rfl ok_iWit) ok_iHas
theorem ok_iTypeOk : TypeP fnOf 43 := iTypeOk_ok rfl ok_iProg ok_iWhy0
theorem ok_iTrusts : TrOk fnOf 52 := iTrusts_ok rfl ok_iSet ok_iHas
theorem ok_iBy : ByOk fnOf 115 := iBy_ok rfl ok_iHas
theorem ok_cloneI : CloneI fnOf 102 := cloneI_ok rfl
theorem ok_iDoes : DoesOk fnOf 65 := iDoes_ok rfl ok_iHas ok_iWit ok_iBy (iSets_all rfl) (iMakes_ok rfl rfl)
theorem ok_iHome1 : HomeI fnOf 64 := iHome1_ok rfl ok_iHas ok_iWit ok_iBy
theorem ok_sTrusts : TrOk fnOf 49 := sTrusts_ok rfl ok_sSet ok_sHas
theorem ok_sBy : ByOk fnOf 96 := sBy_ok rfl ok_sHas
theorem ok_sWhyV : WhyV fnOf 59 := sWhyV_ok rfl ok_sProg ok_sAllSteps ok_sTypeAt ok_sFine
theorem ok_sTypeOk : TypeP fnOf 18 := sTypeOk_ok rfl ok_sWhyV ok_sProg
theorem ok_sAllA : ∀ n, AllA fnOf 93 n := sAllA_all rfl
theorem ok_sTypeSets : SetsOk fnOf 95 := sTypeSets_ok rfl ok_sProg ok_sAllA (sSets_all rfl (sEither_ok rfl ok_sBoth))
theorem ok_sSee : SeeOk fnOf 50 := sSee_ok rfl ok_sAllA ok_sTypeAt ok_sTypeSets ok_sBy
theorem ok_lHome : LHome fnOf 78 := lHome_ok rfl ok_sHas ok_sWit
theorem ok_lStep : LStep fnOf 80 := lStep_ok rfl ok_sHas ok_sWit (sVars21_ok rfl)
theorem ok_iHostsOk : HostsI fnOf 63 := iHostsOk_ok rfl rfl rfl rfl ok_iHost
theorem ok_iPlanOk : PlanOkV fnOf 21 := iPlanOk_ok rfl ok_iTypeOk ok_iTrusts ok_iHostsOk ok_iSize ok_iHome1 ok_iAt (iAll_all rfl) ok_iDoes
theorem ok_sProgSize : SizeV fnOf 77 := sProgSizeV_ok rfl ok_sProg ok_sCount
theorem ok_sHomes21 : Homes21 fnOf 76 := sHomes21_ok rfl ok_sIn
theorem ok_sPlanStep : StepV fnOf 35 := sPlanStep_ok rfl ok_sProg ok_sTrusts ok_sHomes21 ok_sProgSize ok_sIn ok_sSee ok_lStep
theorem ok_sPlanOk : PlanOkV fnOf 33 := sPlanOk_ok rfl ok_sTypeOk ok_sTrusts ok_sHomes21 ok_sProgSize ok_sIn ok_sSee ok_lHome ok_lStep
theorem ok_iPlanFind : FindI fnOf 16 := iPlanFind_ok rfl ok_iTypeOk ok_iTrusts ok_iAt (iHomes_ok rfl ok_iHome1 ok_cloneI) (iAll_all rfl) (iDoer_ok rfl ok_iDoes) (conK_ok rfl rfl) (plClone_ok rfl ok_cloneI)
theorem ok_drTrusts {H0 : Heap} {rb : Nat} {bv : Value} {code : List Int} (hc : RdC H0 rb bv code) : DrawS fnOf H0 rb bv 48 [] 10 TrQ := drTrusts_ok rfl rfl (sEither_ok rfl ok_sBoth) hc
theorem ok_lDoes : LDoes fnOf 97 := lDoes_ok rfl ok_lStep
theorem ok_lFind : ∀ m, LFind fnOf 51 m := lFind_all rfl ok_lHome ok_lDoes
theorem ok_sPlanFind : FindS fnOf 15 := sPlanFind_ok rfl ok_sTypeOk ok_sTrusts ok_sSee ok_lFind
theorem ok_drPlan {H0 : Heap} {rb : Nat} {bv : Value} {code : List Int} (hc : RdC H0 rb bv code) : DrawS fnOf H0 rb bv 46 [] 370000 PlanQ := drPlan_ok rfl rfl hc (ok_drFine hc) (ok_drTrusts hc) ok_sPlanFind ok_sProgSize ok_sPlanStep
theorem ok_drOff {H0 : Heap} {rb : Nat} {bv : Value} {code : List Int} (hc : RdC H0 rb bv code) : DrawS fnOf H0 rb bv 75 [] 370020 OffQ := drOff_ok rfl rfl hc (ok_drPlan hc) (ok_drTrusts hc)
theorem ok_drPO : DrawPl fnOf 32 := drPO_ok rfl rfl ok_drOff
theorem ok_lawFA : LawB fnOf 5 := lawFA_ok rfl ok_drPO ok_iPlanOk ok_sPlanOk ok_iPlanFind
end Go.Proofs.YtbjeldblaclpnaaI
end
section
/- Laws of lists of bytes, called in the model. -/
set_option linter.unusedVariables false
set_option linter.unusedSimpArgs false
namespace Go.Proofs.YtbjeldblaclpnaaI
open Go Go.RowKit
theorem Good.byte {w : World} {n : Int} (h : (Lit.int .u8 n).wf = true) : Good Co.byte w [.int .u8 n] := fun H m s =>
  ⟨n, [], m, [.int .u8 n], by simpa using s, sub_refl m, ⟨rfl, by simpa [Lit.wf, IntKind.min, IntKind.max, IntKind.signed, IntKind.bits] using h⟩, All2.cons (.inl rfl) All2.nil⟩
theorem good_5 {T : Type} {enc : TypeId × Value → T} {w : World} {spare : Nat → Bool} {held : Bool} {n : Nat} {cs : List Value} {x : DataW T × List MemPlace} (h : DataW.trod enc Try.prog w 0 spare held n 5 cs = some x) : Good Co.byte w cs := by
  obtain ⟨m, rfl, _, hw⟩ := DataW.trod_int Try.underlying5 h
  exact Good.byte hw
theorem good_22 {T : Type} {enc : TypeId × Value → T} {w : World} {spare : Nat → Bool} {held : Bool} {n : Nat} {cs : List Value} {x : DataW T × List MemPlace} (h : DataW.trod enc Try.prog w 0 spare held n 22 cs = some x) : Good (Co.sl Co.byte) w cs :=
  Good.sl Try.underlying22 (by kernel_rfl) (by decide) h fun _ _ _ _ h => good_5 h
theorem lawB_calls {n : Nat} (hl : LawB fnOf n) {W : World} {a : Option Addr} {l c : Nat} (g0 : Good (Co.sl Co.byte) W [.slice a l c]) :
    Calls Try.prog n #[.slice a l c] W fun e w' => e = .returned (.bool true) ∧ Below W.heap.size W w' := by
  obtain ⟨ts, L2, m2, cs1, s2, q2, r2, e2⟩ := g0 [] (fun _ => none) (SL.none _)
  obtain ⟨u, rfl, hu⟩ := r2
  exact law_core hF hMixed s2 (vals := [u]) (All2.cons (VR.one_mk e2) All2.nil) (hl _ u ts hu)
end Go.Proofs.YtbjeldblaclpnaaI
end
