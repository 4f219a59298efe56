/- Texts of this proof, merged: K4, K5, H1, H2, H3, H4, H5, H6, H7, H8, H9, H10, H11, H12, H13, H14, H14B, K6, K7, K8, K9, K10, K11, K12, K13, K14. -/
import Derived.Test.YtiekbdijpfnagaaPw8
import Derived.Test.YtiekbdijpfnagaaPw9
section
/- The first host that may do a step; plans copied; numbers found (the program's). -/
set_option linter.unusedVariables false
set_option linter.unusedSimpArgs false
namespace Go.Proofs.YtiekbdijpfnagaaI
open Go Go.RowKit
def c_iDoer : IFn := ⟨5, 24, [.t 10],
 .seq (.reg none [
    ⟨(some 5), none, .box (.t 0)⟩,
    ⟨(some 8), none, .box (.t 3)⟩,
    ⟨(some 9), none, .box (.t 4)⟩,
    ⟨(some 10), none, .mov (.c (.int .i64 0))⟩])
 (.seq (.seq (.reg none [
     ⟨(some 12), none, .mov (.c (.int .i64 0))⟩])
  (.block 0 (.loop (.seq (.reg none [
       ⟨(some 13), none, .bin .lss (.t 12) (.c (.int .i64 3))⟩])
    (.seq (.cond (.t 13) (.skip) (.exit 0))
    (.seq (.block 1 (.seq (.reg none [
         ⟨(some 14), none, .mov (.t 12)⟩,
         ⟨(some 11), none, .mov (.t 14)⟩])
      (.seq (.reg none [
         ⟨(some 15), none, .load true 2 (.t 5)⟩,
         ⟨(some 16), none, .mov (.t 1)⟩,
         ⟨(some 17), none, .mov (.t 2)⟩,
         ⟨(some 18), none, .load true 8 (.t 8)⟩,
         ⟨(some 19), none, .load true 2 (.t 9)⟩,
         ⟨(some 20), none, .mov (.t 11)⟩,
         ⟨(some 21), none, .call .q (.f 62) [(.t 15), (.t 16), (.t 17), (.t 18), (.t 19), (.t 20)]⟩])
      (.cond (.t 21) (.seq (.reg none [
          ⟨(some 22), none, .mov (.t 11)⟩,
          ⟨(some 10), none, .mov (.t 22)⟩])
       (.ret)) (.skip)))))
    (.reg none [
      ⟨(some 23), none, .bin .add (.t 12) (.c (.int .i64 1))⟩,
      ⟨(some 12), none, .mov (.t 23)⟩])))))))
 (.seq (.reg none [
    ⟨(some 10), none, .mov (.c (.int .i64 (-1)))⟩])
 (.ret)))⟩
def c_cfInt : IFn := ⟨2, 9, [.t 4],
 .seq (.reg none [
    ⟨(some 4), none, .mov (.c (.bool false))⟩])
 (.seq (.reg none [
    ⟨(some 5), none, .mov (.t 0)⟩,
    ⟨(some 6), none, .mov (.t 1)⟩,
    ⟨(some 7), none, .call .q (.f 132) [(.t 5), (.t 6)]⟩,
    ⟨(some 8), none, .bin .geq (.t 7) (.c (.int .i64 0))⟩,
    ⟨(some 4), none, .mov (.t 8)⟩])
 (.ret))⟩
def c_ifInt : IFn := ⟨2, 19, [.t 4],
 .seq (.reg none [
    ⟨(some 4), none, .mov (.c (.int .i64 0))⟩])
 (.seq (.seq (.reg none [
     ⟨(some 6), none, .mov (.t 0)⟩,
     ⟨(some 7), none, .len (.t 6)⟩,
     ⟨(some 8), none, .mov (.c (.int .i64 0))⟩])
  (.block 0 (.loop (.seq (.reg none [
       ⟨(some 9), none, .bin .lss (.t 8) (.t 7)⟩])
    (.seq (.cond (.t 9) (.skip) (.exit 0))
    (.seq (.block 1 (.seq (.reg none [
         ⟨(some 10), none, .mov (.t 8)⟩,
         ⟨(some 5), none, .mov (.t 10)⟩])
      (.seq (.reg none [
         ⟨(some 11), none, .mov (.t 1)⟩,
         ⟨(some 12), none, .mov (.t 0)⟩,
         ⟨(some 13), none, .mov (.t 5)⟩,
         ⟨(some 14), none, .iad 1 (.t 12) (.t 13)⟩,
         ⟨(some 15), none, .load false 1 (.t 14)⟩,
         ⟨(some 16), none, .call .q (.t 11) [(.t 15)]⟩])
      (.cond (.t 16) (.seq (.reg none [
          ⟨(some 17), none, .mov (.t 5)⟩,
          ⟨(some 4), none, .mov (.t 17)⟩])
       (.ret)) (.skip)))))
    (.reg none [
      ⟨(some 18), none, .bin .add (.t 8) (.c (.int .i64 1))⟩,
      ⟨(some 8), none, .mov (.t 18)⟩])))))))
 (.seq (.reg none [
    ⟨(some 4), none, .mov (.c (.int .i64 (-1)))⟩])
 (.ret)))⟩
/-- The first host, -1 for none. -/
def firstH (P : Int → Bool) : Int := if P 0 = true then 0 else if P 1 = true then 1 else if P 2 = true then 2 else -1
def doerV (ls : List (Int × Int)) (ts homes : List Int) (s : Shal) (st : Int) (own : Int × Int) : Int := firstH (doesB ls ts homes s st own)
def DoerI (F : Nat → Option IFn) (f : Nat) : Prop := ∀ (H : Heap) (lv sv tw hw : Value) (cs : List Value) (ls : List (Int × Int)) (ts homes : List Int) (s : AnyS) (own : Int × Int), one sv = true → SlR Co.p2 (vw 0 H) lv ls → ls.all labB = true → SlR Co.int (vw 0 H) tw ts → trP ts → SlR Co.int (vw 0 H) hw homes → homesP ls.length homes → Co.anyS.rd (vw 0 H) cs s → okA ls.length s → labB own = true →
  QC F f [.agg #[lv, sv], tw, hw, .agg cs.toArray, .agg #[.int .i64 own.1, .int .i64 own.2]] H (.int .i64 (doerV ls ts homes (shA s) (stA ls s) own))
theorem iDoer_ok {F : Nat → Option IFn} {f : Nat} (hf : F f = some c_iDoer) (gd : DoesOk F 62) : DoerI F f := by
  intro H lv sv tw hw cs ls ts homes s own osv r1 hlab r2 htr r3 hho rds hok hown
  obtain ⟨_, la, rfl, _⟩ := id r1
  obtain ⟨_, ta, rfl, _⟩ := id r2
  obtain ⟨_, ha, rfl, _⟩ := id r3
  obtain ⟨sk, sx, sa, sbb, sc, sg, tv, ev, tl, el, hs2, rfl, rg, otv, oev, htl, hel⟩ := anyS_rd rds
  refine QC.mk hf rfl ?_
  refine seq_reg ?_
  simp only [go_sem, binC, osv, otv, oev]
  refine wpc_gen fun H1 hH1 => ?_
  have hx1 : AgX [] H H1 := hH1 ▸ AgX.app [] _ _
  have hb5 : H1[H.length]? = some ⟨[.slice la ls.length ls.length, sv], 0, 0, false, true⟩ := hH1 ▸ get_new0 _ _
  have hb8 : H1[H.length + 1]? = some ⟨[.int .i64 sk, .int .i64 sx, .int .i64 sa, .int .i64 sbb, .int .i64 sc, .int .i64 sg, tv, ev], 0, 0, false, true⟩ := hH1 ▸ get_new _ _ 1
  have hb9 : H1[H.length + 2]? = some ⟨[.int .i64 own.1, .int .i64 own.2], 0, 0, false, true⟩ := hH1 ▸ get_new _ _ 2
  clear hH1
  have hdo : ∀ h : Int, 0 ≤ h → h ≤ 2 → QC F 62 [.agg #[.slice la ls.length ls.length, sv], .slice ta ts.length ts.length, .slice ha homes.length homes.length, .agg #[.int .i64 sk, .int .i64 sx, .int .i64 sa, .int .i64 sbb, .int .i64 sc, .int .i64 sg, tv, ev], .agg #[.int .i64 own.1, .int .i64 own.2], .int .i64 h] H1 (.bool (doesB ls ts homes (shA s) (stA ls s) own h)) := fun h h1 h2 =>
    gd H1 _ sv _ _ [.int .i64 sk, .int .i64 sx, .int .i64 sa, .int .i64 sbb, .int .i64 sc, .int .i64 sg, tv, ev] ls ts homes s own h osv (r1.mono (agx_sub hx1)) hlab (r2.mono (agx_sub hx1)) htr (r3.mono (agx_sub hx1)) hho ((Co.step (s.1 + 1)).mono (agx_sub hx1) rds) hok hown h1 h2
  unfold doerV
  generalize doesB ls ts homes (shA s) (stA ls s) own = P at *
  refine seq_assoc (seq_reg ?_)
  simp only [go_sem, binC]
  refine seq_block (wpc_loop ?_)
  suffices hh : ∀ (m i : Nat) (e : Env), i + m = 3 → (∀ j : Nat, j < i → P j = false) → e 1 = .slice ta ts.length ts.length → e 2 = .slice ha homes.length homes.length → e 5 = ptr H.length 0 → e 8 = ptr (H.length + 1) 0 → e 9 = ptr (H.length + 2) 0 → e 12 = .int .i64 i → W F H.length _ e H1 _ from
    hh 3 0 _ rfl (fun j h => by omega) (by simp only [go_sem, binC]) (by simp only [go_sem, binC]) (by simp only [go_sem, binC]) (by simp only [go_sem, binC]) (by simp only [go_sem, binC]) (by (simp only [go_sem, binC]) <;> rfl)
  intro m
  induction m with
  | zero =>
    intro i e hi hP e1 e2 e5 e8 e9 e12
    obtain rfl : i = 3 := by omega
    have hd3 : decide (((3 : Nat) : Int) < 3) = false := rfl
    refine lp_step ?_
    refine seq_reg ?_
    simp only [go_sem, binC, e12, hd3]
    refine seq_cond (t := false) (by simp only [go_sem, binC]) ?_
    simp only [go_sem, binC]
    refine seq_exit ?_
    simp only [go_sem, binC, thenX_e, out_e, thenX_n]
    refine seq_reg ?_
    simp only [go_sem, binC]
    refine wpc_ret ⟨Or.inr rfl, .int .i64 (-1), (by (simp only [go_sem, binC]) <;> rfl), ?_, rfl⟩
    have p0 := hP 0 (by omega)
    have p1 := hP 1 (by omega)
    have p2 := hP 2 (by omega)
    simp only [Int.natCast_zero, Int.natCast_one] at p0 p1
    unfold firstH
    rw [p0, p1, show P 2 = false from p2]
    rfl
  | succ m ih =>
    intro i e hi hP e1 e2 e5 e8 e9 e12
    have hdi : decide ((i : Int) < 3) = true := decide_eq_true (by omega)
    have hw1 : IntKind.i64.wrap ((i : Int) + 1) = ((i + 1 : Nat) : Int) := by rw [wrap_id (by omega) (by omega)]; omega
    refine lp_step ?_
    refine seq_reg ?_
    simp only [go_sem, binC, e12, hdi]
    refine seq_cond (t := true) (by simp only [go_sem, binC]) ?_
    simp only [go_sem, binC]
    refine seq_skip (seq_block (seq_reg ?_))
    simp only [go_sem, binC, e12]
    refine seq_reg ?_
    simp only [go_sem, binC, e1, e2, e5, e8, e9, gc_of hb5, gc_of hb8, gc_of hb9, inBlk_some, osv, otv, oev]
    refine op_callQ (by simp only [go_sem, binC, e1, e2]; exact hdo i (by omega) (by omega)) ?_
    cases hp : P i with
    | true =>
      simp only [go_sem, binC]
      refine wpc_cond (t := true) rfl ?_
      simp only [go_sem, binC]
      refine seq_reg ?_
      simp only [go_sem, binC]
      refine wpc_ret ?_
      simp only [go_sem, binC, out_r, thenX_r]
      refine ⟨Or.inr rfl, .int .i64 i, (by (simp only [go_sem, binC]) <;> rfl), ?_, rfl⟩
      have hi3 : i = 0 ∨ i = 1 ∨ i = 2 := by omega
      unfold firstH
      rcases hi3 with rfl | rfl | rfl
      · rw [if_pos (by simpa using hp)]; rfl
      · have p0 := hP 0 (by omega)
        simp only [Int.natCast_zero] at p0
        rw [if_neg (by rw [p0]; simp), if_pos (by simpa using hp)]; rfl
      · have p0 := hP 0 (by omega)
        have p1 := hP 1 (by omega)
        simp only [Int.natCast_zero, Int.natCast_one] at p0 p1
        rw [if_neg (by rw [p0]; simp), if_neg (by rw [p1]; simp), if_pos (show P 2 = true from hp)]; rfl
    | false =>
      simp only [go_sem, binC]
      refine wpc_cond (t := false) rfl ?_
      simp only [go_sem, binC]
      refine wpc_skip ?_
      simp only [go_sem, binC, out_n, thenX_n]
      refine wpc_reg ?_
      simp only [go_sem, binC, e12, hw1]
      simp only [go_sem, binC, thenX_n]
      refine ih (i + 1) _ (by omega) (fun j hj => ?_) (by simp only [go_sem, binC, e1]) (by simp only [go_sem, binC, e2]) (by simp only [go_sem, binC, e5]) (by simp only [go_sem, binC, e8]) (by simp only [go_sem, binC, e9]) (by simp only [go_sem, binC])
      by_cases hji : j = i
      · subst hji; exact hp
      · exact hP j (by omega)
/-! ### Plans copied -/
/-- Three lists of numbers, each in a block of its own that may be written. -/
structure PlanOwn (lo : Nat) (H : Heap) (tv hv dv : Value) (ts homes does : List Int) : Prop where
  t : ∀ V, LsV V Co.int 1 3 lo H tv ts
  h : ∀ V, LsV V Co.int 1 3 lo H hv homes
  d : ∀ V, LsV V Co.int 1 3 lo H dv does
  st : SoloV H tv
  sh : SoloV H hv
  sd : SoloV H dv
  th : ∀ b, b ∈ blkOf tv → b ∉ blkOf hv ∧ b ∉ blkOf dv
  hd : ∀ b, b ∈ blkOf hv → b ∉ blkOf dv
theorem SoloV.keep {H H' : Heap} {v : Value} {xs : List Nat} (h : SoloV H v) (hx : AgX xs H H') (hn : ∀ b, b ∈ blkOf v → b ∉ xs) : SoloV H' v := fun b hb => let ⟨cs, es, et, ap, h1⟩ := h b hb; ⟨cs, es, et, ap, hx.get h1 (hn b hb)⟩
/-! ### Numbers found -/
/-! ### Hosts told -/
def trK (ts : List Int) : Bool := decide (ts.length = 3) && (List.range 3).all fun i => inB (ts.getD i 0) 0 7 && hasB (ts.getD i 0) (i : Int)
theorem trK_iff {ts : List Int} : trK ts = true ↔ trP ts := by
  unfold trK trP
  simp only [Bool.and_eq_true, decide_eq_true_eq, List.all_eq_true, List.mem_range]
  refine and_congr_right fun hl => ⟨fun h i hi => ?_, fun h i hi => ?_⟩
  · have := h i (by omega)
    rwa [List.getD_eq_getElem?_getD, List.getElem?_eq_getElem hi] at this
  · rw [List.getD_eq_getElem?_getD, List.getElem?_eq_getElem (by omega)]
    exact h i (by omega)
theorem TrOk.k {F : Nat → Option IFn} {f : Nat} (h : TrOk F f) : ∀ (H : Heap) (u : Value) (ts : List Int), SlR Co.int (vw 0 H) u ts → QC F f [u] H (.bool (trK ts)) := by
  intro H u ts hu
  obtain ⟨b, h1, h2⟩ := h H u ts hu
  have : b = trK ts := by rw [Bool.eq_iff_iff, h2, trK_iff]
  exact this ▸ h1
end Go.Proofs.YtiekbdijpfnagaaI
end
section
/- The first plan (the program's). -/
set_option linter.unusedVariables false
set_option linter.unusedSimpArgs false
namespace Go.Proofs.YtiekbdijpfnagaaI
open Go Go.RowKit
theorem allS_sub : ∀ (n : Nat) (s : TStep n), ∀ a ∈ allS n s, ∀ t ∈ allT (a.1 + 1) a.2, t ∈ allT n s
  | 0, s => s.elim
  | n + 1, (k, x, v, h, th, el) => by
    intro a ha t ht
    have go : ∀ l : List (TStep n), a ∈ allSL n l → t ∈ allL n l := fun l hl => by
      unfold allSL at hl
      simp only [List.mem_flatten, List.mem_map] at hl
      obtain ⟨_, ⟨s, hs, rfl⟩, h2⟩ := hl
      unfold allL
      simp only [List.mem_flatten, List.mem_map]
      exact ⟨_, ⟨s, hs, rfl⟩, allS_sub n s a h2 t ht⟩
    rw [allS_succ, List.mem_cons, List.mem_append] at ha
    rcases ha with rfl | h | h
    · exact ht
    · rw [allT_succ]
      exact List.mem_cons_of_mem _ (List.mem_append_left _ (go _ h))
    · rw [allT_succ]
      exact List.mem_cons_of_mem _ (List.mem_append_right _ (go _ h))
theorem allSL_sub {n : Nat} {l : List (TStep n)} {a : AnyS} (ha : a ∈ allSL n l) : ∀ t ∈ allT (a.1 + 1) a.2, t ∈ allL n l := fun t ht => by
  unfold allSL at ha
  simp only [List.mem_flatten, List.mem_map] at ha
  obtain ⟨_, ⟨s, hs, rfl⟩, h2⟩ := ha
  unfold allL
  simp only [List.mem_flatten, List.mem_map]
  exact ⟨_, ⟨s, hs, rfl⟩, allS_sub n s a h2 t ht⟩
theorem shB_var {k : Nat} {t : Shal} (h : shB k t = true) : varB k t.2.1 = true := by
  simp only [shB, Bool.and_eq_true] at h
  exact h.1
theorem progB_okA {n : Nat} {ls : List (Int × Int)} {l : List (TStep n)} (h : progB n (ls, l) = true) {a : AnyS} (ha : a ∈ allSL n l) : okA ls.length a := by
  have hs := progB_sh h
  refine ⟨hs _ ?_, fun t ht => shB_var (hs t (allSL_sub ha t ht))⟩
  show shA a ∈ allL n l
  rw [← allSL_sh]
  exact List.mem_map_of_mem ha
theorem PlanOwn.keep {lo lo' : Nat} {H H' : Heap} {tv hv dv : Value} {ts homes does : List Int} {xs : List Nat} (h : PlanOwn lo H tv hv dv ts homes does) (hl : lo' ≤ lo) (hx : AgX xs H H') (hn : ∀ b, lo ≤ b → b ∉ xs) : PlanOwn lo' H' tv hv dv ts homes does :=
  ⟨fun V => (h.t V).keep hl hx (fun b hb => hn b ((h.t V).blk hb).1), fun V => (h.h V).keep hl hx (fun b hb => hn b ((h.h V).blk hb).1), fun V => (h.d V).keep hl hx (fun b hb => hn b ((h.d V).blk hb).1), h.st.keep hx (fun b hb => hn b ((h.t (fun _ => none)).blk hb).1), h.sh.keep hx (fun b hb => hn b ((h.h (fun _ => none)).blk hb).1), h.sd.keep hx (fun b hb => hn b ((h.d (fun _ => none)).blk hb).1), h.th, h.hd⟩
theorem progB_len {n : Nat} {ls : List (Int × Int)} {l : List (TStep n)} (h : progB n (ls, l) = true) : ls.length ≤ 4 := by
  have := h
  unfold progB at this
  simp only [Bool.and_eq_true, decide_eq_true_eq] at this
  omega
end Go.Proofs.YtiekbdijpfnagaaI
end
section
/- Trees of steps in blocks of one's own. -/
set_option linter.unusedVariables false
set_option linter.unusedSimpArgs false
namespace Go.Proofs.YtiekbdijpfnagaaI
open Go Go.RowKit
def shOf {n : Nat} (s : TStep (n + 1)) : Shal := (s.1, s.2.1, s.2.2.1, s.2.2.2.1)
def thOf {n : Nat} (s : TStep (n + 1)) : List (TStep n) := s.2.2.2.2.1
def elOf {n : Nat} (s : TStep (n + 1)) : List (TStep n) := s.2.2.2.2.2
def shV (s : Shal) (tv ev : Value) : List Value := [.int .i64 s.1, .int .i64 s.2.1, .int .i64 s.2.2.1.1, .int .i64 s.2.2.1.2.1, .int .i64 s.2.2.1.2.2, .int .i64 s.2.2.2, tv, ev]
def shRg (s : Shal) : Prop := RgI s.1 ∧ RgI s.2.1 ∧ RgI s.2.2.1.1 ∧ RgI s.2.2.1.2.1 ∧ RgI s.2.2.1.2.2 ∧ RgI s.2.2.2
/-- One step in memory: its cells, and the blocks of the steps in it. -/
def EltT {n : Nat} (P : Value → List (TStep n) → List Nat → Prop) (a : TStep (n + 1)) (cs : List Value) (B : List Nat) : Prop := ∃ tv ev B1 B2, cs = shV (shOf a) tv ev ∧ shRg (shOf a) ∧ P tv (thOf a) B1 ∧ P ev (elOf a) B2 ∧ B = B1 ++ B2
def BodyT {n : Nat} (P : Value → List (TStep n) → List Nat → Prop) (l : List (TStep (n + 1))) (cs : List Value) (Bs : List (List Nat)) : Prop := l.length ≤ 1048576 ∧ cs.length = l.length * 8 ∧ Bs.length = l.length ∧ Bs.flatten.Nodup ∧
  ∀ (i : Nat) (h : i < l.length) (h' : i < Bs.length), EltT P l[i] ((cs.drop (i * 8)).take 8) Bs[i]
/-- A tree of steps whose lists each lie in a block of its own. -/
def OwnT (lo : Nat) (H : Heap) : (n : Nat) → Value → List (TStep n) → List Nat → Prop
  | 0, v, l, B => v = nilS ∧ l = [] ∧ B = []
  | n + 1, v, l, B => (v = nilS ∧ l = [] ∧ B = []) ∨ ∃ b cs Bs, lo ≤ b ∧ v = sli b 0 l.length ∧ l ≠ [] ∧ H[b]? = some ⟨cs, 8, 80, true, true⟩ ∧ B = b :: Bs.flatten ∧ b ∉ Bs.flatten ∧ BodyT (OwnT lo H n) l cs Bs
theorem OwnT.nil {lo : Nat} {H : Heap} : ∀ {n : Nat}, OwnT lo H n nilS [] []
  | 0 => ⟨rfl, rfl, rfl⟩
  | n + 1 => .inl ⟨rfl, rfl, rfl⟩
theorem OwnT.one {lo : Nat} {H : Heap} : ∀ {n : Nat} {v : Value} {l : List (TStep n)} {B : List Nat}, OwnT lo H n v l B → one v = true
  | 0, v, l, B, ⟨h, _⟩ => by rw [h]; rfl
  | n + 1, v, l, B, .inl ⟨h, _⟩ => by rw [h]; rfl
  | n + 1, v, l, B, .inr ⟨b, cs, Bs, _, h, _⟩ => by rw [h]; rfl
theorem EltT.imp {n : Nat} {P P' : Value → List (TStep n) → List Nat → Prop} {a : TStep (n + 1)} {cs : List Value} {B : List Nat} (h : EltT P a cs B) (h1 : ∀ v l B1, (∀ b ∈ B1, b ∈ B) → P v l B1 → P' v l B1) : EltT P' a cs B := by
  obtain ⟨tv, ev, B1, B2, e1, e2, e3, e4, rfl⟩ := h
  exact ⟨tv, ev, B1, B2, e1, e2, h1 _ _ _ (fun b hb => List.mem_append_left _ hb) e3, h1 _ _ _ (fun b hb => List.mem_append_right _ hb) e4, rfl⟩
theorem mem_flat {Bs : List (List Nat)} {i : Nat} (hi : i < Bs.length) {b : Nat} (hb : b ∈ Bs[i]) : b ∈ Bs.flatten := List.mem_flatten.2 ⟨_, List.getElem_mem hi, hb⟩
theorem BodyT.imp {n : Nat} {P P' : Value → List (TStep n) → List Nat → Prop} {l : List (TStep (n + 1))} {cs : List Value} {Bs : List (List Nat)} (h : BodyT P l cs Bs) (h1 : ∀ v l B1, (∀ b ∈ B1, b ∈ Bs.flatten) → P v l B1 → P' v l B1) : BodyT P' l cs Bs := by
  obtain ⟨a0, a1, a2, a3, a4⟩ := h
  exact ⟨a0, a1, a2, a3, fun i h h' => (a4 i h h').imp fun v l B1 hs hp => h1 v l B1 (fun b hb => mem_flat h' (hs b hb)) hp⟩
theorem BodyT.nil {n : Nat} {P : Value → List (TStep n) → List Nat → Prop} : BodyT P [] [] [] := ⟨by simp, rfl, rfl, by simp, fun i h => by simp at h⟩
theorem OwnT.keep {lo lo' : Nat} {H H' : Heap} : ∀ {n : Nat} {v : Value} {l : List (TStep n)} {B : List Nat}, OwnT lo H n v l B → lo' ≤ lo → (∀ b ∈ B, H'[b]? = H[b]?) → OwnT lo' H' n v l B
  | 0, v, l, B, h, _, _ => h
  | n + 1, v, l, B, .inl h, _, _ => .inl h
  | n + 1, v, l, B, .inr ⟨b, cs, Bs, h1, h2, h3, h5, h8, h9, h10⟩, hlo, hk => by
    refine .inr ⟨b, cs, Bs, by omega, h2, h3, ?_, h8, h9, h10.imp fun v l B1 hs h => OwnT.keep h hlo fun b' hb' => hk b' (by rw [h8]; exact List.mem_cons_of_mem _ (hs b' hb'))⟩
    rw [hk b (by rw [h8]; exact List.mem_cons_self)]; exact h5
theorem OwnT.ge {lo : Nat} {H : Heap} : ∀ {n : Nat} {v : Value} {l : List (TStep n)} {B : List Nat}, OwnT lo H n v l B → ∀ b ∈ B, lo ≤ b ∧ b < H.length ∧ ∃ cs, H[b]? = some ⟨cs, 8, 80, true, true⟩
  | 0, v, l, B, ⟨_, _, h⟩, b, hb => by rw [h] at hb; cases hb
  | n + 1, v, l, B, .inl ⟨_, _, h⟩, b, hb => by rw [h] at hb; cases hb
  | n + 1, v, l, B, .inr ⟨b0, cs, Bs, h1, h2, h3, h5, h8, h9, ⟨a0, a1, a2, a3, a4⟩⟩, b, hb => by
    rw [h8, List.mem_cons] at hb
    rcases hb with rfl | hb
    · exact ⟨h1, (List.getElem?_eq_some_iff.1 h5).1, cs, h5⟩
    · obtain ⟨X, hX, hbX⟩ := List.mem_flatten.1 hb
      obtain ⟨i, hi, rfl⟩ := List.getElem_of_mem hX
      obtain ⟨tv, ev, B1, B2, _, _, e3, e4, e5⟩ := a4 i (by omega) hi
      rw [e5, List.mem_append] at hbX
      rcases hbX with h | h
      · exact OwnT.ge e3 b h
      · exact OwnT.ge e4 b h
theorem OwnT.len {lo : Nat} {H : Heap} : ∀ {n : Nat} {v : Value} {l : List (TStep n)} {B : List Nat}, OwnT lo H n v l B → l.length ≤ 1048576 ∧ ∃ a, v = .slice a l.length l.length
  | 0, v, l, B, ⟨h, h2, _⟩ => by rw [h, h2]; exact ⟨by simp, none, rfl⟩
  | n + 1, v, l, B, .inl ⟨h, h2, _⟩ => by rw [h, h2]; exact ⟨by simp, none, rfl⟩
  | n + 1, v, l, B, .inr ⟨b, cs, Bs, _, h, _, _, _, _, ⟨a0, _⟩⟩ => ⟨a0, _, h⟩
theorem OwnT.sl {lo : Nat} {H : Heap} : ∀ {n : Nat} {v : Value} {l : List (TStep n)} {B : List Nat}, OwnT lo H n v l B → SlR (Co.step n) (vws lo H) v l
  | 0, v, l, B, ⟨h, h2, _⟩ => by rw [h, h2]; exact ⟨by simp, none, rfl, .inl rfl⟩
  | n + 1, v, l, B, .inl ⟨h, h2, _⟩ => by rw [h, h2]; exact ⟨by simp, none, rfl, .inl rfl⟩
  | n + 1, v, l, B, .inr ⟨b, cs, Bs, h1, h2, h3, h5, h8, h9, ⟨a0, a1, a2, a3, a4⟩⟩ => by
    refine ⟨by omega, _, h2, .inr ⟨b, 0, rfl, fun i hi => ?_⟩⟩
    obtain ⟨tv, ev, B1, B2, e1, e2, e3, e4, e5⟩ := a4 i hi (by omega)
    have hr := step_rd e2.1 e2.2.1 e2.2.2.1 e2.2.2.2.1 e2.2.2.2.2.1 e2.2.2.2.2.2 (OwnT.sl e3) (OwnT.sl e4)
    refine ⟨shV (shOf l[i]) tv ev, ?_, hr⟩
    unfold rng vws
    rw [if_pos h1, h5]
    simp only [Option.bind_some, if_true, Nat.zero_add, step_w]
    rw [if_pos (by have : i * 8 + 8 ≤ l.length * 8 := by omega
                   omega), ← e1]
/-- A step more. -/
theorem BodyT.snoc {n : Nat} {P P' : Value → List (TStep n) → List Nat → Prop} {l : List (TStep (n + 1))} {cs cs8 : List Value} {Bs : List (List Nat)} {a : TStep (n + 1)} {B : List Nat} (h : BodyT P l cs Bs) (h1 : ∀ v l B1, (∀ b ∈ B1, b ∈ Bs.flatten) → P v l B1 → P' v l B1) (ha : EltT P' a cs8 B) (hB : B.Nodup) (hap : ∀ b ∈ B, b ∉ Bs.flatten) (hl : l.length < 1048576) : BodyT P' (l ++ [a]) (cs ++ cs8) (Bs ++ [B]) := by
  obtain ⟨a0, a1, a2, a3, a4⟩ := h
  have h8 : cs8.length = 8 := by obtain ⟨tv, ev, B1, B2, e1, _⟩ := ha; rw [e1]; rfl
  refine ⟨by rw [List.length_append, List.length_singleton]; omega, by rw [List.length_append, List.length_append, a1, h8, List.length_singleton]; omega, by rw [List.length_append, List.length_append, a2]; rfl, ?_, fun i hi hi' => ?_⟩
  · rw [List.flatten_append, List.nodup_append]
    refine ⟨a3, by simpa using hB, fun x hx y hy => ?_⟩
    simp only [List.flatten_cons, List.flatten_nil, List.append_nil] at hy
    intro he
    subst he
    exact hap x hy hx
  · rcases Nat.lt_or_ge i l.length with hlt | hge
    · rw [List.getElem_append_left hlt, List.getElem_append_left (by omega : i < Bs.length)]
      have := (a4 i hlt (by omega)).imp fun v l B1 hs hp => h1 v l B1 (fun b hb => mem_flat (by omega) (hs b hb)) hp
      have hd : ((cs ++ cs8).drop (i * 8)).take 8 = (cs.drop (i * 8)).take 8 := by
        rw [List.drop_append_of_le_length (by omega), List.take_append_of_le_length (by rw [List.length_drop]; omega)]
      rw [hd]
      exact this
    · have hil : i = l.length := by rw [List.length_append, List.length_singleton] at hi; omega
      subst hil
      have e1 : (l ++ [a])[l.length]'hi = a := by simp
      have e2 : (Bs ++ [B])[l.length]'hi' = B := by
        rw [List.getElem_append_right (by omega)]; simp
      rw [e1, e2, List.drop_append, List.drop_of_length_le (by omega), a1, Nat.sub_self, List.nil_append, List.drop_zero, List.take_of_length_le (by omega)]
      exact ha
end Go.Proofs.YtiekbdijpfnagaaI
end
section
/- Steps copied; steps changed in their place. -/
set_option linter.unusedVariables false
set_option linter.unusedSimpArgs false
namespace Go.Proofs.YtiekbdijpfnagaaI
open Go Go.RowKit
end Go.Proofs.YtiekbdijpfnagaaI
end
section
/- Steps changed in their place. -/
set_option linter.unusedVariables false
set_option linter.unusedSimpArgs false
namespace Go.Proofs.YtiekbdijpfnagaaI
open Go Go.RowKit
end Go.Proofs.YtiekbdijpfnagaaI
end
section
/- Rows of names: each once. -/
set_option linter.unusedVariables false
set_option linter.unusedSimpArgs false
namespace Go.Proofs.YtiekbdijpfnagaaI
open Go Go.RowKit
end Go.Proofs.YtiekbdijpfnagaaI
end
section
/- Variables named otherwise: what is called on each step; a program copied. -/
set_option linter.unusedVariables false
set_option linter.unusedSimpArgs false
namespace Go.Proofs.YtiekbdijpfnagaaI
open Go Go.RowKit
end Go.Proofs.YtiekbdijpfnagaaI
end
section
/- A program copied; variables named otherwise. -/
set_option linter.unusedVariables false
set_option linter.unusedSimpArgs false
namespace Go.Proofs.YtiekbdijpfnagaaI
open Go Go.RowKit
/-- Labels in a block of one's own. -/
def LabV (lo : Nat) (H : Heap) (v : Value) (ls : List (Int × Int)) : Prop := (v = nilS ∧ ls = []) ∨ ∃ b, lo ≤ b ∧ v = sli b 0 ls.length ∧ ls ≠ [] ∧ H[b]? = some ⟨ls.flatMap fp, 2, 38, true, true⟩
theorem LabV.one {lo : Nat} {H : Heap} {v : Value} {ls : List (Int × Int)} (h : LabV lo H v ls) : one v = true := by
  rcases h with ⟨rfl, _⟩ | ⟨b, _, rfl, _⟩ <;> rfl
theorem LabV.shape {lo : Nat} {H : Heap} {v : Value} {ls : List (Int × Int)} (h : LabV lo H v ls) : ∃ a, v = .slice a ls.length ls.length := by
  rcases h with ⟨rfl, rfl⟩ | ⟨b, _, rfl, _⟩
  · exact ⟨none, rfl⟩
  · exact ⟨_, rfl⟩
theorem LabV.keep {lo lo' : Nat} {H H' : Heap} {v : Value} {ls : List (Int × Int)} {xs : List Nat} (h : LabV lo H v ls) (hl : lo' ≤ lo) (hx : AgX xs H H') (hn : ∀ b, lo ≤ b → H[b]? = some ⟨ls.flatMap fp, 2, 38, true, true⟩ → b ∉ xs) : LabV lo' H' v ls := by
  rcases h with h | ⟨b, h1, h2, h3, h4⟩
  · exact .inl h
  · exact .inr ⟨b, by omega, h2, h3, hx.get h4 (hn b h1 h4)⟩
theorem LabV.sl {lo : Nat} {H : Heap} {v : Value} {ls : List (Int × Int)} (h : LabV lo H v ls) (hr : ∀ p ∈ ls, RgI p.1 ∧ RgI p.2) (hl : ls.length ≤ 1000) : SlR Co.p2 (vw 0 H) v ls := by
  rcases h with h | ⟨b, h1, h2, h3, h4⟩
  · exact GLi.slP (es := 2) (lo := lo) (et := 38) (.inl h) hr hl
  · exact GLi.slP (es := 2) (.inr ⟨b, true, h1, h2, h3, h4⟩) hr hl
end Go.Proofs.YtiekbdijpfnagaaI
end
section
/- Variables named otherwise (the program's). -/
set_option linter.unusedVariables false
set_option linter.unusedSimpArgs false
namespace Go.Proofs.YtiekbdijpfnagaaI
open Go Go.RowKit
theorem LabV.blk {lo : Nat} {H : Heap} {v : Value} {ls : List (Int × Int)} (h : LabV lo H v ls) {b : Nat} (hb : b ∈ blkOf v) : lo ≤ b ∧ v = sli b 0 ls.length ∧ H[b]? = some ⟨ls.flatMap fp, 2, 38, true, true⟩ := by
  rcases h with ⟨rfl, _⟩ | ⟨b', q1, rfl, q3, q4⟩
  · cases hb
  · simp only [blkOf, sli, List.mem_singleton] at hb
    subst hb
    exact ⟨q1, rfl, q4⟩
end Go.Proofs.YtiekbdijpfnagaaI
end
section
/- Steps turned (the reference's). -/
set_option linter.unusedVariables false
set_option linter.unusedSimpArgs false
namespace Go.Proofs.YtiekbdijpfnagaaI
open Go Go.RowKit
end Go.Proofs.YtiekbdijpfnagaaI
end
section
/- Variables named otherwise (the reference's). -/
set_option linter.unusedVariables false
set_option linter.unusedSimpArgs false
namespace Go.Proofs.YtiekbdijpfnagaaI
open Go Go.RowKit
end Go.Proofs.YtiekbdijpfnagaaI
end
section
/- What the laws' functions say of steps and programs. -/
set_option linter.unusedVariables false
set_option linter.unusedSimpArgs false
namespace Go.Proofs.YtiekbdijpfnagaaI
open Go Go.RowKit
end Go.Proofs.YtiekbdijpfnagaaI
end
section
/- Rows are drawn, with a program. -/
set_option linter.unusedVariables false
set_option linter.unusedSimpArgs false
namespace Go.Proofs.YtiekbdijpfnagaaI
open Go Go.RowKit
end Go.Proofs.YtiekbdijpfnagaaI
end
section
/- A program and a row, drawn. -/
set_option linter.unusedVariables false
set_option linter.unusedSimpArgs false
namespace Go.Proofs.YtiekbdijpfnagaaI
open Go Go.RowKit
def DrawNumsOk (F : Nat → Option IFn) (f : Nat) : Prop := ∀ (H : Heap) (v : Value) (code : List Int), SlR Co.byte (vw 0 H) v code → ∃ (d : Nat) (lv sv nv : Value) (ls : List (Int × Int)) (l : List (TStep d)) (nums : List Int) (H' : Heap), KC F f [v] H (.tuple #[.agg #[lv, sv], nv]) H' ∧
  (AgX [] H H' ∧ SlR Co.p2 (vw 0 H') lv ls ∧ SlR (Co.step d) (vw 0 H') sv l ∧ (Co.prog d).sm (ls, l) ∧ SlR Co.int (vw 0 H') nv nums)
def DrawNumsV (F : Nat → Option IFn) (f : Nat) : Prop := ∀ (H : Heap) (v : Value) (code : List Int), SlR Co.byte (vw 0 H) v code → ∃ (d : Nat) (lv sv nv : Value) (ls : List (Int × Int)) (l : List (TStep d)) (nums : List Int) (H' : Heap), KC F f [v] H (.tuple #[.agg #[lv, sv], nv]) H' ∧
  (AgX [] H H' ∧ SlR Co.p2 (vwl H.length [] H') lv ls ∧ SlR (Co.step d) (vwl H.length [] H') sv l ∧ (Co.prog d).sm (ls, l) ∧ SlR Co.int (vwl H.length [] H') nv nums)
theorem DrawNumsV.ok {F : Nat → Option IFn} {f : Nat} (h : DrawNumsV F f) : DrawNumsOk F f := by
  intro H v code hv
  obtain ⟨d, lv, sv, nv, ls, l, nums, H', h1, h2, r1, r2, r3, r4⟩ := h H v code hv
  exact ⟨d, lv, sv, nv, ls, l, nums, H', h1, h2, r1.mono (vwl0 _ _ _), r2.mono (vwl0 _ _ _), r3, r4.mono (vwl0 _ _ _)⟩
end Go.Proofs.YtiekbdijpfnagaaI
end
section
/- Programs whose variables are named otherwise, and named back: plain facts. -/
set_option linter.unusedVariables false
set_option linter.unusedSimpArgs false
namespace Go.Proofs.YtiekbdijpfnagaaI
open Go Go.RowKit
/-! ### Names -/
end Go.Proofs.YtiekbdijpfnagaaI
end
section
/- The law FnTurnVars on the ideal machine. -/
set_option linter.unusedVariables false
set_option linter.unusedSimpArgs false
namespace Go.Proofs.YtiekbdijpfnagaaI
open Go Go.RowKit
end Go.Proofs.YtiekbdijpfnagaaI
end
section
/- All steps of steps changed; how many steps a program has (the program's). -/
set_option linter.unusedVariables false
set_option linter.unusedSimpArgs false
namespace Go.Proofs.YtiekbdijpfnagaaI
open Go Go.RowKit
end Go.Proofs.YtiekbdijpfnagaaI
end
section
/- Plans of programs whose variables are named otherwise. -/
set_option linter.unusedVariables false
set_option linter.unusedSimpArgs false
namespace Go.Proofs.YtiekbdijpfnagaaI
open Go Go.RowKit
end Go.Proofs.YtiekbdijpfnagaaI
end
section
/- All steps, with their own steps (the reference's). -/
set_option linter.unusedVariables false
set_option linter.unusedSimpArgs false
namespace Go.Proofs.YtiekbdijpfnagaaI
open Go Go.RowKit
/-- What is read by a fixed view. -/
def Co.fix {α : Type} (V : Vw) (A : Co α) : Co α := ⟨A.w, fun _ cs a => A.rd V cs a, A.sm, fun _ h => h, fun h => A.len h, fun h => A.ones h⟩
def AllA (F : Nat → Option IFn) (f n : Nat) : Prop := ∀ (V : Vw) (H : Heap) (v : Value) (l : List (TStep n)), Sub V (vw 0 H) → SlR (Co.step n) V v l → (allL n l).length ≤ 1048576 → ∃ v' H', KC F f [v] H v' H' ∧ AgX [] H H' ∧ ∃ b so, v' = sli b 0 (allSL n l).length ∧ OwnL (Co.fix V Co.anyS) 8 80 H.length [] H' b so (allSL n l)
theorem sAllA_ok {F : Nat → Option IFn} {f n : Nat} (hf : F f = some c_sAllSteps) (ih : ∀ m, n = m + 1 → AllA F 101 m) : AllA F f n := by
  intro V H v l hV hv hcnt
  have hv0 := hv
  obtain ⟨h0, av, rfl, hv1⟩ := hv
  suffices h : ∃ v' H', KC F f [.slice av l.length l.length] H v' H' ∧ (AgX [] H H' ∧ ∃ b so, v' = sli b 0 (allSL n l).length ∧ OwnL (Co.fix V Co.anyS) 8 80 H.length [] H' b so (allSL n l)) from h
  refine KC.mk hf rfl ?_
  refine seq_reg ?_
  simp only [go_sem, binC]
  refine seq_reg ?_
  simp only [go_sem, binC]
  refine seq_assoc (seq_reg ?_)
  simp only [go_sem, binC]
  refine wpc_gen fun Hb hHb => ?_
  have ht0 : AgX [] H Hb := hHb ▸ AgX.app [] _ _
  have ho0 : OwnL (Co.fix V Co.anyS) 8 80 H.length [] Hb H.length true [] := hHb ▸ OwnG.nil (Nat.le_refl _)
  clear hHb
  refine seq_block (wpc_loop ?_)
  suffices h : ∀ (k i : Nat) (e : Env) (Hc : Heap) (b : Nat) (so : Bool), i + k = l.length → AgX [] H Hc → OwnL (Co.fix V Co.anyS) 8 80 H.length [] Hc b so (allSL n (l.take i)) → e 0 = .slice av l.length l.length → e 3 = sli b 0 (allSL n (l.take i)).length → e 4 = .int .i64 i → W F H.length _ e Hc _ from
    h l.length 0 _ Hb H.length true (by omega) ht0 ho0 (by simp only [go_sem, binC]) (by (simp only [go_sem, binC]) <;> rfl) (by (simp only [go_sem, binC]) <;> rfl)
  intro k
  induction k with
  | zero =>
    intro i e Hc b so hi ht ho e0 e3 e4
    refine lp_step ?_
    refine seq_assoc (seq_reg ?_)
    simp only [go_sem, binC, e0, e4]
    refine seq_cond (t := false) (by simp only [go_sem, binC]; rw [decide_eq_false (by omega)]) ?_
    simp only [go_sem, binC]
    refine seq_exit ?_
    simp only [go_sem, binC, thenX_e, out_e, thenX_n]
    refine seq_reg ?_
    simp only [go_sem, binC, e3]
    rw [List.take_of_length_le (by omega)] at ho ⊢
    refine wpc_ret ⟨Or.inr rfl, _, (by (simp only [go_sem, binC]) <;> rfl), ht, b, so, rfl, ho⟩
  | succ k ihk =>
    intro i e Hc b so hi ht ho e0 e3 e4
    have hil : i < l.length := by omega
    cases n with
    | zero => exact (l[i]).elim
    | succ n =>
    obtain ⟨vb, vo, sk, sx, sa, sbb, sc, sg, tv, ev, tl, el, hav, hs, rg, otv, oev, hgc, htl, hel⟩ := step_atW hv0 hil
    simp only [Value.slice.injEq, and_true] at hav
    subst hav
    have hA := ih n rfl
    have htake := allL_take l i hil
    rw [hs, allT_succ] at htake
    have hle := allL_take_le l (i + 1)
    have hn1 := allSL_len (l.take i)
    have hn2 := allSL_len tl
    have hn3 := allSL_len el
    rw [htake, List.length_append, List.length_cons, List.length_append] at hle
    have hgp : ∀ {H' : Heap} (_ : Sub V (vw 0 H')) (off kk : Nat), off + kk ≤ 8 → getCells H' vb (vo + i * 8 + off) kk = some (([.int .i64 sk, .int .i64 sx, .int .i64 sa, .int .i64 sbb, .int .i64 sc, .int .i64 sg, tv, ev].drop off).take kk) := fun hs off kk h => gc_part (hgc _ hs) h
    refine lp_step ?_
    refine seq_assoc (seq_reg ?_)
    simp only [go_sem, binC, e0, e4]
    refine seq_cond (t := true) (by simp only [go_sem, binC]; rw [decide_eq_true (by omega)]) ?_
    simp only [go_sem, binC]
    refine seq_skip (seq_block ?_)
    refine seq_reg ?_
    simp only [go_sem, binC, e0, e3, e4, hgc _ (hV.trans <| agx_sub ht)]
    refine ⟨⟨by omega, by omega⟩, ?_⟩
    simp only [go_sem, binC, otv, oev]
    have hob := (by obtain ⟨_, _, cs, h, _⟩ := ho; exact (List.getElem?_eq_some_iff.1 h).1 : b < Hc.length)
    have ho1 := ho.sub (AgX.app [] Hc [⟨[.int .i64 sk, .int .i64 sx, .int .i64 sa, .int .i64 sbb, .int .i64 sc, .int .i64 sg, tv, ev], 8, 80, true, true⟩]) (xs' := []) (by simp) (fun _ _ _ _ _ => ⟨by simp, by simp⟩)
    refine op_app_ownN (l2 := [mkA n sk sx (sa, sbb, sc) sg tl el]) ho1 (by simp only [go_sem, binC, e3]) (by (simp only [go_sem, binC]) <;> rfl) (Nat.le_refl _) rfl (by rw [List.length_singleton, gc_new0]; rfl) (fun j hj => by
      obtain rfl : j = 0 := by simpa using hj
      exact step_rd rg.1 rg.2.1 rg.2.2.1 rg.2.2.2.1 rg.2.2.2.2.1 rg.2.2.2.2.2 htl hel) (by simp only [List.length_append, List.length_cons, List.length_nil]; omega) (by omega) (by simp) (Nat.le_refl _) fun H2 b2 so2 hx2 hc2 hb2 ho2 => ?_
    simp only [go_sem, binC]
    have hb1 := ho.1
    have ht2 : AgX [] H H2 := agx_nil (ht.appN _) hx2 hb1
    refine seq_reg ?_
    simp only [go_sem, binC, e0, e4, hgp (hV.trans <| agx_sub ht2) 6 1 (by omega)]
    refine ⟨⟨by omega, by omega⟩, ?_⟩
    obtain ⟨v3, H3, k3, x3, b3, so3, rfl, o3⟩ := hA V H2 tv tl (hV.trans (agx_sub ht2)) htl (by omega)
    refine op_callK (by simp only [go_sem, binC]; exact k3) ?_
    simp only [go_sem, binC]
    have ht3 : AgX [] H H3 := ht2.tr x3
    have ho3 := ho2.sub x3 (xs' := []) (by simp) (fun _ _ _ _ _ => ⟨by simp, by simp⟩)
    obtain ⟨ys3, g3, r3⟩ := o3.cells
    refine op_app_ownN (l2 := allSL n tl) ho3 (by simp only [go_sem, binC]) (by (simp only [go_sem, binC]) <;> rfl) (Nat.le_refl _) rfl g3 (fun j hj => r3 j hj) (by simp only [List.length_append, List.length_cons, List.length_nil]; omega) (by omega) (by simp) (Nat.le_refl _) fun H4 b4 so4 hx4 hc4 hb4 ho4 => ?_
    simp only [go_sem, binC]
    have ht4 : AgX [] H H4 := agx_nil ht3 hx4 ho3.1
    refine wpc_reg ?_
    simp only [go_sem, binC, e0, e4, hgp (hV.trans <| agx_sub ht4) 7 1 (by omega)]
    refine ⟨⟨by omega, by omega⟩, ?_⟩
    obtain ⟨v5, H5, k5, x5, b5, so5, rfl, o5⟩ := hA V H4 ev el (hV.trans (agx_sub ht4)) hel (by omega)
    refine op_callK (by simp only [go_sem, binC]; exact k5) ?_
    simp only [go_sem, binC]
    have ht5 : AgX [] H H5 := ht4.tr x5
    have ho5 := ho4.sub x5 (xs' := []) (by simp) (fun _ _ _ _ _ => ⟨by simp, by simp⟩)
    obtain ⟨ys5, g5, r5⟩ := o5.cells
    refine op_app_ownN (l2 := allSL n el) ho5 (by simp only [go_sem, binC]) (by (simp only [go_sem, binC]) <;> rfl) (Nat.le_refl _) rfl g5 (fun j hj => r5 j hj) (by simp only [List.length_append, List.length_cons, List.length_nil]; omega) (by omega) (by simp) (Nat.le_refl _) fun H6 b6 so6 hx6 hc6 hb6 ho6 => ?_
    simp only [go_sem, binC, out_n, thenX_n]
    have ht6 : AgX [] H H6 := agx_nil ht5 hx6 ho5.1
    refine wpc_reg ?_
    simp only [go_sem, binC, e4]
    have hw1 : IntKind.i64.wrap ((i : Int) + 1) = ((i + 1 : Nat) : Int) := by rw [wrap_id (by omega) (by omega)]; omega
    rw [hw1]
    simp only [go_sem, binC, thenX_n]
    have hfin : allSL (n + 1) (l.take i) ++ [mkA n sk sx (sa, sbb, sc) sg tl el] ++ allSL n tl ++ allSL n el = allSL (n + 1) (l.take (i + 1)) := by rw [allSL_take l i hil, hs, allS_succ]; simp
    rw [hfin] at ho6
    exact ihk (i + 1) _ H6 b6 so6 (by omega) ht6 ho6 (by simp only [go_sem, binC, e0]) (by simp only [go_sem, binC]; rw [← hfin]) (by simp only [go_sem, binC])
theorem sAllA_all {F : Nat → Option IFn} (hf : F 101 = some c_sAllSteps) : ∀ n, AllA F 101 n
  | 0 => sAllA_ok hf fun m h => by omega
  | n + 1 => sAllA_ok hf fun m h => by cases h; exact sAllA_all hf n
end Go.Proofs.YtiekbdijpfnagaaI
end
section
/- What is looked at of a program (the reference's). -/
set_option linter.unusedVariables false
set_option linter.unusedSimpArgs false
namespace Go.Proofs.YtiekbdijpfnagaaI
open Go Go.RowKit
def c_sTypeSets : IFn := ⟨1, 31, [.t 2],
 .seq (.reg none [
    ⟨(some 1), none, .box (.t 0)⟩,
    ⟨(some 2), none, .mov (.c (.slice none 0 0))⟩])
 (.seq (.reg none [
    ⟨(some 6), none, .lit 1 3 0 [] []⟩,
    ⟨(some 3), none, .mov (.t 6)⟩])
 (.seq (.seq (.reg none [
     ⟨(some 7), none, .load true 2 (.t 1)⟩,
     ⟨(some 8), none, .call .q (.f 57) [(.t 7)]⟩,
     ⟨(some 9), none, .un .not (.t 8)⟩])
  (.cond (.t 9) (.seq (.reg none [
      ⟨(some 10), none, .mov (.t 3)⟩,
      ⟨(some 2), none, .mov (.t 10)⟩])
   (.ret)) (.skip)))
 (.seq (.reg none [
    ⟨(some 11), none, .fad 1 (.t 1)⟩,
    ⟨(some 12), none, .load false 1 (.t 11)⟩,
    ⟨(some 13), none, .call .k (.f 101) [(.t 12)]⟩,
    ⟨(some 4), none, .mov (.t 13)⟩])
 (.seq (.seq (.reg none [
     ⟨(some 5), none, .mov (.c (.int .i64 0))⟩])
  (.block 0 (.loop (.seq (.seq (.reg none [
        ⟨(some 14), none, .mov (.t 5)⟩,
        ⟨(some 15), none, .mov (.t 4)⟩,
        ⟨(some 16), none, .len (.t 15)⟩,
        ⟨(some 17), none, .bin .lss (.t 14) (.t 16)⟩])
     (.cond (.t 17) (.skip) (.exit 0)))
    (.seq (.block 1 (.reg (some 9) [
        ⟨(some 20), none, .mov (.t 3)⟩,
        ⟨(some 21), none, .load true 2 (.t 1)⟩,
        ⟨(some 22), none, .mov (.t 4)⟩,
        ⟨(some 23), none, .mov (.t 5)⟩,
        ⟨(some 24), none, .mov (.t 5)⟩,
        ⟨(some 25), none, .bin .add (.t 24) (.c (.int .i64 1))⟩,
        ⟨(some 26), none, .sub 8 (.t 22) (some (.t 23)) (some (.t 25))⟩,
        ⟨(some 27), none, .call .q (.f 146) [(.t 21), (.t 26)]⟩,
        ⟨(some 28), none, .lit 1 3 1 [(.int .i64 0)] [(0, 1, (.t 27))]⟩,
        ⟨(some 29), none, .app 1 3 8 false (.t 20) (.t 28)⟩,
        ⟨(some 3), none, .mov (.t 29)⟩]))
    (.reg none [
      ⟨(some 18), none, .mov (.t 5)⟩,
      ⟨(some 19), none, .bin .add (.t 18) (.c (.int .i64 1))⟩,
      ⟨(some 5), none, .mov (.t 19)⟩]))))))
 (.seq (.reg none [
    ⟨(some 30), none, .mov (.t 3)⟩,
    ⟨(some 2), none, .mov (.t 30)⟩])
 (.ret))))))⟩
def c_sSee : IFn := ⟨2, 35, [.t 4],
 .seq (.reg none [
    ⟨(some 2), none, .box (.t 0)⟩,
    ⟨(some 4), none, .mov (.c (.pointer none))⟩])
 (.seq (.reg (some 9) [
    ⟨(some 7), none, .load true 2 (.t 2)⟩,
    ⟨(some 8), none, .mov (.t 1)⟩,
    ⟨(some 9), none, .fad 1 (.t 2)⟩,
    ⟨(some 10), none, .load false 1 (.t 9)⟩,
    ⟨(some 11), none, .call .k (.f 101) [(.t 10)]⟩,
    ⟨(some 12), none, .load true 2 (.t 2)⟩,
    ⟨(some 13), none, .call .k (.f 102) [(.t 12)]⟩,
    ⟨(some 14), none, .load true 2 (.t 2)⟩,
    ⟨(some 15), none, .call .k (.f 103) [(.t 14)]⟩,
    ⟨(some 16), none, .build [(.slice none 0 0), (.slice none 0 0), (.slice none 0 0), (.slice none 0 0), (.slice none 0 0), (.slice none 0 0), (.slice none 0 0)] [(0, 2, (.t 7)), (2, 1, (.t 8)), (3, 1, (.t 11)), (4, 1, (.t 13)), (5, 1, (.t 15))]⟩,
    ⟨(some 17), none, .box (.t 16)⟩,
    ⟨(some 5), none, .mov (.t 17)⟩])
 (.seq (.seq (.reg none [
     ⟨(some 6), none, .mov (.c (.int .i64 0))⟩])
  (.block 0 (.loop (.seq (.seq (.reg none [
        ⟨(some 18), none, .mov (.t 6)⟩,
        ⟨(some 19), none, .bin .lss (.t 18) (.c (.int .i64 3))⟩])
     (.cond (.t 19) (.skip) (.exit 0)))
    (.seq (.block 1 (.regW 9 [
        ⟨(some 22), none, .mov (.t 5)⟩,
        ⟨(some 23), none, .mov (.t 5)⟩,
        ⟨(some 24), none, .nilck (.t 23)⟩,
        ⟨(some 25), none, .fad 6 (.t 24)⟩,
        ⟨(some 26), none, .load false 1 (.t 25)⟩,
        ⟨(some 27), none, .mov (.t 1)⟩,
        ⟨(some 28), none, .mov (.t 6)⟩,
        ⟨(some 29), none, .call .q (.f 104) [(.t 27), (.t 28)]⟩,
        ⟨(some 30), none, .lit 1 3 1 [(.int .i64 0)] [(0, 1, (.t 29))]⟩,
        ⟨(some 31), none, .app 1 3 8 false (.t 26) (.t 30)⟩,
        ⟨(some 32), none, .nilck (.t 22)⟩,
        ⟨(some 33), none, .fad 6 (.t 32)⟩,
        ⟨none, none, .store 1 (.t 33) (.t 31)⟩]))
    (.reg none [
      ⟨(some 20), none, .mov (.t 6)⟩,
      ⟨(some 21), none, .bin .add (.t 20) (.c (.int .i64 1))⟩,
      ⟨(some 6), none, .mov (.t 21)⟩]))))))
 (.seq (.reg none [
    ⟨(some 34), none, .mov (.t 5)⟩,
    ⟨(some 4), none, .mov (.t 34)⟩])
 (.ret))))⟩
theorem SlR.unfix {α : Type} {A : Co α} {V U : Vw} {v : Value} {l : List α} (h : SlR (Co.fix V A) U v l) (hs : Sub V U) : SlR A U v l := by
  obtain ⟨h0, a, rfl, h1⟩ := h
  refine ⟨h0, a, rfl, ?_⟩
  rcases h1 with h1 | ⟨b, o, rfl, h1⟩
  · exact .inl h1
  · refine .inr ⟨b, o, rfl, fun i hi => ?_⟩
    obtain ⟨cs, h2, h3⟩ := h1 i hi
    exact ⟨cs, h2, A.mono hs h3⟩
theorem OwnG.slV {α : Type} {A : Co α} {V : Vw} {es et lo : Nat} {H : Heap} {b : Nat} {so : Bool} {l : List α} (hw : A.w = es) (h : OwnL (Co.fix V A) es et lo [] H b so l) (hs : Sub V (vw 0 H)) : SlR A (vw 0 H) (sli b 0 l.length) l :=
  SlR.unfix ((h.slR (A := Co.fix V A) hw (by simp)).mono (vwl0 _ _ _)) hs
/-- Who trusts what all steps set. -/
def setsA (n : Nat) (ls : List (Int × Int)) (l : List (TStep n)) : List Int := (allSL n l).map (stA ls)
def SetsOk (F : Nat → Option IFn) (f : Nat) : Prop := ∀ (H : Heap) (n : Nat) (lv sv : Value) (ls : List (Int × Int)) (l : List (TStep n)), SlR Co.p2 (vw 0 H) lv ls → SlR (Co.step n) (vw 0 H) sv l → (Co.prog n).sm (ls, l) → progB n (ls, l) = true →
  ∃ w H', KC F f [.agg #[lv, sv]] H w H' ∧ (AgX [] H H' ∧ SlR Co.int (vw 0 H') w (setsA n ls l))
theorem sTypeSets_ok {F : Nat → Option IFn} {f : Nat} (hf : F f = some c_sTypeSets) (gp : ProgOk F 57) (ga : ∀ n, AllA F 101 n) (gs : ∀ n, STOk F 146 n) : SetsOk F f := by
  intro H n lv sv ls l r1 r2 hsm hP
  have olv : one lv = true := by obtain ⟨_, a, rfl, _⟩ := r1; rfl
  have osv : one sv = true := by obtain ⟨_, a, rfl, _⟩ := r2; rfl
  have hcnt : (allL n l).length ≤ 8 := progB_cnt hP hsm
  have hlab : ls.all labB = true := progB_lab hP
  have hsl := allSL_len l
  refine KC.mk hf rfl ?_
  refine seq_reg ?_
  simp only [go_sem, binC, olv, osv]
  refine wpc_gen fun H1 hH1 => ?_
  have hx1 : AgX [] H H1 := hH1 ▸ AgX.app [] _ _
  have hb1 : H1[H.length]? = some ⟨[lv, sv], 0, 0, false, true⟩ := hH1 ▸ get_new0 _ _
  have hl1 : H1.length = H.length + 1 := by rw [hH1, List.length_append]; rfl
  clear hH1
  refine seq_reg ?_
  simp only [go_sem, binC]
  refine wpc_gen fun H2 hH2 => ?_
  have hx2 : AgX [] H1 H2 := hH2 ▸ AgX.app [] _ _
  have ho2 : OwnL Co.int 1 3 H1.length [] H2 H1.length true [] := hH2 ▸ OwnG.nil (Nat.le_refl _)
  have hl2' : H2.length = H1.length + 1 := by rw [hH2, List.length_append]; rfl
  clear hH2
  have hx02 := hx1.tr hx2
  have hb2 := hx2.get hb1 (by simp)
  have hpq : QC F 57 [.agg #[lv, sv]] H2 (.bool (progB n (ls, l))) := gp H2 n _ (ls, l) ⟨_, rfl, _, _, rfl, ⟨_, rfl, r1.mono (agx_sub hx02)⟩, ⟨_, rfl, r2.mono (agx_sub hx02)⟩⟩ hsm
  rw [hP] at hpq
  refine seq_assoc (seq_reg ?_)
  simp only [go_sem, binC, gc_of hb2, inBlk_some, olv, osv]
  refine op_callQ (by simp only [go_sem, binC]; exact hpq) ?_
  simp only [go_sem, binC]
  refine seq_cond (t := false) rfl ?_
  simp only [go_sem, binC]
  refine seq_skip (seq_reg ?_)
  simp only [go_sem, binC, gc_of hb2, inBlk_some, osv]
  obtain ⟨wl, H3, k3, hx3, bl, so, rfl, ol⟩ := ga n (vw 0 H) H2 sv l (agx_sub hx02) r2 (by omega)
  refine op_callK (by simp only [go_sem, binC]; exact k3) ?_
  simp only [go_sem, binC]
  have hx03 := hx02.tr hx3
  have hb3 := hx3.get hb2 (by simp)
  have ho3 := ho2.sub hx3 (xs' := []) (by simp) (fun _ _ _ _ _ => ⟨by simp, by simp⟩)
  refine seq_assoc (seq_reg ?_)
  simp only [go_sem, binC]
  refine seq_block (wpc_loop ?_)
  have hl2 := hx2.1
  have hl3 := hx3.1
  suffices hh : ∀ (k i : Nat) (e : Env) (Hc : Heap) (b : Nat) (so : Bool), i + k = (allSL n l).length → AgX [H1.length] H3 Hc → OwnL Co.int 1 3 H1.length [] Hc b so ((setsA n ls l).take i) → (b = H1.length ∨ H3.length ≤ b) → e 1 = ptr H.length 0 → e 3 = sli b 0 ((setsA n ls l).take i).length → e 4 = sli bl 0 (allSL n l).length → e 5 = .int .i64 i → W F H.length _ e Hc _ from
    hh (allSL n l).length 0 _ H3 H1.length true (by omega) (AgX.refl _ _) (by simpa using ho3) (.inl rfl) (by simp only [go_sem, binC]) (by (simp only [go_sem, binC]) <;> rfl) (by simp only [go_sem, binC]) (by (simp only [go_sem, binC]) <;> rfl)
  have hbl2 := ol.1
  intro k
  induction k with
  | zero =>
    intro i e Hc b so' hi hxc hoc hb e1 e3 e4 e5
    refine lp_step ?_
    refine seq_assoc (seq_reg ?_)
    simp only [go_sem, binC, e4, e5]
    refine seq_cond (t := false) (by simp only [go_sem, binC]; rw [decide_eq_false (by omega)]) ?_
    simp only [go_sem, binC]
    refine seq_exit ?_
    simp only [go_sem, binC, thenX_e, out_e, thenX_n]
    refine seq_reg ?_
    simp only [go_sem, binC, e3]
    rw [List.take_of_length_le (by unfold setsA; rw [List.length_map]; omega)] at hoc ⊢
    exact wpc_ret ⟨Or.inr rfl, _, (by (simp only [go_sem, binC]) <;> rfl), hx03.trans hxc (fun _ h _ => h) (fun b' h1 h2 => by simp only [List.mem_singleton] at h1; omega), (hoc.slR rfl (by simp)).mono (vwl0 _ _ _)⟩
  | succ k ih =>
    intro i e Hc b so' hi hxc hoc hb e1 e3 e4 e5
    have hil : i < (allSL n l).length := by omega
    have hw1 : IntKind.i64.wrap ((i : Int) + 1) = ((i + 1 : Nat) : Int) := by rw [wrap_id (by omega) (by omega)]; omega
    have hxH : AgX [] H Hc := hx03.trans hxc (fun _ h _ => h) (fun b' h1 h2 => by simp only [List.mem_singleton] at h1; omega)
    have hbc := hxc.get hb3 (by simp; omega)
    have hxl := hxc.1
    obtain ⟨cs, gcs, rds⟩ := ol.at hil
    have rdsA : (Co.step ((allSL n l)[i].1 + 1)).rd (vw 0 H) cs (allSL n l)[i].2 := rds
    obtain ⟨_, _, ccs, hblk, hbll, hbrd⟩ := id ol
    have hblc := hxc.get hblk (by simp; omega)
    have hokA := progB_okA hP (List.getElem_mem hil)
    have hsub : SlR (Co.step ((allSL n l)[i].1 + 1)) (vw 0 Hc) (.slice (some ⟨bl, i * 8, none⟩) [(allSL n l)[i].2].length [(allSL n l)[i].2].length) [(allSL n l)[i].2] := by
      refine ⟨by simp, _, rfl, .inr ⟨bl, i * 8, rfl, fun j hj => ?_⟩⟩
      obtain rfl : j = 0 := by simpa using hj
      have hbr := hbrd i hil
      refine ⟨(ccs.drop (i * 8)).take 8, ?_, (Co.step ((allSL n l)[i].1 + 1)).mono (agx_sub hxH) hbr⟩
      unfold rng vw
      rw [if_pos (Nat.zero_le _), hblc, step_w]
      simp only [Option.map_some, Nat.zero_mul, Nat.add_zero]
      rw [if_pos (by omega)]
    have hst : stL ((allSL n l)[i].1 + 1) ls [(allSL n l)[i].2] = stA ls (allSL n l)[i] := by
      unfold stL stA
      simp only [List.map_cons, List.map_nil, List.foldl_cons, List.foldl_nil]
      exact orS_0 (stT_bd hlab _ _)
    have hbd : R7 (stA ls (allSL n l)[i]) := stT_bd hlab _ _
    have htk : (setsA n ls l).take (i + 1) = (setsA n ls l).take i ++ [stA ls (allSL n l)[i]] := by
      unfold setsA
      rw [List.take_add_one, List.getElem?_eq_getElem (by rw [List.length_map]; exact hil), List.getElem_map]
      rfl
    have hlt : ((setsA n ls l).take i).length = i := by unfold setsA; rw [List.length_take, List.length_map]; omega
    have hsets := fun (HH : Heap) (hx : AgX [] Hc HH) => gs _ HH lv sv _ ls [(allSL n l)[i].2] osv (r1.mono (agx_sub (hxH.tr hx))) (hsub.mono (agx_sub hx)) hlab (fun t ht => hokA.2 t (by simpa [allL] using ht))
    rw [hst] at hsets
    have hsv : ∀ e' : Env, e' 23 = .int .i64 i → e' 25 = .int .i64 ((i + 1 : Nat) : Int) → subV 8 (sli bl 0 (allSL n l).length) e' (some (.t 23)) (some (.t 25)) = some (.slice (some ⟨bl, i * 8, none⟩) [(allSL n l)[i].2].length [(allSL n l)[i].2].length) := fun e' h23 h25 => by
      have q1 : ¬ ((i : Int) < 0) := by omega
      unfold subV sli
      simp only [subB, Opd.ev, h23, h25]
      rw [if_pos ⟨by omega, by omega⟩]
      simp only
      rw [if_pos ⟨by omega, by omega⟩]
      have q2 : (((i + 1 : Nat) : Int)).toNat - ((i : Int)).toNat = 1 := by omega
      simp [q2]
    refine lp_step ?_
    refine seq_assoc (seq_reg ?_)
    simp only [go_sem, binC, e4, e5]
    refine seq_cond (t := true) (by simp only [go_sem, binC]; rw [decide_eq_true (by omega)]) ?_
    simp only [go_sem, binC]
    refine seq_skip (seq_block (wpc_regD ?_))
    simp only [go_sem, binC, e1, e3, e4, e5, gc_of hbc, inBlk_some, olv, osv, hw1]
    rw [hsv _ (by simp only [go_sem, binC]) (by simp only [go_sem, binC])]
    simp only [go_sem, binC]
    refine op_callQ (by simp only [go_sem, binC]; exact hsets Hc (AgX.refl _ _)) ?_
    simp only [go_sem, binC]
    have hoc1 := hoc.1
    refine op_app_own (A := Co.int) (lo := H1.length) (a := stA ls (allSL n l)[i]) hoc (by simp only [go_sem, binC, e3]) (by (simp only [go_sem, binC]) <;> rfl) (by omega) rfl ⟨rfl, by have := hbd.1; omega, by have := hbd.2; omega⟩ (by omega) (by omega) (by simp) fun H4 hx4 ho4 => ?_
    simp only [go_sem, binC, out_n, thenX_n]
    rw [← htk] at ho4
    refine wpc_reg ?_
    simp only [go_sem, binC, e5, hw1]
    simp only [go_sem, binC, thenX_n]
    have hcl := hxc.1
    refine ih (i + 1) _ H4 (Hc.length + 1) _ (by omega) (hxc.trans hx4 (fun _ h _ => h) (fun b' h1 h2 => by simp only [List.mem_singleton] at h1 ⊢; omega)) ho4 (.inr (by omega)) (by simp only [go_sem, binC, e1]) (by simp only [go_sem, binC]; rw [htk, List.length_append]; rfl) (by simp only [go_sem, binC, e4]) (by simp only [go_sem, binC])
def byL (ts : List Int) : List Int := [byS ts 0 3, byS ts 1 3, byS ts 2 3]
structure LookR (H : Heap) (W n : Nat) (ls : List (Int × Int)) (l : List (TStep n)) (ts : List Int) : Prop where
  ex : ∃ lv sv tw li la se bv : Value, one sv = true ∧ H[W]? = some ⟨[lv, sv, tw, li, la, se, bv], 0, 0, false, true⟩ ∧ SlR Co.p2 (vw 0 H) lv ls ∧ SlR Co.int (vw 0 H) tw ts ∧ SlR Co.anyS (vw 0 H) li (allSL n l) ∧ SlR Co.p2 (vw 0 H) la (atL n ls (7, 7) l) ∧ SlR Co.int (vw 0 H) se (setsA n ls l) ∧ SlR Co.int (vw 0 H) bv (byL ts)
theorem LookR.mono {H H' : Heap} {W n : Nat} {ls : List (Int × Int)} {l : List (TStep n)} {ts : List Int} (h : LookR H W n ls l ts) (hx : AgX [] H H') : LookR H' W n ls l ts := by
  obtain ⟨lv, sv, tw, li, la, se, bv, h0, h1, h2, h3, h4, h5, h6, h7⟩ := h.ex
  exact ⟨lv, sv, tw, li, la, se, bv, h0, hx.get h1 (by simp), h2.mono (agx_sub hx), h3.mono (agx_sub hx), h4.mono (agx_sub hx), h5.mono (agx_sub hx), h6.mono (agx_sub hx), h7.mono (agx_sub hx)⟩
def SeeOk (F : Nat → Option IFn) (f : Nat) : Prop := ∀ (lo : Nat) (H : Heap) (n : Nat) (lv sv tw : Value) (ls : List (Int × Int)) (l : List (TStep n)) (ts : List Int), lo ≤ H.length → SlR Co.p2 (vw 0 H) lv ls → SlR (Co.step n) (vw 0 H) sv l → (Co.prog n).sm (ls, l) → progB n (ls, l) = true → SlR Co.int (vw 0 H) tw ts → trP ts →
  ∃ W H', NC F lo f [.agg #[lv, sv], tw] H (ptr W 0) H' ∧ (AgX [] H H' ∧ H.length ≤ W ∧ LookR H' W n ls l ts)
theorem sSee_ok {F : Nat → Option IFn} {f : Nat} (hf : F f = some c_sSee) (ga : ∀ n, AllA F 101 n) (gt : TypeAtOk F 102) (gs : SetsOk F 103) (gb : ByOk F 104) : SeeOk F f := by
  intro lo H n lv sv tw ls l ts hlo r1 r2 hsm hP r3 htr
  suffices hh : ∃ v H', NC F lo f [.agg #[lv, sv], tw] H v H' ∧ ∃ W, v = ptr W 0 ∧ AgX [] H H' ∧ H.length ≤ W ∧ LookR H' W n ls l ts by
    obtain ⟨_, H', h1, W, rfl, h2⟩ := hh
    exact ⟨W, H', h1, h2⟩
  have olv : one lv = true := by obtain ⟨_, a, rfl, _⟩ := r1; rfl
  have osv : one sv = true := by obtain ⟨_, a, rfl, _⟩ := r2; rfl
  obtain ⟨_, ta, rfl, _⟩ := id r3
  have hcnt : (allL n l).length ≤ 8 := progB_cnt hP hsm
  have hts : ts.length = 3 := htr.1
  refine NC.mk hf rfl ?_
  refine seq_reg ?_
  simp only [go_sem, binC, olv, osv]
  refine wpc_gen fun H1 hH1 => ?_
  have hx1 : AgX [] H H1 := hH1 ▸ AgX.app [] _ _
  have hb1 : H1[H.length]? = some ⟨[lv, sv], 0, 0, false, true⟩ := hH1 ▸ get_new0 _ _
  clear hH1
  refine seq_regD ?_
  simp only [go_sem, binC, gc_of hb1, inBlk_some, olv, osv]
  obtain ⟨wl, H2, k2, hx2, bl, so, rfl, ol⟩ := ga n (vw 0 H) H1 sv l (agx_sub hx1) r2 (by omega)
  refine op_callK (by simp only [go_sem, binC]; exact k2) ?_
  have hb2 := hx2.get hb1 (by simp)
  have hx02 := hx1.tr hx2
  simp only [go_sem, binC, gc_of hb2, inBlk_some, olv, osv]
  obtain ⟨ba, soa, outa, H3, k3, hx3, oa, _, _, hout⟩ := gt H2 n lv sv ls l (r1.mono (agx_sub hx02)) (r2.mono (agx_sub hx02)) hsm hP
  subst hout
  refine op_callK (by simp only [go_sem, binC]; exact k3) ?_
  have hb3 := hx3.get hb2 (by simp)
  have hx03 := hx02.tr hx3
  simp only [go_sem, binC, gc_of hb3, inBlk_some, olv, osv]
  obtain ⟨ws, H4, k4, hx4, os⟩ := gs H3 n lv sv ls l (r1.mono (agx_sub hx03)) (r2.mono (agx_sub hx03)) hsm hP
  refine op_callK (by simp only [go_sem, binC]; exact k4) ?_
  have hx04 := hx03.tr hx4
  have ql : SlR Co.anyS (vw 0 H4) (sli bl 0 (allSL n l).length) (allSL n l) := (ol.slV rfl (agx_sub hx1 |>.trans (agx_sub hx2))).mono (agx_sub (hx3.tr hx4))
  have qa : SlR Co.p2 (vw 0 H4) (sli ba 0 (atL n ls (7, 7) l).length) (atL n ls (7, 7) l) := ((oa.slR rfl (by simp)).mono (vwl0 _ _ _)).mono (agx_sub hx4)
  generalize sli bl 0 (allSL n l).length = wL at *
  generalize sli ba 0 (atL n ls (7, 7) l).length = wA at *
  obtain ⟨_, aL, rfl, _⟩ := id ql
  obtain ⟨_, aA, rfl, _⟩ := id qa
  obtain ⟨_, aS, rfl, _⟩ := id os
  simp only [go_sem, binC, olv, osv]
  refine wpc_gen fun H5 hH5 => ?_
  have hx5 : AgX [] H4 H5 := hH5 ▸ AgX.app [] _ _
  have hb5 : H5[H4.length]? = some ⟨[lv, sv, .slice ta ts.length ts.length, .slice aL (allSL n l).length (allSL n l).length, .slice aA (atL n ls (7, 7) l).length (atL n ls (7, 7) l).length, .slice aS (setsA n ls l).length (setsA n ls l).length, nilS], 0, 0, false, true⟩ := hH5 ▸ get_new0 _ _
  clear hH5
  have hl4 := hx04.1
  refine seq_assoc (seq_reg ?_)
  simp only [go_sem, binC]
  refine seq_block (wpc_loop ?_)
  suffices hh : ∀ (k i : Nat) (e : Env) (Hc : Heap) (w : Value), i + k = 3 → AgX [] H4 Hc → LsV (fun _ => none) Co.int 1 3 H4.length Hc w ((byL ts).take i) → Hc[H4.length]? = some ⟨[lv, sv, .slice ta ts.length ts.length, .slice aL (allSL n l).length (allSL n l).length, .slice aA (atL n ls (7, 7) l).length (atL n ls (7, 7) l).length, .slice aS (setsA n ls l).length (setsA n ls l).length, w], 0, 0, false, true⟩ → e 1 = .slice ta ts.length ts.length → e 5 = ptr H4.length 0 → e 6 = .int .i64 i → W F lo _ e Hc _ from
    hh 3 0 _ H5 nilS rfl hx5 (by simpa using LsV.nil) hb5 (by simp only [go_sem, binC]) (by simp only [go_sem, binC]) (by (simp only [go_sem, binC]) <;> rfl)
  intro k
  induction k with
  | zero =>
    intro i e Hc w hi hxc hw hbc e1 e5 e6
    obtain rfl : i = 3 := by omega
    have hd3 : decide (((3 : Nat) : Int) < 3) = false := rfl
    refine lp_step ?_
    refine seq_assoc (seq_reg ?_)
    simp only [go_sem, binC, e6, hd3]
    refine seq_cond (t := false) (by simp only [go_sem, binC]) ?_
    simp only [go_sem, binC]
    refine seq_exit ?_
    simp only [go_sem, binC, thenX_e, out_e, thenX_n]
    refine seq_reg ?_
    simp only [go_sem, binC, e5]
    rw [List.take_of_length_le (by simp [byL])] at hw
    exact wpc_ret ⟨Or.inr rfl, _, (by (simp only [go_sem, binC]) <;> rfl), H4.length, rfl, hx04.tr hxc, by omega, lv, sv, _, _, _, _, w, osv, hbc, r1.mono (agx_sub (hx04.tr hxc)), r3.mono (agx_sub (hx04.tr hxc)), ql.mono (agx_sub hxc), qa.mono (agx_sub hxc), os.mono (agx_sub hxc), (hw.mono (V' := vw 0 Hc) (fun _ _ h => by cases h)).sl rfl (fun _ _ h => h)⟩
  | succ k ih =>
    intro i e Hc w hi hxc hw hbc e1 e5 e6
    have hdi : decide ((i : Int) < 3) = true := decide_eq_true (by omega)
    have hw1 : IntKind.i64.wrap ((i : Int) + 1) = ((i + 1 : Nat) : Int) := by rw [wrap_id (by omega) (by omega)]; omega
    obtain ⟨aw, haw⟩ := hw.shape
    have oww := hw.one
    have hby := byS_lt ts i 3
    have h8 : (2 : Int) ^ 3 = 8 := by decide
    rw [h8] at hby
    have htk : (byL ts).take (i + 1) = (byL ts).take i ++ [byS ts i 3] := by
      have hi3 : i = 0 ∨ i = 1 ∨ i = 2 := by omega
      rcases hi3 with rfl | rfl | rfl <;> rfl
    have hlt : ((byL ts).take i).length ≤ 3 := by rw [List.length_take]; exact Nat.le_trans (Nat.min_le_right _ _) (by simp [byL])
    have hxcl := hxc.1
    have hbcl := (List.getElem?_eq_some_iff.1 hbc).1
    refine lp_step ?_
    refine seq_assoc (seq_reg ?_)
    simp only [go_sem, binC, e6, hdi]
    refine seq_cond (t := true) (by simp only [go_sem, binC]) ?_
    simp only [go_sem, binC]
    refine seq_skip (seq_block (wpc_regW ?_))
    simp only [go_sem, binC, e1, e5, e6, gc_of hbc, inBlk_some]
    refine op_callQ (by simp only [go_sem, binC, e1]; exact gb Hc _ ts i (r3.mono (agx_sub (hx04.tr hxc))) htr (by omega) (by omega)) ?_
    simp only [go_sem, binC]
    refine op_app_ls1 (V := fun _ => none) (A := Co.int) (lo := H4.length) (a := byS ts i 3) hw (by simp only [go_sem, binC]) (by (simp only [go_sem, binC]) <;> rfl) rfl ⟨rfl, by omega, by omega⟩ (by omega) (by omega) (by omega) (by omega) fun H6 u6 hx6 hca6 hn6 ho6 => ?_
    have hb6 := hx6.get hbc (hw.nbox hbc)
    have hb6l := (List.getElem?_eq_some_iff.1 hb6).1
    obtain ⟨au, hau⟩ := ho6.shape
    subst hau
    simp only [go_sem, binC, e5, hb6]
    refine ⟨by omega, ?_⟩
    simp only [go_sem, binC, out_n, thenX_n]
    have hxs : AgX [H4.length] H6 (H6.set H4.length ⟨[lv, sv, .slice ta ts.length ts.length, .slice aL (allSL n l).length (allSL n l).length, .slice aA (atL n ls (7, 7) l).length (atL n ls (7, 7) l).length, .slice aS (setsA n ls l).length (setsA n ls l).length, .slice au ((byL ts).take i ++ [byS ts i 3]).length ((byL ts).take i ++ [byS ts i 3]).length], 0, 0, false, true⟩) := AgX.set _ _ _
    have hx46 : AgX [] H4 H6 := hxc.trans hx6 (fun _ h _ => h) (fun b hb hl => by have := (hw.blk hb).1; omega)
    refine wpc_reg ?_
    simp only [go_sem, binC, e6, hw1]
    simp only [go_sem, binC, thenX_n]
    refine ih (i + 1) _ (H6.set H4.length ⟨[lv, sv, .slice ta ts.length ts.length, .slice aL (allSL n l).length (allSL n l).length, .slice aA (atL n ls (7, 7) l).length (atL n ls (7, 7) l).length, .slice aS (setsA n ls l).length (setsA n ls l).length, .slice au ((byL ts).take i ++ [byS ts i 3]).length ((byL ts).take i ++ [byS ts i 3]).length], 0, 0, false, true⟩) _ (by omega) (hx46.setN (by omega) _) (htk ▸ ho6.keep (Nat.le_refl _) hxs (fun b hb h => ?_)) (List.getElem?_set_self hb6l) (by simp only [go_sem, binC, e1]) (by simp only [go_sem, binC, e5]) (by simp only [go_sem, binC])
    simp only [List.mem_singleton] at h
    subst h
    exact ho6.nbox hb6 hb
end Go.Proofs.YtiekbdijpfnagaaI
end
section
/- Where a variable may be, who may do a step (the reference's, of what is looked at). -/
set_option linter.unusedVariables false
set_option linter.unusedSimpArgs false
namespace Go.Proofs.YtiekbdijpfnagaaI
open Go Go.RowKit
def c_lHome : IFn := ⟨3, 37, [.t 6],
 .seq (.reg none [
    ⟨(some 6), none, .mov (.c (.bool false))⟩])
 (.seq (.reg (some 28) [
    ⟨(some 7), none, .mov (.t 0)⟩,
    ⟨(some 8), none, .nilck (.t 7)⟩,
    ⟨(some 9), none, .fad 0 (.t 8)⟩,
    ⟨(some 10), none, .fad 0 (.t 9)⟩,
    ⟨(some 11), none, .load false 1 (.t 10)⟩,
    ⟨(some 12), none, .mov (.t 1)⟩,
    ⟨(some 13), none, .iad 2 (.t 11) (.t 12)⟩,
    ⟨(some 14), none, .fad 0 (.t 13)⟩,
    ⟨(some 15), none, .load false 1 (.t 14)⟩,
    ⟨(some 16), none, .mov (.t 2)⟩,
    ⟨(some 17), none, .call .q (.f 100) [(.t 15), (.t 16)]⟩,
    ⟨(some 18), none, .mov (.t 17)⟩,
    ⟨(some 19), (some (18, true)), .mov (.t 0)⟩,
    ⟨(some 20), (some (18, true)), .nilck (.t 19)⟩,
    ⟨(some 21), (some (18, true)), .fad 0 (.t 20)⟩,
    ⟨(some 22), (some (18, true)), .fad 0 (.t 21)⟩,
    ⟨(some 23), (some (18, true)), .load false 1 (.t 22)⟩,
    ⟨(some 24), (some (18, true)), .mov (.t 1)⟩,
    ⟨(some 25), (some (18, true)), .iad 2 (.t 23) (.t 24)⟩,
    ⟨(some 26), (some (18, true)), .fad 1 (.t 25)⟩,
    ⟨(some 27), (some (18, true)), .load false 1 (.t 26)⟩,
    ⟨(some 28), (some (18, true)), .mov (.t 0)⟩,
    ⟨(some 29), (some (18, true)), .nilck (.t 28)⟩,
    ⟨(some 30), (some (18, true)), .fad 6 (.t 29)⟩,
    ⟨(some 31), (some (18, true)), .load false 1 (.t 30)⟩,
    ⟨(some 32), (some (18, true)), .mov (.t 2)⟩,
    ⟨(some 33), (some (18, true)), .iad 1 (.t 31) (.t 32)⟩,
    ⟨(some 34), (some (18, true)), .load false 1 (.t 33)⟩,
    ⟨(some 35), (some (18, true)), .call .q (.f 131) [(.t 27), (.t 34)]⟩,
    ⟨(some 36), none, .pick (.t 18) (.t 35) (.c (.bool false))⟩,
    ⟨(some 6), none, .mov (.t 36)⟩])
 (.ret))⟩
def c_lStep : IFn := ⟨4, 99, [.t 8],
 .seq (.reg none [
    ⟨(some 8), none, .mov (.c (.bool false))⟩])
 (.seq (.reg none [
    ⟨(some 13), none, .mov (.t 0)⟩,
    ⟨(some 14), none, .nilck (.t 13)⟩,
    ⟨(some 15), none, .fad 3 (.t 14)⟩,
    ⟨(some 16), none, .load false 1 (.t 15)⟩,
    ⟨(some 17), none, .mov (.t 2)⟩,
    ⟨(some 18), none, .iad 8 (.t 16) (.t 17)⟩,
    ⟨(some 19), none, .load true 8 (.t 18)⟩,
    ⟨(some 9), none, .new [(.int .i64 0), (.int .i64 0), (.int .i64 0), (.int .i64 0), (.int .i64 0), (.int .i64 0), (.slice none 0 0), (.slice none 0 0)]⟩,
    ⟨none, none, .store 8 (.t 9) (.t 19)⟩])
 (.seq (.reg none [
    ⟨(some 20), none, .mov (.t 0)⟩,
    ⟨(some 21), none, .nilck (.t 20)⟩,
    ⟨(some 22), none, .fad 4 (.t 21)⟩,
    ⟨(some 23), none, .load false 1 (.t 22)⟩,
    ⟨(some 24), none, .mov (.t 2)⟩,
    ⟨(some 25), none, .iad 2 (.t 23) (.t 24)⟩,
    ⟨(some 26), none, .load true 2 (.t 25)⟩,
    ⟨(some 10), none, .new [(.int .i64 0), (.int .i64 0)]⟩,
    ⟨none, none, .store 2 (.t 10) (.t 26)⟩])
 (.seq (.seq (.reg (some 20) [
     ⟨(some 27), none, .fad 0 (.t 10)⟩,
     ⟨(some 28), none, .load false 1 (.t 27)⟩,
     ⟨(some 29), none, .mov (.t 3)⟩,
     ⟨(some 30), none, .call .q (.f 100) [(.t 28), (.t 29)]⟩,
     ⟨(some 31), none, .un .not (.t 30)⟩,
     ⟨(some 32), none, .mov (.t 31)⟩,
     ⟨(some 33), (some (32, false)), .mov (.t 0)⟩,
     ⟨(some 34), (some (32, false)), .nilck (.t 33)⟩,
     ⟨(some 35), (some (32, false)), .fad 5 (.t 34)⟩,
     ⟨(some 36), (some (32, false)), .load false 1 (.t 35)⟩,
     ⟨(some 37), (some (32, false)), .mov (.t 2)⟩,
     ⟨(some 38), (some (32, false)), .iad 1 (.t 36) (.t 37)⟩,
     ⟨(some 39), (some (32, false)), .load false 1 (.t 38)⟩,
     ⟨(some 40), (some (32, false)), .mov (.t 0)⟩,
     ⟨(some 41), (some (32, false)), .nilck (.t 40)⟩,
     ⟨(some 42), (some (32, false)), .fad 6 (.t 41)⟩,
     ⟨(some 43), (some (32, false)), .load false 1 (.t 42)⟩,
     ⟨(some 44), (some (32, false)), .mov (.t 3)⟩,
     ⟨(some 45), (some (32, false)), .iad 1 (.t 43) (.t 44)⟩,
     ⟨(some 46), (some (32, false)), .load false 1 (.t 45)⟩,
     ⟨(some 47), (some (32, false)), .call .q (.f 131) [(.t 39), (.t 46)]⟩,
     ⟨(some 48), (some (32, false)), .un .not (.t 47)⟩,
     ⟨(some 49), none, .pick (.t 32) (.c (.bool true)) (.t 48)⟩])
  (.cond (.t 49) (.seq (.reg none [
      ⟨(some 8), none, .mov (.c (.bool false))⟩])
   (.ret)) (.skip)))
 (.seq (.reg none [
    ⟨(some 50), none, .load true 8 (.t 9)⟩,
    ⟨(some 51), none, .call .k (.f 135) [(.t 50)]⟩,
    ⟨(some 11), none, .mov (.t 51)⟩])
 (.seq (.seq (.reg none [
     ⟨(some 12), none, .mov (.c (.int .i64 0))⟩])
  (.block 0 (.loop (.seq (.seq (.reg none [
        ⟨(some 52), none, .mov (.t 12)⟩,
        ⟨(some 53), none, .mov (.t 11)⟩,
        ⟨(some 54), none, .len (.t 53)⟩,
        ⟨(some 55), none, .bin .lss (.t 52) (.t 54)⟩])
     (.cond (.t 55) (.skip) (.exit 0)))
    (.seq (.block 1 (.seq (.reg (some 25) [
         ⟨(some 58), none, .mov (.t 0)⟩,
         ⟨(some 59), none, .nilck (.t 58)⟩,
         ⟨(some 60), none, .fad 0 (.t 59)⟩,
         ⟨(some 61), none, .fad 0 (.t 60)⟩,
         ⟨(some 62), none, .load false 1 (.t 61)⟩,
         ⟨(some 63), none, .mov (.t 11)⟩,
         ⟨(some 64), none, .mov (.t 12)⟩,
         ⟨(some 65), none, .iad 1 (.t 63) (.t 64)⟩,
         ⟨(some 66), none, .load false 1 (.t 65)⟩,
         ⟨(some 67), none, .iad 2 (.t 62) (.t 66)⟩,
         ⟨(some 68), none, .fad 0 (.t 67)⟩,
         ⟨(some 69), none, .load false 1 (.t 68)⟩,
         ⟨(some 70), none, .mov (.t 3)⟩,
         ⟨(some 71), none, .call .q (.f 100) [(.t 69), (.t 70)]⟩,
         ⟨(some 72), none, .un .not (.t 71)⟩,
         ⟨(some 73), none, .mov (.t 72)⟩,
         ⟨(some 74), (some (73, false)), .fad 0 (.t 10)⟩,
         ⟨(some 75), (some (73, false)), .load false 1 (.t 74)⟩,
         ⟨(some 76), (some (73, false)), .mov (.t 1)⟩,
         ⟨(some 77), (some (73, false)), .mov (.t 11)⟩,
         ⟨(some 78), (some (73, false)), .mov (.t 12)⟩,
         ⟨(some 79), (some (73, false)), .iad 1 (.t 77) (.t 78)⟩,
         ⟨(some 80), (some (73, false)), .load false 1 (.t 79)⟩,
         ⟨(some 81), (some (73, false)), .iad 1 (.t 76) (.t 80)⟩,
         ⟨(some 82), (some (73, false)), .load false 1 (.t 81)⟩,
         ⟨(some 83), (some (73, false)), .call .q (.f 100) [(.t 75), (.t 82)]⟩,
         ⟨(some 84), (some (73, false)), .un .not (.t 83)⟩,
         ⟨(some 85), none, .pick (.t 73) (.c (.bool true)) (.t 84)⟩])
      (.cond (.t 85) (.seq (.reg none [
          ⟨(some 8), none, .mov (.c (.bool false))⟩])
       (.ret)) (.skip))))
    (.reg none [
      ⟨(some 56), none, .mov (.t 12)⟩,
      ⟨(some 57), none, .bin .add (.t 56) (.c (.int .i64 1))⟩,
      ⟨(some 12), none, .mov (.t 57)⟩]))))))
 (.seq (.reg (some 11) [
    ⟨(some 86), none, .fad 0 (.t 9)⟩,
    ⟨(some 87), none, .load false 1 (.t 86)⟩,
    ⟨(some 88), none, .bin .neq (.t 87) (.c (.int .i64 1))⟩,
    ⟨(some 89), none, .mov (.t 88)⟩,
    ⟨(some 90), (some (89, false)), .fad 0 (.t 10)⟩,
    ⟨(some 91), (some (89, false)), .load false 1 (.t 90)⟩,
    ⟨(some 92), (some (89, false)), .mov (.t 1)⟩,
    ⟨(some 93), (some (89, false)), .fad 1 (.t 9)⟩,
    ⟨(some 94), (some (89, false)), .load false 1 (.t 93)⟩,
    ⟨(some 95), (some (89, false)), .iad 1 (.t 92) (.t 94)⟩,
    ⟨(some 96), (some (89, false)), .load false 1 (.t 95)⟩,
    ⟨(some 97), (some (89, false)), .call .q (.f 100) [(.t 91), (.t 96)]⟩,
    ⟨(some 98), none, .pick (.t 89) (.c (.bool true)) (.t 97)⟩,
    ⟨(some 8), none, .mov (.t 98)⟩])
 (.ret)))))))⟩
theorem byL_at (ts : List Int) {h : Int} (h0 : 0 ≤ h) (h2 : h ≤ 2) : ∃ hl : h.toNat < (byL ts).length, (byL ts)[h.toNat] = byS ts h 3 := by
  have hh : h = 0 ∨ h = 1 ∨ h = 2 := by omega
  rcases hh with rfl | rfl | rfl <;> exact ⟨by simp [byL], rfl⟩
def LHome (F : Nat → Option IFn) (f : Nat) : Prop := ∀ (H : Heap) (W n : Nat) (ls : List (Int × Int)) (l : List (TStep n)) (ts : List Int) (v h : Int), LookR H W n ls l ts → ls.all labB = true → 0 ≤ v → v < ls.length → 0 ≤ h → h ≤ 2 → QC F f [ptr W 0, .int .i64 v, .int .i64 h] H (.bool (hmB ls ts v h))
theorem lHome_ok {F : Nat → Option IFn} {f : Nat} (hf : F f = some c_lHome) (gh : HasOk F 100) (gw : WitOk F 131) : LHome F f := by
  intro H W n ls l ts v h hL hlab hv0 hv1 hh0 hh2
  obtain ⟨lv, sv, tw, li, la, se, bv, osv, hW, r1, r2, r3, r4, r5, r6⟩ := hL.ex
  have hlx := labB_i.1 (lab_getD hlab v.toNat)
  have hby := byS_lt ts h 3
  have h8 : (2 : Int) ^ 3 = 8 := by decide
  rw [h8] at hby
  obtain ⟨_, lva, rfl, _⟩ := id r1
  obtain ⟨_, bva, rfl, _⟩ := id r6
  obtain ⟨hbl, hbe⟩ := byL_at ts hh0 hh2
  obtain ⟨bb, bo, hbv, hbg⟩ := gcJ r6 hbl
  simp only [Value.slice.injEq, and_true] at hbv
  subst hbv
  rw [hbe] at hbg
  have hb3 : (byL ts).length = 3 := rfl
  obtain ⟨lb, lo', hla, hgl0, _⟩ := lab_at r1 (H := H) (fun _ _ h => h) hv0 hv1
  simp only [Value.slice.injEq, and_true] at hla
  subst hla
  have hgl := hgl0 []
  rw [List.append_nil] at hgl
  have g0 : getCells H lb (lo' + v.toNat * 2) 1 = some [.int .i64 (ls.getD v.toNat (0, 0)).1] := by have := gc_part (off := 0) (k := 1) hgl (by omega); simpa using this
  have g1 : getCells H lb (lo' + v.toNat * 2 + 1) 1 = some [.int .i64 (ls.getD v.toNat (0, 0)).2] := gc_part (off := 1) (k := 1) hgl (by omega)
  refine QC.mk hf rfl ?_
  refine seq_reg ?_
  simp only [go_sem, binC]
  refine seq_regD ?_
  simp only [go_sem, binC, gc_of hW, inBlk_some]
  refine ⟨⟨by omega, by omega⟩, ?_⟩
  simp only [go_sem, binC, g0]
  refine op_callQ (by simp only [go_sem, binC]; exact gh H _ h hlx.1.1 hlx.1.2) ?_
  unfold hmB
  cases q1 : hasB (ls.getD v.toNat (0, 0)).1 h with
  | false =>
    simp only [go_sem, binC]
    exact wpc_ret ⟨Or.inr rfl, _, (by (simp only [go_sem, binC]) <;> rfl), rfl, rfl⟩
  | true =>
    simp only [go_sem, binC, gc_of hW, inBlk_some]
    refine ⟨⟨by omega, by omega⟩, ?_⟩
    simp only [go_sem, binC, g1, gc_of hW, inBlk_some]
    refine ⟨⟨by omega, by omega⟩, ?_⟩
    simp only [go_sem, binC, Nat.mul_one, hbg]
    refine op_callQ (by simp only [go_sem, binC]; exact gw H _ _ hlx.2.1 hlx.2.2 hby.1 (by omega)) ?_
    simp only [go_sem, binC]
    exact wpc_ret ⟨Or.inr rfl, _, (by (simp only [go_sem, binC]) <;> rfl), rfl, rfl⟩
theorem slA_at {H : Heap} {v : Value} {l : List AnyS} (h : SlR Co.anyS (vw 0 H) v l) {i : Nat} (hi : i < l.length) : ∃ b o cs, v = .slice (some ⟨b, o, none⟩) l.length l.length ∧ getCells H b (o + i * 8) 8 = some cs ∧ Co.anyS.rd (vw 0 H) cs l[i] := by
  obtain ⟨h0, a, rfl, h1⟩ := h
  obtain ⟨b, o, rfl, h2⟩ := h1.resolve_left (fun h => by rw [h] at hi; simp at hi)
  obtain ⟨cs, h3, h4⟩ := h2 i hi
  have h5 := rng_gc h3
  exact ⟨b, o, cs, rfl, h5, h4⟩
theorem slP_at {H : Heap} {v : Value} {l : List (Int × Int)} (h : SlR Co.p2 (vw 0 H) v l) {i : Nat} (hi : i < l.length) : ∃ b o, v = .slice (some ⟨b, o, none⟩) l.length l.length ∧ getCells H b (o + i * 2) 2 = some [.int .i64 l[i].1, .int .i64 l[i].2] := by
  obtain ⟨h0, a, rfl, h1⟩ := h
  obtain ⟨b, o, rfl, h2⟩ := h1.resolve_left (fun h => by rw [h] at hi; simp at hi)
  obtain ⟨cs, h3, h4⟩ := h2 i hi
  have h5 := rng_gc h3
  obtain ⟨_, _, rfl, ⟨hq1, _⟩, ⟨hq2, _⟩⟩ := h4
  subst hq1 hq2
  exact ⟨b, o, rfl, h5⟩
/-- Whether a host may do the j-th step. -/
def doN (n : Nat) (ls : List (Int × Int)) (l : List (TStep n)) (ts homes : List Int) (j : Nat) (h : Int) : Bool := match (allSL n l)[j]?, (atL n ls (7, 7) l)[j]? with
  | some s, some own => doesB ls ts homes (shA s) (stA ls s) own h
  | _, _ => false
theorem doN_eq {n : Nat} {ls : List (Int × Int)} {l : List (TStep n)} {ts homes : List Int} {j : Nat} {h : Int} (h1 : j < (allSL n l).length) (h2 : j < (atL n ls (7, 7) l).length) : doN n ls l ts homes j h = doesB ls ts homes (shA (allSL n l)[j]) (stA ls (allSL n l)[j]) (atL n ls (7, 7) l)[j] h := by
  unfold doN
  rw [List.getElem?_eq_getElem h1, List.getElem?_eq_getElem h2]
def LStep (F : Nat → Option IFn) (f : Nat) : Prop := ∀ (H : Heap) (W n : Nat) (ls : List (Int × Int)) (l : List (TStep n)) (ts : List Int) (hw : Value) (homes : List Int) (j : Nat) (h : Int), LookR H W n ls l ts → progB n (ls, l) = true → SlR Co.int (vw 0 H) hw homes → homesP ls.length homes → j < (allSL n l).length → 0 ≤ h → h ≤ 2 → QC F f [ptr W 0, hw, .int .i64 j, .int .i64 h] H (.bool (doN n ls l ts homes j h))
theorem lStep_ok {F : Nat → Option IFn} {f : Nat} (hf : F f = some c_lStep) (gh : HasOk F 100) (gw : WitOk F 131) (gm : MakesOk F 135) : LStep F f := by
  intro H W n ls l ts hw homes j h hL hP rh hho hj hh0 hh2
  have hlab : ls.all labB = true := progB_lab hP
  have hatl := atL_len ls (7, 7) l
  have hsl := allSL_len l
  have hja : j < (atL n ls (7, 7) l).length := by omega
  obtain ⟨lv, sv, tw, li, la, se, bv, osv, hW, r1, r2, r3, r4, r5, r6⟩ := hL.ex
  have hokA := progB_okA hP (List.getElem_mem hj)
  have hown : labB (atL n ls (7, 7) l)[j] = true := List.all_eq_true.1 (atL_lab hlab rfl l) _ (List.getElem_mem hja)
  rw [doN_eq hj hja]
  obtain ⟨_, lva, rfl, _⟩ := id r1
  obtain ⟨_, ha, rfl, _⟩ := id rh
  obtain ⟨_, sea, rfl, hse⟩ := id r5
  obtain ⟨_, bva, rfl, _⟩ := id r6
  obtain ⟨hbl, hbe⟩ := byL_at ts hh0 hh2
  obtain ⟨bb, bo, hbv, hbg⟩ := gcJ r6 hbl
  simp only [Value.slice.injEq, and_true] at hbv
  subst hbv
  rw [hbe] at hbg
  have hb3 : (byL ts).length = 3 := rfl
  have hsel : (setsA n ls l).length = (allSL n l).length := by unfold setsA; rw [List.length_map]
  obtain ⟨sb, so, hsv, hsg⟩ := gcJ r5 (i := j) (by omega)
  have hsei : (setsA n ls l)[j]'(by omega) = stA ls (allSL n l)[j] := by unfold setsA; rw [List.getElem_map]
  rw [hsei] at hsg
  simp only [Value.slice.injEq, and_true] at hsv
  subst hsv
  obtain ⟨lib, lio, css, hli, gcs, rds⟩ := slA_at r3 hj
  subst hli
  obtain ⟨lab, lao, hla, gca⟩ := slP_at r4 hja
  subst hla
  have hst := stT_bd hlab ((allSL n l)[j].1 + 1) (allSL n l)[j].2
  have hst' : R7 (stA ls (allSL n l)[j]) := hst
  generalize (allSL n l)[j] = s at *
  generalize (atL n ls (7, 7) l)[j] = own at *
  obtain ⟨sk, sx, sa, sbb, sc, sg, tv, ev, tl, el, hs2, hcs, rg, otv, oev, htl, hel⟩ := anyS_rd rds
  subst hcs
  have hsh : shA s = (sk, sx, (sa, sbb, sc), sg) := by unfold shA; rw [hs2]
  obtain ⟨hok1, hok2⟩ := hokA
  rw [hsh] at hok1
  have hvx : 0 ≤ sx ∧ sx < ls.length := by
    have := hok1
    simp only [shB, Bool.and_eq_true] at this
    exact varB_i.1 this.1
  have hmin := makesL_in hok1
  obtain ⟨ho1, ho2⟩ := hown |> fun h => labB_i.1 h
  obtain ⟨hhl, hhr⟩ := hho
  have hby := byS_lt ts h 3
  have h8 : (2 : Int) ^ 3 = 8 := by decide
  rw [h8] at hby
  rw [hsh]
  refine QC.mk hf rfl ?_
  refine seq_reg ?_
  simp only [go_sem, binC]
  refine seq_reg ?_
  simp only [go_sem, binC, gc_of hW, inBlk_some]
  refine ⟨⟨by omega, by omega⟩, ?_⟩
  simp only [go_sem, binC, Int.toNat_natCast, gcs, otv, oev]
  refine wpc_gen fun H1 hH1 => ?_
  have hx1 : AgX [] H H1 := hH1 ▸ AgX.app [] _ _
  have hb9 : H1[H.length]? = some ⟨[.int .i64 sk, .int .i64 sx, .int .i64 sa, .int .i64 sbb, .int .i64 sc, .int .i64 sg, tv, ev], 0, 0, false, true⟩ := hH1 ▸ get_new0 _ _
  have hl1 : H1.length = H.length + 1 := by rw [hH1, List.length_append]; rfl
  clear hH1
  have hW1 := hx1.get hW (by simp)
  refine seq_reg ?_
  simp only [go_sem, binC, gc_of hW1, inBlk_some]
  refine ⟨⟨by omega, by omega⟩, ?_⟩
  simp only [go_sem, binC, Int.toNat_natCast, gcK gca hx1]
  refine ⟨by omega, ?_⟩
  refine wpc_gen fun H2 hH2 => ?_
  have hx2 : AgX [] H1 H2 := hH2 ▸ AgX.app [] _ _
  have hb10 : H2[H1.length]? = some ⟨[.int .i64 own.1, .int .i64 own.2], 0, 0, false, true⟩ := hH2 ▸ get_new0 _ _
  clear hH2
  have hx02 := hx1.tr hx2
  have hW2 := hx2.get hW1 (by simp)
  have hb92 := hx2.get hb9 (by simp)
  refine seq_assoc (seq_regD ?_)
  simp only [go_sem, binC, gc_of hb10, inBlk_some]
  refine op_callQ (by simp only [go_sem, binC]; exact gh H2 own.1 h ho1.1 ho1.2) ?_
  cases q1 : hasB own.1 h with
  | false =>
    simp only [go_sem, binC]
    refine seq_cond (t := true) rfl ?_
    simp only [go_sem, binC]
    refine seq_assoc (seq_reg ?_)
    simp only [go_sem, binC]
    refine seq_ret ⟨Or.inr rfl, .bool false, (by (simp only [go_sem, binC]) <;> rfl), ?_, rfl⟩
    unfold doesB
    rw [q1]
    rfl
  | true =>
  simp only [go_sem, binC, gc_of hW2, inBlk_some]
  refine ⟨⟨by omega, by omega⟩, ?_⟩
  simp only [go_sem, binC, Int.toNat_natCast, Nat.mul_one, gcK hsg hx02, gc_of hW2, inBlk_some]
  refine ⟨⟨by omega, by omega⟩, ?_⟩
  simp only [go_sem, binC, Nat.mul_one, gcK hbg hx02]
  refine op_callQ (by simp only [go_sem, binC]; exact gw H2 _ _ hst'.1 hst'.2 hby.1 (by omega)) ?_
  generalize stA ls s = st at *
  cases q2 : witB st (byS ts h 3) with
  | false =>
    simp only [go_sem, binC]
    refine seq_cond (t := true) rfl ?_
    simp only [go_sem, binC]
    refine seq_assoc (seq_reg ?_)
    simp only [go_sem, binC]
    refine seq_ret ⟨Or.inr rfl, .bool false, (by (simp only [go_sem, binC]) <;> rfl), ?_, rfl⟩
    unfold doesB
    rw [q1, q2]
    rfl
  | true =>
  simp only [go_sem, binC]
  refine seq_cond (t := false) rfl ?_
  simp only [go_sem, binC]
  refine seq_skip (seq_reg ?_)
  simp only [go_sem, binC, gc_of hb92, inBlk_some, otv, oev]
  obtain ⟨mw, H3, k3, hx3, hm3⟩ := gm H2 ls.length sk sx sa sbb sc sg tv ev otv oev rg hok1
  refine op_callK (by simp only [go_sem, binC]; exact k3) ?_
  obtain ⟨_, ma, rfl, _⟩ := id hm3
  simp only [go_sem, binC]
  refine seq_assoc (seq_reg ?_)
  simp only [go_sem, binC]
  have hx03 := hx02.tr hx3
  have hW3 := hx3.get hW2 (by simp)
  have hb93 := hx3.get hb92 (by simp)
  have hb103 := hx3.get hb10 (by simp)
  have r13 := r1.mono (agx_sub hx03)
  have rh3 := rh.mono (agx_sub hx03)
  have hm3' := hm3.mono (vwl0 _ _ _)
  generalize hML : makesL (sk, sx, (sa, sbb, sc), sg) = ml at *
  have hdo : doesB ls ts homes (sk, sx, (sa, sbb, sc), sg) st own h = (ml.all (mkP ls homes own h) && (decide (sk ≠ 1) || hasB own.1 (homes.getD sx.toNat 0))) := by
    unfold doesB
    rw [q1, q2, hML]
    rfl
  rw [hdo]
  have hhome : ∀ v : Int, 0 ≤ v → v < ls.length → ∃ hb ho, ha = some ⟨hb, ho, none⟩ ∧ getCells H3 hb (ho + v.toNat) 1 = some [.int .i64 (homes.getD v.toNat 0)] := fun v h1 h2 => by
    have hl : v.toNat < homes.length := by omega
    obtain ⟨b, o, hv, hg⟩ := gcJ rh3 hl
    simp only [Value.slice.injEq, and_true] at hv
    refine ⟨b, o, hv, ?_⟩
    rw [hg]
    simp [List.getD, hl]
  have hlabel : ∀ v : Int, 0 ≤ v → v < ls.length → ∃ lb lo', lva = some ⟨lb, lo', none⟩ ∧ getCells H3 lb (lo' + v.toNat * 2) 1 = some [.int .i64 (ls.getD v.toNat (0, 0)).1] := fun v h1 h2 => by
    obtain ⟨lb, lo', hla, hgl0, _⟩ := lab_at r13 (H := H3) (fun _ _ h => h) h1 h2
    simp only [Value.slice.injEq, and_true] at hla
    have hgl1 := hgl0 []
    rw [List.append_nil] at hgl1
    have := gc_part (off := 0) (k := 1) hgl1 (by omega)
    exact ⟨lb, lo', hla, by simpa using this⟩
  have hl3 := hx03.1
  refine seq_block (wpc_loop ?_)
  suffices hh : ∀ (m i : Nat) (e : Env), i + m = ml.length → (ml.take i).all (mkP ls homes own h) = true → e 0 = ptr W 0 → e 1 = .slice ha homes.length homes.length → e 3 = .int .i64 h → e 9 = ptr H.length 0 → e 10 = ptr H1.length 0 → e 11 = .slice ma ml.length ml.length → e 12 = .int .i64 i → Go.Proofs.YtiekbdijpfnagaaI.W F H.length _ e H3 _ from
    hh ml.length 0 _ (by omega) rfl (by simp only [go_sem, binC]) (by simp only [go_sem, binC]) (by simp only [go_sem, binC]) (by simp only [go_sem, binC]) (by simp only [go_sem, binC]) (by simp only [go_sem, binC]) (by (simp only [go_sem, binC]) <;> rfl)
  intro m
  induction m with
  | zero =>
    intro i e hi hall e0 e1 e3 e9 e10 e11 e12
    rw [List.take_of_length_le (by omega)] at hall
    refine lp_step ?_
    refine seq_assoc (seq_reg ?_)
    simp only [go_sem, binC, e11, e12]
    refine seq_cond (t := false) (by simp only [go_sem, binC]; rw [decide_eq_false (by omega)]) ?_
    simp only [go_sem, binC]
    refine seq_exit ?_
    simp only [go_sem, binC, thenX_e, out_e, thenX_n]
    refine seq_regD ?_
    simp only [go_sem, binC, e9, gc_of hb93, inBlk_some]
    by_cases k1 : sk = 1
    · simp only [go_sem, binC, bne_fJ k1]
      obtain ⟨hb, ho, rfl, hg⟩ := hhome sx hvx.1 hvx.2
      simp only [go_sem, binC, e1, e9, e10, gc_of hb93, gc_of hb103, inBlk_some]
      refine ⟨⟨by omega, by omega⟩, ?_⟩
      simp only [go_sem, binC, Int.toNat_natCast, Nat.mul_one, hg]
      refine op_callQ (by simp only [go_sem, binC]; exact gh H3 own.1 _ ho1.1 ho1.2) ?_
      simp only [go_sem, binC]
      refine wpc_ret ⟨Or.inr rfl, _, (by (simp only [go_sem, binC]) <;> rfl), ?_, rfl⟩
      rw [hall, decide_eq_false (by simpa using k1)]
      rfl
    · simp only [go_sem, binC, bne_tJ k1]
      refine wpc_ret ⟨Or.inr rfl, _, (by (simp only [go_sem, binC]) <;> rfl), ?_, rfl⟩
      rw [hall, decide_eq_true (by simpa using k1)]
      rfl
  | succ m ih =>
    intro i e hi hall e0 e1 e3 e9 e10 e11 e12
    have hil : i < ml.length := by omega
    have hw1 : IntKind.i64.wrap ((i : Int) + 1) = ((i + 1 : Nat) : Int) := by rw [wrap_id (by omega) (by omega)]; omega
    have hvi := hmin _ (List.getElem_mem hil)
    obtain ⟨mb, mo, hmv, hmg⟩ := gcJ hm3' hil
    simp only [Value.slice.injEq, and_true] at hmv
    subst hmv
    obtain ⟨lb, lo', rfl, hlg⟩ := hlabel _ hvi.1 hvi.2
    obtain ⟨hb, ho, rfl, hhg⟩ := hhome _ hvi.1 hvi.2
    have hlx := labB_i.1 (lab_getD hlab ml[i].toNat)
    have hPf : mkP ls homes own h ml[i] = false → ml.all (mkP ls homes own h) = false := fun hp => by
      rw [Bool.eq_false_iff]
      intro hall'
      have := List.all_eq_true.1 hall' _ (List.getElem_mem hil)
      rw [hp] at this
      cases this
    refine lp_step ?_
    refine seq_assoc (seq_reg ?_)
    simp only [go_sem, binC, e11, e12]
    refine seq_cond (t := true) (by simp only [go_sem, binC]; rw [decide_eq_true (by omega)]) ?_
    simp only [go_sem, binC]
    refine seq_skip (seq_block (seq_regD ?_))
    simp only [go_sem, binC, e0, e3, e11, e12, gc_of hW3, inBlk_some]
    refine ⟨⟨by omega, by omega⟩, ?_⟩
    simp only [go_sem, binC, Int.toNat_natCast, Nat.mul_one, hmg]
    refine ⟨⟨by omega, by omega⟩, ?_⟩
    simp only [go_sem, binC, hlg, e3]
    refine op_callQ (by simp only [go_sem, binC, e3]; exact gh H3 _ h hlx.1.1 hlx.1.2) ?_
    cases p1 : hasB (ls.getD ml[i].toNat (0, 0)).1 h with
    | false =>
      simp only [go_sem, binC]
      refine wpc_cond (t := true) rfl ?_
      simp only [go_sem, binC]
      refine seq_reg ?_
      simp only [go_sem, binC]
      refine wpc_ret ?_
      simp only [go_sem, binC, out_r, thenX_r]
      refine ⟨Or.inr rfl, .bool false, (by (simp only [go_sem, binC]) <;> rfl), ?_, rfl⟩
      rw [hPf (by unfold mkP; rw [p1]; rfl)]
      rfl
    | true =>
    simp only [go_sem, binC, e1, e10, e11, e12, gc_of hb103, inBlk_some]
    refine ⟨⟨by omega, by omega⟩, ?_⟩
    simp only [go_sem, binC, Int.toNat_natCast, Nat.mul_one, hmg]
    refine ⟨⟨by omega, by omega⟩, ?_⟩
    simp only [go_sem, binC, Int.toNat_natCast, Nat.mul_one, hhg]
    refine op_callQ (by simp only [go_sem, binC]; exact gh H3 own.1 _ ho1.1 ho1.2) ?_
    cases p2 : hasB own.1 (homes.getD ml[i].toNat 0) with
    | false =>
      simp only [go_sem, binC]
      refine wpc_cond (t := true) rfl ?_
      simp only [go_sem, binC]
      refine seq_reg ?_
      simp only [go_sem, binC]
      refine wpc_ret ?_
      simp only [go_sem, binC, out_r, thenX_r]
      refine ⟨Or.inr rfl, .bool false, (by (simp only [go_sem, binC]) <;> rfl), ?_, rfl⟩
      rw [hPf (by unfold mkP; rw [p1, p2]; rfl)]
      rfl
    | true =>
    simp only [go_sem, binC]
    refine wpc_cond (t := false) rfl ?_
    simp only [go_sem, binC]
    refine wpc_skip ?_
    simp only [go_sem, binC, out_n, thenX_n]
    refine wpc_reg ?_
    simp only [go_sem, binC, e12, hw1]
    simp only [go_sem, binC, thenX_n]
    refine ih (i + 1) _ (by omega) ?_ (by simp only [go_sem, binC, e0]) (by simp only [go_sem, binC, e1]) (by simp only [go_sem, binC, e3]) (by simp only [go_sem, binC, e9]) (by simp only [go_sem, binC, e10]) (by simp only [go_sem, binC, e11]) (by simp only [go_sem, binC])
    rw [List.take_add_one, List.getElem?_eq_getElem hil, List.all_append, hall]
    simp only [Option.toList, List.all_cons, List.all_nil, Bool.true_and, Bool.and_true]
    unfold mkP
    rw [p1, p2]
    rfl
end Go.Proofs.YtiekbdijpfnagaaI
end
section
/- Lists of numbers of one's own, appended to; who does all steps (the reference's). -/
set_option linter.unusedVariables false
set_option linter.unusedSimpArgs false
namespace Go.Proofs.YtiekbdijpfnagaaI
open Go Go.RowKit
/-- A list of numbers in a block of its own that may be appended to. -/
structure IntsO (et lo : Nat) (H : Heap) (b : Nat) (so : Bool) (l : List Int) : Prop where
  ge : lo ≤ b
  len : l.length ≤ 1048576
  blk : H[b]? = some ⟨ints l, 1, et, true, so⟩
  rg : ∀ x ∈ l, RgI x
theorem IntsO.sl {et lo : Nat} {H : Heap} {b : Nat} {so : Bool} {l : List Int} (h : IntsO et lo H b so l) : SlR Co.int (vw 0 H) (sli b 0 l.length) l := ints_sl0 h.blk h.rg (by have := h.len; omega)
theorem IntsO.keep {et lo lo' : Nat} {H H' : Heap} {b : Nat} {so : Bool} {l : List Int} {xs : List Nat} (h : IntsO et lo H b so l) (hl : lo' ≤ lo) (hx : AgX xs H H') (hn : b ∉ xs) : IntsO et lo' H' b so l := ⟨Nat.le_trans hl h.ge, h.len, hx.get h.blk hn, h.rg⟩
theorem IntsO.lt {et lo : Nat} {H : Heap} {b : Nat} {so : Bool} {l : List Int} (h : IntsO et lo H b so l) : b < H.length := (List.getElem?_eq_some_iff.1 h.blk).1
theorem IntsO.nil {et lo : Nat} {H : Heap} (h : lo ≤ H.length) : IntsO et lo (H ++ [⟨[], 1, et, true, true⟩]) H.length true [] := ⟨h, by simp, get_new0 _ _, by simp⟩
theorem ints_app (a b : List Int) : ints a ++ ints b = ints (a ++ b) := by simp [ints]
theorem op_app_IK {F : Nat → Option IFn} {lo0 et bytes lo b : Nat} {kill so : Bool} {x y : Opd} {e : Env} {H : Heap} {v2 : Value} {l l2 : List Int} {K : Value → Heap → Prop}
    (hv : IntsO et lo H b so l) (hx : x.ev e = sli b 0 l.length) (hy : y.ev e = v2) (h2 : SlR Co.int (vw 0 H) v2 l2) (hlo0 : lo0 ≤ lo) (hl : l.length + l2.length ≤ 1048576) (hb : bytes ≤ 1048576)
    (k : ∀ H' b' so', AgX [b] H H' → (b' = b ∨ H.length ≤ b') → (kill = true → so' = so) → IntsO et lo H' b' so' (l ++ l2) → K (sli b' 0 (l ++ l2).length) H') : wpOp F lo0 (.app 1 et bytes kill x y) e H K := by
  by_cases hne : l2 = []
  · subst hne
    obtain ⟨_, a, rfl, _⟩ := h2
    refine op_app_zero _ _ _ _ _ hx hy ?_
    have := k H b so (AgX.refl _ _) (.inl rfl) (fun _ => rfl) (by rw [List.append_nil]; exact hv)
    rw [List.append_nil] at this
    exact this
  have hm : l2.length ≠ 0 := fun h => hne (List.eq_nil_of_length_eq_zero h)
  have hrg2 := sl_rg h2
  obtain ⟨b2, o2, rfl, hg⟩ := sl_intsJ h2 hne
  have hbytes : (l.length + l2.length) * bytes ≤ 1048576 * 1048576 := Nat.mul_le_mul (by omega) hb
  have hbl := hv.lt
  have hge := hv.ge
  refine op_app _ _ _ _ _ (b := ⟨b, 0, none⟩) (n := l.length) (c := l.length) (a := ⟨b2, o2, none⟩) (m := l2.length) (c' := l2.length) (ys := ints l2) (kb := ⟨ints l, 1, et, true, so⟩) hx hy hm hg hv.blk ⟨by show lo0 ≤ b; omega, rfl, rfl, rfl, rfl, by simp [ints], by omega, by omega⟩ ?_
  have hag : AgX [b] H (H.set b ⟨if kill then [] else ints l, 1, et, false, so && l.length == 0⟩ ++ ([⟨ints l ++ ints l2, 1, et, true, so && (l.length == 0 || kill)⟩] : Heap)) := (AgX.set H b _).trans (AgX.app [] _ _) (fun b h _ => h) (fun b h _ => by cases h)
  have hres := k _ H.length (so && (l.length == 0 || kill)) hag (.inr (Nat.le_refl _)) (fun h => by rw [h, Bool.or_true, Bool.and_true]) ?_
  · rw [List.length_append] at hres; exact hres
  · refine ⟨by omega, by rw [List.length_append]; omega, ?_, fun x hx => ?_⟩
    · have : H.length = (H.set b ⟨if kill then [] else ints l, 1, et, false, so && l.length == 0⟩).length := by rw [List.length_set]
      rw [ints_app] at hag ⊢
      rw [this, get_new0]
      rfl
    · rcases List.mem_append.1 hx with h | h
      · exact hv.rg x h
      · exact hrg2 x h
/-- One number is appended, out of a literal. -/
theorem op_app_I1 {F : Nat → Option IFn} {lo0 et bytes lo b : Nat} {kill so : Bool} {x y : Opd} {e : Env} {H : Heap} {l : List Int} {a : Int} {K : Value → Heap → Prop}
    (hv : IntsO et lo H b so l) (hx : x.ev e = sli b 0 l.length) (hy : y.ev e = sli H.length 0 1) (ha : RgI a) (hlo0 : lo0 ≤ lo) (hl : l.length < 1048576) (hb : bytes ≤ 1048576)
    (k : ∀ H' b' so', AgX [b] H H' → (b' = b ∨ H.length ≤ b') → (kill = true → so' = so) → IntsO et lo H' b' so' (l ++ [a]) → K (sli b' 0 (l ++ [a]).length) H') : wpOp F lo0 (.app 1 et bytes kill x y) e (H ++ [⟨[.int .i64 a], 1, et, true, true⟩]) K := by
  have hbl := hv.lt
  have h1 : SlR Co.int (vw 0 (H ++ [⟨[.int .i64 a], 1, et, true, true⟩])) (sli H.length 0 1) [a] := ints_sl0 (l := [a]) (get_new0 _ _) (fun x hx => by simp only [List.mem_singleton] at hx; subst hx; exact ha) (by simp)
  refine op_app_IK (hv.keep (Nat.le_refl _) (AgX.app [] _ _) (by simp)) hx hy h1 hlo0 (by simp; omega) hb fun H' b' so' q1 q2 q3 q4 => k H' b' so' ((AgX.app [] H _).trans q1 (fun _ h _ => by cases h) (fun _ h _ => h)) ?_ q3 q4
  rcases q2 with h | h
  · exact .inl h
  · exact .inr (by rw [List.length_append] at h; omega)
end Go.Proofs.YtiekbdijpfnagaaI
end
section
/- The first plan (the reference's). -/
set_option linter.unusedVariables false
set_option linter.unusedSimpArgs false
namespace Go.Proofs.YtiekbdijpfnagaaI
open Go Go.RowKit
def c_sTypeOk : IFn := ⟨1, 16, [.t 2],
 .seq (.reg none [
    ⟨(some 1), none, .box (.t 0)⟩,
    ⟨(some 2), none, .mov (.c (.bool false))⟩])
 (.seq (.reg none [
    ⟨(some 6), none, .load true 2 (.t 1)⟩,
    ⟨(some 7), none, .call .q (.f 56) [(.t 6)]⟩,
    ⟨(some 5), none, .mov (.t 7)⟩,
    ⟨(some 8), none, .ext (.t 5) 0⟩,
    ⟨(some 9), none, .ext (.t 5) 1⟩,
    ⟨(some 3), none, .mov (.t 8)⟩,
    ⟨(some 4), none, .mov (.t 9)⟩])
 (.seq (.reg none [
    ⟨(some 10), none, .load true 2 (.t 1)⟩,
    ⟨(some 11), none, .call .q (.f 57) [(.t 10)]⟩,
    ⟨(some 12), none, .mov (.t 11)⟩,
    ⟨(some 13), (some (12, true)), .mov (.t 4)⟩,
    ⟨(some 14), (some (12, true)), .un .not (.t 13)⟩,
    ⟨(some 15), none, .pick (.t 12) (.t 14) (.c (.bool false))⟩,
    ⟨(some 2), none, .mov (.t 15)⟩])
 (.ret)))⟩
theorem sTypeOk_ok {F : Nat → Option IFn} {f : Nat} (hf : F f = some c_sTypeOk) (gw : WhyV F 56) (gp : ProgOk F 57) : TypeP F f := by
  intro H n lv sv ls l r1 r2 hsm
  have olv : one lv = true := by obtain ⟨_, a, rfl, _⟩ := r1; rfl
  have osv : one sv = true := by obtain ⟨_, a, rfl, _⟩ := r2; rfl
  refine QC.mk hf rfl ?_
  refine seq_reg ?_
  simp only [go_sem, binC, olv, osv]
  refine wpc_gen fun H1 hH1 => ?_
  have hx1 : AgX [] H H1 := hH1 ▸ AgX.app [] _ _
  have hb : H1[H.length]? = some ⟨[lv, sv], 0, 0, false, true⟩ := hH1 ▸ get_new0 _ _
  clear hH1
  have hS := agx_sub hx1
  refine seq_reg ?_
  simp only [go_sem, binC, gc_of hb, inBlk_some, olv, osv]
  refine op_callQ (by simp only [go_sem, binC]; exact gw H1 n _ _ ls l (r1.mono hS) (r2.mono hS) hsm) ?_
  simp only [go_sem, binC]
  refine seq_reg ?_
  simp only [go_sem, binC, gc_of hb, inBlk_some, olv, osv]
  refine op_callQ (by simp only [go_sem, binC]; exact gp H1 n _ (ls, l) (prog_rd (r1.mono hS) (r2.mono hS)) hsm) ?_
  cases hP : progB n (ls, l) with
  | false =>
    simp only [go_sem, binC]
    refine wpc_ret ⟨Or.inr rfl, .bool false, (by (simp only [go_sem, binC]) <;> rfl), ?_, rfl⟩
    refine congrArg _ ?_
    show _ = typeP n (ls, l)
    unfold typeP
    rw [hP]
    rfl
  | true =>
    simp only [go_sem, binC]
    refine wpc_ret ⟨Or.inr rfl, .bool (!(whyV n (ls, l)).2), (by (simp only [go_sem, binC]) <;> rfl), ?_, rfl⟩
    refine congrArg _ ?_
    show _ = typeP n (ls, l)
    unfold typeP
    rw [hP]
    rfl
/-- All homes that begin so, number by number. -/
def extL (ls : List (Int × Int)) (ts : List Int) : Nat → List Int → List (List Int)
  | 0, homes => [homes]
  | m + 1, homes => (hostsL (hmB ls ts homes.length) 3).flatMap fun h => extL ls ts m (homes ++ [h])
theorem flatMap_same {α β : Type} {f g : α → List β} : ∀ l : List α, (∀ a ∈ l, f a = g a) → l.flatMap f = l.flatMap g
  | [], _ => rfl
  | a :: l, h => by rw [List.flatMap_cons, List.flatMap_cons, h a List.mem_cons_self, flatMap_same l fun a ha => h a (List.mem_cons_of_mem _ ha)]
theorem extL_hm {ls : List (Int × Int)} {ts : List Int} : ∀ (m v : Nat), (hmL ls ts v).flatMap (extL ls ts m) = hmL ls ts (v + m)
  | 0, v => by
    show (hmL ls ts v).flatMap (fun l => [l]) = _
    rw [List.flatMap_singleton']
    rfl
  | m + 1, v => by
    have h1 : (hmL ls ts v).flatMap (extL ls ts (m + 1)) = (hmL ls ts v).flatMap fun l => ((hostsL (hmB ls ts v) 3).map fun h => l ++ [h]).flatMap (extL ls ts m) := flatMap_same _ fun l hl => by
      have := (hmL_el v l hl).1
      show (hostsL (hmB ls ts l.length) 3).flatMap (fun h => extL ls ts m (l ++ [h])) = _
      rw [this, List.flatMap_map]
    rw [h1, ← List.flatMap_assoc]
    have := extL_hm (ls := ls) (ts := ts) m (v + 1)
    rw [show v + (m + 1) = v + 1 + m by omega, ← this]
    rfl
theorem extL_nil {ls : List (Int × Int)} {ts : List Int} (m : Nat) : extL ls ts m [] = hmL ls ts m := by
  have := extL_hm (ls := ls) (ts := ts) m 0
  rw [Nat.zero_add] at this
  rw [← this]
  simp [hmL]
def PlanX (lo b : Nat) (H : Heap) (tv hv dv : Value) (ts : List Int) (o : Option (List Int)) (d : List Int → List Int) : Prop := match o with
  | none => one tv = true ∧ one hv = true ∧ one dv = true
  | some homes => ∃ b1 b2 b3, tv = sli b1 0 ts.length ∧ hv = sli b2 0 homes.length ∧ dv = sli b3 0 (d homes).length ∧ IntsO 3 lo H b1 true ts ∧ IntsO 3 0 H b2 true homes ∧ IntsO 3 lo H b3 true (d homes) ∧ (b2 = b ∨ lo ≤ b2) ∧ b1 ≠ b2 ∧ b1 ≠ b3 ∧ b2 ≠ b3
theorem PlanX.one {lo b : Nat} {H : Heap} {tv hv dv : Value} {ts : List Int} {o : Option (List Int)} {d : List Int → List Int} (h : PlanX lo b H tv hv dv ts o d) : Go.Proofs.YtiekbdijpfnagaaI.one tv = true ∧ Go.Proofs.YtiekbdijpfnagaaI.one hv = true ∧ Go.Proofs.YtiekbdijpfnagaaI.one dv = true := by
  cases o with
  | none => exact h
  | some homes =>
    obtain ⟨b1, b2, b3, rfl, rfl, rfl, _⟩ := h
    exact ⟨rfl, rfl, rfl⟩
theorem PlanX.keep {lo lo' b b' : Nat} {H H' : Heap} {tv hv dv : Value} {ts : List Int} {o : Option (List Int)} {d : List Int → List Int} {xs : List Nat} (h : PlanX lo b H tv hv dv ts o d) (hl : lo' ≤ lo) (hx : AgX xs H H') (hn : ∀ c, c = b ∨ lo ≤ c → c ∉ xs) (hb : b = b' ∨ lo' ≤ b) : PlanX lo' b' H' tv hv dv ts o d := by
  cases o with
  | none => exact h
  | some homes =>
    obtain ⟨b1, b2, b3, h1, h2, h3, q1, q2, q3, q4, q5⟩ := h
    refine ⟨b1, b2, b3, h1, h2, h3, q1.keep hl hx (hn _ (.inr q1.ge)), q2.keep (Nat.le_refl _) hx (hn _ q4), q3.keep hl hx (hn _ (.inr q3.ge)), ?_, q5⟩
    rcases q4 with h | h
    · subst h
      rcases hb with h | h
      · exact .inl h
      · exact .inr h
    · exact .inr (by omega)
end Go.Proofs.YtiekbdijpfnagaaI
end
section
/- The first plan (the reference's), of a program. -/
set_option linter.unusedVariables false
set_option linter.unusedSimpArgs false
namespace Go.Proofs.YtiekbdijpfnagaaI
open Go Go.RowKit
end Go.Proofs.YtiekbdijpfnagaaI
end
section
/- What has no host (the reference's). -/
set_option linter.unusedVariables false
set_option linter.unusedSimpArgs false
namespace Go.Proofs.YtiekbdijpfnagaaI
open Go Go.RowKit
def c_lSome : IFn := ⟨3, 47, [.t 6],
 .seq (.reg none [
    ⟨(some 6), none, .mov (.c (.bool false))⟩])
 (.seq (.seq (.reg none [
     ⟨(some 9), none, .mov (.t 1)⟩,
     ⟨(some 10), none, .len (.t 9)⟩,
     ⟨(some 11), none, .mov (.t 0)⟩,
     ⟨(some 12), none, .nilck (.t 11)⟩,
     ⟨(some 13), none, .fad 0 (.t 12)⟩,
     ⟨(some 14), none, .fad 0 (.t 13)⟩,
     ⟨(some 15), none, .load false 1 (.t 14)⟩,
     ⟨(some 16), none, .len (.t 15)⟩,
     ⟨(some 17), none, .bin .eql (.t 10) (.t 16)⟩])
  (.cond (.t 17) (.seq (.seq (.reg none [
       ⟨(some 7), none, .mov (.c (.int .i64 0))⟩])
    (.block 0 (.loop (.seq (.seq (.reg none [
          ⟨(some 18), none, .mov (.t 7)⟩,
          ⟨(some 19), none, .bin .lss (.t 18) (.c (.int .i64 3))⟩])
       (.cond (.t 19) (.skip) (.exit 0)))
      (.seq (.block 1 (.seq (.reg none [
           ⟨(some 22), none, .mov (.t 0)⟩,
           ⟨(some 23), none, .mov (.t 1)⟩,
           ⟨(some 24), none, .mov (.t 2)⟩,
           ⟨(some 25), none, .mov (.t 7)⟩,
           ⟨(some 26), none, .call .q (.f 85) [(.t 22), (.t 23), (.t 24), (.t 25)]⟩])
        (.cond (.t 26) (.seq (.reg none [
            ⟨(some 6), none, .mov (.c (.bool true))⟩])
         (.ret)) (.skip))))
      (.reg none [
        ⟨(some 20), none, .mov (.t 7)⟩,
        ⟨(some 21), none, .bin .add (.t 20) (.c (.int .i64 1))⟩,
        ⟨(some 7), none, .mov (.t 21)⟩]))))))
   (.seq (.reg none [
      ⟨(some 6), none, .mov (.c (.bool false))⟩])
   (.ret))) (.skip)))
 (.seq (.seq (.reg none [
     ⟨(some 8), none, .mov (.c (.int .i64 0))⟩])
  (.block 2 (.loop (.seq (.seq (.reg none [
        ⟨(some 27), none, .mov (.t 8)⟩,
        ⟨(some 28), none, .bin .lss (.t 27) (.c (.int .i64 3))⟩])
     (.cond (.t 28) (.skip) (.exit 2)))
    (.seq (.block 3 (.seq (.reg none [
         ⟨(some 31), none, .mov (.t 0)⟩,
         ⟨(some 32), none, .mov (.t 1)⟩,
         ⟨(some 33), none, .len (.t 32)⟩,
         ⟨(some 34), none, .mov (.t 8)⟩,
         ⟨(some 35), none, .call .q (.f 73) [(.t 31), (.t 33), (.t 34)]⟩,
         ⟨(some 36), none, .mov (.t 35)⟩,
         ⟨(some 37), (some (36, true)), .mov (.t 0)⟩,
         ⟨(some 38), (some (36, true)), .lit 1 3 0 [] []⟩,
         ⟨(some 39), (some (36, true)), .mov (.t 1)⟩,
         ⟨(some 40), (some (36, true)), .app 1 3 8 false (.t 38) (.t 39)⟩,
         ⟨(some 41), (some (36, true)), .mov (.t 8)⟩,
         ⟨(some 42), (some (36, true)), .lit 1 3 1 [(.int .i64 0)] [(0, 1, (.t 41))]⟩,
         ⟨(some 43), (some (36, true)), .app 1 3 8 false (.t 40) (.t 42)⟩,
         ⟨(some 44), (some (36, true)), .mov (.t 2)⟩,
         ⟨(some 45), (some (36, true)), .call .q (.f 74) [(.t 37), (.t 43), (.t 44)]⟩,
         ⟨(some 46), none, .pick (.t 36) (.t 45) (.c (.bool false))⟩])
      (.cond (.t 46) (.seq (.reg none [
          ⟨(some 6), none, .mov (.c (.bool true))⟩])
       (.ret)) (.skip))))
    (.reg none [
      ⟨(some 29), none, .mov (.t 8)⟩,
      ⟨(some 30), none, .bin .add (.t 29) (.c (.int .i64 1))⟩,
      ⟨(some 8), none, .mov (.t 30)⟩]))))))
 (.seq (.reg none [
    ⟨(some 6), none, .mov (.c (.bool false))⟩])
 (.ret))))⟩
def c_sPlanLack : IFn := ⟨2, 62, [.t 4, .t 5],
 .seq (.reg none [
    ⟨(some 2), none, .box (.t 0)⟩,
    ⟨(some 4), none, .mov (.c (.int .i64 0))⟩,
    ⟨(some 5), none, .mov (.c (.bool false))⟩])
 (.seq (.seq (.reg none [
     ⟨(some 11), none, .load true 2 (.t 2)⟩,
     ⟨(some 12), none, .call .q (.f 14) [(.t 11)]⟩,
     ⟨(some 13), none, .un .not (.t 12)⟩,
     ⟨(some 14), none, .mov (.t 13)⟩,
     ⟨(some 15), (some (14, false)), .mov (.t 1)⟩,
     ⟨(some 16), (some (14, false)), .call .q (.f 45) [(.t 15)]⟩,
     ⟨(some 17), (some (14, false)), .un .not (.t 16)⟩,
     ⟨(some 18), none, .pick (.t 14) (.c (.bool true)) (.t 17)⟩])
  (.cond (.t 18) (.seq (.reg none [
      ⟨(some 4), none, .mov (.c (.int .i64 0))⟩,
      ⟨(some 5), none, .mov (.c (.bool false))⟩])
   (.ret)) (.skip)))
 (.seq (.reg none [
    ⟨(some 19), none, .load true 2 (.t 2)⟩,
    ⟨(some 20), none, .mov (.t 1)⟩,
    ⟨(some 21), none, .call .n (.f 46) [(.t 19), (.t 20)]⟩,
    ⟨(some 6), none, .mov (.t 21)⟩])
 (.seq (.seq (.reg none [
     ⟨(some 7), none, .mov (.c (.int .i64 0))⟩])
  (.block 0 (.loop (.seq (.seq (.reg none [
        ⟨(some 22), none, .mov (.t 7)⟩,
        ⟨(some 23), none, .fad 0 (.t 2)⟩,
        ⟨(some 24), none, .load false 1 (.t 23)⟩,
        ⟨(some 25), none, .len (.t 24)⟩,
        ⟨(some 26), none, .bin .lss (.t 22) (.t 25)⟩])
     (.cond (.t 26) (.skip) (.exit 0)))
    (.seq (.block 1 (.seq (.reg none [
         ⟨(some 8), none, .mov (.c (.bool false))⟩])
      (.seq (.seq (.reg none [
          ⟨(some 9), none, .mov (.c (.int .i64 0))⟩])
       (.block 2 (.loop (.seq (.seq (.reg none [
             ⟨(some 29), none, .mov (.t 9)⟩,
             ⟨(some 30), none, .bin .lss (.t 29) (.c (.int .i64 3))⟩])
          (.cond (.t 30) (.skip) (.exit 2)))
         (.seq (.block 3 (.reg none [
             ⟨(some 33), none, .mov (.t 8)⟩,
             ⟨(some 34), none, .mov (.t 33)⟩,
             ⟨(some 35), (some (34, false)), .mov (.t 6)⟩,
             ⟨(some 36), (some (34, false)), .mov (.t 7)⟩,
             ⟨(some 37), (some (34, false)), .mov (.t 9)⟩,
             ⟨(some 38), (some (34, false)), .call .q (.f 73) [(.t 35), (.t 36), (.t 37)]⟩,
             ⟨(some 39), none, .pick (.t 34) (.c (.bool true)) (.t 38)⟩,
             ⟨(some 8), none, .mov (.t 39)⟩]))
         (.reg none [
           ⟨(some 31), none, .mov (.t 9)⟩,
           ⟨(some 32), none, .bin .add (.t 31) (.c (.int .i64 1))⟩,
           ⟨(some 9), none, .mov (.t 32)⟩]))))))
      (.seq (.reg none [
         ⟨(some 40), none, .mov (.t 8)⟩,
         ⟨(some 41), none, .un .not (.t 40)⟩])
      (.cond (.t 41) (.seq (.reg none [
          ⟨(some 42), none, .mov (.t 7)⟩,
          ⟨(some 4), none, .mov (.t 42)⟩,
          ⟨(some 5), none, .mov (.c (.bool true))⟩])
       (.ret)) (.skip))))))
    (.reg none [
      ⟨(some 27), none, .mov (.t 7)⟩,
      ⟨(some 28), none, .bin .add (.t 27) (.c (.int .i64 1))⟩,
      ⟨(some 7), none, .mov (.t 28)⟩]))))))
 (.seq (.seq (.reg none [
     ⟨(some 10), none, .mov (.c (.int .i64 0))⟩])
  (.block 4 (.loop (.seq (.seq (.reg none [
        ⟨(some 43), none, .mov (.t 10)⟩,
        ⟨(some 44), none, .mov (.t 6)⟩,
        ⟨(some 45), none, .nilck (.t 44)⟩,
        ⟨(some 46), none, .fad 3 (.t 45)⟩,
        ⟨(some 47), none, .load false 1 (.t 46)⟩,
        ⟨(some 48), none, .len (.t 47)⟩,
        ⟨(some 49), none, .bin .lss (.t 43) (.t 48)⟩])
     (.cond (.t 49) (.skip) (.exit 4)))
    (.seq (.block 5 (.seq (.reg none [
         ⟨(some 52), none, .mov (.t 6)⟩,
         ⟨(some 53), none, .lit 1 3 0 [] []⟩,
         ⟨(some 54), none, .mov (.t 10)⟩,
         ⟨(some 55), none, .call .q (.f 74) [(.t 52), (.t 53), (.t 54)]⟩,
         ⟨(some 56), none, .un .not (.t 55)⟩])
      (.cond (.t 56) (.seq (.reg none [
          ⟨(some 57), none, .fad 0 (.t 2)⟩,
          ⟨(some 58), none, .load false 1 (.t 57)⟩,
          ⟨(some 59), none, .len (.t 58)⟩,
          ⟨(some 60), none, .mov (.t 10)⟩,
          ⟨(some 61), none, .bin .add (.t 59) (.t 60)⟩,
          ⟨(some 4), none, .mov (.t 61)⟩,
          ⟨(some 5), none, .mov (.c (.bool true))⟩])
       (.ret)) (.skip))))
    (.reg none [
      ⟨(some 50), none, .mov (.t 10)⟩,
      ⟨(some 51), none, .bin .add (.t 50) (.c (.int .i64 1))⟩,
      ⟨(some 10), none, .mov (.t 51)⟩]))))))
 (.seq (.reg none [
    ⟨(some 4), none, .mov (.c (.int .i64 0))⟩,
    ⟨(some 5), none, .mov (.c (.bool false))⟩])
 (.ret))))))⟩
/-- Whether some host may do the j-th step. -/
def anyDo (n : Nat) (ls : List (Int × Int)) (l : List (TStep n)) (ts : List Int) (j : Nat) (homes : List Int) : Bool := ([0, 1, 2] : List Int).any fun h => doN n ls l ts homes j h
theorem any_drop {P : Int → Bool} {i : Nat} (hi : i < 3) : (([0, 1, 2] : List Int).drop i).any P = (P i || (([0, 1, 2] : List Int).drop (i + 1)).any P) := by
  have hi3 : i = 0 ∨ i = 1 ∨ i = 2 := by omega
  rcases hi3 with rfl | rfl | rfl <;> simp
theorem hosts_rest {P : Int → Bool} {f : Int → List (List Int)} {i : Nat} (hi : i < 3) : ((([0, 1, 2] : List Int).drop i).filter P).flatMap f = (if P i = true then f i else []) ++ ((([0, 1, 2] : List Int).drop (i + 1)).filter P).flatMap f := by
  have hi3 : i = 0 ∨ i = 1 ∨ i = 2 := by omega
  rcases hi3 with rfl | rfl | rfl <;> simp only [List.drop_zero, List.drop_succ_cons, List.filter_cons, List.filter_nil] <;> split <;> simp_all
def LSome (F : Nat → Option IFn) (f m : Nat) : Prop := ∀ (lo : Nat) (H : Heap) (W n : Nat) (ls : List (Int × Int)) (l : List (TStep n)) (ts : List Int) (b : Nat) (so : Bool) (homes : List Int) (j : Nat), m + homes.length = ls.length → LookR H W n ls l ts → progB n (ls, l) = true → IntsO 3 lo H b so homes → (∀ x ∈ homes, 0 ≤ x ∧ x ≤ 2) → j < (allSL n l).length →
  QC F f [ptr W 0, sli b 0 homes.length, .int .i64 j] H (.bool ((extL ls ts m homes).any (anyDo n ls l ts j)))
theorem lSome_ok {F : Nat → Option IFn} {f m : Nat} (hf : F f = some c_lSome) (gh : LHome F 73) (gs : LStep F 85) (ih : ∀ m', m = m' + 1 → LSome F 74 m') : LSome F f m := by
  intro lo H W n ls l ts b so homes j hm hL hP hI hho hj
  have hlab : ls.all labB = true := progB_lab hP
  have hls4 : ls.length ≤ 4 := progB_len hP
  have hblt := hI.lt
  obtain ⟨lv, sv, tw, li, la, se, bv, osv, hW, r1, r2, r3, r4, r5, r6⟩ := hL.ex
  obtain ⟨_, lva, rfl, _⟩ := id r1
  refine QC.mk hf rfl ?_
  refine seq_reg ?_
  simp only [go_sem, binC]
  refine seq_assoc (seq_reg ?_)
  simp only [go_sem, binC, gc_of hW, inBlk_some, sli]
  cases m with
  | zero =>
    have hlen : homes.length = ls.length := by omega
    have hho' : homesP ls.length homes := ⟨hlen, hho⟩
    have hext : (extL ls ts 0 homes).any (anyDo n ls l ts j) = anyDo n ls l ts j homes := by simp [extL]
    rw [hext, hlen]
    refine seq_cond (t := true) (by simp only [go_sem, binC]; simp) ?_
    simp only [go_sem, binC]
    refine seq_assoc (seq_assoc (seq_reg ?_))
    simp only [go_sem, binC]
    refine seq_block (wpc_loop ?_)
    suffices hh : ∀ (k i : Nat) (e : Env), i + k = 3 → anyDo n ls l ts j homes = (([0, 1, 2] : List Int).drop i).any (fun h => doN n ls l ts homes j h) → e 0 = ptr W 0 → e 1 = .slice (some ⟨b, 0, none⟩) ls.length ls.length → e 2 = .int .i64 j → e 7 = .int .i64 i → Go.Proofs.YtiekbdijpfnagaaI.W F H.length _ e H _ from
      hh 3 0 _ rfl rfl (by simp only [go_sem, binC]) (by simp only [go_sem, binC]) (by simp only [go_sem, binC]) (by (simp only [go_sem, binC]) <;> rfl)
    intro k
    induction k with
    | zero =>
      intro i e hi hany e0 e1 e2 e7
      obtain rfl : i = 3 := by omega
      have hd3 : decide (((3 : Nat) : Int) < 3) = false := rfl
      refine lp_step ?_
      refine seq_assoc (seq_reg ?_)
      simp only [go_sem, binC, e7, hd3]
      refine seq_cond (t := false) (by simp only [go_sem, binC]) ?_
      simp only [go_sem, binC]
      refine seq_exit ?_
      simp only [go_sem, binC, thenX_e, out_e, thenX_n]
      refine seq_assoc (seq_reg ?_)
      simp only [go_sem, binC]
      refine seq_ret ⟨Or.inr rfl, .bool false, (by (simp only [go_sem, binC]) <;> rfl), ?_, rfl⟩
      rw [hany]
      rfl
    | succ k ihk =>
      intro i e hi hany e0 e1 e2 e7
      have hdi : decide ((i : Int) < 3) = true := decide_eq_true (by omega)
      have hw1 : IntKind.i64.wrap ((i : Int) + 1) = ((i + 1 : Nat) : Int) := by rw [wrap_id (by omega) (by omega)]; omega
      rw [any_drop (by omega)] at hany
      refine lp_step ?_
      refine seq_assoc (seq_reg ?_)
      simp only [go_sem, binC, e7, hdi]
      refine seq_cond (t := true) (by simp only [go_sem, binC]) ?_
      simp only [go_sem, binC]
      refine seq_skip (seq_block (seq_reg ?_))
      simp only [go_sem, binC, e0, e1, e2, e7]
      have hcall := gs H W n ls l ts (sli b 0 homes.length) homes j i hL hP hI.sl hho' hj (by omega) (by omega)
      rw [hlen] at hcall
      refine op_callQ (by simp only [go_sem, binC, e0, e1, e2, e7]; exact hcall) ?_
      cases hp : doN n ls l ts homes j i with
      | true =>
        rw [hp, Bool.true_or] at hany
        simp only [go_sem, binC]
        refine wpc_cond (t := true) rfl ?_
        simp only [go_sem, binC]
        refine seq_reg ?_
        simp only [go_sem, binC]
        refine wpc_ret ?_
        simp only [go_sem, binC, out_r, thenX_r]
        exact ⟨Or.inr rfl, .bool true, (by (simp only [go_sem, binC]) <;> rfl), by rw [hany], rfl⟩
      | false =>
        rw [hp, Bool.false_or] at hany
        simp only [go_sem, binC]
        refine wpc_cond (t := false) rfl ?_
        simp only [go_sem, binC]
        refine wpc_skip ?_
        simp only [go_sem, binC, out_n, thenX_n]
        refine wpc_reg ?_
        simp only [go_sem, binC, e7, hw1]
        simp only [go_sem, binC, thenX_n]
        exact ihk (i + 1) _ (by omega) hany (by simp only [go_sem, binC, e0]) (by simp only [go_sem, binC, e1]) (by simp only [go_sem, binC, e2]) (by simp only [go_sem, binC])
  | succ m =>
    have hlen : homes.length < ls.length := by omega
    have hne : ¬ ((homes.length : Int) = ls.length) := by omega
    refine seq_cond (t := false) (by simp only [go_sem, binC]; rw [beq_f hne]) ?_
    simp only [go_sem, binC]
    refine seq_skip (seq_assoc (seq_reg ?_))
    simp only [go_sem, binC]
    refine seq_block (wpc_loop ?_)
    have hsucc : (extL ls ts (m + 1) homes) = (hostsL (hmB ls ts homes.length) 3).flatMap fun h => extL ls ts m (homes ++ [h]) := rfl
    generalize hPd : hmB ls ts homes.length = P at *
    rw [hsucc]
    suffices hh : ∀ (k i : Nat) (e : Env) (Hc : Heap), i + k = 3 → AgX [] H Hc → ((hostsL P 3).flatMap fun h => extL ls ts m (homes ++ [h])).any (anyDo n ls l ts j) = (((([0, 1, 2] : List Int).drop i).filter P).flatMap (fun h => extL ls ts m (homes ++ [h]))).any (anyDo n ls l ts j) → e 0 = ptr W 0 → e 1 = .slice (some ⟨b, 0, none⟩) homes.length homes.length → e 2 = .int .i64 j → e 8 = .int .i64 i → Go.Proofs.YtiekbdijpfnagaaI.W F H.length _ e Hc _ from
      hh 3 0 _ H rfl (AgX.refl _ _) (by simp [hostsL]) (by simp only [go_sem, binC]) (by simp only [go_sem, binC]) (by simp only [go_sem, binC]) (by (simp only [go_sem, binC]) <;> rfl)
    intro k
    induction k with
    | zero =>
      intro i e Hc hi hxc hfd e0 e1 e2 e8
      obtain rfl : i = 3 := by omega
      have hd3 : decide (((3 : Nat) : Int) < 3) = false := rfl
      refine lp_step ?_
      refine seq_assoc (seq_reg ?_)
      simp only [go_sem, binC, e8, hd3]
      refine seq_cond (t := false) (by simp only [go_sem, binC]) ?_
      simp only [go_sem, binC]
      refine seq_exit ?_
      simp only [go_sem, binC, thenX_e, out_e, thenX_n]
      refine seq_reg ?_
      simp only [go_sem, binC]
      refine wpc_ret ⟨Or.inr rfl, .bool false, (by (simp only [go_sem, binC]) <;> rfl), ?_, rfl⟩
      rw [hfd]
      rfl
    | succ k ihk =>
      intro i e Hc hi hxc hfd e0 e1 e2 e8
      have hdi : decide ((i : Int) < 3) = true := decide_eq_true (by omega)
      have hw1 : IntKind.i64.wrap ((i : Int) + 1) = ((i + 1 : Nat) : Int) := by rw [wrap_id (by omega) (by omega)]; omega
      have hLc := hL.mono hxc
      have hcall := gh Hc W n ls l ts homes.length i hLc hlab (by omega) (by omega) (by omega) (by omega)
      rw [hPd] at hcall
      have hrs := hosts_rest (P := P) (f := fun h => extL ls ts m (homes ++ [h])) (i := i) (by omega)
      rw [hrs] at hfd
      refine lp_step ?_
      refine seq_assoc (seq_reg ?_)
      simp only [go_sem, binC, e8, hdi]
      refine seq_cond (t := true) (by simp only [go_sem, binC]) ?_
      simp only [go_sem, binC]
      refine seq_skip (seq_block (seq_reg ?_))
      simp only [go_sem, binC, e0, e1, e8]
      refine op_callQ (by simp only [go_sem, binC, e0, e1, e8]; exact hcall) ?_
      cases hp : P i with
      | false =>
        rw [hp, if_neg (by simp), List.nil_append] at hfd
        simp only [go_sem, binC]
        refine wpc_cond (t := false) rfl ?_
        simp only [go_sem, binC]
        refine wpc_skip ?_
        simp only [go_sem, binC, out_n, thenX_n]
        refine wpc_reg ?_
        simp only [go_sem, binC, e8, hw1]
        simp only [go_sem, binC, thenX_n]
        exact ihk (i + 1) _ Hc (by omega) hxc hfd (by simp only [go_sem, binC, e0]) (by simp only [go_sem, binC, e1]) (by simp only [go_sem, binC, e2]) (by simp only [go_sem, binC])
      | true =>
        rw [hp, if_pos rfl, List.any_append] at hfd
        simp only [go_sem, binC, e0, e1, e8]
        generalize hH3 : Hc ++ [(⟨[], 1, 3, true, true⟩ : Blk)] = H3
        have hx3 : AgX [] Hc H3 := hH3 ▸ AgX.app [] _ _
        have oI3 : IntsO 3 Hc.length H3 Hc.length true [] := hH3 ▸ IntsO.nil (Nat.le_refl _)
        clear hH3
        have hx03 := hxc.tr hx3
        have hlc := hxc.1
        have hl3 := hx3.1
        refine op_app_IK oI3 (by (simp only [go_sem, binC]) <;> rfl) (by (simp only [go_sem, binC]) <;> rfl) (show SlR Co.int (vw 0 H3) (.slice (some ⟨b, 0, none⟩) homes.length homes.length) homes from hI.sl.mono (agx_sub hx03)) (by omega) (by simp; omega) (by omega) fun H4 b4 so4 hx4 hb4' hso4 o4 => ?_
        rw [List.nil_append] at o4
        have hx34 : AgX [] Hc H4 := hx3.trans hx4 (fun _ h _ => h) (fun b' h1 h2 => by simp only [List.mem_singleton] at h1; omega)
        rw [List.nil_append]
        simp only [go_sem, binC, e8]
        refine op_app_I1 (a := (i : Int)) o4 (by (simp only [go_sem, binC]) <;> rfl) (by (simp only [go_sem, binC]) <;> rfl) ⟨by omega, by omega⟩ (by omega) (by omega) (by omega) fun H5 b5 so5 hx5 hb5 hso5 o5 => ?_
        have ho4g := o4.ge
        have hx35 : AgX [] Hc H5 := hx34.trans hx5 (fun _ h _ => h) (fun b' h1 h2 => by simp only [List.mem_singleton] at h1; omega)
        have hx05 := hxc.tr hx35
        simp only [go_sem, binC, e0, e2]
        have hrec := ih m rfl Hc.length H5 W n ls l ts b5 so5 (homes ++ [(i : Int)]) j (by rw [List.length_append, List.length_singleton]; omega) (hL.mono hx05) hP o5 (fun x hx => by
          rcases List.mem_append.1 hx with h | h
          · exact hho x h
          · simp only [List.mem_singleton] at h; omega) hj
        refine op_callQ (by simp only [go_sem, binC, e0, e2]; exact hrec) ?_
        cases hres : (extL ls ts m (homes ++ [(i : Int)])).any (anyDo n ls l ts j) with
        | false =>
          rw [hres, Bool.false_or] at hfd
          simp only [go_sem, binC]
          refine wpc_cond (t := false) rfl ?_
          simp only [go_sem, binC]
          refine wpc_skip ?_
          simp only [go_sem, binC, out_n, thenX_n]
          refine wpc_reg ?_
          simp only [go_sem, binC, e8, hw1]
          simp only [go_sem, binC, thenX_n]
          exact ihk (i + 1) _ H5 (by omega) hx05 hfd (by simp only [go_sem, binC, e0]) (by simp only [go_sem, binC, e1]) (by simp only [go_sem, binC, e2]) (by simp only [go_sem, binC])
        | true =>
          rw [hres, Bool.true_or] at hfd
          simp only [go_sem, binC]
          refine wpc_cond (t := true) rfl ?_
          simp only [go_sem, binC]
          refine seq_reg ?_
          simp only [go_sem, binC]
          refine wpc_ret ?_
          simp only [go_sem, binC, out_r, thenX_r]
          exact ⟨Or.inr rfl, .bool true, (by (simp only [go_sem, binC]) <;> rfl), by rw [hfd], rfl⟩
theorem lSome_all {F : Nat → Option IFn} (hf : F 74 = some c_lSome) (gh : LHome F 73) (gs : LStep F 85) : ∀ m, LSome F 74 m
  | 0 => lSome_ok hf gh gs fun m h => by omega
  | m + 1 => lSome_ok hf gh gs fun m' h => by cases h; exact lSome_all hf gh gs m
/-- The first that has no host: a variable, or a step, told behind all variables. -/
def noHome (ls : List (Int × Int)) (ts : List Int) (v : Nat) : Bool := !([0, 1, 2] : List Int).any (hmB ls ts v)
def noDo (n : Nat) (ls : List (Int × Int)) (l : List (TStep n)) (ts : List Int) (j : Nat) : Bool := !(hmL ls ts ls.length).any (anyDo n ls l ts j)
def lackV (n : Nat) (p : TProg n) (ts : List Int) : Int × Bool := if (typeP n p && trK ts) = true then (match (List.range p.1.length).find? (noHome p.1 ts) with
  | some v => ((v : Int), true)
  | none => match (List.range (allSL n p.2).length).find? (noDo n p.1 p.2 ts) with
    | some j => ((p.1.length : Int) + j, true)
    | none => (0, false)) else (0, false)
theorem find_some {P : Nat → Bool} {k i : Nat} (hi : i < k) (h0 : ∀ q, q < i → P q = false) (h1 : P i = true) : (List.range k).find? P = some i := by
  rw [List.find?_range_eq_some]
  exact ⟨h1, by simpa using hi, fun q hq => by simp [h0 q hq]⟩
theorem find_none {P : Nat → Bool} {k : Nat} (h0 : ∀ q, q < k → P q = false) : (List.range k).find? P = none := by
  rw [List.find?_range_eq_none]
  exact fun q hq => by simp [h0 q hq]
def LackOk (F : Nat → Option IFn) (f : Nat) : Prop := ∀ (H : Heap) (n : Nat) (lv sv tw : Value) (ls : List (Int × Int)) (l : List (TStep n)) (ts : List Int), SlR Co.p2 (vw 0 H) lv ls → SlR (Co.step n) (vw 0 H) sv l → (Co.prog n).sm (ls, l) → SlR Co.int (vw 0 H) tw ts → QC F f [.agg #[lv, sv], tw] H (.tuple #[.int .i64 (lackV n (ls, l) ts).1, .bool (lackV n (ls, l) ts).2])
end Go.Proofs.YtiekbdijpfnagaaI
end
section
/- What has no host (the reference's), of a program. -/
set_option linter.unusedVariables false
set_option linter.unusedSimpArgs false
namespace Go.Proofs.YtiekbdijpfnagaaI
open Go Go.RowKit
theorem any_take {P : Int → Bool} {i : Nat} (hi : i < 3) : (([0, 1, 2] : List Int).take (i + 1)).any P = ((([0, 1, 2] : List Int).take i).any P || P i) := by
  have hi3 : i = 0 ∨ i = 1 ∨ i = 2 := by omega
  rcases hi3 with rfl | rfl | rfl <;> simp [Bool.or_assoc]
theorem sPlanLack_ok {F : Nat → Option IFn} {f : Nat} (hf : F f = some c_sPlanLack) (gt : TypeP F 14) (gtr : TrOk F 45) (gs : SeeOk F 46) (gh : LHome F 73) (gm : ∀ m, LSome F 74 m) : LackOk F f := by
  intro H n lv sv tw ls l ts r1 r2 hsm r3
  have olv : one lv = true := by obtain ⟨_, a, rfl, _⟩ := r1; rfl
  have osv : one sv = true := by obtain ⟨_, a, rfl, _⟩ := r2; rfl
  obtain ⟨_, la, rfl, _⟩ := id r1
  refine QC.mk hf rfl ?_
  refine seq_reg ?_
  simp only [go_sem, binC, osv]
  refine wpc_gen fun H1 hH1 => ?_
  have hx1 : AgX [] H H1 := hH1 ▸ AgX.app [] _ _
  have hb2 : H1[H.length]? = some ⟨[.slice la ls.length ls.length, sv], 0, 0, false, true⟩ := hH1 ▸ get_new0 _ _
  clear hH1
  have hl1 := (List.getElem?_eq_some_iff.1 hb2).1
  refine seq_assoc (seq_reg ?_)
  simp only [go_sem, binC, gc_of hb2, inBlk_some, osv]
  refine op_callQ (by simp only [go_sem, binC]; exact gt H1 n _ _ ls l (r1.mono (agx_sub hx1)) (r2.mono (agx_sub hx1)) hsm) ?_
  cases ht : typeP n (ls, l) with
  | false =>
    have hn : lackV n (ls, l) ts = (0, false) := by unfold lackV; rw [ht]; rfl
    rw [hn]
    simp only [go_sem, binC]
    refine seq_cond (t := true) rfl ?_
    simp only [go_sem, binC]
    refine seq_assoc (seq_reg ?_)
    simp only [go_sem, binC]
    exact seq_ret ⟨Or.inr rfl, .tuple #[.int .i64 0, .bool false], by simp [resV, resL, res1, putE_get, notT], rfl, rfl⟩
  | true =>
  simp only [go_sem, binC]
  refine op_callQ (by simp only [go_sem, binC]; exact gtr.k H1 _ ts (r3.mono (agx_sub hx1))) ?_
  cases hk : trK ts with
  | false =>
    have hn : lackV n (ls, l) ts = (0, false) := by unfold lackV; rw [hk, Bool.and_false]; rfl
    rw [hn]
    simp only [go_sem, binC]
    refine seq_cond (t := true) rfl ?_
    simp only [go_sem, binC]
    refine seq_assoc (seq_reg ?_)
    simp only [go_sem, binC]
    exact seq_ret ⟨Or.inr rfl, .tuple #[.int .i64 0, .bool false], by simp [resV, resL, res1, putE_get, notT], rfl, rfl⟩
  | true =>
  simp only [go_sem, binC]
  refine seq_cond (t := false) rfl ?_
  simp only [go_sem, binC]
  have htr := trK_iff.1 hk
  have hP : progB n (ls, l) = true := by
    unfold typeP at ht
    simp only [Bool.and_eq_true] at ht
    exact ht.1
  have hlab : ls.all labB = true := progB_lab hP
  have hls4 : ls.length ≤ 4 := progB_len hP
  have hcnt : (allL n l).length ≤ 8 := progB_cnt hP hsm
  have hsl := allSL_len l
  have hlack : lackV n (ls, l) ts = (match (List.range ls.length).find? (noHome ls ts) with
  | some v => ((v : Int), true)
  | none => match (List.range (allSL n l).length).find? (noDo n ls l ts) with
    | some j => ((ls.length : Int) + j, true)
    | none => (0, false)) := by unfold lackV; rw [ht, hk]; rfl
  refine seq_skip (seq_reg ?_)
  simp only [go_sem, binC, gc_of hb2, inBlk_some, osv]
  obtain ⟨W, H2, k2, hx2, hWg, hL⟩ := gs H.length H1 n _ _ _ ls l ts (by omega) (r1.mono (agx_sub hx1)) (r2.mono (agx_sub hx1)) hsm hP (r3.mono (agx_sub hx1)) htr
  refine op_callN (by simp only [go_sem, binC]; exact k2) ?_
  simp only [go_sem, binC]
  have hb22 := hx2.get hb2 (by simp)
  refine seq_assoc (seq_reg ?_)
  simp only [go_sem, binC]
  refine seq_block (wpc_loop ?_)
  suffices hh : ∀ (k v : Nat) (e : Env), v + k = ls.length → (∀ q, q < v → noHome ls ts q = false) → e 2 = ptr H.length 0 → e 6 = ptr W 0 → e 7 = .int .i64 v → Go.Proofs.YtiekbdijpfnagaaI.W F H.length _ e H2 _ from
    hh ls.length 0 _ (by omega) (fun q h => by omega) (by simp only [go_sem, binC]) (by simp only [go_sem, binC]) (by (simp only [go_sem, binC]) <;> rfl)
  intro k
  induction k with
  | zero =>
    intro v e hv hno e2 e6 e7
    obtain rfl : v = ls.length := by omega
    have hlack2 := hlack
    rw [find_none hno] at hlack2
    simp only at hlack2
    refine lp_step ?_
    refine seq_assoc (seq_reg ?_)
    simp only [go_sem, binC, e2, e7, gc_of hb22, inBlk_some]
    refine seq_cond (t := false) (by simp only [go_sem, binC]; rw [decide_eq_false (by omega)]) ?_
    simp only [go_sem, binC]
    refine seq_exit ?_
    simp only [go_sem, binC, thenX_e, out_e, thenX_n]
    refine seq_assoc (seq_reg ?_)
    simp only [go_sem, binC]
    refine seq_block (wpc_loop ?_)
    suffices hh : ∀ (k j : Nat) (e : Env) (Hc : Heap), j + k = (allSL n l).length → AgX [] H2 Hc → (∀ q, q < j → noDo n ls l ts q = false) → e 2 = ptr H.length 0 → e 6 = ptr W 0 → e 10 = .int .i64 j → Go.Proofs.YtiekbdijpfnagaaI.W F H.length _ e Hc _ from
      hh (allSL n l).length 0 _ H2 (by omega) (AgX.refl _ _) (fun q h => by omega) (by simp only [go_sem, binC, e2]) (by simp only [go_sem, binC, e6]) (by (simp only [go_sem, binC]) <;> rfl)
    clear e2 e6 e7
    intro k
    induction k with
    | zero =>
      intro j e Hc hj hxc hnd e2 e6 e10
      obtain rfl : j = (allSL n l).length := by omega
      rw [find_none hnd] at hlack2
      obtain ⟨lv', sv', tw', li, la', se, bv, osv', hW, q1, q2, q3, q4, q5, q6⟩ := (hL.mono hxc).ex
      obtain ⟨_, lia, rfl, _⟩ := id q3
      refine lp_step ?_
      refine seq_assoc (seq_reg ?_)
      simp only [go_sem, binC, e6, e10, gc_of hW, inBlk_some]
      refine seq_cond (t := false) (by simp only [go_sem, binC]; rw [decide_eq_false (by omega)]) ?_
      simp only [go_sem, binC]
      refine seq_exit ?_
      simp only [go_sem, binC, thenX_e, out_e, thenX_n]
      refine seq_reg ?_
      simp only [go_sem, binC]
      rw [hlack2]
      exact wpc_ret ⟨Or.inr rfl, .tuple #[.int .i64 0, .bool false], by simp [resV, resL, res1, putE_get, notT], rfl, rfl⟩
    | succ k ihj =>
      intro j e Hc hj hxc hnd e2 e6 e10
      have hjl : j < (allSL n l).length := by omega
      have hw1 : IntKind.i64.wrap ((j : Int) + 1) = ((j + 1 : Nat) : Int) := by rw [wrap_id (by omega) (by omega)]; omega
      have hw2 : IntKind.i64.wrap ((ls.length : Int) + (j : Int)) = (ls.length : Int) + (j : Int) := wrap_id (by omega) (by omega)
      obtain ⟨lv', sv', tw', li, la', se, bv, osv', hW, q1, q2, q3, q4, q5, q6⟩ := (hL.mono hxc).ex
      obtain ⟨_, lia, rfl, _⟩ := id q3
      have hlc := hxc.1
      have hl2 := hx2.1
      refine lp_step ?_
      refine seq_assoc (seq_reg ?_)
      simp only [go_sem, binC, e6, e10, gc_of hW, inBlk_some]
      refine seq_cond (t := true) (by simp only [go_sem, binC]; rw [decide_eq_true (by omega)]) ?_
      simp only [go_sem, binC]
      refine seq_skip (seq_block (seq_reg ?_))
      simp only [go_sem, binC, e6, e10]
      generalize hH3 : Hc ++ [(⟨[], 1, 3, true, true⟩ : Blk)] = H3
      have hx3 : AgX [] Hc H3 := hH3 ▸ AgX.app [] _ _
      have oI3 : IntsO 3 Hc.length H3 Hc.length true [] := hH3 ▸ IntsO.nil (Nat.le_refl _)
      clear hH3
      have hx23 := hxc.tr hx3
      have hb23 := hx23.get hb22 (by simp)
      refine op_callQ (by simp only [go_sem, binC, e6, e10]; exact gm ls.length Hc.length H3 W n ls l ts Hc.length true [] j (by simp) (hL.mono hx23) hP oI3 (by simp) hjl) ?_
      rw [extL_nil]
      cases hres : (hmL ls ts ls.length).any (anyDo n ls l ts j) with
      | true =>
        have hnj : noDo n ls l ts j = false := by unfold noDo; rw [hres]; rfl
        simp only [go_sem, binC]
        refine wpc_cond (t := false) rfl ?_
        simp only [go_sem, binC]
        refine wpc_skip ?_
        simp only [go_sem, binC, out_n, thenX_n]
        refine wpc_reg ?_
        simp only [go_sem, binC, e10, hw1]
        simp only [go_sem, binC, thenX_n]
        refine ihj (j + 1) _ H3 (by omega) hx23 (fun q hq => ?_) (by simp only [go_sem, binC, e2]) (by simp only [go_sem, binC, e6]) (by simp only [go_sem, binC])
        by_cases hqj : q = j
        · subst hqj; exact hnj
        · exact hnd q (by omega)
      | false =>
        have hnj : noDo n ls l ts j = true := by unfold noDo; rw [hres]; rfl
        rw [find_some hjl hnd hnj] at hlack2
        simp only [go_sem, binC]
        refine wpc_cond (t := true) rfl ?_
        simp only [go_sem, binC]
        refine seq_reg ?_
        simp only [go_sem, binC, e2, e10, gc_of hb23, inBlk_some, hw2]
        refine wpc_ret ?_
        simp only [go_sem, binC, out_r, thenX_r]
        rw [hlack2]
        exact ⟨Or.inr rfl, .tuple #[.int .i64 ((ls.length : Int) + (j : Int)), .bool true], by simp [resV, resL, res1, putE_get, notT], rfl, rfl⟩
  | succ k ih =>
    intro v e hv hno e2 e6 e7
    have hvl : v < ls.length := by omega
    have hw1 : IntKind.i64.wrap ((v : Int) + 1) = ((v + 1 : Nat) : Int) := by rw [wrap_id (by omega) (by omega)]; omega
    refine lp_step ?_
    refine seq_assoc (seq_reg ?_)
    simp only [go_sem, binC, e2, e7, gc_of hb22, inBlk_some]
    refine seq_cond (t := true) (by simp only [go_sem, binC]; rw [decide_eq_true (by omega)]) ?_
    simp only [go_sem, binC]
    refine seq_skip (seq_block (seq_reg ?_))
    simp only [go_sem, binC]
    refine seq_assoc (seq_reg ?_)
    simp only [go_sem, binC]
    refine seq_block (wpc_loop ?_)
    suffices hh : ∀ (m i : Nat) (e : Env), i + m = 3 → e 2 = ptr H.length 0 → e 6 = ptr W 0 → e 7 = .int .i64 v → e 8 = .bool ((([0, 1, 2] : List Int).take i).any (hmB ls ts v)) → e 9 = .int .i64 i → Go.Proofs.YtiekbdijpfnagaaI.W F H.length _ e H2 _ from
      hh 3 0 _ rfl (by simp only [go_sem, binC, e2]) (by simp only [go_sem, binC, e6]) (by simp only [go_sem, binC, e7]) (by (simp only [go_sem, binC]) <;> rfl) (by (simp only [go_sem, binC]) <;> rfl)
    clear e2 e6 e7
    intro m
    induction m with
    | zero =>
      intro i e hi e2 e6 e7 e8 e9
      obtain rfl : i = 3 := by omega
      have hd3 : decide (((3 : Nat) : Int) < 3) = false := rfl
      refine lp_step ?_
      refine seq_assoc (seq_reg ?_)
      simp only [go_sem, binC, e9, hd3]
      refine seq_cond (t := false) (by simp only [go_sem, binC]) ?_
      simp only [go_sem, binC]
      refine seq_exit ?_
      simp only [go_sem, binC, thenX_e, out_e, thenX_n]
      refine seq_reg ?_
      simp only [go_sem, binC, e8]
      have htk3 : (!([0, 1, 2] : List Int).any (hmB ls ts v)) = noHome ls ts v := rfl
      rw [htk3]
      cases hnv : noHome ls ts v with
      | true =>
        rw [find_some hvl hno hnv] at hlack
        refine wpc_cond (t := true) rfl ?_
        simp only [go_sem, binC]
        refine seq_reg ?_
        simp only [go_sem, binC, e7]
        refine wpc_ret ?_
        simp only [go_sem, binC, out_r, thenX_r]
        rw [hlack]
        exact ⟨Or.inr rfl, .tuple #[.int .i64 (v : Int), .bool true], by simp [resV, resL, res1, putE_get, notT, e7], rfl, rfl⟩
      | false =>
        refine wpc_cond (t := false) rfl ?_
        simp only [go_sem, binC]
        refine wpc_skip ?_
        simp only [go_sem, binC, out_n, thenX_n]
        refine wpc_reg ?_
        simp only [go_sem, binC, e7, hw1]
        simp only [go_sem, binC, thenX_n]
        refine ih (v + 1) _ (by omega) (fun q hq => ?_) (by simp only [go_sem, binC, e2]) (by simp only [go_sem, binC, e6]) (by simp only [go_sem, binC])
        by_cases hqv : q = v
        · subst hqv; exact hnv
        · exact hno q (by omega)
    | succ m ihm =>
      intro i e hi e2 e6 e7 e8 e9
      have hdi : decide ((i : Int) < 3) = true := decide_eq_true (by omega)
      have hw2 : IntKind.i64.wrap ((i : Int) + 1) = ((i + 1 : Nat) : Int) := by rw [wrap_id (by omega) (by omega)]; omega
      refine lp_step ?_
      refine seq_assoc (seq_reg ?_)
      simp only [go_sem, binC, e9, hdi]
      refine seq_cond (t := true) (by simp only [go_sem, binC]) ?_
      simp only [go_sem, binC]
      refine seq_skip (seq_block ?_)
      refine wpc_reg ?_
      have htk := any_take (P := hmB ls ts v) (i := i) (by omega)
      cases hc : (([0, 1, 2] : List Int).take i).any (hmB ls ts v) with
      | true =>
        rw [hc] at e8
        rw [hc, Bool.true_or] at htk
        simp only [go_sem, binC, e8, out_n, thenX_n]
        refine wpc_reg ?_
        simp only [go_sem, binC, e9, hw2]
        simp only [go_sem, binC, thenX_n]
        exact ihm (i + 1) _ (by omega) (by simp only [go_sem, binC, e2]) (by simp only [go_sem, binC, e6]) (by simp only [go_sem, binC, e7]) (by rw [htk]; simp only [go_sem, binC, e8]) (by simp only [go_sem, binC])
      | false =>
        rw [hc] at e8
        rw [hc, Bool.false_or] at htk
        simp only [go_sem, binC, e6, e7, e8, e9]
        refine op_callQ (by simp only [go_sem, binC, e6, e7, e9]; exact gh H2 W n ls l ts v i hL hlab (by omega) (by omega) (by omega) (by omega)) ?_
        simp only [go_sem, binC, out_n, thenX_n]
        refine wpc_reg ?_
        simp only [go_sem, binC, e9, hw2]
        simp only [go_sem, binC, thenX_n]
        exact ihm (i + 1) _ (by omega) (by simp only [go_sem, binC, e2]) (by simp only [go_sem, binC, e6]) (by simp only [go_sem, binC, e7]) (by rw [htk]; simp only [go_sem, binC]) (by simp only [go_sem, binC])
end Go.Proofs.YtiekbdijpfnagaaI
end
