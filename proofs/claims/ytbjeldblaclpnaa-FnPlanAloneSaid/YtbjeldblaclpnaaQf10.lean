/- Texts of this proof, merged: K1, K2, K3, K4, K5. -/
import Derived.Test.YtbjeldblaclpnaaQf9
section
/- Who trusts what steps set. -/
set_option linter.unusedVariables false
set_option linter.unusedSimpArgs false
namespace Go.Proofs.YtbjeldblaclpnaaI
open Go Go.RowKit
def iSetsTail : ICode := (.reg (some 10) [
        ⟨(some 26), none, .mov (.t 5)⟩,
        ⟨(some 27), none, .load true 2 (.t 2)⟩,
        ⟨(some 28), none, .fad 6 (.t 7)⟩,
        ⟨(some 29), none, .load false 1 (.t 28)⟩,
        ⟨(some 30), none, .call .q (.f 83) [(.t 27), (.t 29)]⟩,
        ⟨(some 31), none, .load true 2 (.t 2)⟩,
        ⟨(some 32), none, .fad 7 (.t 7)⟩,
        ⟨(some 33), none, .load false 1 (.t 32)⟩,
        ⟨(some 34), none, .call .q (.f 83) [(.t 31), (.t 33)]⟩,
        ⟨(some 35), none, .bin .or (.t 30) (.t 34)⟩,
        ⟨(some 36), none, .bin .or (.t 26) (.t 35)⟩,
        ⟨(some 5), none, .mov (.t 36)⟩])
def c_iSets : IFn := ⟨2, 39, [.t 4],
 .seq (.reg none [
    ⟨(some 2), none, .box (.t 0)⟩,
    ⟨(some 4), none, .mov (.c (.int .i64 0))⟩])
 (.seq (.reg none [
    ⟨(some 5), none, .mov (.c (.int .i64 0))⟩])
 (.seq (.seq (.reg none [
     ⟨(some 8), none, .mov (.t 1)⟩,
     ⟨(some 9), none, .len (.t 8)⟩,
     ⟨(some 10), none, .mov (.c (.int .i64 0))⟩])
  (.block 0 (.loop (.seq (.reg none [
       ⟨(some 11), none, .bin .lss (.t 10) (.t 9)⟩])
    (.seq (.cond (.t 11) (.skip) (.exit 0))
    (.seq (.block 1 (.seq (.reg none [
         ⟨(some 12), none, .iad 8 (.t 8) (.t 10)⟩,
         ⟨(some 13), none, .load true 8 (.t 12)⟩,
         ⟨(some 7), none, .new [(.int .i64 0), (.int .i64 0), (.int .i64 0), (.int .i64 0), (.int .i64 0), (.int .i64 0), (.slice none 0 0), (.slice none 0 0)]⟩,
         ⟨none, none, .store 8 (.t 7) (.t 13)⟩])
      (.seq (.seq (.reg none [
          ⟨(some 14), none, .fad 0 (.t 7)⟩,
          ⟨(some 15), none, .load false 1 (.t 14)⟩,
          ⟨(some 16), none, .bin .eql (.t 15) (.c (.int .i64 1))⟩])
       (.cond (.t 16) (.reg none [
          ⟨(some 17), none, .mov (.t 5)⟩,
          ⟨(some 18), none, .fad 0 (.t 2)⟩,
          ⟨(some 19), none, .load false 1 (.t 18)⟩,
          ⟨(some 20), none, .fad 1 (.t 7)⟩,
          ⟨(some 21), none, .load false 1 (.t 20)⟩,
          ⟨(some 22), none, .iad 2 (.t 19) (.t 21)⟩,
          ⟨(some 23), none, .fad 1 (.t 22)⟩,
          ⟨(some 24), none, .load false 1 (.t 23)⟩,
          ⟨(some 25), none, .bin .or (.t 17) (.t 24)⟩,
          ⟨(some 5), none, .mov (.t 25)⟩]) (.skip)))
      iSetsTail)))
    (.reg none [
      ⟨(some 37), none, .bin .add (.t 10) (.c (.int .i64 1))⟩,
      ⟨(some 10), none, .mov (.t 37)⟩])))))))
 (.seq (.reg none [
    ⟨(some 38), none, .mov (.t 5)⟩,
    ⟨(some 4), none, .mov (.t 38)⟩])
 (.ret))))⟩
def sSetsTail : ICode := (.reg (some 10) [
        ⟨(some 30), none, .mov (.t 5)⟩,
        ⟨(some 31), none, .load true 2 (.t 2)⟩,
        ⟨(some 32), none, .fad 6 (.t 7)⟩,
        ⟨(some 33), none, .load false 1 (.t 32)⟩,
        ⟨(some 34), none, .call .q (.f 134) [(.t 31), (.t 33)]⟩,
        ⟨(some 35), none, .load true 2 (.t 2)⟩,
        ⟨(some 36), none, .fad 7 (.t 7)⟩,
        ⟨(some 37), none, .load false 1 (.t 36)⟩,
        ⟨(some 38), none, .call .q (.f 134) [(.t 35), (.t 37)]⟩,
        ⟨(some 39), none, .call .q (.f 90) [(.t 34), (.t 38)]⟩,
        ⟨(some 40), none, .call .q (.f 90) [(.t 30), (.t 39)]⟩,
        ⟨(some 5), none, .mov (.t 40)⟩])
def c_sSets : IFn := ⟨2, 42, [.t 4],
 .seq (.reg none [
    ⟨(some 2), none, .box (.t 0)⟩,
    ⟨(some 4), none, .mov (.c (.int .i64 0))⟩])
 (.seq (.reg none [
    ⟨(some 5), none, .mov (.c (.int .i64 0))⟩])
 (.seq (.seq (.reg none [
     ⟨(some 6), none, .mov (.c (.int .i64 0))⟩])
  (.block 0 (.loop (.seq (.seq (.reg none [
        ⟨(some 8), none, .mov (.t 6)⟩,
        ⟨(some 9), none, .mov (.t 1)⟩,
        ⟨(some 10), none, .len (.t 9)⟩,
        ⟨(some 11), none, .bin .lss (.t 8) (.t 10)⟩])
     (.cond (.t 11) (.skip) (.exit 0)))
    (.seq (.block 1 (.seq (.reg none [
         ⟨(some 14), none, .mov (.t 1)⟩,
         ⟨(some 15), none, .mov (.t 6)⟩,
         ⟨(some 16), none, .iad 8 (.t 14) (.t 15)⟩,
         ⟨(some 17), none, .load true 8 (.t 16)⟩,
         ⟨(some 7), none, .new [(.int .i64 0), (.int .i64 0), (.int .i64 0), (.int .i64 0), (.int .i64 0), (.int .i64 0), (.slice none 0 0), (.slice none 0 0)]⟩,
         ⟨none, none, .store 8 (.t 7) (.t 17)⟩])
      (.seq (.seq (.reg none [
          ⟨(some 18), none, .fad 0 (.t 7)⟩,
          ⟨(some 19), none, .load false 1 (.t 18)⟩,
          ⟨(some 20), none, .bin .eql (.t 19) (.c (.int .i64 1))⟩])
       (.cond (.t 20) (.reg none [
          ⟨(some 21), none, .mov (.t 5)⟩,
          ⟨(some 22), none, .fad 0 (.t 2)⟩,
          ⟨(some 23), none, .load false 1 (.t 22)⟩,
          ⟨(some 24), none, .fad 1 (.t 7)⟩,
          ⟨(some 25), none, .load false 1 (.t 24)⟩,
          ⟨(some 26), none, .iad 2 (.t 23) (.t 25)⟩,
          ⟨(some 27), none, .fad 1 (.t 26)⟩,
          ⟨(some 28), none, .load false 1 (.t 27)⟩,
          ⟨(some 29), none, .call .q (.f 90) [(.t 21), (.t 28)]⟩,
          ⟨(some 5), none, .mov (.t 29)⟩]) (.skip)))
      sSetsTail)))
    (.reg none [
      ⟨(some 12), none, .mov (.t 6)⟩,
      ⟨(some 13), none, .bin .add (.t 12) (.c (.int .i64 1))⟩,
      ⟨(some 6), none, .mov (.t 13)⟩]))))))
 (.seq (.reg none [
    ⟨(some 41), none, .mov (.t 5)⟩,
    ⟨(some 4), none, .mov (.t 41)⟩])
 (.ret))))⟩
def orS (a b : Int) : Int := a + b - bothS a b 3
theorem orS_all : ∀ a b : Fin 8, (0 ≤ orS (a.val : Int) b.val ∧ orS (a.val : Int) b.val ≤ 7) ∧ IntKind.i64.wrap ((BitVec.ofInt 64 (a.val : Int) ||| BitVec.ofInt 64 (b.val : Int)).toNat : Nat) = orS a.val b.val ∧ orS 0 (a.val : Int) = a.val ∧ orS (a.val : Int) 0 = a.val ∧ orS (a.val : Int) b.val = orS b.val a.val ∧ orS (a.val : Int) a.val = a.val := by decide +kernel
theorem orS_asc : ∀ a b c : Fin 8, orS (orS (a.val : Int) b.val) c.val = orS a.val (orS b.val c.val) := by decide +kernel
abbrev R7 (a : Int) : Prop := 0 ≤ a ∧ a ≤ 7
theorem orS_bd {a b : Int} (ha : R7 a) (hb : R7 b) : R7 (orS a b) := by
  obtain ⟨x, rfl⟩ := fin8 ha
  obtain ⟨y, rfl⟩ := fin8 hb
  exact (orS_all x y).1
theorem or_orS {a b : Int} (ha : R7 a) (hb : R7 b) : IntKind.i64.wrap ((BitVec.ofInt 64 a ||| BitVec.ofInt 64 b).toNat : Nat) = orS a b := by
  obtain ⟨x, rfl⟩ := fin8 ha
  obtain ⟨y, rfl⟩ := fin8 hb
  exact (orS_all x y).2.1
theorem orS_0 {a : Int} (ha : R7 a) : orS 0 a = a := by
  obtain ⟨x, rfl⟩ := fin8 ha
  exact (orS_all x 0).2.2.1
theorem orS_assoc {a b c : Int} (ha : R7 a) (hb : R7 b) (hc : R7 c) : orS (orS a b) c = orS a (orS b c) := by
  obtain ⟨x, rfl⟩ := fin8 ha
  obtain ⟨y, rfl⟩ := fin8 hb
  obtain ⟨z, rfl⟩ := fin8 hc
  exact orS_asc x y z
theorem binI_orJ {a b : Int} (ha : R7 a) (hb : R7 b) : binI .or .i64 a b = some (.int .i64 (orS a b)) := by
  show some (Value.int .i64 (IntKind.i64.wrap ((BitVec.ofInt 64 a ||| BitVec.ofInt 64 b).toNat : Nat))) = _
  rw [or_orS ha hb]
def stT : (n : Nat) → List (Int × Int) → TStep n → Int
  | 0, _, s => s.elim
  | n + 1, ls, (k, x, _, _, th, el) => orS (if k = 1 then (ls.getD x.toNat (0, 0)).2 else 0) (orS ((th.map (stT n ls)).foldl orS 0) ((el.map (stT n ls)).foldl orS 0))
def stL (n : Nat) (ls : List (Int × Int)) (l : List (TStep n)) : Int := (l.map (stT n ls)).foldl orS 0
theorem stT_succ (n : Nat) (ls : List (Int × Int)) (k x : Int) (v : Int × Int × Int) (g : Int) (th el : List (TStep n)) : stT (n + 1) ls (k, x, v, g, th, el) = orS (if k = 1 then (ls.getD x.toNat (0, 0)).2 else 0) (orS (stL n ls th) (stL n ls el)) := rfl
theorem stL_take {n : Nat} {ls : List (Int × Int)} {l : List (TStep n)} {i : Nat} (h : i < l.length) : stL n ls (l.take (i + 1)) = orS (stL n ls (l.take i)) (stT n ls l[i]) := by
  unfold stL
  rw [List.take_add_one, List.getElem?_eq_getElem h, List.map_append, List.foldl_append]
  rfl
theorem foldl_bd : ∀ (xs : List Int) (a : Int), R7 a → (∀ x ∈ xs, R7 x) → R7 (xs.foldl orS a)
  | [], _, h, _ => h
  | x :: xs, a, h, hx => foldl_bd xs _ (orS_bd h (hx x List.mem_cons_self)) fun y hy => hx y (List.mem_cons_of_mem _ hy)
theorem stT_bd {ls : List (Int × Int)} (hl : ls.all labB = true) : ∀ (n : Nat) (s : TStep n), R7 (stT n ls s)
  | 0, s => s.elim
  | n + 1, (k, x, v, g, th, el) => by
    have go : ∀ l : List (TStep n), R7 (stL n ls l) := fun l => foldl_bd _ _ ⟨by omega, by omega⟩ fun y hy => by
      obtain ⟨a, _, rfl⟩ := List.mem_map.1 hy
      exact stT_bd hl n a
    rw [stT_succ]
    refine orS_bd ?_ (orS_bd (go th) (go el))
    split
    · exact (labB_i.1 (lab_getD hl _)).2
    · exact ⟨by omega, by omega⟩
theorem stL_bd {ls : List (Int × Int)} (hl : ls.all labB = true) {n : Nat} (l : List (TStep n)) : R7 (stL n ls l) := foldl_bd _ _ ⟨by omega, by omega⟩ fun y hy => by
  obtain ⟨a, _, rfl⟩ := List.mem_map.1 hy
  exact stT_bd hl n a
def EitherOk (F : Nat → Option IFn) (f : Nat) : Prop := ∀ (H : Heap) (a b : Int), 0 ≤ a → a ≤ 7 → 0 ≤ b → b ≤ 7 → QC F f [.int .i64 a, .int .i64 b] H (.int .i64 (orS a b))
def STOk (F : Nat → Option IFn) (f n : Nat) : Prop := ∀ (H : Heap) (lv sv v : Value) (ls : List (Int × Int)) (l : List (TStep n)), one sv = true → SlR Co.p2 (vw 0 H) lv ls → SlR (Co.step n) (vw 0 H) v l → ls.all labB = true → (∀ s ∈ allL n l, varB ls.length s.2.1 = true) → QC F f [.agg #[lv, sv], v] H (.int .i64 (stL n ls l))
theorem iSets_ok {F : Nat → Option IFn} {f n : Nat} (hf : F f = some c_iSets) (ih : ∀ m, n = m + 1 → STOk F 83 m) : STOk F f n := by
  intro H lv sv v ls l osv r1 hv hlab hvar
  obtain ⟨_, la, rfl, _⟩ := id r1
  have hv0 := hv
  obtain ⟨h0, av, rfl, hv1⟩ := hv
  refine QC.mk hf rfl ?_
  refine seq_reg ?_
  simp only [go_sem, binC, osv]
  refine wpc_gen fun H1 hH1 => ?_
  have hx1 : AgX [] H H1 := hH1 ▸ AgX.app [] _ _
  have hb1 : H1[H.length]? = some ⟨[.slice la ls.length ls.length, sv], 0, 0, false, true⟩ := hH1 ▸ get_new0 _ _
  clear hH1
  refine seq_reg ?_
  simp only [go_sem, binC]
  refine seq_assoc (seq_reg ?_)
  simp only [go_sem, binC]
  refine seq_block (wpc_loop ?_)
  suffices h : ∀ (k i : Nat) (e : Env) (Hc : Heap), i + k = l.length → AgX [] H1 Hc → e 2 = ptr H.length 0 → e 5 = .int .i64 (stL n ls (l.take i)) → e 8 = .slice av l.length l.length → e 9 = .int .i64 l.length → e 10 = .int .i64 i → W F H.length _ e Hc _ from
    h l.length 0 _ H1 (by omega) (AgX.refl _ _) (by simp only [go_sem, binC]) (by (simp only [go_sem, binC]) <;> rfl) (by simp only [go_sem, binC]) (by simp only [go_sem, binC]) (by (simp only [go_sem, binC]) <;> rfl)
  intro k
  induction k with
  | zero =>
    intro i e Hc hi hxc e2 e5 e8 e9 e10
    refine lp_step ?_
    refine seq_reg ?_
    simp only [go_sem, binC, e9, e10]
    refine seq_cond (t := false) (by simp only [go_sem, binC]; rw [decide_eq_false (by omega)]) ?_
    simp only [go_sem, binC]
    refine seq_exit ?_
    simp only [go_sem, binC, thenX_e, out_e, thenX_n]
    refine seq_reg ?_
    simp only [go_sem, binC, e5]
    rw [List.take_of_length_le (by omega)]
    exact wpc_ret ⟨Or.inr rfl, _, (by (simp only [go_sem, binC]) <;> rfl), rfl, rfl⟩
  | succ k ihk =>
    intro i e Hc hi hxc e2 e5 e8 e9 e10
    have hil : i < l.length := by omega
    cases n with
    | zero => exact (l[i]).elim
    | succ n =>
    have hw1 : IntKind.i64.wrap ((i : Int) + 1) = ((i + 1 : Nat) : Int) := by rw [wrap_id (by omega) (by omega)]; omega
    obtain ⟨vb, vo, sk, sx, sa, sbb, sc, sg, tv, ev, tl, el, hav, hs, rg, otv, oev, hgc, htl, hel⟩ := step_at hv0 hil
    simp only [Value.slice.injEq, and_true] at hav
    subst hav
    have hmem : ∀ s, s ∈ allT (n + 1) l[i] → varB ls.length s.2.1 = true := fun s hs' => hvar s (mem_allL hil hs')
    rw [hs, allT_succ] at hmem
    have hvx := varB_i.1 (hmem _ (List.mem_cons_self))
    simp only at hvx
    have hx0c := hx1.tr hxc
    obtain ⟨lb, lo', hla, hgl0, _⟩ := lab_at (r1.mono (agx_sub hx0c)) (H := Hc) (fun _ _ h => h) hvx.1 hvx.2
    simp only [Value.slice.injEq, and_true] at hla
    subst hla
    have hlx := labB_i.1 (lab_getD hlab sx.toNat)
    have hbc := hxc.get hb1 (by simp)
    have hlc := hxc.1
    have hl1 := (List.getElem?_eq_some_iff.1 hb1).1
    have hq0 := stL_bd hlab (l.take i)
    have hqt := stL_bd hlab tl
    have hqe := stL_bd hlab el
    have htake := stL_take (ls := ls) hil
    rw [hs, stT_succ] at htake
    have hg8 := hgc _ (agx_sub hx0c)
    refine lp_step ?_
    refine seq_reg ?_
    simp only [go_sem, binC, e9, e10]
    refine seq_cond (t := true) (by simp only [go_sem, binC]; rw [decide_eq_true (by omega)]) ?_
    simp only [go_sem, binC]
    refine seq_skip (seq_block (seq_reg ?_))
    simp only [go_sem, binC, e8, e10]
    refine ⟨⟨by omega, by omega⟩, ?_⟩
    simp only [go_sem, binC, Int.toNat_natCast, hg8, otv, oev]
    refine ⟨by omega, ?_⟩
    refine wpc_gen fun H2 hH2 => ?_
    have hx2 : AgX [] Hc H2 := hH2 ▸ AgX.app [] _ _
    have hs2 : H2[Hc.length]? = some ⟨[.int .i64 sk, .int .i64 sx, .int .i64 sa, .int .i64 sbb, .int .i64 sc, .int .i64 sg, tv, ev], 0, 0, false, true⟩ := hH2 ▸ get_new0 _ _
    have hgl1 := hgl0 []
    rw [List.append_nil] at hgl1
    have hgl2 : getCells H2 lb (lo' + sx.toNat * 2 + 1) 1 = some [.int .i64 (ls.getD sx.toNat (0, 0)).2] := gcK (gc_part (off := 1) (k := 1) hgl1 (by omega)) hx2
    clear hH2
    have hb2 := hx2.get hbc (by simp)
    have hx02 := hx0c.tr hx2
    have r12 := r1.mono (agx_sub hx02)
    refine wpc_genK fun KK hKK => ?_
    have hrest : ∀ (e' : Env) (o : Int), e' 2 = ptr H.length 0 → e' 5 = .int .i64 o → e' 7 = ptr Hc.length 0 → R7 o → orS o (orS (stL n ls tl) (stL n ls el)) = stL (n + 1) ls (l.take (i + 1)) → e' 8 = e 8 → e' 9 = e 9 → e' 10 = e 10 → wpc F H.length iSetsTail e' H2 KK := by
      intro e' o f2 f5 f7 ho hfin f8 f9 f10
      rw [hKK]
      unfold iSetsTail
      refine wpc_regD ?_
      simp only [go_sem, binC, f2, f5, f7, gc_of hb2, gc_of hs2, inBlk_some, osv, otv]
      refine op_callQ (by simp only [go_sem, binC]; exact ih n rfl H2 _ sv tv ls tl osv r12 (htl.mono (agx_sub hx02)) hlab (fun s hs' => hmem s (List.mem_cons_of_mem _ (List.mem_append_left _ hs')))) ?_
      simp only [go_sem, binC, f2, f7, gc_of hb2, gc_of hs2, inBlk_some, osv, oev]
      refine op_callQ (by simp only [go_sem, binC]; exact ih n rfl H2 _ sv ev ls el osv r12 (hel.mono (agx_sub hx02)) hlab (fun s hs' => hmem s (List.mem_cons_of_mem _ (List.mem_append_right _ hs')))) ?_
      simp only [go_sem, binC, f5, binI_orJ hqt hqe, binI_orJ ho (orS_bd hqt hqe)]
      simp only [go_sem, binC, out_n, thenX_n]
      refine wpc_reg ?_
      simp only [go_sem, binC, f10, e10, hw1]
      simp only [go_sem, binC, thenX_n]
      exact ihk (i + 1) _ H2 (by omega) (hxc.tr hx2) (by simp only [go_sem, binC, f2]) (by simp only [go_sem, binC, hfin]) (by simp only [go_sem, binC, f8, e8]) (by simp only [go_sem, binC, f9, e9]) (by simp only [go_sem, binC])
    refine seq_assoc (seq_reg ?_)
    simp only [go_sem, binC, gc_of hs2, inBlk_some]
    by_cases k1 : sk = 1
    · simp only [go_sem, binC, beq_t k1]
      refine seq_cond (t := true) rfl ?_
      simp only [go_sem, binC]
      refine seq_reg ?_
      simp only [go_sem, binC, e2, e5, gc_of hb2, gc_of hs2, inBlk_some]
      refine ⟨⟨by omega, by omega⟩, ?_⟩
      simp only [go_sem, binC, hgl2, e5, binI_orJ hq0 hlx.2]
      refine hrest _ (orS (stL (n + 1) ls (l.take i)) (ls.getD sx.toNat (0, 0)).2) (by simp only [go_sem, binC, e2]) (by simp only [go_sem, binC]) (by simp only [go_sem, binC]) (orS_bd hq0 hlx.2) ?_ (by simp only [go_sem, binC]) (by simp only [go_sem, binC]) (by simp only [go_sem, binC])
      rw [htake, if_pos k1, orS_assoc hq0 hlx.2 (orS_bd hqt hqe)]
    · simp only [go_sem, binC, beq_f k1]
      refine seq_cond (t := false) rfl ?_
      simp only [go_sem, binC]
      refine seq_skip ?_
      refine hrest _ (stL (n + 1) ls (l.take i)) (by simp only [go_sem, binC, e2]) (by simp only [go_sem, binC, e5]) (by simp only [go_sem, binC]) hq0 ?_ (by simp only [go_sem, binC]) (by simp only [go_sem, binC]) (by simp only [go_sem, binC])
      rw [htake, if_neg k1, orS_0 (orS_bd hqt hqe)]
theorem iSets_all {F : Nat → Option IFn} (hf : F 83 = some c_iSets) : ∀ n, STOk F 83 n
  | 0 => iSets_ok hf fun m h => by omega
  | n + 1 => iSets_ok hf fun m h => by cases h; exact iSets_all hf n
theorem sSets_ok {F : Nat → Option IFn} {f n : Nat} (hf : F f = some c_sSets) (ge : EitherOk F 90) (ih : ∀ m, n = m + 1 → STOk F 134 m) : STOk F f n := by
  intro H lv sv v ls l osv r1 hv hlab hvar
  obtain ⟨_, la, rfl, _⟩ := id r1
  have hv0 := hv
  obtain ⟨h0, av, rfl, hv1⟩ := hv
  refine QC.mk hf rfl ?_
  refine seq_reg ?_
  simp only [go_sem, binC, osv]
  refine wpc_gen fun H1 hH1 => ?_
  have hx1 : AgX [] H H1 := hH1 ▸ AgX.app [] _ _
  have hb1 : H1[H.length]? = some ⟨[.slice la ls.length ls.length, sv], 0, 0, false, true⟩ := hH1 ▸ get_new0 _ _
  clear hH1
  refine seq_reg ?_
  simp only [go_sem, binC]
  refine seq_assoc (seq_reg ?_)
  simp only [go_sem, binC]
  refine seq_block (wpc_loop ?_)
  suffices h : ∀ (k i : Nat) (e : Env) (Hc : Heap), i + k = l.length → AgX [] H1 Hc → e 2 = ptr H.length 0 → e 5 = .int .i64 (stL n ls (l.take i)) → e 1 = .slice av l.length l.length → e 6 = .int .i64 i → W F H.length _ e Hc _ from
    h l.length 0 _ H1 (by omega) (AgX.refl _ _) (by simp only [go_sem, binC]) (by (simp only [go_sem, binC]) <;> rfl) (by simp only [go_sem, binC]) (by (simp only [go_sem, binC]) <;> rfl)
  intro k
  induction k with
  | zero =>
    intro i e Hc hi hxc e2 e5 e1 e6
    refine lp_step ?_
    refine seq_assoc (seq_reg ?_)
    simp only [go_sem, binC, e1, e6]
    refine seq_cond (t := false) (by simp only [go_sem, binC]; rw [decide_eq_false (by omega)]) ?_
    simp only [go_sem, binC]
    refine seq_exit ?_
    simp only [go_sem, binC, thenX_e, out_e, thenX_n]
    refine seq_reg ?_
    simp only [go_sem, binC, e5]
    rw [List.take_of_length_le (by omega)]
    exact wpc_ret ⟨Or.inr rfl, _, (by (simp only [go_sem, binC]) <;> rfl), rfl, rfl⟩
  | succ k ihk =>
    intro i e Hc hi hxc e2 e5 e1 e6
    have hil : i < l.length := by omega
    cases n with
    | zero => exact (l[i]).elim
    | succ n =>
    have hw1 : IntKind.i64.wrap ((i : Int) + 1) = ((i + 1 : Nat) : Int) := by rw [wrap_id (by omega) (by omega)]; omega
    obtain ⟨vb, vo, sk, sx, sa, sbb, sc, sg, tv, ev, tl, el, hav, hs, rg, otv, oev, hgc, htl, hel⟩ := step_at hv0 hil
    simp only [Value.slice.injEq, and_true] at hav
    subst hav
    have hmem : ∀ s, s ∈ allT (n + 1) l[i] → varB ls.length s.2.1 = true := fun s hs' => hvar s (mem_allL hil hs')
    rw [hs, allT_succ] at hmem
    have hvx := varB_i.1 (hmem _ (List.mem_cons_self))
    simp only at hvx
    have hx0c := hx1.tr hxc
    obtain ⟨lb, lo', hla, hgl0, _⟩ := lab_at (r1.mono (agx_sub hx0c)) (H := Hc) (fun _ _ h => h) hvx.1 hvx.2
    simp only [Value.slice.injEq, and_true] at hla
    subst hla
    have hlx := labB_i.1 (lab_getD hlab sx.toNat)
    have hbc := hxc.get hb1 (by simp)
    have hlc := hxc.1
    have hl1 := (List.getElem?_eq_some_iff.1 hb1).1
    have hq0 := stL_bd hlab (l.take i)
    have hqt := stL_bd hlab tl
    have hqe := stL_bd hlab el
    have htake := stL_take (ls := ls) hil
    rw [hs, stT_succ] at htake
    have hg8 := hgc _ (agx_sub hx0c)
    refine lp_step ?_
    refine seq_assoc (seq_reg ?_)
    simp only [go_sem, binC, e1, e6]
    refine seq_cond (t := true) (by simp only [go_sem, binC]; rw [decide_eq_true (by omega)]) ?_
    simp only [go_sem, binC]
    refine seq_skip (seq_block (seq_reg ?_))
    simp only [go_sem, binC, e1, e6]
    refine ⟨⟨by omega, by omega⟩, ?_⟩
    simp only [go_sem, binC, Int.toNat_natCast, hg8, otv, oev]
    refine ⟨by omega, ?_⟩
    refine wpc_gen fun H2 hH2 => ?_
    have hx2 : AgX [] Hc H2 := hH2 ▸ AgX.app [] _ _
    have hs2 : H2[Hc.length]? = some ⟨[.int .i64 sk, .int .i64 sx, .int .i64 sa, .int .i64 sbb, .int .i64 sc, .int .i64 sg, tv, ev], 0, 0, false, true⟩ := hH2 ▸ get_new0 _ _
    have hgl1 := hgl0 []
    rw [List.append_nil] at hgl1
    have hgl2 : getCells H2 lb (lo' + sx.toNat * 2 + 1) 1 = some [.int .i64 (ls.getD sx.toNat (0, 0)).2] := gcK (gc_part (off := 1) (k := 1) hgl1 (by omega)) hx2
    clear hH2
    have hb2 := hx2.get hbc (by simp)
    have hx02 := hx0c.tr hx2
    have r12 := r1.mono (agx_sub hx02)
    refine wpc_genK fun KK hKK => ?_
    have hrest : ∀ (e' : Env) (o : Int), e' 2 = ptr H.length 0 → e' 5 = .int .i64 o → e' 7 = ptr Hc.length 0 → R7 o → orS o (orS (stL n ls tl) (stL n ls el)) = stL (n + 1) ls (l.take (i + 1)) → e' 1 = e 1 → e' 6 = e 6 → wpc F H.length sSetsTail e' H2 KK := by
      intro e' o f2 f5 f7 ho hfin f1 f6
      rw [hKK]
      unfold sSetsTail
      refine wpc_regD ?_
      simp only [go_sem, binC, f2, f5, f7, gc_of hb2, gc_of hs2, inBlk_some, osv, otv]
      refine op_callQ (by simp only [go_sem, binC]; exact ih n rfl H2 _ sv tv ls tl osv r12 (htl.mono (agx_sub hx02)) hlab (fun s hs' => hmem s (List.mem_cons_of_mem _ (List.mem_append_left _ hs')))) ?_
      simp only [go_sem, binC, f2, f7, gc_of hb2, gc_of hs2, inBlk_some, osv, oev]
      refine op_callQ (by simp only [go_sem, binC]; exact ih n rfl H2 _ sv ev ls el osv r12 (hel.mono (agx_sub hx02)) hlab (fun s hs' => hmem s (List.mem_cons_of_mem _ (List.mem_append_right _ hs')))) ?_
      simp only [go_sem, binC]
      refine op_callQ (by simp only [go_sem, binC]; exact ge H2 _ _ hqt.1 hqt.2 hqe.1 hqe.2) ?_
      have hqq := orS_bd hqt hqe
      simp only [go_sem, binC, f5]
      refine op_callQ (by simp only [go_sem, binC, f5]; exact ge H2 _ _ ho.1 ho.2 hqq.1 hqq.2) ?_
      simp only [go_sem, binC]
      simp only [go_sem, binC, out_n, thenX_n]
      refine wpc_reg ?_
      simp only [go_sem, binC, f6, e6, hw1]
      simp only [go_sem, binC, thenX_n]
      exact ihk (i + 1) _ H2 (by omega) (hxc.tr hx2) (by simp only [go_sem, binC, f2]) (by simp only [go_sem, binC, hfin]) (by simp only [go_sem, binC, f1, e1]) (by simp only [go_sem, binC])
    refine seq_assoc (seq_reg ?_)
    simp only [go_sem, binC, gc_of hs2, inBlk_some]
    by_cases k1 : sk = 1
    · simp only [go_sem, binC, beq_t k1]
      refine seq_cond (t := true) rfl ?_
      simp only [go_sem, binC]
      refine seq_reg ?_
      simp only [go_sem, binC, e2, e5, gc_of hb2, gc_of hs2, inBlk_some]
      refine ⟨⟨by omega, by omega⟩, ?_⟩
      simp only [go_sem, binC, hgl2, e5]
      refine op_callQ (by simp only [go_sem, binC, e5]; exact ge H2 _ _ hq0.1 hq0.2 hlx.2.1 hlx.2.2) ?_
      simp only [go_sem, binC]
      refine hrest _ (orS (stL (n + 1) ls (l.take i)) (ls.getD sx.toNat (0, 0)).2) (by simp only [go_sem, binC, e2]) (by simp only [go_sem, binC]) (by simp only [go_sem, binC]) (orS_bd hq0 hlx.2) ?_ (by simp only [go_sem, binC]) (by simp only [go_sem, binC])
      rw [htake, if_pos k1, orS_assoc hq0 hlx.2 (orS_bd hqt hqe)]
    · simp only [go_sem, binC, beq_f k1]
      refine seq_cond (t := false) rfl ?_
      simp only [go_sem, binC]
      refine seq_skip ?_
      refine hrest _ (stL (n + 1) ls (l.take i)) (by simp only [go_sem, binC, e2]) (by simp only [go_sem, binC, e5]) (by simp only [go_sem, binC]) hq0 ?_ (by simp only [go_sem, binC]) (by simp only [go_sem, binC])
      rw [htake, if_neg k1, orS_0 (orS_bd hqt hqe)]
theorem sSets_all {F : Nat → Option IFn} (hf : F 134 = some c_sSets) (ge : EitherOk F 90) : ∀ n, STOk F 134 n
  | 0 => sSets_ok hf ge fun m h => by omega
  | n + 1 => sSets_ok hf ge fun m h => by cases h; exact sSets_all hf ge n
end Go.Proofs.YtbjeldblaclpnaaI
end
section
/- Who may do a step (the program's). -/
set_option linter.unusedVariables false
set_option linter.unusedSimpArgs false
namespace Go.Proofs.YtbjeldblaclpnaaI
open Go Go.RowKit
def c_iMakes : IFn := ⟨1, 12, [.t 2],
 .seq (.reg none [
    ⟨(some 1), none, .box (.t 0)⟩,
    ⟨(some 2), none, .mov (.c (.slice none 0 0))⟩])
 (.seq (.seq (.reg none [
     ⟨(some 3), none, .fad 0 (.t 1)⟩,
     ⟨(some 4), none, .load false 1 (.t 3)⟩,
     ⟨(some 5), none, .bin .eql (.t 4) (.c (.int .i64 1))⟩])
  (.cond (.t 5) (.seq (.reg none [
      ⟨(some 6), none, .fad 2 (.t 1)⟩,
      ⟨(some 7), none, .load true 3 (.t 6)⟩,
      ⟨(some 8), none, .call .k (.f 143) [(.t 7)]⟩,
      ⟨(some 2), none, .mov (.t 8)⟩])
   (.ret)) (.skip)))
 (.seq (.reg none [
    ⟨(some 9), none, .fad 1 (.t 1)⟩,
    ⟨(some 10), none, .load false 1 (.t 9)⟩,
    ⟨(some 11), none, .lit 1 3 1 [(.int .i64 0)] [(0, 1, (.t 10))]⟩,
    ⟨(some 2), none, .mov (.t 11)⟩])
 (.ret)))⟩
def c_iDoes : IFn := ⟨6, 71, [.t 12],
 .seq (.reg none [
    ⟨(some 6), none, .box (.t 0)⟩,
    ⟨(some 9), none, .box (.t 3)⟩,
    ⟨(some 10), none, .box (.t 4)⟩,
    ⟨(some 12), none, .mov (.c (.bool false))⟩])
 (.seq (.seq (.reg none [
     ⟨(some 15), none, .fad 0 (.t 10)⟩,
     ⟨(some 16), none, .load false 1 (.t 15)⟩,
     ⟨(some 17), none, .mov (.t 5)⟩,
     ⟨(some 18), none, .call .q (.f 99) [(.t 16), (.t 17)]⟩,
     ⟨(some 19), none, .un .not (.t 18)⟩,
     ⟨(some 20), none, .mov (.t 19)⟩,
     ⟨(some 21), (some (20, false)), .load true 2 (.t 6)⟩,
     ⟨(some 22), (some (20, false)), .load true 8 (.t 9)⟩,
     ⟨(some 23), (some (20, false)), .lit 8 85 1 [(.int .i64 0), (.int .i64 0), (.int .i64 0), (.int .i64 0), (.int .i64 0), (.int .i64 0), (.slice none 0 0), (.slice none 0 0)] [(0, 8, (.t 22))]⟩,
     ⟨(some 24), (some (20, false)), .call .q (.f 83) [(.t 21), (.t 23)]⟩,
     ⟨(some 25), (some (20, false)), .mov (.t 1)⟩,
     ⟨(some 26), (some (20, false)), .mov (.t 5)⟩,
     ⟨(some 27), (some (20, false)), .call .q (.f 115) [(.t 25), (.t 26)]⟩,
     ⟨(some 28), (some (20, false)), .call .q (.f 114) [(.t 24), (.t 27)]⟩,
     ⟨(some 29), (some (20, false)), .un .not (.t 28)⟩,
     ⟨(some 30), none, .pick (.t 20) (.c (.bool true)) (.t 29)⟩])
  (.cond (.t 30) (.seq (.reg none [
      ⟨(some 12), none, .mov (.c (.bool false))⟩])
   (.ret)) (.skip)))
 (.seq (.seq (.reg none [
     ⟨(some 31), none, .load true 8 (.t 9)⟩,
     ⟨(some 32), none, .call .k (.f 116) [(.t 31)]⟩,
     ⟨(some 33), none, .len (.t 32)⟩,
     ⟨(some 34), none, .mov (.c (.int .i64 0))⟩])
  (.block 0 (.loop (.seq (.reg none [
       ⟨(some 35), none, .bin .lss (.t 34) (.t 33)⟩])
    (.seq (.cond (.t 35) (.skip) (.exit 0))
    (.seq (.block 1 (.seq (.reg none [
         ⟨(some 36), none, .iad 1 (.t 32) (.t 34)⟩,
         ⟨(some 37), none, .load false 1 (.t 36)⟩,
         ⟨(some 14), none, .mov (.t 37)⟩])
      (.seq (.reg (some 16) [
         ⟨(some 38), none, .fad 0 (.t 6)⟩,
         ⟨(some 39), none, .load false 1 (.t 38)⟩,
         ⟨(some 40), none, .mov (.t 14)⟩,
         ⟨(some 41), none, .iad 2 (.t 39) (.t 40)⟩,
         ⟨(some 42), none, .fad 0 (.t 41)⟩,
         ⟨(some 43), none, .load false 1 (.t 42)⟩,
         ⟨(some 44), none, .mov (.t 5)⟩,
         ⟨(some 45), none, .call .q (.f 99) [(.t 43), (.t 44)]⟩,
         ⟨(some 46), none, .un .not (.t 45)⟩,
         ⟨(some 47), none, .mov (.t 46)⟩,
         ⟨(some 48), (some (47, false)), .fad 0 (.t 10)⟩,
         ⟨(some 49), (some (47, false)), .load false 1 (.t 48)⟩,
         ⟨(some 50), (some (47, false)), .mov (.t 2)⟩,
         ⟨(some 51), (some (47, false)), .mov (.t 14)⟩,
         ⟨(some 52), (some (47, false)), .iad 1 (.t 50) (.t 51)⟩,
         ⟨(some 53), (some (47, false)), .load false 1 (.t 52)⟩,
         ⟨(some 54), (some (47, false)), .call .q (.f 99) [(.t 49), (.t 53)]⟩,
         ⟨(some 55), (some (47, false)), .un .not (.t 54)⟩,
         ⟨(some 56), none, .pick (.t 47) (.c (.bool true)) (.t 55)⟩])
      (.cond (.t 56) (.seq (.reg none [
          ⟨(some 12), none, .mov (.c (.bool false))⟩])
       (.ret)) (.skip)))))
    (.reg none [
      ⟨(some 57), none, .bin .add (.t 34) (.c (.int .i64 1))⟩,
      ⟨(some 34), none, .mov (.t 57)⟩])))))))
 (.seq (.reg (some 11) [
    ⟨(some 58), none, .fad 0 (.t 9)⟩,
    ⟨(some 59), none, .load false 1 (.t 58)⟩,
    ⟨(some 60), none, .bin .neq (.t 59) (.c (.int .i64 1))⟩,
    ⟨(some 61), none, .mov (.t 60)⟩,
    ⟨(some 62), (some (61, false)), .fad 0 (.t 10)⟩,
    ⟨(some 63), (some (61, false)), .load false 1 (.t 62)⟩,
    ⟨(some 64), (some (61, false)), .mov (.t 2)⟩,
    ⟨(some 65), (some (61, false)), .fad 1 (.t 9)⟩,
    ⟨(some 66), (some (61, false)), .load false 1 (.t 65)⟩,
    ⟨(some 67), (some (61, false)), .iad 1 (.t 64) (.t 66)⟩,
    ⟨(some 68), (some (61, false)), .load false 1 (.t 67)⟩,
    ⟨(some 69), (some (61, false)), .call .q (.f 99) [(.t 63), (.t 68)]⟩,
    ⟨(some 70), none, .pick (.t 61) (.c (.bool true)) (.t 69)⟩,
    ⟨(some 12), none, .mov (.t 70)⟩])
 (.ret))))⟩
def c_sVars21 : IFn := ⟨1, 29, [.t 2],
 .seq (.reg none [
    ⟨(some 1), none, .box (.t 0)⟩,
    ⟨(some 2), none, .mov (.c (.slice none 0 0))⟩])
 (.seq (.seq (.reg none [
     ⟨(some 3), none, .fad 0 (.t 1)⟩,
     ⟨(some 4), none, .load false 1 (.t 3)⟩])
  (.block 0 (.seq (.reg none [
      ⟨(some 6), none, .bin .eql (.t 4) (.c (.int .i64 1))⟩,
      ⟨(some 5), none, .mov (.t 6)⟩])
   (.cond (.t 5) (.seq (.seq (.reg none [
        ⟨(some 7), none, .fad 2 (.t 1)⟩,
        ⟨(some 8), none, .fad 0 (.t 7)⟩,
        ⟨(some 9), none, .load false 1 (.t 8)⟩])
     (.block 1 (.seq (.reg none [
         ⟨(some 11), none, .bin .eql (.t 9) (.c (.int .i64 1))⟩,
         ⟨(some 10), none, .mov (.t 11)⟩])
      (.cond (.t 10) (.seq (.reg none [
          ⟨(some 12), none, .lit 1 3 0 [] []⟩,
          ⟨(some 2), none, .mov (.t 12)⟩])
       (.ret)) (.seq (.reg none [
          ⟨(some 14), none, .bin .eql (.t 9) (.c (.int .i64 2))⟩,
          ⟨(some 13), none, .mov (.t 14)⟩])
       (.cond (.t 13) (.seq (.reg none [
           ⟨(some 15), none, .fad 2 (.t 1)⟩,
           ⟨(some 16), none, .fad 1 (.t 15)⟩,
           ⟨(some 17), none, .load false 1 (.t 16)⟩,
           ⟨(some 18), none, .lit 1 3 1 [(.int .i64 0)] [(0, 1, (.t 17))]⟩,
           ⟨(some 2), none, .mov (.t 18)⟩])
        (.ret)) (.skip)))))))
    (.seq (.reg none [
       ⟨(some 19), none, .fad 2 (.t 1)⟩,
       ⟨(some 20), none, .fad 1 (.t 19)⟩,
       ⟨(some 21), none, .load false 1 (.t 20)⟩,
       ⟨(some 22), none, .fad 2 (.t 1)⟩,
       ⟨(some 23), none, .fad 2 (.t 22)⟩,
       ⟨(some 24), none, .load false 1 (.t 23)⟩,
       ⟨(some 25), none, .lit 1 3 2 [(.int .i64 0), (.int .i64 0)] [(0, 1, (.t 21)), (1, 1, (.t 24))]⟩,
       ⟨(some 2), none, .mov (.t 25)⟩])
    (.ret))) (.skip)))))
 (.seq (.reg none [
    ⟨(some 26), none, .fad 1 (.t 1)⟩,
    ⟨(some 27), none, .load false 1 (.t 26)⟩,
    ⟨(some 28), none, .lit 1 3 1 [(.int .i64 0)] [(0, 1, (.t 27))]⟩,
    ⟨(some 2), none, .mov (.t 28)⟩])
 (.ret)))⟩
/-- Of which variables a step makes something. -/
def makesL (s : Shal) : List Int := if s.1 = 1 then varsL s.2.2.1 else [s.2.1]
def MakesOk (F : Nat → Option IFn) (f : Nat) : Prop := ∀ (H : Heap) (kk : Nat) (k x a b c g : Int) (tv ev : Value), one tv = true → one ev = true → (RgI k ∧ RgI x ∧ RgI a ∧ RgI b ∧ RgI c ∧ RgI g) → shB kk (k, x, (a, b, c), g) = true → ∃ w H', KC F f [.agg #[.int .i64 k, .int .i64 x, .int .i64 a, .int .i64 b, .int .i64 c, .int .i64 g, tv, ev]] H w H' ∧ (AgX [] H H' ∧ SlR Co.int (vwl H.length [] H') w (makesL (k, x, (a, b, c), g)))
theorem iMakes_ok {F : Nat → Option IFn} {f : Nat} (hf : F f = some c_iMakes) (gv : F 143 = some c_vars) : MakesOk F f := by
  intro H kk k x a b c g tv ev otv oev rg hsh
  refine KC.mk hf rfl ?_
  refine seq_reg ?_
  simp only [go_sem, binC, otv, oev]
  refine wpc_gen fun H1 hH1 => ?_
  have hx1 : AgX [] H H1 := hH1 ▸ AgX.app [] _ _
  have hb1 : H1[H.length]? = some ⟨[.int .i64 k, .int .i64 x, .int .i64 a, .int .i64 b, .int .i64 c, .int .i64 g, tv, ev], 0, 0, false, true⟩ := hH1 ▸ get_new0 _ _
  have hl1 : H1.length = H.length + 1 := by rw [hH1, List.length_append]; rfl
  clear hH1
  refine seq_assoc (seq_reg ?_)
  simp only [go_sem, binC, gc_of hb1, inBlk_some]
  by_cases k1 : k = 1
  · simp only [go_sem, binC, beq_t k1]
    refine seq_cond (t := true) rfl ?_
    simp only [go_sem, binC]
    refine seq_assoc (seq_reg ?_)
    simp only [go_sem, binC, gc_of hb1, inBlk_some]
    obtain ⟨w, L, kc, hs⟩ := vars_okV gv H1 a b c rg.2.2.2.1 rg.2.2.2.2.1
    refine op_callK (by simp only [go_sem, binC]; exact kc) ?_
    simp only [go_sem, binC]
    refine seq_ret ⟨Or.inr rfl, _, (by (simp only [go_sem, binC]) <;> rfl), hx1.tr (AgX.app [] _ _), ?_⟩
    unfold makesL
    rw [if_pos k1]
    exact hs.mono (vwl_sub (AgX.refl [] _) (by omega) fun b' _ _ h => ⟨by simp, h⟩)
  · simp only [go_sem, binC, beq_f k1]
    refine seq_cond (t := false) rfl ?_
    simp only [go_sem, binC]
    refine seq_skip (seq_reg ?_)
    simp only [go_sem, binC, gc_of hb1, inBlk_some]
    refine wpc_ret ⟨Or.inr rfl, _, (by (simp only [go_sem, binC]) <;> rfl), hx1.tr (AgX.app [] _ _), ?_⟩
    unfold makesL
    rw [if_neg k1]
    exact ints_sl (o := 0) (lo := H.length) (xs := []) (l := [x]) (get_new0 _ _) (by omega) (by simp) (by intro y hy; simp at hy; subst hy; exact rg.2.1) (Nat.zero_le _) (by simp)
theorem sVars21_ok {F : Nat → Option IFn} {f : Nat} (hf : F f = some c_sVars21) : MakesOk F f := by
  intro H kk k x a b c g tv ev otv oev rg hsh
  refine KC.mk hf rfl ?_
  refine seq_reg ?_
  simp only [go_sem, binC, otv, oev]
  refine wpc_gen fun H1 hH1 => ?_
  have hx1 : AgX [] H H1 := hH1 ▸ AgX.app [] _ _
  have hb1 : H1[H.length]? = some ⟨[.int .i64 k, .int .i64 x, .int .i64 a, .int .i64 b, .int .i64 c, .int .i64 g, tv, ev], 0, 0, false, true⟩ := hH1 ▸ get_new0 _ _
  have hl1 : H1.length = H.length + 1 := by rw [hH1, List.length_append]; rfl
  clear hH1
  refine seq_assoc (seq_reg ?_)
  simp only [go_sem, binC, gc_of hb1, inBlk_some]
  refine seq_block ?_
  refine seq_reg ?_
  by_cases k1 : k = 1
  · simp only [go_sem, binC, beq_t k1]
    refine wpc_cond (t := true) rfl ?_
    simp only [go_sem, binC]
    have hv : valB kk (a, b, c) = true := by
      have := hsh
      simp only [shB, Bool.and_eq_true] at this
      have h2 := this.2
      rwa [if_pos k1] at h2
    have hm : makesL (k, x, (a, b, c), g) = varsL (a, b, c) := by unfold makesL; rw [if_pos k1]
    rw [hm]
    refine seq_assoc (seq_reg ?_)
    simp only [go_sem, binC, gc_of hb1, inBlk_some]
    refine seq_block ?_
    refine seq_reg ?_
    by_cases a1 : a = 1
    · simp only [go_sem, binC, beq_t a1]
      refine wpc_cond (t := true) rfl ?_
      simp only [go_sem, binC]
      refine seq_reg ?_
      simp only [go_sem, binC]
      refine wpc_ret ?_
      simp only [go_sem, binC, out_r, thenX_r]
      refine ⟨Or.inr rfl, _, (by (simp only [go_sem, binC]) <;> rfl), hx1.tr (AgX.app [] _ _), ?_⟩
      have h1 : varsL (a, b, c) = [] := by subst a1; simp [varsL]
      rw [h1]
      exact ⟨by simp, _, rfl, .inl rfl⟩
    simp only [go_sem, binC, beq_f a1]
    refine wpc_cond (t := false) rfl ?_
    simp only [go_sem, binC]
    refine seq_reg ?_
    by_cases a2 : a = 2
    · simp only [go_sem, binC, beq_t a2]
      refine wpc_cond (t := true) rfl ?_
      simp only [go_sem, binC]
      refine seq_reg ?_
      simp only [go_sem, binC, gc_of hb1, inBlk_some]
      refine wpc_ret ?_
      simp only [go_sem, binC, out_r, thenX_r]
      refine ⟨Or.inr rfl, _, (by (simp only [go_sem, binC]) <;> rfl), hx1.tr (AgX.app [] _ _), ?_⟩
      have h1 : varsL (a, b, c) = [b] := by subst a2; simp [varsL]
      rw [h1]
      exact ints_sl (o := 0) (lo := H.length) (xs := []) (l := [b]) (get_new0 _ _) (by omega) (by simp) (by intro y hy; simp at hy; subst hy; exact rg.2.2.2.1) (Nat.zero_le _) (by simp)
    simp only [go_sem, binC, beq_f a2]
    refine wpc_cond (t := false) rfl ?_
    simp only [go_sem, binC]
    refine wpc_skip ?_
    simp only [go_sem, binC, out_n, thenX_n]
    have a34 : a = 3 ∨ a = 4 := by
      unfold valB at hv
      simp only at hv
      rw [if_neg a1, if_neg a2] at hv
      by_cases h : a = 3 ∨ a = 4
      · exact h
      · rw [if_neg h] at hv; cases hv
    refine seq_reg ?_
    simp only [go_sem, binC, gc_of hb1, inBlk_some]
    refine wpc_ret ?_
    simp only [go_sem, binC, out_r, thenX_r]
    refine ⟨Or.inr rfl, _, (by (simp only [go_sem, binC]) <;> rfl), hx1.tr (AgX.app [] _ _), ?_⟩
    have h1 : varsL (a, b, c) = [b, c] := by simp [varsL, a2, a34]
    rw [h1]
    exact ints_sl (o := 0) (lo := H.length) (xs := []) (l := [b, c]) (get_new0 _ _) (by omega) (by simp) (by intro y hy; simp at hy; rcases hy with rfl | rfl; exact rg.2.2.2.1; exact rg.2.2.2.2.1) (Nat.zero_le _) (by simp)
  · simp only [go_sem, binC, beq_f k1]
    refine wpc_cond (t := false) rfl ?_
    simp only [go_sem, binC]
    refine wpc_skip ?_
    simp only [go_sem, binC, out_n, thenX_n]
    refine seq_reg ?_
    simp only [go_sem, binC, gc_of hb1, inBlk_some]
    refine wpc_ret ⟨Or.inr rfl, _, (by (simp only [go_sem, binC]) <;> rfl), hx1.tr (AgX.app [] _ _), ?_⟩
    unfold makesL
    rw [if_neg k1]
    exact ints_sl (o := 0) (lo := H.length) (xs := []) (l := [x]) (get_new0 _ _) (by omega) (by simp) (by intro y hy; simp at hy; subst hy; exact rg.2.1) (Nat.zero_le _) (by simp)
theorem bne_fJ {a b : Int} (h : a = b) : (a != b) = false := by simp [h]
theorem bne_tJ {a b : Int} (h : ¬ a = b) : (a != b) = true := by simp [h]
theorem makesL_in {kk : Nat} {s : Shal} (h : shB kk s = true) : ∀ v ∈ makesL s, 0 ≤ v ∧ v < kk := by
  obtain ⟨k, x, v, g⟩ := s
  simp only [shB, Bool.and_eq_true] at h
  intro y hy
  unfold makesL at hy
  simp only at hy
  by_cases k1 : k = 1
  · rw [if_pos k1] at hy h
    exact varsL_in h.2 y hy
  · rw [if_neg k1] at hy
    simp only [List.mem_singleton] at hy
    subst hy
    exact varB_i.1 h.1
/-- Whether a host may do a step: the labels, whom each trusts, homes, the step, who trusts what is set in it, the label of its being done, the host. -/
def mkP (ls : List (Int × Int)) (homes : List Int) (own : Int × Int) (h v : Int) : Bool := hasB (ls.getD v.toNat (0, 0)).1 h && hasB own.1 (homes.getD v.toNat 0)
def doesB (ls : List (Int × Int)) (ts homes : List Int) (s : Shal) (st : Int) (own : Int × Int) (h : Int) : Bool := (hasB own.1 h && witB st (byS ts h 3)) && ((makesL s).all (mkP ls homes own h) && (decide (s.1 ≠ 1) || hasB own.1 (homes.getD s.2.1.toNat 0)))
def stA (ls : List (Int × Int)) (s : AnyS) : Int := stT (s.1 + 1) ls s.2
def homesP (k : Nat) (homes : List Int) : Prop := homes.length = k ∧ ∀ x ∈ homes, 0 ≤ x ∧ x ≤ 2
def okA (k : Nat) (s : AnyS) : Prop := shB k (shA s) = true ∧ ∀ t ∈ allT (s.1 + 1) s.2, varB k t.2.1 = true
def DoesOk (F : Nat → Option IFn) (f : Nat) : Prop := ∀ (H : Heap) (lv sv tw hw : Value) (cs : List Value) (ls : List (Int × Int)) (ts homes : List Int) (s : AnyS) (own : Int × Int) (h : Int), one sv = true → SlR Co.p2 (vw 0 H) lv ls → ls.all labB = true → SlR Co.int (vw 0 H) tw ts → trP ts → SlR Co.int (vw 0 H) hw homes → homesP ls.length homes → Co.anyS.rd (vw 0 H) cs s → okA ls.length s → labB own = true → 0 ≤ h → h ≤ 2 →
  QC F f [.agg #[lv, sv], tw, hw, .agg cs.toArray, .agg #[.int .i64 own.1, .int .i64 own.2], .int .i64 h] H (.bool (doesB ls ts homes (shA s) (stA ls s) own h))
theorem iDoes_ok {F : Nat → Option IFn} {f : Nat} (hf : F f = some c_iDoes) (gh : HasOk F 99) (gw : WitOk F 114) (gb : ByOk F 115) (gs : ∀ n, STOk F 83 n) (gm : MakesOk F 116) : DoesOk F f := by
  intro H lv sv tw hw cs ls ts homes s own h osv r1 hlab r2 htr r3 hho rds hok hown hh0 hh2
  obtain ⟨_, la, rfl, _⟩ := id r1
  obtain ⟨_, ta, rfl, _⟩ := id r2
  obtain ⟨_, ha, rfl, _⟩ := id r3
  obtain ⟨sk, sx, sa, sbb, sc, sg, tv, ev, tl, el, hs2, rfl, rg, otv, oev, htl, hel⟩ := anyS_rd rds
  have hsh : shA s = (sk, sx, (sa, sbb, sc), sg) := by unfold shA; rw [hs2]
  obtain ⟨hok1, hok2⟩ := hok
  rw [hsh] at hok1
  have hvx : 0 ≤ sx ∧ sx < ls.length := by
    have := hok1
    simp only [shB, Bool.and_eq_true] at this
    exact varB_i.1 this.1
  have hmin := makesL_in hok1
  obtain ⟨ho1, ho2⟩ := hown |> fun h => labB_i.1 h
  obtain ⟨hhl, hhr⟩ := hho
  have hst := stT_bd hlab (s.1 + 1) s.2
  have hby := byS_lt ts h 3
  have h8 : (2 : Int) ^ 3 = 8 := by decide
  rw [h8] at hby
  rw [hsh]
  refine QC.mk hf rfl ?_
  refine seq_reg ?_
  simp only [go_sem, binC, osv, otv, oev]
  refine wpc_gen fun H1 hH1 => ?_
  have hx1 : AgX [] H H1 := hH1 ▸ AgX.app [] _ _
  have hb6 : H1[H.length]? = some ⟨[.slice la ls.length ls.length, sv], 0, 0, false, true⟩ := hH1 ▸ get_new0 _ _
  have hb9 : H1[H.length + 1]? = some ⟨[.int .i64 sk, .int .i64 sx, .int .i64 sa, .int .i64 sbb, .int .i64 sc, .int .i64 sg, tv, ev], 0, 0, false, true⟩ := hH1 ▸ get_new _ _ 1
  have hb10 : H1[H.length + 2]? = some ⟨[.int .i64 own.1, .int .i64 own.2], 0, 0, false, true⟩ := hH1 ▸ get_new _ _ 2
  clear hH1
  have hl1 := (List.getElem?_eq_some_iff.1 hb10).1
  refine seq_assoc (seq_reg ?_)
  simp only [go_sem, binC, gc_of hb10, inBlk_some]
  refine op_callQ (by simp only [go_sem, binC]; exact gh H1 own.1 h ho1.1 ho1.2) ?_
  cases q1 : hasB own.1 h with
  | false =>
    simp only [go_sem, binC]
    refine seq_cond (t := true) rfl ?_
    simp only [go_sem, binC]
    refine seq_assoc (seq_reg ?_)
    simp only [go_sem, binC]
    refine seq_ret ⟨Or.inr rfl, .bool false, (by (simp only [go_sem, binC]) <;> rfl), ?_, rfl⟩
    unfold doesB
    rw [q1]
    rfl
  | true =>
  simp only [go_sem, binC, gc_of hb6, gc_of hb9, inBlk_some, osv, otv, oev]
  generalize hH2 : H1 ++ [(⟨[.int .i64 sk, .int .i64 sx, .int .i64 sa, .int .i64 sbb, .int .i64 sc, .int .i64 sg, tv, ev], 8, 85, true, true⟩ : Blk)] = H2
  have hx2 : AgX [] H1 H2 := hH2 ▸ AgX.app [] _ _
  have hbl : H2[H1.length]? = some ⟨[.int .i64 sk, .int .i64 sx, .int .i64 sa, .int .i64 sbb, .int .i64 sc, .int .i64 sg, tv, ev], 8, 85, true, true⟩ := hH2 ▸ get_new0 _ _
  clear hH2
  have hx02 := hx1.tr hx2
  have hlist : SlR (Co.step (s.1 + 1)) (vw 0 H2) (sli H1.length 0 1) [s.2] := by
    refine ⟨by simp, _, rfl, .inr ⟨H1.length, 0, rfl, fun i hi => ?_⟩⟩
    obtain rfl : i = 0 := by simpa using hi
    refine ⟨[.int .i64 sk, .int .i64 sx, .int .i64 sa, .int .i64 sbb, .int .i64 sc, .int .i64 sg, tv, ev], ?_, (Co.step (s.1 + 1)).mono (agx_sub hx02) rds⟩
    unfold rng vw
    rw [if_pos (Nat.zero_le _), hbl, step_w]
    rfl
  have hsets := gs (s.1 + 1) H2 _ sv _ ls [s.2] osv (r1.mono (agx_sub hx02)) hlist hlab (fun t ht => hok2 t (by simpa [allL] using ht))
  have hst1 : stL (s.1 + 1) ls [s.2] = stA ls s := by
    unfold stL stA
    simp only [List.map_cons, List.map_nil, List.foldl_cons, List.foldl_nil]
    exact orS_0 hst
  rw [hst1] at hsets
  refine op_callQ (by simp only [go_sem, binC]; exact hsets) ?_
  simp only [go_sem, binC]
  refine op_callQ (by simp only [go_sem, binC]; exact gb H2 _ ts h (r2.mono (agx_sub hx02)) htr hh0 hh2) ?_
  simp only [go_sem, binC]
  refine op_callQ (by simp only [go_sem, binC]; exact gw H2 _ _ hst.1 hst.2 hby.1 (by omega)) ?_
  have hst2 : R7 (stA ls s) := hst
  have hb62 := hx2.get hb6 (by simp)
  have hb92 := hx2.get hb9 (by simp)
  have hb102 := hx2.get hb10 (by simp)
  have hl2 := hx2.1
  generalize hstg : stA ls s = st
  cases q2 : witB st (byS ts h 3) with
  | false =>
    simp only [go_sem, binC]
    refine seq_cond (t := true) rfl ?_
    simp only [go_sem, binC]
    refine seq_assoc (seq_reg ?_)
    simp only [go_sem, binC]
    refine seq_ret ⟨Or.inr rfl, .bool false, (by (simp only [go_sem, binC]) <;> rfl), ?_, rfl⟩
    unfold doesB
    rw [q1, q2]
    rfl
  | true =>
  simp only [go_sem, binC]
  refine seq_cond (t := false) rfl ?_
  simp only [go_sem, binC]
  refine seq_skip (seq_assoc (seq_reg ?_))
  simp only [go_sem, binC, gc_of hb92, inBlk_some, otv, oev]
  obtain ⟨mw, H3, k3, hx3, hm3⟩ := gm H2 ls.length sk sx sa sbb sc sg tv ev otv oev rg hok1
  refine op_callK (by simp only [go_sem, binC]; exact k3) ?_
  obtain ⟨_, ma, rfl, _⟩ := id hm3
  simp only [go_sem, binC]
  have hx03 := hx02.tr hx3
  have hb63 := hx3.get hb62 (by simp)
  have hb93 := hx3.get hb92 (by simp)
  have hb103 := hx3.get hb102 (by simp)
  have r13 := r1.mono (agx_sub hx03)
  have r33 := r3.mono (agx_sub hx03)
  have hm3' := hm3.mono (vwl0 _ _ _)
  generalize hML : makesL (sk, sx, (sa, sbb, sc), sg) = ml at *
  have hdo : doesB ls ts homes (sk, sx, (sa, sbb, sc), sg) st own h = (ml.all (mkP ls homes own h) && (decide (sk ≠ 1) || hasB own.1 (homes.getD sx.toNat 0))) := by
    unfold doesB
    rw [q1, q2, hML]
    rfl
  rw [hdo]
  have hhome : ∀ v : Int, 0 ≤ v → v < ls.length → ∃ hb ho, ha = some ⟨hb, ho, none⟩ ∧ getCells H3 hb (ho + v.toNat) 1 = some [.int .i64 (homes.getD v.toNat 0)] := fun v h1 h2 => by
    have hl : v.toNat < homes.length := by omega
    obtain ⟨b, o, hv, hg⟩ := gcJ r33 hl
    simp only [Value.slice.injEq, and_true] at hv
    refine ⟨b, o, hv, ?_⟩
    rw [hg]
    simp [List.getD, hl]
  have hlabel : ∀ v : Int, 0 ≤ v → v < ls.length → ∃ lb lo', la = some ⟨lb, lo', none⟩ ∧ getCells H3 lb (lo' + v.toNat * 2) 1 = some [.int .i64 (ls.getD v.toNat (0, 0)).1] := fun v h1 h2 => by
    obtain ⟨lb, lo', hla, hgl0, _⟩ := lab_at r13 (H := H3) (fun _ _ h => h) h1 h2
    simp only [Value.slice.injEq, and_true] at hla
    have hgl1 := hgl0 []
    rw [List.append_nil] at hgl1
    have := gc_part (off := 0) (k := 1) hgl1 (by omega)
    exact ⟨lb, lo', hla, by simpa using this⟩
  refine seq_block (wpc_loop ?_)
  suffices hh : ∀ (m i : Nat) (e : Env), i + m = ml.length → (ml.take i).all (mkP ls homes own h) = true → e 2 = .slice ha homes.length homes.length → e 5 = .int .i64 h → e 6 = ptr H.length 0 → e 9 = ptr (H.length + 1) 0 → e 10 = ptr (H.length + 2) 0 → e 32 = .slice ma ml.length ml.length → e 33 = .int .i64 ml.length → e 34 = .int .i64 i → W F H.length _ e H3 _ from
    hh ml.length 0 _ (by omega) rfl (by simp only [go_sem, binC]) (by simp only [go_sem, binC]) (by simp only [go_sem, binC]) (by simp only [go_sem, binC]) (by simp only [go_sem, binC]) (by simp only [go_sem, binC]) (by simp only [go_sem, binC]) (by (simp only [go_sem, binC]) <;> rfl)
  intro m
  induction m with
  | zero =>
    intro i e hi hall e2 e5 e6 e9 e10 e32 e33 e34
    rw [List.take_of_length_le (by omega)] at hall
    refine lp_step ?_
    refine seq_reg ?_
    simp only [go_sem, binC, e33, e34]
    refine seq_cond (t := false) (by simp only [go_sem, binC]; rw [decide_eq_false (by omega)]) ?_
    simp only [go_sem, binC]
    refine seq_exit ?_
    simp only [go_sem, binC, thenX_e, out_e, thenX_n]
    refine seq_regD ?_
    simp only [go_sem, binC, e9, gc_of hb93, inBlk_some]
    by_cases k1 : sk = 1
    · simp only [go_sem, binC, bne_fJ k1]
      obtain ⟨hb, ho, rfl, hg⟩ := hhome sx hvx.1 hvx.2
      simp only [go_sem, binC, e2, e9, e10, gc_of hb93, gc_of hb103, inBlk_some]
      refine ⟨⟨by omega, by omega⟩, ?_⟩
      simp only [go_sem, binC, Int.toNat_natCast, Nat.mul_one, hg]
      refine op_callQ (by simp only [go_sem, binC]; exact gh H3 own.1 _ ho1.1 ho1.2) ?_
      simp only [go_sem, binC]
      refine wpc_ret ⟨Or.inr rfl, _, (by (simp only [go_sem, binC]) <;> rfl), ?_, rfl⟩
      rw [hall, decide_eq_false (by simpa using k1)]
      rfl
    · simp only [go_sem, binC, bne_tJ k1]
      refine wpc_ret ⟨Or.inr rfl, _, (by (simp only [go_sem, binC]) <;> rfl), ?_, rfl⟩
      rw [hall, decide_eq_true (by simpa using k1)]
      rfl
  | succ m ih =>
    intro i e hi hall e2 e5 e6 e9 e10 e32 e33 e34
    have hil : i < ml.length := by omega
    have hw1 : IntKind.i64.wrap ((i : Int) + 1) = ((i + 1 : Nat) : Int) := by rw [wrap_id (by omega) (by omega)]; omega
    have hvi := hmin _ (List.getElem_mem hil)
    obtain ⟨mb, mo, hmv, hmg⟩ := gcJ hm3' hil
    simp only [Value.slice.injEq, and_true] at hmv
    subst hmv
    obtain ⟨lb, lo', rfl, hlg⟩ := hlabel _ hvi.1 hvi.2
    obtain ⟨hb, ho, rfl, hhg⟩ := hhome _ hvi.1 hvi.2
    have hlx := labB_i.1 (lab_getD hlab ml[i].toNat)
    have hPf : mkP ls homes own h ml[i] = false → ml.all (mkP ls homes own h) = false := fun hp => by
      rw [Bool.eq_false_iff]
      intro hall'
      have := List.all_eq_true.1 hall' _ (List.getElem_mem hil)
      rw [hp] at this
      cases this
    refine lp_step ?_
    refine seq_reg ?_
    simp only [go_sem, binC, e33, e34]
    refine seq_cond (t := true) (by simp only [go_sem, binC]; rw [decide_eq_true (by omega)]) ?_
    simp only [go_sem, binC]
    refine seq_skip (seq_block ?_)
    refine seq_reg ?_
    simp only [go_sem, binC, e32, e34]
    refine ⟨⟨by omega, by omega⟩, ?_⟩
    simp only [go_sem, binC, Int.toNat_natCast, Nat.mul_one, hmg]
    refine seq_regD ?_
    simp only [go_sem, binC, e5, e6, gc_of hb63, inBlk_some]
    refine ⟨⟨by omega, by omega⟩, ?_⟩
    simp only [go_sem, binC, hlg, e5]
    refine op_callQ (by simp only [go_sem, binC, e5]; exact gh H3 _ h hlx.1.1 hlx.1.2) ?_
    cases p1 : hasB (ls.getD ml[i].toNat (0, 0)).1 h with
    | false =>
      simp only [go_sem, binC]
      refine wpc_cond (t := true) rfl ?_
      simp only [go_sem, binC]
      refine seq_reg ?_
      simp only [go_sem, binC]
      refine wpc_ret ?_
      simp only [go_sem, binC, out_r, thenX_r]
      refine ⟨Or.inr rfl, .bool false, (by (simp only [go_sem, binC]) <;> rfl), ?_, rfl⟩
      rw [hPf (by unfold mkP; rw [p1]; rfl)]
      rfl
    | true =>
    simp only [go_sem, binC, e2, e10, gc_of hb103, inBlk_some]
    refine ⟨⟨by omega, by omega⟩, ?_⟩
    simp only [go_sem, binC, Int.toNat_natCast, Nat.mul_one, hhg]
    refine op_callQ (by simp only [go_sem, binC]; exact gh H3 own.1 _ ho1.1 ho1.2) ?_
    cases p2 : hasB own.1 (homes.getD ml[i].toNat 0) with
    | false =>
      simp only [go_sem, binC]
      refine wpc_cond (t := true) rfl ?_
      simp only [go_sem, binC]
      refine seq_reg ?_
      simp only [go_sem, binC]
      refine wpc_ret ?_
      simp only [go_sem, binC, out_r, thenX_r]
      refine ⟨Or.inr rfl, .bool false, (by (simp only [go_sem, binC]) <;> rfl), ?_, rfl⟩
      rw [hPf (by unfold mkP; rw [p1, p2]; rfl)]
      rfl
    | true =>
    simp only [go_sem, binC]
    refine wpc_cond (t := false) rfl ?_
    simp only [go_sem, binC]
    refine wpc_skip ?_
    simp only [go_sem, binC, out_n, thenX_n]
    refine wpc_reg ?_
    simp only [go_sem, binC, e34, hw1]
    simp only [go_sem, binC, thenX_n]
    refine ih (i + 1) _ (by omega) ?_ (by simp only [go_sem, binC, e2]) (by simp only [go_sem, binC, e5]) (by simp only [go_sem, binC, e6]) (by simp only [go_sem, binC, e9]) (by simp only [go_sem, binC, e10]) (by simp only [go_sem, binC, e32]) (by simp only [go_sem, binC, e33]) (by simp only [go_sem, binC])
    rw [List.take_add_one, List.getElem?_eq_getElem hil, List.all_append, hall]
    simp only [Option.toList, List.all_cons, List.all_nil, Bool.true_and, Bool.and_true]
    unfold mkP
    rw [p1, p2]
    rfl
end Go.Proofs.YtbjeldblaclpnaaI
end
section
/- Where variables may be, all together (the program's). -/
set_option linter.unusedVariables false
set_option linter.unusedSimpArgs false
namespace Go.Proofs.YtbjeldblaclpnaaI
open Go Go.RowKit
def c_iHome1 : IFn := ⟨4, 29, [.t 8],
 .seq (.reg none [
    ⟨(some 4), none, .box (.t 0)⟩,
    ⟨(some 8), none, .mov (.c (.bool false))⟩])
 (.seq (.reg (some 18) [
    ⟨(some 9), none, .fad 0 (.t 4)⟩,
    ⟨(some 10), none, .load false 1 (.t 9)⟩,
    ⟨(some 11), none, .mov (.t 2)⟩,
    ⟨(some 12), none, .iad 2 (.t 10) (.t 11)⟩,
    ⟨(some 13), none, .fad 0 (.t 12)⟩,
    ⟨(some 14), none, .load false 1 (.t 13)⟩,
    ⟨(some 15), none, .mov (.t 3)⟩,
    ⟨(some 16), none, .call .q (.f 99) [(.t 14), (.t 15)]⟩,
    ⟨(some 17), none, .mov (.t 16)⟩,
    ⟨(some 18), (some (17, true)), .fad 0 (.t 4)⟩,
    ⟨(some 19), (some (17, true)), .load false 1 (.t 18)⟩,
    ⟨(some 20), (some (17, true)), .mov (.t 2)⟩,
    ⟨(some 21), (some (17, true)), .iad 2 (.t 19) (.t 20)⟩,
    ⟨(some 22), (some (17, true)), .fad 1 (.t 21)⟩,
    ⟨(some 23), (some (17, true)), .load false 1 (.t 22)⟩,
    ⟨(some 24), (some (17, true)), .mov (.t 1)⟩,
    ⟨(some 25), (some (17, true)), .mov (.t 3)⟩,
    ⟨(some 26), (some (17, true)), .call .q (.f 115) [(.t 24), (.t 25)]⟩,
    ⟨(some 27), (some (17, true)), .call .q (.f 114) [(.t 23), (.t 26)]⟩,
    ⟨(some 28), none, .pick (.t 17) (.t 27) (.c (.bool false))⟩,
    ⟨(some 8), none, .mov (.t 28)⟩])
 (.ret))⟩
def c_cloneI : IFn := ⟨1, 5, [.t 2],
 .seq (.reg none [
    ⟨(some 2), none, .mov (.c (.slice none 0 0))⟩])
 (.seq (.reg none [
    ⟨(some 3), none, .mov (.t 0)⟩,
    ⟨(some 4), none, .app 1 3 8 false (.c (.slice none 0 0)) (.t 3)⟩,
    ⟨(some 2), none, .mov (.t 4)⟩])
 (.ret))⟩
def c_iHomes : IFn := ⟨2, 45, [.t 4],
 .seq (.reg none [
    ⟨(some 2), none, .box (.t 0)⟩,
    ⟨(some 4), none, .mov (.c (.slice none 0 0))⟩])
 (.seq (.reg none [
    ⟨(some 11), none, .lit 1 27 1 [(.slice none 0 0)] [(0, 1, (.c (.slice none 0 0)))]⟩,
    ⟨(some 5), none, .mov (.t 11)⟩])
 (.seq (.seq (.reg none [
     ⟨(some 12), none, .fad 0 (.t 2)⟩,
     ⟨(some 13), none, .load false 1 (.t 12)⟩,
     ⟨(some 14), none, .len (.t 13)⟩,
     ⟨(some 15), none, .mov (.c (.int .i64 0))⟩])
  (.block 0 (.loop (.seq (.reg none [
       ⟨(some 16), none, .bin .lss (.t 15) (.t 14)⟩])
    (.seq (.cond (.t 16) (.skip) (.exit 0))
    (.seq (.block 1 (.seq (.reg none [
         ⟨(some 17), none, .mov (.t 15)⟩,
         ⟨(some 6), none, .mov (.t 17)⟩])
      (.seq (.reg none [
         ⟨(some 7), none, .mov (.c (.slice none 0 0))⟩])
      (.seq (.seq (.reg none [
          ⟨(some 18), none, .mov (.t 5)⟩,
          ⟨(some 19), none, .len (.t 18)⟩,
          ⟨(some 20), none, .mov (.c (.int .i64 0))⟩])
       (.block 2 (.loop (.seq (.reg none [
            ⟨(some 21), none, .bin .lss (.t 20) (.t 19)⟩])
         (.seq (.cond (.t 21) (.skip) (.exit 2))
         (.seq (.block 3 (.seq (.reg none [
              ⟨(some 22), none, .iad 1 (.t 18) (.t 20)⟩,
              ⟨(some 23), none, .load false 1 (.t 22)⟩,
              ⟨(some 9), none, .mov (.t 23)⟩])
           (.seq (.reg none [
              ⟨(some 24), none, .mov (.c (.int .i64 0))⟩])
           (.block 4 (.loop (.seq (.reg none [
                ⟨(some 25), none, .bin .lss (.t 24) (.c (.int .i64 3))⟩])
             (.seq (.cond (.t 25) (.skip) (.exit 4))
             (.seq (.block 5 (.seq (.reg none [
                  ⟨(some 26), none, .mov (.t 24)⟩,
                  ⟨(some 10), none, .mov (.t 26)⟩])
               (.seq (.reg none [
                  ⟨(some 27), none, .load true 2 (.t 2)⟩,
                  ⟨(some 28), none, .mov (.t 1)⟩,
                  ⟨(some 29), none, .mov (.t 6)⟩,
                  ⟨(some 30), none, .mov (.t 10)⟩,
                  ⟨(some 31), none, .call .q (.f 64) [(.t 27), (.t 28), (.t 29), (.t 30)]⟩])
               (.cond (.t 31) (.reg none [
                  ⟨(some 32), none, .mov (.t 7)⟩,
                  ⟨(some 33), none, .mov (.t 9)⟩,
                  ⟨(some 34), none, .call .k (.f 102) [(.t 33)]⟩,
                  ⟨(some 35), none, .mov (.t 10)⟩,
                  ⟨(some 36), none, .lit 1 3 1 [(.int .i64 0)] [(0, 1, (.t 35))]⟩,
                  ⟨(some 37), none, .app 1 3 8 false (.t 34) (.t 36)⟩,
                  ⟨(some 38), none, .lit 1 27 1 [(.slice none 0 0)] [(0, 1, (.t 37))]⟩,
                  ⟨(some 39), none, .app 1 27 24 false (.t 32) (.t 38)⟩,
                  ⟨(some 7), none, .mov (.t 39)⟩]) (.skip)))))
             (.reg none [
               ⟨(some 40), none, .bin .add (.t 24) (.c (.int .i64 1))⟩,
               ⟨(some 24), none, .mov (.t 40)⟩])))))))))
         (.reg none [
           ⟨(some 41), none, .bin .add (.t 20) (.c (.int .i64 1))⟩,
           ⟨(some 20), none, .mov (.t 41)⟩])))))))
      (.reg none [
        ⟨(some 42), none, .mov (.t 7)⟩,
        ⟨(some 5), none, .mov (.t 42)⟩])))))
    (.reg none [
      ⟨(some 43), none, .bin .add (.t 15) (.c (.int .i64 1))⟩,
      ⟨(some 15), none, .mov (.t 43)⟩])))))))
 (.seq (.reg none [
    ⟨(some 44), none, .mov (.t 5)⟩,
    ⟨(some 4), none, .mov (.t 44)⟩])
 (.ret))))⟩
/-- Whether a variable may be at a host. -/
def hmB (ls : List (Int × Int)) (ts : List Int) (v h : Int) : Bool := hasB (ls.getD v.toNat (0, 0)).1 h && witB (ls.getD v.toNat (0, 0)).2 (byS ts h 3)
def HomeI (F : Nat → Option IFn) (f : Nat) : Prop := ∀ (H : Heap) (lv sv tw : Value) (ls : List (Int × Int)) (ts : List Int) (v h : Int), one sv = true → SlR Co.p2 (vw 0 H) lv ls → ls.all labB = true → SlR Co.int (vw 0 H) tw ts → trP ts → 0 ≤ v → v < ls.length → 0 ≤ h → h ≤ 2 → QC F f [.agg #[lv, sv], tw, .int .i64 v, .int .i64 h] H (.bool (hmB ls ts v h))
theorem iHome1_ok {F : Nat → Option IFn} {f : Nat} (hf : F f = some c_iHome1) (gh : HasOk F 99) (gw : WitOk F 114) (gb : ByOk F 115) : HomeI F f := by
  intro H lv sv tw ls ts v h osv r1 hlab r2 htr hv0 hv1 hh0 hh2
  obtain ⟨_, la, rfl, _⟩ := id r1
  obtain ⟨_, ta, rfl, _⟩ := id r2
  have hlx := labB_i.1 (lab_getD hlab v.toNat)
  have hby := byS_lt ts h 3
  have h8 : (2 : Int) ^ 3 = 8 := by decide
  rw [h8] at hby
  refine QC.mk hf rfl ?_
  refine seq_reg ?_
  simp only [go_sem, binC, osv]
  refine wpc_gen fun H1 hH1 => ?_
  have hx1 : AgX [] H H1 := hH1 ▸ AgX.app [] _ _
  have hb1 : H1[H.length]? = some ⟨[.slice la ls.length ls.length, sv], 0, 0, false, true⟩ := hH1 ▸ get_new0 _ _
  clear hH1
  obtain ⟨lb, lo', hla, hgl0, _⟩ := lab_at (r1.mono (agx_sub hx1)) (H := H1) (fun _ _ h => h) hv0 hv1
  simp only [Value.slice.injEq, and_true] at hla
  subst hla
  have hgl := hgl0 []
  rw [List.append_nil] at hgl
  have g0 : getCells H1 lb (lo' + v.toNat * 2) 1 = some [.int .i64 (ls.getD v.toNat (0, 0)).1] := by have := gc_part (off := 0) (k := 1) hgl (by omega); simpa using this
  have g1 : getCells H1 lb (lo' + v.toNat * 2 + 1) 1 = some [.int .i64 (ls.getD v.toNat (0, 0)).2] := gc_part (off := 1) (k := 1) hgl (by omega)
  refine seq_regD ?_
  simp only [go_sem, binC, gc_of hb1, inBlk_some]
  refine ⟨⟨by omega, by omega⟩, ?_⟩
  simp only [go_sem, binC, g0]
  refine op_callQ (by simp only [go_sem, binC]; exact gh H1 _ h hlx.1.1 hlx.1.2) ?_
  unfold hmB
  cases q1 : hasB (ls.getD v.toNat (0, 0)).1 h with
  | false =>
    simp only [go_sem, binC]
    exact wpc_ret ⟨Or.inr rfl, _, (by (simp only [go_sem, binC]) <;> rfl), rfl, rfl⟩
  | true =>
    simp only [go_sem, binC, gc_of hb1, inBlk_some]
    refine ⟨⟨by omega, by omega⟩, ?_⟩
    simp only [go_sem, binC, g1]
    refine op_callQ (by simp only [go_sem, binC]; exact gb H1 _ ts h (r2.mono (agx_sub hx1)) htr hh0 hh2) ?_
    simp only [go_sem, binC]
    refine op_callQ (by simp only [go_sem, binC]; exact gw H1 _ _ hlx.2.1 hlx.2.2 hby.1 (by omega)) ?_
    simp only [go_sem, binC]
    exact wpc_ret ⟨Or.inr rfl, _, (by (simp only [go_sem, binC]) <;> rfl), rfl, rfl⟩
theorem sl_intsJ {H : Heap} {v : Value} {l : List Int} (h : SlR Co.int (vw 0 H) v l) (hl : l ≠ []) : ∃ b o, v = .slice (some ⟨b, o, none⟩) l.length l.length ∧ getCells H b o (l.length * 1) = some (ints l) := by
  obtain ⟨b, o, ys, h1, h2, h3, h4⟩ := sl_cells (w := 1) rfl h hl
  refine ⟨b, o, h1, ?_⟩
  have : ys = ints l := by
    refine List.ext_getElem (by simp [ints]; omega) fun i hi hj => ?_
    have hil : i < l.length := by omega
    obtain ⟨h5, _⟩ := h4 i hil
    have h6 : (ys.drop (i * 1)).head? = some (.int .i64 l[i]) := by
      cases hd : ys.drop (i * 1) with
      | nil => rw [hd] at h5; cases h5
      | cons c r => rw [hd] at h5; simpa using h5
    rw [List.head?_drop, Nat.mul_one, List.getElem?_eq_getElem hi] at h6
    simpa [ints] using h6
  rw [h2, this]
theorem sl_rg {V : Vw} {v : Value} {l : List Int} (h : SlR Co.int V v l) : ∀ x ∈ l, RgI x := by
  intro x hx
  obtain ⟨i, hi, rfl⟩ := List.getElem_of_mem hx
  obtain ⟨_, a, rfl, h2⟩ := h
  rcases h2 with h2 | ⟨b, o, rfl, h2⟩
  · rw [h2] at hi; simp at hi
  · obtain ⟨cs, h3, h4⟩ := h2 i hi
    exact h4.2
theorem ints_at {l : List Int} {i : Nat} (h : i < l.length) : ((ints l).drop (i * 1)).take 1 = [.int .i64 l[i]] := by
  rw [Nat.mul_one]
  unfold ints
  rw [List.drop_eq_getElem_cons (by simpa using h), List.take_succ_cons, List.take_zero, List.getElem_map]
/-- The blocks of a value may be written. -/
def SoloV (H : Heap) (v : Value) : Prop := ∀ b, b ∈ blkOf v → ∃ cs es et ap, H[b]? = some ⟨cs, es, et, ap, true⟩
def CloneI (F : Nat → Option IFn) (f : Nat) : Prop := ∀ (H : Heap) (v : Value) (l : List Int), SlR Co.int (vw 0 H) v l → l.length ≤ 1048576 → ∃ w H', KC F f [v] H w H' ∧ (AgX [] H H' ∧ (∀ V, LsV V Co.int 1 3 H.length H' w l) ∧ SoloV H' w)
theorem cloneI_ok {F : Nat → Option IFn} {f : Nat} (hf : F f = some c_cloneI) : CloneI F f := by
  intro H v l hv hl
  have hrg := sl_rg hv
  refine KC.mk hf rfl ?_
  refine seq_reg ?_
  simp only [go_sem, binC]
  refine seq_reg ?_
  simp only [go_sem, binC]
  by_cases hne : l = []
  · subst hne
    obtain ⟨_, a, rfl, _⟩ := hv
    refine op_app_zero _ _ _ _ _ (b := none) (n := 0) (c := 0) (by (simp only [go_sem, binC]) <;> rfl) (by (simp only [go_sem, binC]) <;> rfl) ?_
    simp only [go_sem, binC]
    exact wpc_ret ⟨Or.inr rfl, _, (by (simp only [go_sem, binC]) <;> rfl), AgX.refl _ _, fun V => LsV.nil, fun b hb => by simp [blkOf, nilS] at hb⟩
  · obtain ⟨b, o, rfl, hg⟩ := sl_intsJ hv hne
    have hm : l.length ≠ 0 := fun h => hne (List.eq_nil_of_length_eq_zero h)
    refine op_app_nil _ _ _ _ _ (n := 0) (c := 0) (a := ⟨b, o, none⟩) (m := l.length) (c' := l.length) (ys := ints l) (by (simp only [go_sem, binC]) <;> rfl) (by (simp only [go_sem, binC]) <;> rfl) hm hg (by omega) (by omega) ?_
    simp only [go_sem, binC]
    refine wpc_ret ⟨Or.inr rfl, _, (by (simp only [go_sem, binC]) <;> rfl), AgX.app _ _ _, fun V => .inr ⟨H.length, true, ints l, Nat.le_refl _, rfl, hne, hl, get_new0 _ _, by simp [ints], fun i hi => ?_⟩, fun b' hb' => ?_⟩
    · rw [ints_at hi]
      exact ⟨rfl, hrg _ (List.getElem_mem hi)⟩
    · simp only [blkOf, sli, List.mem_singleton] at hb'
      subst hb'
      exact ⟨_, _, _, _, get_new0 _ _⟩
/-- All homes of the first variables, number by number. -/
def hostsL (P : Int → Bool) (j : Nat) : List Int := (([0, 1, 2] : List Int).take j).filter P
def hmL (ls : List (Int × Int)) (ts : List Int) : Nat → List (List Int)
  | 0 => [[]]
  | v + 1 => (hmL ls ts v).flatMap fun l => (hostsL (hmB ls ts v) 3).map fun h => l ++ [h]
theorem hostsL_succ {P : Int → Bool} {j : Nat} (h : j < 3) : hostsL P (j + 1) = hostsL P j ++ (if P j = true then [(j : Int)] else []) := by
  have hj : j = 0 ∨ j = 1 ∨ j = 2 := by omega
  unfold hostsL
  rcases hj with rfl | rfl | rfl <;> simp only [List.take_succ_cons, List.take_zero, List.filter_cons, List.filter_nil, List.nil_append] <;> (repeat' split) <;> simp_all
theorem hostsL_len {P : Int → Bool} {j : Nat} : (hostsL P j).length ≤ 3 := by
  unfold hostsL
  refine Nat.le_trans (List.length_filter_le _ _) ?_
  rw [List.length_take]
  exact Nat.min_le_right _ _
theorem hostsL_rg {P : Int → Bool} {j : Nat} : ∀ x ∈ hostsL P j, 0 ≤ x ∧ x ≤ 2 := by
  intro x hx
  have := List.mem_of_mem_take (List.mem_filter.1 hx).1
  simp only [List.mem_cons, List.not_mem_nil, or_false] at this
  omega
theorem flatMap_len {α β : Type} (f : α → List β) (m : Nat) (h : ∀ a, (f a).length ≤ m) : ∀ l : List α, (l.flatMap f).length ≤ l.length * m
  | [] => by simp
  | a :: l => by
    have h1 := flatMap_len f m h l
    have h2 := h a
    rw [List.flatMap_cons, List.length_append, List.length_cons, Nat.add_mul]
    omega
theorem hmL_len {ls : List (Int × Int)} {ts : List Int} : ∀ v, (hmL ls ts v).length ≤ 3 ^ v
  | 0 => by simp [hmL]
  | v + 1 => by
    have h1 := hmL_len (ls := ls) (ts := ts) v
    have h2 := flatMap_len (fun l => (hostsL (hmB ls ts v) 3).map fun h => l ++ [h]) 3 (fun l => by rw [List.length_map]; exact hostsL_len) (hmL ls ts v)
    have h3 : (hmL ls ts v).length * 3 ≤ 3 ^ v * 3 := Nat.mul_le_mul_right _ h1
    rw [Nat.pow_succ]
    exact Nat.le_trans h2 h3
theorem hmL_el {ls : List (Int × Int)} {ts : List Int} : ∀ v, ∀ l ∈ hmL ls ts v, l.length = v ∧ (∀ x ∈ l, 0 ≤ x ∧ x ≤ 2) ∧ ∀ i (h : i < l.length), hmB ls ts i l[i] = true
  | 0 => by
    intro l hl
    simp only [hmL, List.mem_singleton] at hl
    subst hl
    exact ⟨rfl, by simp, fun i h => by simp at h⟩
  | v + 1 => by
    intro l hl
    simp only [hmL, List.mem_flatMap, List.mem_map] at hl
    obtain ⟨l0, h1, x, h2, rfl⟩ := hl
    obtain ⟨q1, q2, q3⟩ := hmL_el v l0 h1
    have hx := hostsL_rg x h2
    have hP : hmB ls ts v x = true := (List.mem_filter.1 h2).2
    refine ⟨by simp [q1], fun y hy => ?_, fun i hi => ?_⟩
    · simp only [List.mem_append, List.mem_singleton] at hy
      rcases hy with hy | rfl
      · exact q2 y hy
      · exact hx
    · rw [List.length_append, List.length_singleton] at hi
      by_cases hlt : i < l0.length
      · rw [List.getElem_append_left hlt]
        exact q3 i hlt
      · obtain rfl : i = l0.length := by omega
        simp only [List.getElem_concat_length]
        rw [q1]
        exact hP
def HomesI (F : Nat → Option IFn) (f : Nat) : Prop := ∀ (H : Heap) (lv sv tw : Value) (ls : List (Int × Int)) (ts : List Int), one sv = true → SlR Co.p2 (vw 0 H) lv ls → ls.all labB = true → ls.length ≤ 4 → SlR Co.int (vw 0 H) tw ts → trP ts → ∃ w H', KC F f [.agg #[lv, sv], tw] H w H' ∧ (AgX [] H H' ∧ LsV (vw 0 H') (Co.sl Co.int) 1 27 H.length H' w (hmL ls ts ls.length))
theorem iHomes_ok {F : Nat → Option IFn} {f : Nat} (hf : F f = some c_iHomes) (gh : HomeI F 64) (gc : CloneI F 102) : HomesI F f := by
  intro H lv sv tw ls ts osv r1 hlab hls4 r2 htr
  obtain ⟨_, la, rfl, _⟩ := id r1
  obtain ⟨_, ta, rfl, _⟩ := id r2
  refine KC.mk hf rfl ?_
  refine seq_reg ?_
  simp only [go_sem, binC, osv]
  refine seq_reg ?_
  simp only [go_sem, binC]
  refine wpc_gen fun H1 hH1 => ?_
  have hx1 : AgX [] H H1 := hH1 ▸ AgX.app [] _ _
  have hb1 : H1[H.length]? = some ⟨[.slice la ls.length ls.length, sv], 0, 0, false, true⟩ := hH1 ▸ get_new0 _ _
  have hb2 : H1[H.length + 1]? = some ⟨[nilS], 1, 27, true, true⟩ := hH1 ▸ get_new _ _ 1
  have hl1 : H1.length = H.length + 2 := by rw [hH1, List.length_append]; rfl
  clear hH1
  have hO1 : LsV (vw 0 H1) (Co.sl Co.int) 1 27 H.length H1 (sli (H.length + 1) 0 1) (hmL ls ts 0) := .inr ⟨H.length + 1, true, [nilS], by omega, rfl, by simp [hmL], by simp [hmL], hb2, rfl, fun i hi => by
    obtain rfl : i = 0 := by simpa [hmL] using hi
    exact ⟨nilS, rfl, by simp [hmL], none, rfl, .inl rfl⟩⟩
  refine seq_assoc (seq_reg ?_)
  simp only [go_sem, binC, gc_of hb1, inBlk_some]
  refine seq_block (wpc_loop ?_)
  suffices hh : ∀ (k v : Nat) (e : Env) (Hc : Heap) (w : Value), v + k = ls.length → AgX [] H Hc → Hc[H.length]? = some ⟨[.slice la ls.length ls.length, sv], 0, 0, false, true⟩ → LsV (vw 0 Hc) (Co.sl Co.int) 1 27 H.length Hc w (hmL ls ts v) → e 1 = .slice ta ts.length ts.length → e 2 = ptr H.length 0 → e 5 = w → e 14 = .int .i64 ls.length → e 15 = .int .i64 v → W F H.length _ e Hc _ from
    hh ls.length 0 _ H1 _ (by omega) hx1 hb1 hO1 (by simp only [go_sem, binC]) (by simp only [go_sem, binC]) (by (simp only [go_sem, binC]) <;> rfl) (by simp only [go_sem, binC]) (by (simp only [go_sem, binC]) <;> rfl)
  intro k
  induction k with
  | zero =>
    intro v e Hc w hv hxc hbc hO e1 e2 e5 e14 e15
    obtain rfl : v = ls.length := by omega
    refine lp_step ?_
    refine seq_reg ?_
    simp only [go_sem, binC, e14, e15]
    refine seq_cond (t := false) (by simp only [go_sem, binC]; rw [decide_eq_false (by omega)]) ?_
    simp only [go_sem, binC]
    refine seq_exit ?_
    simp only [go_sem, binC, thenX_e, out_e, thenX_n]
    refine seq_reg ?_
    simp only [go_sem, binC, e5]
    exact wpc_ret ⟨Or.inr rfl, _, (by (simp only [go_sem, binC]) <;> rfl), hxc, hO⟩
  | succ k ih =>
    intro v e Hc w hv hxc hbc hO e1 e2 e5 e14 e15
    have hvl : v < ls.length := by omega
    have hw1 : IntKind.i64.wrap ((v : Int) + 1) = ((v + 1 : Nat) : Int) := by rw [wrap_id (by omega) (by omega)]; omega
    obtain ⟨wa, hwa⟩ := hO.shape
    have hlen := hmL_len (ls := ls) (ts := ts) v
    have hv3 : v = 0 ∨ v = 1 ∨ v = 2 ∨ v = 3 := by omega
    have hlen2 : (hmL ls ts v).length ≤ 27 := by rcases hv3 with rfl | rfl | rfl | rfl <;> simpa using (by omega : _ ≤ 27)
    refine lp_step ?_
    refine seq_reg ?_
    simp only [go_sem, binC, e14, e15]
    refine seq_cond (t := true) (by simp only [go_sem, binC]; rw [decide_eq_true (by omega)]) ?_
    simp only [go_sem, binC]
    refine seq_skip (seq_block (seq_reg ?_))
    simp only [go_sem, binC, e15]
    refine seq_reg ?_
    simp only [go_sem, binC]
    refine seq_assoc (seq_reg ?_)
    simp only [go_sem, binC, e5, hwa]
    refine seq_block (wpc_loop ?_)
    have hfl : ∀ i, ((hmL ls ts v).take i).flatMap (fun l => (hostsL (hmB ls ts v) 3).map fun h => l ++ [h]) = ((hmL ls ts v).take i).flatMap (fun l => (hostsL (hmB ls ts v) 3).map fun h => l ++ [h]) := fun _ => rfl
    suffices hh : ∀ (k2 i : Nat) (e : Env) (Hd : Heap) (u : Value), i + k2 = (hmL ls ts v).length → AgX [] H Hd → Hd[H.length]? = some ⟨[.slice la ls.length ls.length, sv], 0, 0, false, true⟩ → LsV (vw 0 Hd) (Co.sl Co.int) 1 27 H.length Hd w (hmL ls ts v) → LsV (vw 0 Hd) (Co.sl Co.int) 1 27 H.length Hd u (((hmL ls ts v).take i).flatMap (fun l => (hostsL (hmB ls ts v) 3).map fun h => l ++ [h])) → (∀ b, b ∈ blkOf u → b ∉ blkOf w) → e 1 = .slice ta ts.length ts.length → e 2 = ptr H.length 0 → e 6 = .int .i64 v → e 7 = u → e 14 = .int .i64 ls.length → e 15 = .int .i64 v → e 18 = w → e 19 = .int .i64 (hmL ls ts v).length → e 20 = .int .i64 i → W F H.length _ e Hd _ from
      hh (hmL ls ts v).length 0 _ Hc nilS (by omega) hxc hbc hO (by simpa using LsV.nil) (by simp [blkOf, nilS]) (by simp only [go_sem, binC, e1]) (by simp only [go_sem, binC, e2]) (by simp only [go_sem, binC]) (by simp only [go_sem, binC]) (by simp only [go_sem, binC, e14]) (by simp only [go_sem, binC, e15]) (by simp only [go_sem, binC, hwa]) (by simp only [go_sem, binC]) (by (simp only [go_sem, binC]) <;> rfl)
    clear e1 e2 e5 e14 e15 hO hxc hbc
    intro k2
    induction k2 with
    | zero =>
      intro i e Hd u hi hxd hbd hOw hOu hdis e1 e2 e6 e7 e14 e15 e18 e19 e20
      refine lp_step ?_
      refine seq_reg ?_
      simp only [go_sem, binC, e19, e20]
      refine seq_cond (t := false) (by simp only [go_sem, binC]; rw [decide_eq_false (by omega)]) ?_
      simp only [go_sem, binC]
      refine seq_exit ?_
      simp only [go_sem, binC, thenX_e, out_e, thenX_n]
      refine wpc_reg ?_
      simp only [go_sem, binC, e7, out_n, thenX_n]
      refine wpc_reg ?_
      simp only [go_sem, binC, e15, hw1]
      simp only [go_sem, binC, thenX_n]
      rw [List.take_of_length_le (by omega)] at hOu
      exact ih (v + 1) _ Hd u (by omega) hxd hbd hOu (by simp only [go_sem, binC, e1]) (by simp only [go_sem, binC, e2]) (by simp only [go_sem, binC]) (by simp only [go_sem, binC, e14]) (by simp only [go_sem, binC])
    | succ k2 ih2 =>
      intro i e Hd u hi hxd hbd hOw hOu hdis e1 e2 e6 e7 e14 e15 e18 e19 e20
      have hil : i < (hmL ls ts v).length := by omega
      have hw2 : IntKind.i64.wrap ((i : Int) + 1) = ((i + 1 : Nat) : Int) := by rw [wrap_id (by omega) (by omega)]; omega
      obtain ⟨bw, csw, hww, gcw, lw, hcw, hlw⟩ := hOw.at hil
      obtain ⟨hel1, hel2, _⟩ := hmL_el v _ (List.getElem_mem hil)
      have htk : ((hmL ls ts v).take (i + 1)).flatMap (fun l => (hostsL (hmB ls ts v) 3).map fun h => l ++ [h]) = ((hmL ls ts v).take i).flatMap (fun l => (hostsL (hmB ls ts v) 3).map fun h => l ++ [h]) ++ (hostsL (hmB ls ts v) 3).map fun h => (hmL ls ts v)[i] ++ [h] := by
        rw [List.take_add_one, List.getElem?_eq_getElem hil, List.flatMap_append]
        simp
      have hpl : (((hmL ls ts v).take i).flatMap (fun l => (hostsL (hmB ls ts v) 3).map fun h => l ++ [h])).length ≤ 81 := by
        have := flatMap_len (fun l => (hostsL (hmB ls ts v) 3).map fun h => l ++ [h]) 3 (fun l => by rw [List.length_map]; exact hostsL_len) ((hmL ls ts v).take i)
        have h2 : ((hmL ls ts v).take i).length ≤ 27 := by rw [List.length_take]; omega
        omega
      generalize ((hmL ls ts v).take i).flatMap (fun l => (hostsL (hmB ls ts v) 3).map fun h => l ++ [h]) = pl at *
      generalize hcur : (hmL ls ts v)[i] = cur at *
      subst hcw
      obtain ⟨_, lwa, rfl, _⟩ := id hlw
      rw [hwa] at hww
      simp only [Value.slice.injEq, and_true] at hww
      refine lp_step ?_
      refine seq_reg ?_
      simp only [go_sem, binC, e19, e20]
      refine seq_cond (t := true) (by simp only [go_sem, binC]; rw [decide_eq_true (by omega)]) ?_
      simp only [go_sem, binC]
      refine seq_skip (seq_block (seq_reg ?_))
      simp only [go_sem, binC, e18, e20, hwa, hww]
      refine ⟨⟨by omega, by omega⟩, ?_⟩
      rw [Nat.mul_one] at gcw
      simp only [go_sem, binC, Int.toNat_natCast, Nat.zero_add, Nat.mul_one, gcw]
      refine seq_reg ?_
      simp only [go_sem, binC]
      refine wpc_block (wpc_loop ?_)
      suffices hh : ∀ (k3 j : Nat) (e : Env) (He : Heap) (u : Value), j + k3 = 3 → AgX [] H He → He[H.length]? = some ⟨[.slice la ls.length ls.length, sv], 0, 0, false, true⟩ → LsV (vw 0 He) (Co.sl Co.int) 1 27 H.length He w (hmL ls ts v) → LsV (vw 0 He) (Co.sl Co.int) 1 27 H.length He u (pl ++ (hostsL (hmB ls ts v) j).map fun h => cur ++ [h]) → (∀ b, b ∈ blkOf u → b ∉ blkOf w) → SlR Co.int (vw 0 He) (.slice lwa cur.length cur.length) cur → e 1 = .slice ta ts.length ts.length → e 2 = ptr H.length 0 → e 6 = .int .i64 v → e 7 = u → e 9 = .slice lwa cur.length cur.length → e 14 = .int .i64 ls.length → e 15 = .int .i64 v → e 18 = w → e 19 = .int .i64 (hmL ls ts v).length → e 20 = .int .i64 i → e 24 = .int .i64 j → W F H.length _ e He _ from
        hh 3 0 _ Hd u rfl hxd hbd hOw (by simpa [hostsL] using hOu) hdis hlw (by simp only [go_sem, binC, e1]) (by simp only [go_sem, binC, e2]) (by simp only [go_sem, binC, e6]) (by simp only [go_sem, binC, e7]) (by simp only [go_sem, binC]) (by simp only [go_sem, binC, e14]) (by simp only [go_sem, binC, e15]) (by simp only [go_sem, binC, e18, hwa, hww]) (by simp only [go_sem, binC, e19]) (by simp only [go_sem, binC, e20]) (by (simp only [go_sem, binC]) <;> rfl)
      clear e1 e2 e6 e7 e14 e15 e18 e19 e20 hOw hOu hdis hxd hbd hlw gcw
      intro k3
      induction k3 with
      | zero =>
        intro j e He u hj hxe hbe hOw hOu hdis hlw e1 e2 e6 e7 e9 e14 e15 e18 e19 e20 e24
        obtain rfl : j = 3 := by omega
        have hd3 : decide (((3 : Nat) : Int) < 3) = false := rfl
        refine lp_step ?_
        refine seq_reg ?_
        simp only [go_sem, binC, e24, hd3]
        refine seq_cond (t := false) (by simp only [go_sem, binC]) ?_
        simp only [go_sem, binC]
        refine seq_exit ?_
        simp only [go_sem, binC, thenX_e, out_e, out_n, thenX_n]
        refine wpc_reg ?_
        simp only [go_sem, binC, e20, hw2]
        simp only [go_sem, binC, thenX_n]
        rw [← htk] at hOu
        exact ih2 (i + 1) _ He u (by omega) hxe hbe hOw hOu hdis (by simp only [go_sem, binC, e1]) (by simp only [go_sem, binC, e2]) (by simp only [go_sem, binC, e6]) (by simp only [go_sem, binC, e7]) (by simp only [go_sem, binC, e14]) (by simp only [go_sem, binC, e15]) (by simp only [go_sem, binC, e18]) (by simp only [go_sem, binC, e19]) (by simp only [go_sem, binC])
      | succ k3 ih3 =>
        intro j e He u hj hxe hbe hOw hOu hdis hlw e1 e2 e6 e7 e9 e14 e15 e18 e19 e20 e24
        have hw3 : IntKind.i64.wrap ((j : Int) + 1) = ((j + 1 : Nat) : Int) := by rw [wrap_id (by omega) (by omega)]; omega
        have hdj : decide ((j : Int) < 3) = true := decide_eq_true (by omega)
        have hxel := hxe.1
        have hbel := (List.getElem?_eq_some_iff.1 hbe).1
        have hsucc := hostsL_succ (P := hmB ls ts v) (j := j) (by omega)
        have hpl2 : (pl ++ (hostsL (hmB ls ts v) j).map fun h => cur ++ [h]).length ≤ 84 := by
          have := hostsL_len (P := hmB ls ts v) (j := j)
          rw [List.length_append, List.length_map]; omega
        refine lp_step ?_
        refine seq_reg ?_
        simp only [go_sem, binC, e24, hdj]
        refine seq_cond (t := true) (by simp only [go_sem, binC]) ?_
        simp only [go_sem, binC]
        refine seq_skip (seq_block (seq_reg ?_))
        simp only [go_sem, binC, e24]
        refine seq_reg ?_
        simp only [go_sem, binC, e1, e2, e6, gc_of hbe, inBlk_some, osv]
        refine op_callQ (by simp only [go_sem, binC, e1, e6]; exact gh He _ sv _ ls ts v j osv (r1.mono (agx_sub hxe)) hlab (r2.mono (agx_sub hxe)) htr (by omega) (by omega) (by omega) (by omega)) ?_
        cases hP : hmB ls ts v j with
        | false =>
          rw [hP] at hsucc
          simp only [Bool.false_eq_true, if_false, List.append_nil] at hsucc
          simp only [go_sem, binC]
          refine wpc_cond (t := false) rfl ?_
          simp only [go_sem, binC]
          refine wpc_skip ?_
          simp only [go_sem, binC, out_n, thenX_n]
          refine wpc_reg ?_
          simp only [go_sem, binC, e24, hw3]
          simp only [go_sem, binC, thenX_n]
          exact ih3 (j + 1) _ He u (by omega) hxe hbe hOw (by rw [hsucc]; exact hOu) hdis hlw (by simp only [go_sem, binC, e1]) (by simp only [go_sem, binC, e2]) (by simp only [go_sem, binC, e6]) (by simp only [go_sem, binC, e7]) (by simp only [go_sem, binC, e9]) (by simp only [go_sem, binC, e14]) (by simp only [go_sem, binC, e15]) (by simp only [go_sem, binC, e18]) (by simp only [go_sem, binC, e19]) (by simp only [go_sem, binC, e20]) (by simp only [go_sem, binC])
        | true =>
          rw [hP, if_pos rfl] at hsucc
          simp only [go_sem, binC]
          refine wpc_cond (t := true) rfl ?_
          simp only [go_sem, binC]
          refine wpc_reg ?_
          simp only [go_sem, binC, e7, e9]
          obtain ⟨cw, H4, k4, hx4, hc4, _⟩ := gc He _ cur hlw (by omega)
          refine op_callK (by simp only [go_sem, binC, e9]; exact k4) ?_
          simp only [go_sem, binC]
          have hx4l := hx4.1
          refine op_app_ls1 (V := vw 0 H4) (A := Co.int) (lo := He.length) (a := (j : Int)) (hc4 _) (by simp only [go_sem, binC]) (by (simp only [go_sem, binC]) <;> rfl) rfl ⟨rfl, by omega, by omega⟩ (by omega) (by omega) (by omega) (by omega) fun H5 w5 hx5 hca5 hn5 ho5 => ?_
          have hx45 := hx5.1
          have hxe5 : AgX [] He H5 := hx4.trans hx5 (fun _ h _ => h) (fun b hb hl => by have := ((hc4 (vw 0 H4)).blk hb).1; omega)
          have hOu5 := hOu.keep (Nat.le_refl _) hxe5 (fun _ _ => by simp)
          have hcae5 : CA He H5 := CA.of hxe5
          have hint : LsV (vw 0 H5) Co.int 1 3 He.length H5 w5 (cur ++ [(j : Int)]) := ho5.mono (hca5.vw 0)
          obtain ⟨a5, ha5⟩ := hint.shape
          subst ha5
          simp only [go_sem, binC]
          refine op_app_ls1 (V := vw 0 H5) (A := Co.sl Co.int) (lo := H.length) (a := cur ++ [(j : Int)]) (hOu5.mono (hcae5.vw 0)) (by simp only [go_sem, binC, e7]) (by (simp only [go_sem, binC]) <;> rfl) rfl ⟨_, rfl, hint.sl rfl (fun _ _ h => h)⟩ (Nat.le_refl _) (by omega) (by omega) (by omega) fun H6 u6 hx6 hca6 hn6 ho6 => ?_
          simp only [go_sem, binC, out_n, thenX_n]
          have hblk := fun b hb => (hOu5.blk (b := b) hb)
          have hxe6 : AgX [] H H6 := (hxe.tr hxe5).trans hx6 (fun _ h _ => h) (fun b hb hl => by have := (hblk b hb).1; omega)
          have hcae6 : CA He H6 := hcae5.trans hca6
          have hwb : ∀ b, b ∈ blkOf w → b ∉ blkOf u := fun b h1 h2 => hdis b h2 h1
          have hb6 := hx6.get (hxe5.get hbe (by simp)) (hOu5.nbox (hxe5.get hbe (by simp)))
          have hOw6 : LsV (vw 0 H6) (Co.sl Co.int) 1 27 H.length H6 w (hmL ls ts v) := ((hOw.keep (Nat.le_refl _) hxe5 (fun _ _ => by simp)).keep (Nat.le_refl _) hx6 hwb).mono (hcae6.vw 0)
          refine wpc_reg ?_
          simp only [go_sem, binC, e24, hw3]
          simp only [go_sem, binC, thenX_n]
          refine ih3 (j + 1) _ H6 u6 (by omega) hxe6 hb6 hOw6 ?_ (fun b hb hbw => ?_) (hlw.mono (hcae6.vw 0)) (by simp only [go_sem, binC, e1]) (by simp only [go_sem, binC, e2]) (by simp only [go_sem, binC, e6]) (by simp only [go_sem, binC]) (by simp only [go_sem, binC, e9]) (by simp only [go_sem, binC, e14]) (by simp only [go_sem, binC, e15]) (by simp only [go_sem, binC, e18]) (by simp only [go_sem, binC, e19]) (by simp only [go_sem, binC, e20]) (by simp only [go_sem, binC])
          · rw [hsucc, List.map_append, List.map_cons, List.map_nil, ← List.append_assoc]
            exact ho6.mono (hca6.vw 0)
          · rcases hn6 b hb with h | h
            · exact hdis b h hbw
            · have := (hOw.blk hbw).2.1
              omega
end Go.Proofs.YtbjeldblaclpnaaI
end
section
/- The first host that may do a step; plans copied; numbers found (the program's). -/
set_option linter.unusedVariables false
set_option linter.unusedSimpArgs false
namespace Go.Proofs.YtbjeldblaclpnaaI
open Go Go.RowKit
def c_iDoer : IFn := ⟨5, 24, [.t 10],
 .seq (.reg none [
    ⟨(some 5), none, .box (.t 0)⟩,
    ⟨(some 8), none, .box (.t 3)⟩,
    ⟨(some 9), none, .box (.t 4)⟩,
    ⟨(some 10), none, .mov (.c (.int .i64 0))⟩])
 (.seq (.seq (.reg none [
     ⟨(some 12), none, .mov (.c (.int .i64 0))⟩])
  (.block 0 (.loop (.seq (.reg none [
       ⟨(some 13), none, .bin .lss (.t 12) (.c (.int .i64 3))⟩])
    (.seq (.cond (.t 13) (.skip) (.exit 0))
    (.seq (.block 1 (.seq (.reg none [
         ⟨(some 14), none, .mov (.t 12)⟩,
         ⟨(some 11), none, .mov (.t 14)⟩])
      (.seq (.reg none [
         ⟨(some 15), none, .load true 2 (.t 5)⟩,
         ⟨(some 16), none, .mov (.t 1)⟩,
         ⟨(some 17), none, .mov (.t 2)⟩,
         ⟨(some 18), none, .load true 8 (.t 8)⟩,
         ⟨(some 19), none, .load true 2 (.t 9)⟩,
         ⟨(some 20), none, .mov (.t 11)⟩,
         ⟨(some 21), none, .call .q (.f 65) [(.t 15), (.t 16), (.t 17), (.t 18), (.t 19), (.t 20)]⟩])
      (.cond (.t 21) (.seq (.reg none [
          ⟨(some 22), none, .mov (.t 11)⟩,
          ⟨(some 10), none, .mov (.t 22)⟩])
       (.ret)) (.skip)))))
    (.reg none [
      ⟨(some 23), none, .bin .add (.t 12) (.c (.int .i64 1))⟩,
      ⟨(some 12), none, .mov (.t 23)⟩])))))))
 (.seq (.reg none [
    ⟨(some 10), none, .mov (.c (.int .i64 (-1)))⟩])
 (.ret)))⟩
def c_plClone : IFn := ⟨1, 13, [.cell true 3 2],
 .seq (.reg none [
    ⟨(some 1), none, .box (.t 0)⟩,
    ⟨(some 2), none, .new [(.slice none 0 0), (.slice none 0 0), (.slice none 0 0)]⟩])
 (.seq (.reg (some 8) [
    ⟨(some 3), none, .fad 0 (.t 1)⟩,
    ⟨(some 4), none, .load false 1 (.t 3)⟩,
    ⟨(some 5), none, .call .k (.f 102) [(.t 4)]⟩,
    ⟨(some 6), none, .fad 1 (.t 1)⟩,
    ⟨(some 7), none, .load false 1 (.t 6)⟩,
    ⟨(some 8), none, .call .k (.f 102) [(.t 7)]⟩,
    ⟨(some 9), none, .fad 2 (.t 1)⟩,
    ⟨(some 10), none, .load false 1 (.t 9)⟩,
    ⟨(some 11), none, .call .k (.f 102) [(.t 10)]⟩,
    ⟨(some 12), none, .build [(.slice none 0 0), (.slice none 0 0), (.slice none 0 0)] [(0, 1, (.t 5)), (1, 1, (.t 8)), (2, 1, (.t 11))]⟩,
    ⟨none, none, .store 3 (.t 2) (.t 12)⟩])
 (.ret))⟩
def c_ixK : IFn := ⟨2, 19, [.t 4],
 .seq (.reg none [
    ⟨(some 4), none, .mov (.c (.int .i64 0))⟩])
 (.seq (.seq (.reg none [
     ⟨(some 6), none, .mov (.t 0)⟩,
     ⟨(some 7), none, .len (.t 6)⟩,
     ⟨(some 8), none, .mov (.c (.int .i64 0))⟩])
  (.block 0 (.loop (.seq (.reg none [
       ⟨(some 9), none, .bin .lss (.t 8) (.t 7)⟩])
    (.seq (.cond (.t 9) (.skip) (.exit 0))
    (.seq (.block 1 (.seq (.reg none [
         ⟨(some 10), none, .mov (.t 8)⟩,
         ⟨(some 5), none, .mov (.t 10)⟩])
      (.seq (.reg none [
         ⟨(some 11), none, .mov (.t 1)⟩,
         ⟨(some 12), none, .mov (.t 0)⟩,
         ⟨(some 13), none, .mov (.t 5)⟩,
         ⟨(some 14), none, .iad 1 (.t 12) (.t 13)⟩,
         ⟨(some 15), none, .load false 1 (.t 14)⟩,
         ⟨(some 16), none, .bin .eql (.t 11) (.t 15)⟩])
      (.cond (.t 16) (.seq (.reg none [
          ⟨(some 17), none, .mov (.t 5)⟩,
          ⟨(some 4), none, .mov (.t 17)⟩])
       (.ret)) (.skip)))))
    (.reg none [
      ⟨(some 18), none, .bin .add (.t 8) (.c (.int .i64 1))⟩,
      ⟨(some 8), none, .mov (.t 18)⟩])))))))
 (.seq (.reg none [
    ⟨(some 4), none, .mov (.c (.int .i64 (-1)))⟩])
 (.ret)))⟩
def c_conK : IFn := ⟨2, 9, [.t 4],
 .seq (.reg none [
    ⟨(some 4), none, .mov (.c (.bool false))⟩])
 (.seq (.reg none [
    ⟨(some 5), none, .mov (.t 0)⟩,
    ⟨(some 6), none, .mov (.t 1)⟩,
    ⟨(some 7), none, .call .q (.f 103) [(.t 5), (.t 6)]⟩,
    ⟨(some 8), none, .bin .geq (.t 7) (.c (.int .i64 0))⟩,
    ⟨(some 4), none, .mov (.t 8)⟩])
 (.ret))⟩
def c_iHostsOk : IFn := ⟨2, 14, [.t 4],
 .seq (.reg none [
    ⟨(some 4), none, .mov (.c (.bool false))⟩])
 (.seq (.reg none [
    ⟨(some 5), none, .mov (.t 0)⟩,
    ⟨(some 6), none, .len (.t 5)⟩,
    ⟨(some 7), none, .mov (.t 1)⟩,
    ⟨(some 8), none, .bin .eql (.t 6) (.t 7)⟩,
    ⟨(some 9), none, .mov (.t 8)⟩,
    ⟨(some 10), (some (9, true)), .mov (.t 0)⟩,
    ⟨(some 11), (some (9, true)), .call .q (.f 112) [(.t 10), (.f 113)]⟩,
    ⟨(some 12), (some (9, true)), .un .not (.t 11)⟩,
    ⟨(some 13), none, .pick (.t 9) (.t 12) (.c (.bool false))⟩,
    ⟨(some 4), none, .mov (.t 13)⟩])
 (.ret))⟩
def c_hk1 : IFn := ⟨1, 6, [.t 2],
 .seq (.reg none [
    ⟨(some 2), none, .mov (.c (.bool false))⟩])
 (.seq (.reg none [
    ⟨(some 3), none, .mov (.t 0)⟩,
    ⟨(some 4), none, .call .q (.f 82) [(.t 3)]⟩,
    ⟨(some 5), none, .un .not (.t 4)⟩,
    ⟨(some 2), none, .mov (.t 5)⟩])
 (.ret))⟩
def c_cfInt : IFn := ⟨2, 9, [.t 4],
 .seq (.reg none [
    ⟨(some 4), none, .mov (.c (.bool false))⟩])
 (.seq (.reg none [
    ⟨(some 5), none, .mov (.t 0)⟩,
    ⟨(some 6), none, .mov (.t 1)⟩,
    ⟨(some 7), none, .call .q (.f 142) [(.t 5), (.t 6)]⟩,
    ⟨(some 8), none, .bin .geq (.t 7) (.c (.int .i64 0))⟩,
    ⟨(some 4), none, .mov (.t 8)⟩])
 (.ret))⟩
def c_ifInt : IFn := ⟨2, 19, [.t 4],
 .seq (.reg none [
    ⟨(some 4), none, .mov (.c (.int .i64 0))⟩])
 (.seq (.seq (.reg none [
     ⟨(some 6), none, .mov (.t 0)⟩,
     ⟨(some 7), none, .len (.t 6)⟩,
     ⟨(some 8), none, .mov (.c (.int .i64 0))⟩])
  (.block 0 (.loop (.seq (.reg none [
       ⟨(some 9), none, .bin .lss (.t 8) (.t 7)⟩])
    (.seq (.cond (.t 9) (.skip) (.exit 0))
    (.seq (.block 1 (.seq (.reg none [
         ⟨(some 10), none, .mov (.t 8)⟩,
         ⟨(some 5), none, .mov (.t 10)⟩])
      (.seq (.reg none [
         ⟨(some 11), none, .mov (.t 1)⟩,
         ⟨(some 12), none, .mov (.t 0)⟩,
         ⟨(some 13), none, .mov (.t 5)⟩,
         ⟨(some 14), none, .iad 1 (.t 12) (.t 13)⟩,
         ⟨(some 15), none, .load false 1 (.t 14)⟩,
         ⟨(some 16), none, .call .q (.t 11) [(.t 15)]⟩])
      (.cond (.t 16) (.seq (.reg none [
          ⟨(some 17), none, .mov (.t 5)⟩,
          ⟨(some 4), none, .mov (.t 17)⟩])
       (.ret)) (.skip)))))
    (.reg none [
      ⟨(some 18), none, .bin .add (.t 8) (.c (.int .i64 1))⟩,
      ⟨(some 8), none, .mov (.t 18)⟩])))))))
 (.seq (.reg none [
    ⟨(some 4), none, .mov (.c (.int .i64 (-1)))⟩])
 (.ret)))⟩
/-- The first host, -1 for none. -/
def firstH (P : Int → Bool) : Int := if P 0 = true then 0 else if P 1 = true then 1 else if P 2 = true then 2 else -1
def doerV (ls : List (Int × Int)) (ts homes : List Int) (s : Shal) (st : Int) (own : Int × Int) : Int := firstH (doesB ls ts homes s st own)
theorem firstH_rg (P : Int → Bool) : -1 ≤ firstH P ∧ firstH P ≤ 2 := by
  unfold firstH
  split
  · omega
  · split
    · omega
    · split <;> omega
def DoerI (F : Nat → Option IFn) (f : Nat) : Prop := ∀ (H : Heap) (lv sv tw hw : Value) (cs : List Value) (ls : List (Int × Int)) (ts homes : List Int) (s : AnyS) (own : Int × Int), one sv = true → SlR Co.p2 (vw 0 H) lv ls → ls.all labB = true → SlR Co.int (vw 0 H) tw ts → trP ts → SlR Co.int (vw 0 H) hw homes → homesP ls.length homes → Co.anyS.rd (vw 0 H) cs s → okA ls.length s → labB own = true →
  QC F f [.agg #[lv, sv], tw, hw, .agg cs.toArray, .agg #[.int .i64 own.1, .int .i64 own.2]] H (.int .i64 (doerV ls ts homes (shA s) (stA ls s) own))
theorem iDoer_ok {F : Nat → Option IFn} {f : Nat} (hf : F f = some c_iDoer) (gd : DoesOk F 65) : DoerI F f := by
  intro H lv sv tw hw cs ls ts homes s own osv r1 hlab r2 htr r3 hho rds hok hown
  obtain ⟨_, la, rfl, _⟩ := id r1
  obtain ⟨_, ta, rfl, _⟩ := id r2
  obtain ⟨_, ha, rfl, _⟩ := id r3
  obtain ⟨sk, sx, sa, sbb, sc, sg, tv, ev, tl, el, hs2, rfl, rg, otv, oev, htl, hel⟩ := anyS_rd rds
  refine QC.mk hf rfl ?_
  refine seq_reg ?_
  simp only [go_sem, binC, osv, otv, oev]
  refine wpc_gen fun H1 hH1 => ?_
  have hx1 : AgX [] H H1 := hH1 ▸ AgX.app [] _ _
  have hb5 : H1[H.length]? = some ⟨[.slice la ls.length ls.length, sv], 0, 0, false, true⟩ := hH1 ▸ get_new0 _ _
  have hb8 : H1[H.length + 1]? = some ⟨[.int .i64 sk, .int .i64 sx, .int .i64 sa, .int .i64 sbb, .int .i64 sc, .int .i64 sg, tv, ev], 0, 0, false, true⟩ := hH1 ▸ get_new _ _ 1
  have hb9 : H1[H.length + 2]? = some ⟨[.int .i64 own.1, .int .i64 own.2], 0, 0, false, true⟩ := hH1 ▸ get_new _ _ 2
  clear hH1
  have hdo : ∀ h : Int, 0 ≤ h → h ≤ 2 → QC F 65 [.agg #[.slice la ls.length ls.length, sv], .slice ta ts.length ts.length, .slice ha homes.length homes.length, .agg #[.int .i64 sk, .int .i64 sx, .int .i64 sa, .int .i64 sbb, .int .i64 sc, .int .i64 sg, tv, ev], .agg #[.int .i64 own.1, .int .i64 own.2], .int .i64 h] H1 (.bool (doesB ls ts homes (shA s) (stA ls s) own h)) := fun h h1 h2 =>
    gd H1 _ sv _ _ [.int .i64 sk, .int .i64 sx, .int .i64 sa, .int .i64 sbb, .int .i64 sc, .int .i64 sg, tv, ev] ls ts homes s own h osv (r1.mono (agx_sub hx1)) hlab (r2.mono (agx_sub hx1)) htr (r3.mono (agx_sub hx1)) hho ((Co.step (s.1 + 1)).mono (agx_sub hx1) rds) hok hown h1 h2
  unfold doerV
  generalize doesB ls ts homes (shA s) (stA ls s) own = P at *
  refine seq_assoc (seq_reg ?_)
  simp only [go_sem, binC]
  refine seq_block (wpc_loop ?_)
  suffices hh : ∀ (m i : Nat) (e : Env), i + m = 3 → (∀ j : Nat, j < i → P j = false) → e 1 = .slice ta ts.length ts.length → e 2 = .slice ha homes.length homes.length → e 5 = ptr H.length 0 → e 8 = ptr (H.length + 1) 0 → e 9 = ptr (H.length + 2) 0 → e 12 = .int .i64 i → W F H.length _ e H1 _ from
    hh 3 0 _ rfl (fun j h => by omega) (by simp only [go_sem, binC]) (by simp only [go_sem, binC]) (by simp only [go_sem, binC]) (by simp only [go_sem, binC]) (by simp only [go_sem, binC]) (by (simp only [go_sem, binC]) <;> rfl)
  intro m
  induction m with
  | zero =>
    intro i e hi hP e1 e2 e5 e8 e9 e12
    obtain rfl : i = 3 := by omega
    have hd3 : decide (((3 : Nat) : Int) < 3) = false := rfl
    refine lp_step ?_
    refine seq_reg ?_
    simp only [go_sem, binC, e12, hd3]
    refine seq_cond (t := false) (by simp only [go_sem, binC]) ?_
    simp only [go_sem, binC]
    refine seq_exit ?_
    simp only [go_sem, binC, thenX_e, out_e, thenX_n]
    refine seq_reg ?_
    simp only [go_sem, binC]
    refine wpc_ret ⟨Or.inr rfl, .int .i64 (-1), (by (simp only [go_sem, binC]) <;> rfl), ?_, rfl⟩
    have p0 := hP 0 (by omega)
    have p1 := hP 1 (by omega)
    have p2 := hP 2 (by omega)
    simp only [Int.natCast_zero, Int.natCast_one] at p0 p1
    unfold firstH
    rw [p0, p1, show P 2 = false from p2]
    rfl
  | succ m ih =>
    intro i e hi hP e1 e2 e5 e8 e9 e12
    have hdi : decide ((i : Int) < 3) = true := decide_eq_true (by omega)
    have hw1 : IntKind.i64.wrap ((i : Int) + 1) = ((i + 1 : Nat) : Int) := by rw [wrap_id (by omega) (by omega)]; omega
    refine lp_step ?_
    refine seq_reg ?_
    simp only [go_sem, binC, e12, hdi]
    refine seq_cond (t := true) (by simp only [go_sem, binC]) ?_
    simp only [go_sem, binC]
    refine seq_skip (seq_block (seq_reg ?_))
    simp only [go_sem, binC, e12]
    refine seq_reg ?_
    simp only [go_sem, binC, e1, e2, e5, e8, e9, gc_of hb5, gc_of hb8, gc_of hb9, inBlk_some, osv, otv, oev]
    refine op_callQ (by simp only [go_sem, binC, e1, e2]; exact hdo i (by omega) (by omega)) ?_
    cases hp : P i with
    | true =>
      simp only [go_sem, binC]
      refine wpc_cond (t := true) rfl ?_
      simp only [go_sem, binC]
      refine seq_reg ?_
      simp only [go_sem, binC]
      refine wpc_ret ?_
      simp only [go_sem, binC, out_r, thenX_r]
      refine ⟨Or.inr rfl, .int .i64 i, (by (simp only [go_sem, binC]) <;> rfl), ?_, rfl⟩
      have hi3 : i = 0 ∨ i = 1 ∨ i = 2 := by omega
      unfold firstH
      rcases hi3 with rfl | rfl | rfl
      · rw [if_pos (by simpa using hp)]; rfl
      · have p0 := hP 0 (by omega)
        simp only [Int.natCast_zero] at p0
        rw [if_neg (by rw [p0]; simp), if_pos (by simpa using hp)]; rfl
      · have p0 := hP 0 (by omega)
        have p1 := hP 1 (by omega)
        simp only [Int.natCast_zero, Int.natCast_one] at p0 p1
        rw [if_neg (by rw [p0]; simp), if_neg (by rw [p1]; simp), if_pos (show P 2 = true from hp)]; rfl
    | false =>
      simp only [go_sem, binC]
      refine wpc_cond (t := false) rfl ?_
      simp only [go_sem, binC]
      refine wpc_skip ?_
      simp only [go_sem, binC, out_n, thenX_n]
      refine wpc_reg ?_
      simp only [go_sem, binC, e12, hw1]
      simp only [go_sem, binC, thenX_n]
      refine ih (i + 1) _ (by omega) (fun j hj => ?_) (by simp only [go_sem, binC, e1]) (by simp only [go_sem, binC, e2]) (by simp only [go_sem, binC, e5]) (by simp only [go_sem, binC, e8]) (by simp only [go_sem, binC, e9]) (by simp only [go_sem, binC])
      by_cases hji : j = i
      · subst hji; exact hp
      · exact hP j (by omega)
/-! ### Plans copied -/
/-- Three lists of numbers, each in a block of its own that may be written. -/
structure PlanOwn (lo : Nat) (H : Heap) (tv hv dv : Value) (ts homes does : List Int) : Prop where
  t : ∀ V, LsV V Co.int 1 3 lo H tv ts
  h : ∀ V, LsV V Co.int 1 3 lo H hv homes
  d : ∀ V, LsV V Co.int 1 3 lo H dv does
  st : SoloV H tv
  sh : SoloV H hv
  sd : SoloV H dv
  th : ∀ b, b ∈ blkOf tv → b ∉ blkOf hv ∧ b ∉ blkOf dv
  hd : ∀ b, b ∈ blkOf hv → b ∉ blkOf dv
def PlClone (F : Nat → Option IFn) (f : Nat) : Prop := ∀ (H : Heap) (tv hv dv : Value) (ts homes does : List Int), SlR Co.int (vw 0 H) tv ts → SlR Co.int (vw 0 H) hv homes → SlR Co.int (vw 0 H) dv does → ts.length ≤ 1048576 → homes.length ≤ 1048576 → does.length ≤ 1048576 → ∃ tv' hv' dv' H', KC F f [.agg #[tv, hv, dv]] H (.agg #[tv', hv', dv']) H' ∧ (AgX [] H H' ∧ PlanOwn H.length H' tv' hv' dv' ts homes does)
theorem SoloV.keep {H H' : Heap} {v : Value} {xs : List Nat} (h : SoloV H v) (hx : AgX xs H H') (hn : ∀ b, b ∈ blkOf v → b ∉ xs) : SoloV H' v := fun b hb => let ⟨cs, es, et, ap, h1⟩ := h b hb; ⟨cs, es, et, ap, hx.get h1 (hn b hb)⟩
theorem plClone_ok {F : Nat → Option IFn} {f : Nat} (hf : F f = some c_plClone) (gc : CloneI F 102) : PlClone F f := by
  intro H tv hv dv ts homes does r1 r2 r3 l1 l2 l3
  suffices hh : ∃ w H', KC F f [.agg #[tv, hv, dv]] H w H' ∧ (∃ tv' hv' dv', w = .agg #[tv', hv', dv'] ∧ AgX [] H H' ∧ PlanOwn H.length H' tv' hv' dv' ts homes does) by
    obtain ⟨_, H', h1, tv', hv', dv', rfl, h2⟩ := hh
    exact ⟨tv', hv', dv', H', h1, h2⟩
  obtain ⟨_, ta, rfl, _⟩ := id r1
  obtain ⟨_, ha, rfl, _⟩ := id r2
  obtain ⟨_, da, rfl, _⟩ := id r3
  refine KC.mk hf rfl ?_
  refine seq_reg ?_
  simp only [go_sem, binC]
  refine wpc_gen fun H1 hH1 => ?_
  have hx1 : AgX [] H H1 := hH1 ▸ AgX.app [] _ _
  have hb1 : H1[H.length]? = some ⟨[.slice ta ts.length ts.length, .slice ha homes.length homes.length, .slice da does.length does.length], 0, 0, false, true⟩ := hH1 ▸ get_new0 _ _
  have hb2 : H1[H.length + 1]? = some ⟨[nilS, nilS, nilS], 0, 0, false, true⟩ := hH1 ▸ get_new _ _ 1
  clear hH1
  have hl1 := (List.getElem?_eq_some_iff.1 hb2).1
  refine seq_regD ?_
  simp only [go_sem, binC, gc_of hb1, inBlk_some]
  obtain ⟨w1, H2, k2, x2, c2, s2⟩ := gc H1 _ ts (r1.mono (agx_sub hx1)) l1
  refine op_callK (by simp only [go_sem, binC]; exact k2) ?_
  have hb12 := x2.get hb1 (by simp)
  have hx02 := hx1.tr x2
  simp only [go_sem, binC, gc_of hb12, inBlk_some]
  obtain ⟨w2, H3, k3, x3, c3, s3⟩ := gc H2 _ homes (r2.mono (agx_sub hx02)) l2
  refine op_callK (by simp only [go_sem, binC]; exact k3) ?_
  have hb13 := x3.get hb12 (by simp)
  have hx03 := hx02.tr x3
  simp only [go_sem, binC, gc_of hb13, inBlk_some]
  obtain ⟨w3, H4, k4, x4, c4, s4⟩ := gc H3 _ does (r3.mono (agx_sub hx03)) l3
  refine op_callK (by simp only [go_sem, binC]; exact k4) ?_
  have hx04 := hx03.tr x4
  have hb24 := x4.get (x3.get (x2.get hb2 (by simp)) (by simp)) (by simp)
  have hb4l := (List.getElem?_eq_some_iff.1 hb24).1
  obtain ⟨a1, e1⟩ := (c2 (fun _ => none)).shape
  obtain ⟨a2, e2⟩ := (c3 (fun _ => none)).shape
  obtain ⟨a3, e3⟩ := (c4 (fun _ => none)).shape
  have n1 : ∀ b, b ∈ blkOf w1 → H1.length ≤ b ∧ b < H2.length := fun b hb => ⟨((c2 (fun _ => none)).blk hb).1, ((c2 (fun _ => none)).blk hb).2.1⟩
  have n2 : ∀ b, b ∈ blkOf w2 → H2.length ≤ b ∧ b < H3.length := fun b hb => ⟨((c3 (fun _ => none)).blk hb).1, ((c3 (fun _ => none)).blk hb).2.1⟩
  have n3 : ∀ b, b ∈ blkOf w3 → H3.length ≤ b := fun b hb => ((c4 (fun _ => none)).blk hb).1
  have q2 := x2.1
  have q3 := x3.1
  have q4 := x4.1
  have xs : AgX [H.length + 1] H4 (H4.set (H.length + 1) ⟨[w1, w2, w3], 0, 0, false, true⟩) := AgX.set _ _ _
  have own : PlanOwn H.length (H4.set (H.length + 1) ⟨[w1, w2, w3], 0, 0, false, true⟩) w1 w2 w3 ts homes does := by
    refine ⟨fun V => ?_, fun V => ?_, fun V => ?_, ?_, ?_, ?_, fun b hb => ⟨fun h => ?_, fun h => ?_⟩, fun b hb h => ?_⟩
    · exact (((c2 V).keep (by omega) (x3.tr x4) (fun _ _ => by simp)).keep (Nat.le_refl _) xs (fun b hb => by have := n1 b hb; simp; omega))
    · exact (((c3 V).keep (by omega) x4 (fun _ _ => by simp)).keep (Nat.le_refl _) xs (fun b hb => by have := n2 b hb; simp; omega))
    · exact ((c4 V).keep (by omega) xs (fun b hb => by have := n3 b hb; simp; omega))
    · exact (s2.keep (x3.tr x4) (fun _ _ => by simp)).keep xs (fun b hb => by have := n1 b hb; simp; omega)
    · exact (s3.keep x4 (fun _ _ => by simp)).keep xs (fun b hb => by have := n2 b hb; simp; omega)
    · exact s4.keep xs (fun b hb => by have := n3 b hb; simp; omega)
    · have := n1 b hb; have := n2 b h; omega
    · have := n1 b hb; have := n3 b h; omega
    · have := n2 b hb; have := n3 b h; omega
  subst e1 e2 e3
  simp only [go_sem, binC, hb24]
  refine wpc_ret ⟨Or.inr rfl, .agg #[_, _, _], ?_, _, _, _, rfl, hx04.setN (by omega) _, own⟩
  simp [resV, resL, res1, putE_get, ptr, gc_set hb4l, inBlk_some, valOf]
/-! ### Numbers found -/
theorem ixK_ok {F : Nat → Option IFn} {f : Nat} (hf : F f = some c_ixK) : ∀ (H : Heap) (v : Value) (l : List Int) (x : Int), SlR Co.int (vw 0 H) v l → ∃ r : Int, QC F f [v, .int .i64 x] H (.int .i64 r) ∧ (0 ≤ r ↔ x ∈ l) := by
  intro H v l x hv
  have hv0 := hv
  obtain ⟨hl0, a, rfl, _⟩ := id hv
  suffices hh : ∃ w, QC F f [.slice a l.length l.length, .int .i64 x] H w ∧ ∃ r : Int, w = .int .i64 r ∧ (0 ≤ r ↔ x ∈ l) by
    obtain ⟨w, h1, r, rfl, h2⟩ := hh
    exact ⟨r, h1, h2⟩
  refine QC.mkE hf rfl ?_
  refine seq_reg ?_
  simp only [go_sem, binC]
  refine seq_assoc (seq_reg ?_)
  simp only [go_sem, binC]
  refine seq_block (wpc_loop ?_)
  suffices hh : ∀ (m i : Nat) (e : Env), i + m = l.length → x ∉ l.take i → e 0 = .slice a l.length l.length → e 1 = .int .i64 x → e 7 = .int .i64 l.length → e 8 = .int .i64 i → W F H.length _ e H _ from
    hh l.length 0 _ (by omega) (by simp) (by simp only [go_sem, binC]) (by simp only [go_sem, binC]) (by simp only [go_sem, binC]) (by (simp only [go_sem, binC]) <;> rfl)
  intro m
  induction m with
  | zero =>
    intro i e hi hn e0 e1 e7 e8
    rw [List.take_of_length_le (by omega)] at hn
    refine lp_step ?_
    refine seq_reg ?_
    simp only [go_sem, binC, e7, e8]
    refine seq_cond (t := false) (by simp only [go_sem, binC]; rw [decide_eq_false (by omega)]) ?_
    simp only [go_sem, binC]
    refine seq_exit ?_
    simp only [go_sem, binC, thenX_e, out_e, thenX_n]
    refine seq_reg ?_
    simp only [go_sem, binC]
    exact wpc_ret ⟨Or.inr rfl, .int .i64 (-1), (by (simp only [go_sem, binC]) <;> rfl), ⟨-1, rfl, ⟨fun h => by omega, fun h => absurd h hn⟩⟩, rfl⟩
  | succ m ih =>
    intro i e hi hn e0 e1 e7 e8
    have hil : i < l.length := by omega
    have hw1 : IntKind.i64.wrap ((i : Int) + 1) = ((i + 1 : Nat) : Int) := by rw [wrap_id (by omega) (by omega)]; omega
    obtain ⟨b, o, hv1, hg⟩ := gcJ hv0 hil
    simp only [Value.slice.injEq, and_true] at hv1
    subst hv1
    refine lp_step ?_
    refine seq_reg ?_
    simp only [go_sem, binC, e7, e8]
    refine seq_cond (t := true) (by simp only [go_sem, binC]; rw [decide_eq_true (by omega)]) ?_
    simp only [go_sem, binC]
    refine seq_skip (seq_block (seq_reg ?_))
    simp only [go_sem, binC, e8]
    refine seq_reg ?_
    simp only [go_sem, binC, e0, e1]
    refine ⟨⟨by omega, by omega⟩, ?_⟩
    simp only [go_sem, binC, Int.toNat_natCast, Nat.mul_one, hg, e1]
    by_cases hx : x = l[i]
    · simp only [go_sem, binC, beq_t hx]
      refine wpc_cond (t := true) rfl ?_
      simp only [go_sem, binC]
      refine seq_reg ?_
      simp only [go_sem, binC]
      refine wpc_ret ?_
      simp only [go_sem, binC, out_r, thenX_r]
      exact ⟨Or.inr rfl, .int .i64 i, (by (simp only [go_sem, binC]) <;> rfl), ⟨i, rfl, ⟨fun _ => hx ▸ List.getElem_mem hil, fun _ => by omega⟩⟩, rfl⟩
    · simp only [go_sem, binC, beq_f hx]
      refine wpc_cond (t := false) rfl ?_
      simp only [go_sem, binC]
      refine wpc_skip ?_
      simp only [go_sem, binC, out_n, thenX_n]
      refine wpc_reg ?_
      simp only [go_sem, binC, e8, hw1]
      simp only [go_sem, binC, thenX_n]
      refine ih (i + 1) _ (by omega) ?_ (by simp only [go_sem, binC, e0]) (by simp only [go_sem, binC, e1]) (by simp only [go_sem, binC, e7]) (by simp only [go_sem, binC])
      rw [List.take_add_one, List.getElem?_eq_getElem hil]
      simp only [Option.toList, List.mem_append, List.mem_singleton, not_or]
      exact ⟨hn, hx⟩
def ConK (F : Nat → Option IFn) (f : Nat) : Prop := ∀ (H : Heap) (v : Value) (l : List Int) (x : Int), SlR Co.int (vw 0 H) v l → QC F f [v, .int .i64 x] H (.bool (decide (x ∈ l)))
theorem conK_ok {F : Nat → Option IFn} {f : Nat} (hf : F f = some c_conK) (gi : F 103 = some c_ixK) : ConK F f := by
  intro H v l x hv
  obtain ⟨r, h1, h2⟩ := ixK_ok gi H v l x hv
  refine QC.mk hf rfl ?_
  refine seq_reg ?_
  simp only [go_sem, binC]
  refine seq_reg ?_
  simp only [go_sem, binC]
  refine op_callQ (by simp only [go_sem, binC]; exact h1) ?_
  simp only [go_sem, binC]
  refine wpc_ret ⟨Or.inr rfl, _, (by (simp only [go_sem, binC]) <;> rfl), ?_, rfl⟩
  rw [decide_eq_decide.2 h2]
/-! ### Hosts told -/
def trK (ts : List Int) : Bool := decide (ts.length = 3) && (List.range 3).all fun i => inB (ts.getD i 0) 0 7 && hasB (ts.getD i 0) (i : Int)
theorem trK_iff {ts : List Int} : trK ts = true ↔ trP ts := by
  unfold trK trP
  simp only [Bool.and_eq_true, decide_eq_true_eq, List.all_eq_true, List.mem_range]
  refine and_congr_right fun hl => ⟨fun h i hi => ?_, fun h i hi => ?_⟩
  · have := h i (by omega)
    rwa [List.getD_eq_getElem?_getD, List.getElem?_eq_getElem hi] at this
  · rw [List.getD_eq_getElem?_getD, List.getElem?_eq_getElem (by omega)]
    exact h i (by omega)
theorem TrOk.k {F : Nat → Option IFn} {f : Nat} (h : TrOk F f) : ∀ (H : Heap) (u : Value) (ts : List Int), SlR Co.int (vw 0 H) u ts → QC F f [u] H (.bool (trK ts)) := by
  intro H u ts hu
  obtain ⟨b, h1, h2⟩ := h H u ts hu
  have : b = trK ts := by rw [Bool.eq_iff_iff, h2, trK_iff]
  exact this ▸ h1
def hostsB (l : List Int) : Bool := l.all fun h => inB h 0 2
theorem ifInt_ok {F : Nat → Option IFn} {f g : Nat} {first cap : Array Value} {P : Int → Bool} (hf : F f = some c_ifInt) (H : Heap) (gp : ∀ x, QC F g (first.toList ++ [.int .i64 x] ++ cap.toList) H (.bool (P x))) : ∀ (v : Value) (l : List Int), SlR Co.int (vw 0 H) v l → ∃ r : Int, QC F f [v, .func (.func g) first cap] H (.int .i64 r) ∧ (0 ≤ r ↔ l.any P = true) := by
  intro v l hv
  have hv0 := hv
  obtain ⟨hl0, a, rfl, _⟩ := id hv
  suffices hh : ∃ w, QC F f [.slice a l.length l.length, .func (.func g) first cap] H w ∧ ∃ r : Int, w = .int .i64 r ∧ (0 ≤ r ↔ l.any P = true) by
    obtain ⟨w, h1, r, rfl, h2⟩ := hh
    exact ⟨r, h1, h2⟩
  refine QC.mkE hf rfl ?_
  refine seq_reg ?_
  simp only [go_sem, binC]
  refine seq_assoc (seq_reg ?_)
  simp only [go_sem, binC]
  refine seq_block (wpc_loop ?_)
  suffices hh : ∀ (m i : Nat) (e : Env), i + m = l.length → (l.take i).any P = false → e 0 = .slice a l.length l.length → e 1 = .func (.func g) first cap → e 7 = .int .i64 l.length → e 8 = .int .i64 i → W F H.length _ e H _ from
    hh l.length 0 _ (by omega) (by simp) (by simp only [go_sem, binC]) (by simp only [go_sem, binC]) (by simp only [go_sem, binC]) (by (simp only [go_sem, binC]) <;> rfl)
  intro m
  induction m with
  | zero =>
    intro i e hi hn e0 e1 e7 e8
    rw [List.take_of_length_le (by omega)] at hn
    refine lp_step ?_
    refine seq_reg ?_
    simp only [go_sem, binC, e7, e8]
    refine seq_cond (t := false) (by simp only [go_sem, binC]; rw [decide_eq_false (by omega)]) ?_
    simp only [go_sem, binC]
    refine seq_exit ?_
    simp only [go_sem, binC, thenX_e, out_e, thenX_n]
    refine seq_reg ?_
    simp only [go_sem, binC]
    exact wpc_ret ⟨Or.inr rfl, .int .i64 (-1), (by (simp only [go_sem, binC]) <;> rfl), ⟨-1, rfl, ⟨fun h => by omega, fun h => by rw [hn] at h; cases h⟩⟩, rfl⟩
  | succ m ih =>
    intro i e hi hn e0 e1 e7 e8
    have hil : i < l.length := by omega
    have hw1 : IntKind.i64.wrap ((i : Int) + 1) = ((i + 1 : Nat) : Int) := by rw [wrap_id (by omega) (by omega)]; omega
    obtain ⟨b, o, hv1, hg⟩ := gcJ hv0 hil
    simp only [Value.slice.injEq, and_true] at hv1
    subst hv1
    refine lp_step ?_
    refine seq_reg ?_
    simp only [go_sem, binC, e7, e8]
    refine seq_cond (t := true) (by simp only [go_sem, binC]; rw [decide_eq_true (by omega)]) ?_
    simp only [go_sem, binC]
    refine seq_skip (seq_block (seq_reg ?_))
    simp only [go_sem, binC, e8]
    refine seq_reg ?_
    simp only [go_sem, binC, e0, e1]
    refine ⟨⟨by omega, by omega⟩, ?_⟩
    simp only [go_sem, binC, Int.toNat_natCast, Nat.mul_one, hg, e1]
    refine op_callQc (g := g) (first := first) (cap := cap) (by simp only [go_sem, binC, e1]) (by simp only [go_sem, binC]; exact gp l[i]) ?_
    cases hx : P l[i] with
    | true =>
      simp only [go_sem, binC]
      refine wpc_cond (t := true) rfl ?_
      simp only [go_sem, binC]
      refine seq_reg ?_
      simp only [go_sem, binC]
      refine wpc_ret ?_
      simp only [go_sem, binC, out_r, thenX_r]
      exact ⟨Or.inr rfl, .int .i64 i, (by (simp only [go_sem, binC]) <;> rfl), ⟨i, rfl, ⟨fun _ => List.any_eq_true.2 ⟨_, List.getElem_mem hil, hx⟩, fun _ => by omega⟩⟩, rfl⟩
    | false =>
      simp only [go_sem, binC]
      refine wpc_cond (t := false) rfl ?_
      simp only [go_sem, binC]
      refine wpc_skip ?_
      simp only [go_sem, binC, out_n, thenX_n]
      refine wpc_reg ?_
      simp only [go_sem, binC, e8, hw1]
      simp only [go_sem, binC, thenX_n]
      refine ih (i + 1) _ (by omega) ?_ (by simp only [go_sem, binC, e0]) (by simp only [go_sem, binC, e1]) (by simp only [go_sem, binC, e7]) (by simp only [go_sem, binC])
      rw [List.take_add_one, List.getElem?_eq_getElem hil, List.any_append, hn]
      simp [hx]
theorem cfInt_ok {F : Nat → Option IFn} {f g : Nat} {first cap : Array Value} {P : Int → Bool} (hf : F f = some c_cfInt) (gi : F 142 = some c_ifInt) (H : Heap) (gp : ∀ x, QC F g (first.toList ++ [.int .i64 x] ++ cap.toList) H (.bool (P x))) : ∀ (v : Value) (l : List Int), SlR Co.int (vw 0 H) v l → QC F f [v, .func (.func g) first cap] H (.bool (l.any P)) := by
  intro v l hv
  obtain ⟨r, h1, h2⟩ := ifInt_ok gi H gp v l hv
  refine QC.mk hf rfl ?_
  refine seq_reg ?_
  simp only [go_sem, binC]
  refine seq_reg ?_
  simp only [go_sem, binC]
  refine op_callQ (by simp only [go_sem, binC]; exact h1) ?_
  simp only [go_sem, binC]
  refine wpc_ret ⟨Or.inr rfl, _, (by (simp only [go_sem, binC]) <;> rfl), ?_, rfl⟩
  have : decide (0 ≤ r) = l.any P := by
    rw [Bool.eq_iff_iff, decide_eq_true_eq]
    exact h2
  rw [this]
def HostsI (F : Nat → Option IFn) (f : Nat) : Prop := ∀ (H : Heap) (v : Value) (l : List Int) (m : Int), SlR Co.int (vw 0 H) v l → QC F f [v, .int .i64 m] H (.bool (decide ((l.length : Int) = m) && hostsB l))
theorem iHostsOk_ok {F : Nat → Option IFn} {f : Nat} (hf : F f = some c_iHostsOk) (gc : F 112 = some c_cfInt) (gi : F 142 = some c_ifInt) (gk : F 113 = some c_hk1) (gh : ∀ (H : Heap) (a : Int), QC F 82 [.int .i64 a] H (.bool (inB a 0 2))) : HostsI F f := by
  intro H v l m hv
  obtain ⟨_, a, rfl, _⟩ := id hv
  have hk : ∀ (H : Heap) (x : Int), QC F 113 [.int .i64 x] H (.bool (!inB x 0 2)) := fun H x => by
    refine QC.mk gk rfl ?_
    refine seq_reg ?_
    simp only [go_sem, binC]
    refine seq_reg ?_
    simp only [go_sem, binC]
    refine op_callQ (by simp only [go_sem, binC]; exact gh H x) ?_
    simp only [go_sem, binC]
    exact wpc_ret ⟨Or.inr rfl, _, (by (simp only [go_sem, binC]) <;> rfl), rfl, rfl⟩
  have hcf := cfInt_ok (g := 113) (first := #[]) (cap := #[]) (P := fun x => !inB x 0 2) gc gi H (fun x => by simpa using hk H x) _ l hv
  refine QC.mk hf rfl ?_
  refine seq_reg ?_
  simp only [go_sem, binC]
  refine seq_reg ?_
  simp only [go_sem, binC]
  by_cases hl : (l.length : Int) = m
  · simp only [go_sem, binC, beq_t hl]
    refine op_callQ (by simp only [go_sem, binC]; exact hcf) ?_
    simp only [go_sem, binC]
    refine wpc_ret ⟨Or.inr rfl, _, (by (simp only [go_sem, binC]) <;> rfl), ?_, rfl⟩
    rw [decide_eq_true hl]
    have : (!l.any fun x => !inB x 0 2) = hostsB l := by
      unfold hostsB
      rw [← List.not_all_eq_any_not, Bool.not_not]
    rw [this]
    rfl
  · simp only [go_sem, binC, beq_f hl]
    refine wpc_ret ⟨Or.inr rfl, _, (by (simp only [go_sem, binC]) <;> rfl), ?_, rfl⟩
    rw [decide_eq_false hl]
    rfl
end Go.Proofs.YtbjeldblaclpnaaI
end
section
/- The first plan (the program's). -/
set_option linter.unusedVariables false
set_option linter.unusedSimpArgs false
namespace Go.Proofs.YtbjeldblaclpnaaI
open Go Go.RowKit
def c_iPlanFind : IFn := ⟨2, 63, [.cell true 3 4, .t 5],
 .seq (.reg none [
    ⟨(some 2), none, .box (.t 0)⟩,
    ⟨(some 4), none, .new [(.slice none 0 0), (.slice none 0 0), (.slice none 0 0)]⟩,
    ⟨(some 5), none, .mov (.c (.bool false))⟩])
 (.seq (.seq (.reg none [
     ⟨(some 12), none, .load true 2 (.t 2)⟩,
     ⟨(some 13), none, .call .q (.f 43) [(.t 12)]⟩,
     ⟨(some 14), none, .un .not (.t 13)⟩,
     ⟨(some 15), none, .mov (.t 14)⟩,
     ⟨(some 16), (some (15, false)), .mov (.t 1)⟩,
     ⟨(some 17), (some (15, false)), .call .q (.f 52) [(.t 16)]⟩,
     ⟨(some 18), (some (15, false)), .un .not (.t 17)⟩,
     ⟨(some 19), none, .pick (.t 15) (.c (.bool true)) (.t 18)⟩])
  (.cond (.t 19) (.seq (.reg none [
      ⟨(some 20), none, .build [(.slice none 0 0), (.slice none 0 0), (.slice none 0 0)] []⟩,
      ⟨none, none, .store 3 (.t 4) (.t 20)⟩,
      ⟨(some 5), none, .mov (.c (.bool false))⟩])
   (.ret)) (.skip)))
 (.seq (.reg none [
    ⟨(some 21), none, .load true 2 (.t 2)⟩,
    ⟨(some 22), none, .call .k (.f 53) [(.t 21)]⟩,
    ⟨(some 6), none, .mov (.t 22)⟩])
 (.seq (.seq (.reg none [
     ⟨(some 23), none, .load true 2 (.t 2)⟩,
     ⟨(some 24), none, .mov (.t 1)⟩,
     ⟨(some 25), none, .call .k (.f 54) [(.t 23), (.t 24)]⟩,
     ⟨(some 26), none, .len (.t 25)⟩,
     ⟨(some 27), none, .mov (.c (.int .i64 0))⟩])
  (.block 0 (.loop (.seq (.reg none [
       ⟨(some 28), none, .bin .lss (.t 27) (.t 26)⟩])
    (.seq (.cond (.t 28) (.skip) (.exit 0))
    (.seq (.block 1 (.seq (.reg none [
         ⟨(some 29), none, .iad 1 (.t 25) (.t 27)⟩,
         ⟨(some 30), none, .load false 1 (.t 29)⟩,
         ⟨(some 8), none, .mov (.t 30)⟩])
      (.seq (.reg none [
         ⟨(some 9), none, .mov (.c (.slice none 0 0))⟩])
      (.seq (.seq (.reg none [
          ⟨(some 31), none, .fad 1 (.t 2)⟩,
          ⟨(some 32), none, .load false 1 (.t 31)⟩,
          ⟨(some 33), none, .call .k (.f 55) [(.t 32)]⟩,
          ⟨(some 34), none, .len (.t 33)⟩,
          ⟨(some 35), none, .mov (.c (.int .i64 0))⟩])
       (.block 2 (.loop (.seq (.reg none [
            ⟨(some 36), none, .bin .lss (.t 35) (.t 34)⟩])
         (.seq (.cond (.t 36) (.skip) (.exit 2))
         (.seq (.block 3 (.seq (.reg none [
              ⟨(some 37), none, .mov (.t 35)⟩,
              ⟨(some 38), none, .iad 8 (.t 33) (.t 35)⟩,
              ⟨(some 39), none, .load true 8 (.t 38)⟩,
              ⟨(some 11), none, .new [(.int .i64 0), (.int .i64 0), (.int .i64 0), (.int .i64 0), (.int .i64 0), (.int .i64 0), (.slice none 0 0), (.slice none 0 0)]⟩,
              ⟨(some 10), none, .mov (.t 37)⟩,
              ⟨none, none, .store 8 (.t 11) (.t 39)⟩])
           (.reg (some 11) [
             ⟨(some 40), none, .mov (.t 9)⟩,
             ⟨(some 41), none, .load true 2 (.t 2)⟩,
             ⟨(some 42), none, .mov (.t 1)⟩,
             ⟨(some 43), none, .mov (.t 8)⟩,
             ⟨(some 44), none, .load true 8 (.t 11)⟩,
             ⟨(some 45), none, .mov (.t 6)⟩,
             ⟨(some 46), none, .mov (.t 10)⟩,
             ⟨(some 47), none, .iad 2 (.t 45) (.t 46)⟩,
             ⟨(some 48), none, .load true 2 (.t 47)⟩,
             ⟨(some 49), none, .call .q (.f 56) [(.t 41), (.t 42), (.t 43), (.t 44), (.t 48)]⟩,
             ⟨(some 50), none, .lit 1 3 1 [(.int .i64 0)] [(0, 1, (.t 49))]⟩,
             ⟨(some 51), none, .app 1 3 8 false (.t 40) (.t 50)⟩,
             ⟨(some 9), none, .mov (.t 51)⟩])))
         (.reg none [
           ⟨(some 52), none, .bin .add (.t 35) (.c (.int .i64 1))⟩,
           ⟨(some 35), none, .mov (.t 52)⟩])))))))
      (.seq (.reg none [
         ⟨(some 53), none, .mov (.t 9)⟩,
         ⟨(some 54), none, .call .q (.f 57) [(.t 53), (.c (.int .i64 (-1)))]⟩,
         ⟨(some 55), none, .un .not (.t 54)⟩])
      (.cond (.t 55) (.seq (.reg none [
          ⟨(some 56), none, .mov (.t 1)⟩,
          ⟨(some 57), none, .mov (.t 8)⟩,
          ⟨(some 58), none, .mov (.t 9)⟩,
          ⟨(some 59), none, .build [(.slice none 0 0), (.slice none 0 0), (.slice none 0 0)] [(0, 1, (.t 56)), (1, 1, (.t 57)), (2, 1, (.t 58))]⟩,
          ⟨(some 60), none, .call .k (.f 58) [(.t 59)]⟩,
          ⟨none, none, .store 3 (.t 4) (.t 60)⟩,
          ⟨(some 5), none, .mov (.c (.bool true))⟩])
       (.ret)) (.skip)))))))
    (.reg none [
      ⟨(some 61), none, .bin .add (.t 27) (.c (.int .i64 1))⟩,
      ⟨(some 27), none, .mov (.t 61)⟩])))))))
 (.seq (.reg none [
    ⟨(some 62), none, .build [(.slice none 0 0), (.slice none 0 0), (.slice none 0 0)] []⟩,
    ⟨none, none, .store 3 (.t 4) (.t 62)⟩,
    ⟨(some 5), none, .mov (.c (.bool false))⟩])
 (.ret)))))⟩
theorem allS_sub : ∀ (n : Nat) (s : TStep n), ∀ a ∈ allS n s, ∀ t ∈ allT (a.1 + 1) a.2, t ∈ allT n s
  | 0, s => s.elim
  | n + 1, (k, x, v, h, th, el) => by
    intro a ha t ht
    have go : ∀ l : List (TStep n), a ∈ allSL n l → t ∈ allL n l := fun l hl => by
      unfold allSL at hl
      simp only [List.mem_flatten, List.mem_map] at hl
      obtain ⟨_, ⟨s, hs, rfl⟩, h2⟩ := hl
      unfold allL
      simp only [List.mem_flatten, List.mem_map]
      exact ⟨_, ⟨s, hs, rfl⟩, allS_sub n s a h2 t ht⟩
    rw [allS_succ, List.mem_cons, List.mem_append] at ha
    rcases ha with rfl | h | h
    · exact ht
    · rw [allT_succ]
      exact List.mem_cons_of_mem _ (List.mem_append_left _ (go _ h))
    · rw [allT_succ]
      exact List.mem_cons_of_mem _ (List.mem_append_right _ (go _ h))
theorem allSL_sub {n : Nat} {l : List (TStep n)} {a : AnyS} (ha : a ∈ allSL n l) : ∀ t ∈ allT (a.1 + 1) a.2, t ∈ allL n l := fun t ht => by
  unfold allSL at ha
  simp only [List.mem_flatten, List.mem_map] at ha
  obtain ⟨_, ⟨s, hs, rfl⟩, h2⟩ := ha
  unfold allL
  simp only [List.mem_flatten, List.mem_map]
  exact ⟨_, ⟨s, hs, rfl⟩, allS_sub n s a h2 t ht⟩
theorem shB_var {k : Nat} {t : Shal} (h : shB k t = true) : varB k t.2.1 = true := by
  simp only [shB, Bool.and_eq_true] at h
  exact h.1
theorem progB_okA {n : Nat} {ls : List (Int × Int)} {l : List (TStep n)} (h : progB n (ls, l) = true) {a : AnyS} (ha : a ∈ allSL n l) : okA ls.length a := by
  have hs := progB_sh h
  refine ⟨hs _ ?_, fun t ht => shB_var (hs t (allSL_sub ha t ht))⟩
  show shA a ∈ allL n l
  rw [← allSL_sh]
  exact List.mem_map_of_mem ha
/-- Who does the steps, by some homes. -/
def doesL (n : Nat) (p : TProg n) (ts homes : List Int) : List Int := List.zipWith (fun s own => doerV p.1 ts homes (shA s) (stA p.1 s) own) (allSL n p.2) (atL n p.1 (7, 7) p.2)
theorem doesL_len {n : Nat} {p : TProg n} {ts homes : List Int} : (doesL n p ts homes).length = (allL n p.2).length := by
  unfold doesL
  rw [List.length_zipWith, allSL_len, atL_len, Nat.min_self]
def fitsB (n : Nat) (p : TProg n) (ts homes : List Int) : Bool := !decide (-1 ∈ doesL n p ts homes)
/-- The homes of the first plan. -/
def findV (n : Nat) (p : TProg n) (ts : List Int) : Option (List Int) := if (typeP n p && trK ts) = true then (hmL p.1 ts p.1.length).find? (fitsB n p ts) else none
def PlanR (lo : Nat) (H : Heap) (tv hv dv : Value) (ts : List Int) (o : Option (List Int)) (d : List Int → List Int) : Prop := match o with
  | none => tv = nilS ∧ hv = nilS ∧ dv = nilS
  | some homes => PlanOwn lo H tv hv dv ts homes (d homes)
theorem doerV_le {ls : List (Int × Int)} {ts homes : List Int} {s : Shal} {st : Int} {own : Int × Int} : -1 ≤ doerV ls ts homes s st own ∧ doerV ls ts homes s st own ≤ 2 := firstH_rg _
theorem PlanOwn.keep {lo lo' : Nat} {H H' : Heap} {tv hv dv : Value} {ts homes does : List Int} {xs : List Nat} (h : PlanOwn lo H tv hv dv ts homes does) (hl : lo' ≤ lo) (hx : AgX xs H H') (hn : ∀ b, lo ≤ b → b ∉ xs) : PlanOwn lo' H' tv hv dv ts homes does :=
  ⟨fun V => (h.t V).keep hl hx (fun b hb => hn b ((h.t V).blk hb).1), fun V => (h.h V).keep hl hx (fun b hb => hn b ((h.h V).blk hb).1), fun V => (h.d V).keep hl hx (fun b hb => hn b ((h.d V).blk hb).1), h.st.keep hx (fun b hb => hn b ((h.t (fun _ => none)).blk hb).1), h.sh.keep hx (fun b hb => hn b ((h.h (fun _ => none)).blk hb).1), h.sd.keep hx (fun b hb => hn b ((h.d (fun _ => none)).blk hb).1), h.th, h.hd⟩
theorem progB_len {n : Nat} {ls : List (Int × Int)} {l : List (TStep n)} (h : progB n (ls, l) = true) : ls.length ≤ 4 := by
  have := h
  unfold progB at this
  simp only [Bool.and_eq_true, decide_eq_true_eq] at this
  omega
def FindI (F : Nat → Option IFn) (f : Nat) : Prop := ∀ (H : Heap) (n : Nat) (lv sv tw : Value) (ls : List (Int × Int)) (l : List (TStep n)) (ts : List Int), SlR Co.p2 (vw 0 H) lv ls → SlR (Co.step n) (vw 0 H) sv l → (Co.prog n).sm (ls, l) → SlR Co.int (vw 0 H) tw ts →
  ∃ tv hv dv H', KC F f [.agg #[lv, sv], tw] H (.tuple #[.agg #[tv, hv, dv], .bool (findV n (ls, l) ts).isSome]) H' ∧ (AgX [] H H' ∧ PlanR H.length H' tv hv dv ts (findV n (ls, l) ts) (doesL n (ls, l) ts))
theorem iPlanFind_ok {F : Nat → Option IFn} {f : Nat} (hf : F f = some c_iPlanFind) (gt : TypeP F 43) (gtr : TrOk F 52) (ga : AtP F 53) (gh : HomesI F 54) (gl : ∀ n, AllP F 55 n) (gd : DoerI F 56) (gk : ConK F 57) (gc : PlClone F 58) : FindI F f := by
  intro H n lv sv tw ls l ts r1 r2 hsm r3
  suffices hh : ∃ w H', KC F f [.agg #[lv, sv], tw] H w H' ∧ ∃ tv hv dv, w = .tuple #[.agg #[tv, hv, dv], .bool (findV n (ls, l) ts).isSome] ∧ AgX [] H H' ∧ PlanR H.length H' tv hv dv ts (findV n (ls, l) ts) (doesL n (ls, l) ts) by
    obtain ⟨_, H', h1, tv, hv, dv, rfl, h2⟩ := hh
    exact ⟨tv, hv, dv, H', h1, h2⟩
  have osv : one sv = true := by obtain ⟨_, a, rfl, _⟩ := r2; rfl
  obtain ⟨_, la, rfl, _⟩ := id r1
  obtain ⟨_, ta, rfl, _⟩ := id r3
  refine KC.mk hf rfl ?_
  refine seq_reg ?_
  simp only [go_sem, binC, osv]
  refine wpc_gen fun H1 hH1 => ?_
  have hx1 : AgX [] H H1 := hH1 ▸ AgX.app [] _ _
  have hb2 : H1[H.length]? = some ⟨[.slice la ls.length ls.length, sv], 0, 0, false, true⟩ := hH1 ▸ get_new0 _ _
  have hb4 : H1[H.length + 1]? = some ⟨[nilS, nilS, nilS], 0, 0, false, true⟩ := hH1 ▸ get_new _ _ 1
  clear hH1
  have hl1 := (List.getElem?_eq_some_iff.1 hb4).1
  refine seq_assoc (seq_reg ?_)
  simp only [go_sem, binC, gc_of hb2, inBlk_some, osv]
  refine op_callQ (by simp only [go_sem, binC]; exact gt H1 n _ _ ls l (r1.mono (agx_sub hx1)) (r2.mono (agx_sub hx1)) hsm) ?_
  have none0 : ∀ {e : Env} {Hc : Heap}, AgX [] H1 Hc → findV n (ls, l) ts = none → ∃ tv hv dv, (Value.tuple #[.agg #[nilS, nilS, nilS], .bool false]) = .tuple #[.agg #[tv, hv, dv], .bool (findV n (ls, l) ts).isSome] ∧ AgX [] H (Hc.set (H.length + 1) ⟨[nilS, nilS, nilS], 0, 0, false, true⟩) ∧ PlanR H.length (Hc.set (H.length + 1) ⟨[nilS, nilS, nilS], 0, 0, false, true⟩) tv hv dv ts (findV n (ls, l) ts) (doesL n (ls, l) ts) := fun {e Hc} hx hn => by
    rw [hn]
    exact ⟨_, _, _, rfl, (hx1.tr hx).setN (by omega) _, rfl, rfl, rfl⟩
  cases ht : typeP n (ls, l) with
  | false =>
    have hn : findV n (ls, l) ts = none := by unfold findV; rw [ht]; rfl
    simp only [go_sem, binC]
    refine seq_cond (t := true) rfl ?_
    simp only [go_sem, binC]
    refine seq_assoc (seq_reg ?_)
    simp only [go_sem, binC, hb4]
    refine seq_ret ⟨Or.inr rfl, .tuple #[.agg #[nilS, nilS, nilS], .bool false], ?_, none0 (e := ini []) (AgX.refl _ _) hn⟩
    simp [resV, resL, res1, putE_get, notT, ptr, gc_set hl1, inBlk_some, valOf]
  | true =>
  simp only [go_sem, binC]
  refine op_callQ (by simp only [go_sem, binC]; exact gtr.k H1 _ ts (r3.mono (agx_sub hx1))) ?_
  cases hk : trK ts with
  | false =>
    have hn : findV n (ls, l) ts = none := by unfold findV; rw [hk, Bool.and_false]; rfl
    simp only [go_sem, binC]
    refine seq_cond (t := true) rfl ?_
    simp only [go_sem, binC]
    refine seq_assoc (seq_reg ?_)
    simp only [go_sem, binC, hb4]
    refine seq_ret ⟨Or.inr rfl, .tuple #[.agg #[nilS, nilS, nilS], .bool false], ?_, none0 (e := ini []) (AgX.refl _ _) hn⟩
    simp [resV, resL, res1, putE_get, notT, ptr, gc_set hl1, inBlk_some, valOf]
  | true =>
  simp only [go_sem, binC]
  refine seq_cond (t := false) rfl ?_
  simp only [go_sem, binC]
  have htr := trK_iff.1 hk
  have hP : progB n (ls, l) = true := by
    unfold typeP at ht
    simp only [Bool.and_eq_true] at ht
    exact ht.1
  have hfind : findV n (ls, l) ts = (hmL ls ts ls.length).find? (fitsB n (ls, l) ts) := by unfold findV; rw [ht, hk]; rfl
  have hcnt : (allL n l).length ≤ 8 := progB_cnt hP hsm
  have hlab : ls.all labB = true := progB_lab hP
  have hls4 : ls.length ≤ 4 := progB_len hP
  refine seq_skip (seq_reg ?_)
  simp only [go_sem, binC, gc_of hb2, inBlk_some, osv]
  obtain ⟨wa, H2, k2, hx2, oa⟩ := ga H1 n _ sv ls l (r1.mono (agx_sub hx1)) (r2.mono (agx_sub hx1)) hsm hP
  refine op_callK (by simp only [go_sem, binC]; exact k2) ?_
  obtain ⟨aa, haa⟩ := oa.shape
  have hatl := atL_len ls (7, 7) l
  rw [hatl] at haa
  subst haa
  simp only [go_sem, binC]
  have hb22 := hx2.get hb2 (by simp)
  have hx02 := hx1.tr hx2
  refine seq_assoc (seq_reg ?_)
  simp only [go_sem, binC, gc_of hb22, inBlk_some, osv]
  obtain ⟨wh, H3, k3, hx3, oh⟩ := gh H2 _ sv _ ls ts osv (r1.mono (agx_sub hx02)) hlab hls4 (r3.mono (agx_sub hx02)) htr
  refine op_callK (by simp only [go_sem, binC]; exact k3) ?_
  obtain ⟨ah, hah⟩ := oh.shape
  subst hah
  simp only [go_sem, binC]
  have hx03 := hx02.tr hx3
  have hb23 := hx3.get hb22 (by simp)
  have hb43 := hx3.get (hx2.get hb4 (by simp)) (by simp)
  have oa3 := oa.keep (Nat.le_refl _) hx3 (fun _ _ => by simp)
  have hallat : (atL n ls (7, 7) l).all labB = true := atL_lab hlab rfl l
  have hx13 := hx2.tr hx3
  have hl3 := hx13.1
  refine seq_block (wpc_loop ?_)
  suffices hh : ∀ (k i : Nat) (e : Env) (Hc : Heap), i + k = (hmL ls ts ls.length).length → AgX [] H3 Hc → (hmL ls ts ls.length).find? (fitsB n (ls, l) ts) = ((hmL ls ts ls.length).drop i).find? (fitsB n (ls, l) ts) → e 1 = .slice ta ts.length ts.length → e 2 = ptr H.length 0 → e 4 = ptr (H.length + 1) 0 → e 6 = .slice aa (allL n l).length (allL n l).length → e 25 = .slice ah (hmL ls ts ls.length).length (hmL ls ts ls.length).length → e 26 = .int .i64 (hmL ls ts ls.length).length → e 27 = .int .i64 i → W F H.length _ e Hc _ from
    hh (hmL ls ts ls.length).length 0 _ H3 (by omega) (AgX.refl _ _) rfl (by simp only [go_sem, binC]) (by simp only [go_sem, binC]) (by simp only [go_sem, binC]) (by simp only [go_sem, binC]) (by simp only [go_sem, binC]) (by simp only [go_sem, binC]) (by (simp only [go_sem, binC]) <;> rfl)
  intro k
  induction k with
  | zero =>
    intro i e Hc hi hxc hfd e1 e2 e4 e6 e25 e26 e27
    rw [List.drop_of_length_le (by omega)] at hfd
    have hb4c := hxc.get hb43 (by simp)
    have hb4l := (List.getElem?_eq_some_iff.1 hb4c).1
    refine lp_step ?_
    refine seq_reg ?_
    simp only [go_sem, binC, e26, e27]
    refine seq_cond (t := false) (by simp only [go_sem, binC]; rw [decide_eq_false (by omega)]) ?_
    simp only [go_sem, binC]
    refine seq_exit ?_
    simp only [go_sem, binC, thenX_e, out_e, thenX_n]
    refine seq_reg ?_
    simp only [go_sem, binC, e4, hb4c]
    refine wpc_ret ⟨Or.inr rfl, .tuple #[.agg #[nilS, nilS, nilS], .bool false], ?_, none0 (e := e) (hx13.tr hxc) (by rw [hfind, hfd]; rfl)⟩
    simp [resV, resL, res1, putE_get, notT, ptr, gc_set hb4l, inBlk_some, valOf, e4]
  | succ k ih =>
    intro i e Hc hi hxc hfd e1 e2 e4 e6 e25 e26 e27
    have hil : i < (hmL ls ts ls.length).length := by omega
    have hw1 : IntKind.i64.wrap ((i : Int) + 1) = ((i + 1 : Nat) : Int) := by
      have := hmL_len (ls := ls) (ts := ts) ls.length
      have h3 : 3 ^ ls.length ≤ 3 ^ 4 := Nat.pow_le_pow_right (by omega) hls4
      rw [wrap_id (by omega) (by omega)]; omega
    have hb2c := hxc.get hb23 (by simp)
    have hx0c := hx03.tr hxc
    obtain ⟨bh, csh, hwh, gch, hw, hch, hlh⟩ := (oh.keep (Nat.le_refl _) hxc (fun _ _ => by simp)).at hil
    simp only [Value.slice.injEq, and_true] at hwh
    subst hwh
    subst hch
    have hel := hmL_el ls.length _ (List.getElem_mem hil)
    rw [List.drop_eq_getElem_cons hil, List.find?_cons] at hfd
    generalize hcur : (hmL ls ts ls.length)[i] = homes at *
    have hhp : homesP ls.length homes := ⟨hel.1, hel.2.1⟩
    replace hlh : SlR Co.int (vw 0 Hc) hw homes := hlh.mono (agx_sub hxc)
    obtain ⟨_, ha, rfl, _⟩ := id hlh
    refine lp_step ?_
    refine seq_reg ?_
    simp only [go_sem, binC, e26, e27]
    refine seq_cond (t := true) (by simp only [go_sem, binC]; rw [decide_eq_true (by omega)]) ?_
    simp only [go_sem, binC]
    refine seq_skip (seq_block (seq_reg ?_))
    simp only [go_sem, binC, e25, e27]
    refine ⟨⟨by omega, by omega⟩, ?_⟩
    rw [Nat.mul_one] at gch
    simp only [go_sem, binC, Int.toNat_natCast, Nat.zero_add, Nat.mul_one, gch]
    refine seq_reg ?_
    simp only [go_sem, binC]
    refine seq_assoc (seq_reg ?_)
    simp only [go_sem, binC, e2, gc_of hb2c, inBlk_some]
    obtain ⟨wl, H4, k4, hx4, ol⟩ := gl n (vw 0 H) Hc sv l (agx_sub hx0c) r2 (by omega)
    refine op_callK (by simp only [go_sem, binC]; exact k4) ?_
    obtain ⟨al, hal⟩ := ol.shape
    have hsl := allSL_len l
    rw [hsl] at hal
    subst hal
    simp only [go_sem, binC]
    have hl4 := hx4.1
    have hlc := hxc.1
    refine seq_block (wpc_loop ?_)
    suffices hh : ∀ (m j : Nat) (e : Env) (Hd : Heap) (u : Value), j + m = (allL n l).length → AgX [] H4 Hd → LsV (fun _ => none) Co.int 1 3 H4.length Hd u ((doesL n (ls, l) ts homes).take j) → e 1 = .slice ta ts.length ts.length → e 2 = ptr H.length 0 → e 4 = ptr (H.length + 1) 0 → e 6 = .slice aa (allL n l).length (allL n l).length → e 25 = (.slice (some ⟨bh, 0, none⟩) (hmL ls ts ls.length).length (hmL ls ts ls.length).length) → e 26 = .int .i64 (hmL ls ts ls.length).length → e 27 = .int .i64 i → e 8 = .slice ha homes.length homes.length → e 9 = u → e 33 = .slice al (allL n l).length (allL n l).length → e 34 = .int .i64 (allL n l).length → e 35 = .int .i64 j → W F H.length _ e Hd _ from
      hh (allL n l).length 0 _ H4 nilS (by omega) (AgX.refl _ _) (by simpa using LsV.nil) (by simp only [go_sem, binC, e1]) (by simp only [go_sem, binC, e2]) (by simp only [go_sem, binC, e4]) (by simp only [go_sem, binC, e6]) (by simp only [go_sem, binC, e25]) (by simp only [go_sem, binC, e26]) (by simp only [go_sem, binC, e27]) (by simp only [go_sem, binC]) (by simp only [go_sem, binC]) (by simp only [go_sem, binC]) (by simp only [go_sem, binC]) (by (simp only [go_sem, binC]) <;> rfl)
    clear e1 e2 e4 e6 e25 e26 e27
    intro m
    induction m with
    | zero =>
      intro j e Hd u hj hxd hu e1 e2 e4 e6 e25 e26 e27 e8 e9 e33 e34 e35
      have hdl := doesL_len (n := n) (p := (ls, l)) (ts := ts) (homes := homes)
      rw [List.take_of_length_le (by rw [hdl]; show (allL n l).length ≤ j; omega)] at hu
      have hxcd := hx4.tr hxd
      have hx3d := hxc.tr hxcd
      have hx0d := hx0c.tr hxcd
      have hb4d := hxcd.get (hxc.get hb43 (by simp)) (by simp)
      have hb4dl := (List.getElem?_eq_some_iff.1 hb4d).1
      refine lp_step ?_
      refine seq_reg ?_
      simp only [go_sem, binC, e34, e35]
      refine seq_cond (t := false) (by simp only [go_sem, binC]; rw [decide_eq_false (by omega)]) ?_
      simp only [go_sem, binC]
      refine seq_exit ?_
      simp only [go_sem, binC, thenX_e, out_e, thenX_n]
      refine seq_reg ?_
      simp only [go_sem, binC, e9]
      obtain ⟨au, hau⟩ := hu.shape
      subst hau
      have hus : SlR Co.int (vw 0 Hd) (.slice au (doesL n (ls, l) ts homes).length (doesL n (ls, l) ts homes).length) (doesL n (ls, l) ts homes) := (hu.mono (V' := vw 0 Hd) (fun _ _ h => by cases h)).sl rfl (fun _ _ h => h)
      refine op_callQ (by simp only [go_sem, binC]; exact gk Hd _ _ (-1) hus) ?_
      cases hin : decide (-1 ∈ doesL n (ls, l) ts homes) with
      | true =>
        have hft : fitsB n (ls, l) ts homes = false := by unfold fitsB; rw [hin]; rfl
        rw [hft] at hfd
        simp only [go_sem, binC]
        refine wpc_cond (t := false) rfl ?_
        simp only [go_sem, binC]
        refine wpc_skip ?_
        simp only [go_sem, binC, out_n, thenX_n]
        refine wpc_reg ?_
        simp only [go_sem, binC, e27, hw1]
        simp only [go_sem, binC, thenX_n]
        exact ih (i + 1) _ Hd (by omega) hx3d (by rw [hfd]) (by simp only [go_sem, binC, e1]) (by simp only [go_sem, binC, e2]) (by simp only [go_sem, binC, e4]) (by simp only [go_sem, binC, e6]) (by simp only [go_sem, binC, e25]) (by simp only [go_sem, binC, e26]) (by simp only [go_sem, binC])
      | false =>
        have hft : fitsB n (ls, l) ts homes = true := by unfold fitsB; rw [hin]; rfl
        rw [hft] at hfd
        simp only [go_sem, binC]
        refine wpc_cond (t := true) rfl ?_
        simp only [go_sem, binC]
        refine seq_reg ?_
        simp only [go_sem, binC, e1, e8, e9]
        have hts : ts.length = 3 := htr.1
        obtain ⟨tv, hv, dv, H5, k5, hx5, own⟩ := gc Hd _ _ _ ts homes (doesL n (ls, l) ts homes) (r3.mono (agx_sub hx0d)) (hlh.mono (agx_sub hxcd)) hus (by omega) (by have := hhp.1; omega) (by rw [hdl]; show (allL n l).length ≤ _; omega)
        refine op_callK (by simp only [go_sem, binC, e1, e8, e9]; exact k5) ?_
        have hb45 := hx5.get hb4d (by simp)
        have hb45l := (List.getElem?_eq_some_iff.1 hb45).1
        obtain ⟨a1, q1⟩ := (own.t (fun _ => none)).shape
        obtain ⟨a2, q2⟩ := (own.h (fun _ => none)).shape
        obtain ⟨a3, q3⟩ := (own.d (fun _ => none)).shape
        subst q1 q2 q3
        simp only [go_sem, binC, e4, hb45]
        refine wpc_ret ?_
        simp only [go_sem, binC, out_r, thenX_r]
        have hxs : AgX [H.length + 1] H5 (H5.set (H.length + 1) ⟨[.slice a1 ts.length ts.length, .slice a2 homes.length homes.length, .slice a3 (doesL n (ls, l) ts homes).length (doesL n (ls, l) ts homes).length], 0, 0, false, true⟩) := AgX.set _ _ _
        have hdle : H.length + 1 < Hd.length := hb4dl
        refine ⟨Or.inr rfl, .tuple #[.agg #[.slice a1 ts.length ts.length, .slice a2 homes.length homes.length, .slice a3 (doesL n (ls, l) ts homes).length (doesL n (ls, l) ts homes).length], .bool true], ?_, _, _, _, by rw [hfind, hfd]; rfl, (hx0d.tr hx5).setN (by omega) _, ?_⟩
        · simp [resV, resL, res1, putE_get, notT, ptr, gc_set hb45l, inBlk_some, valOf, e4]
        · rw [hfind, hfd]
          exact own.keep (by omega) hxs (fun b hb => by simp; omega)
    | succ m ih2 =>
      intro j e Hd u hj hxd hu e1 e2 e4 e6 e25 e26 e27 e8 e9 e33 e34 e35
      have hjl : j < (allL n l).length := by omega
      have hja : j < (atL n ls (7, 7) l).length := by omega
      have hjs : j < (allSL n l).length := by omega
      have hw2 : IntKind.i64.wrap ((j : Int) + 1) = ((j + 1 : Nat) : Int) := by rw [wrap_id (by omega) (by omega)]; omega
      have hdl := doesL_len (n := n) (p := (ls, l)) (ts := ts) (homes := homes)
      have hjd : j < (doesL n (ls, l) ts homes).length := by rw [hdl]; exact hjl
      have htk : (doesL n (ls, l) ts homes).take (j + 1) = (doesL n (ls, l) ts homes).take j ++ [doerV ls ts homes (shA (allSL n l)[j]) (stA ls (allSL n l)[j]) (atL n ls (7, 7) l)[j]] := by
        rw [List.take_add_one, List.getElem?_eq_getElem hjd]
        simp [doesL]
      have hxcd := hx4.tr hxd
      have hx3d := hxc.tr hxcd
      have hx0d := hx0c.tr hxcd
      have hb2d := hxcd.get hb2c (by simp)
      obtain ⟨ba, ca, hwa, gca, rda⟩ := (oa3.keep (Nat.le_refl _) hx3d (fun _ _ => by simp)).at hja
      rw [hatl] at hwa
      simp only [Value.slice.injEq, and_true] at hwa
      subst hwa
      obtain ⟨bs, cs, hws, gcs, rds⟩ := (ol.keep (Nat.le_refl _) hxd (fun _ _ => by simp)).at hjs
      rw [hsl] at hws
      simp only [Value.slice.injEq, and_true] at hws
      subst hws
      have hokj := progB_okA hP (List.getElem_mem hjs)
      have hoj : labB (atL n ls (7, 7) l)[j] = true := List.all_eq_true.1 hallat _ (List.getElem_mem hja)
      generalize (atL n ls (7, 7) l)[j] = hr at rda hoj htk
      generalize (allSL n l)[j] = sj at rds hokj htk
      obtain ⟨ra, rb⟩ := hr
      obtain ⟨_, _, rfl, ⟨hq1, _⟩, ⟨hq2, _⟩⟩ := rda
      simp only at hq1 hq2
      subst hq1 hq2
      have rdsc := rds
      obtain ⟨sk, sx, sa, sbb, sc, sg, tv, ev, tl, el, hs2, hcs, rg, otv, oev, _, _⟩ := anyS_rd rds
      subst hcs
      have hldd := hxd.1
      refine lp_step ?_
      refine seq_reg ?_
      simp only [go_sem, binC, e34, e35]
      refine seq_cond (t := true) (by simp only [go_sem, binC]; rw [decide_eq_true (by omega)]) ?_
      simp only [go_sem, binC]
      refine seq_skip (seq_block (seq_reg ?_))
      simp only [go_sem, binC, e33, e35]
      refine ⟨⟨by omega, by omega⟩, ?_⟩
      simp only [go_sem, binC, Int.toNat_natCast, Nat.zero_add, gcs, otv, oev]
      refine ⟨by omega, ?_⟩
      refine wpc_gen fun H5 hH5 => ?_
      have hx5 : AgX [] Hd H5 := hH5 ▸ AgX.app [] _ _
      have hs5 : H5[Hd.length]? = some ⟨[.int .i64 sk, .int .i64 sx, .int .i64 sa, .int .i64 sbb, .int .i64 sc, .int .i64 sg, tv, ev], 0, 0, false, true⟩ := hH5 ▸ get_new0 _ _
      clear hH5
      have hb25 := hx5.get hb2d (by simp)
      have gca5 := gcK gca hx5
      have hx05 := hx0d.tr hx5
      have hl5 := hx5.1
      have hu5 := hu.keep (Nat.le_refl _) hx5 (fun _ _ => by simp)
      have hdr := doerV_le (ls := ls) (ts := ts) (homes := homes) (s := shA sj) (st := stA ls sj) (own := (ra, rb))
      refine wpc_regD ?_
      simp only [go_sem, binC, e1, e2, e6, e8, e9, gc_of hb25, gc_of hs5, inBlk_some, osv, otv, oev]
      refine ⟨⟨by omega, by omega⟩, ?_⟩
      simp only [go_sem, binC, Int.toNat_natCast, Nat.zero_add, gca5]
      refine op_callQ (by simp only [go_sem, binC]; exact gd H5 _ sv _ _ _ ls ts homes sj (ra, rb) osv (r1.mono (agx_sub hx05)) hlab (r3.mono (agx_sub hx05)) htr (hlh.mono (agx_sub (hxcd.tr hx5))) hhp (Co.anyS.mono (agx_sub (hx0d.tr hx5)) rdsc) hokj hoj) ?_
      simp only [go_sem, binC]
      refine op_app_ls1 (V := fun _ => none) (A := Co.int) (lo := H4.length) (a := doerV ls ts homes (shA sj) (stA ls sj) (ra, rb)) hu5 (by simp only [go_sem, binC, e9]) (by (simp only [go_sem, binC]) <;> rfl) rfl ⟨rfl, by omega, by omega⟩ (by omega) (by omega) (by rw [List.length_take]; omega) (by omega) fun H6 u6 hx6 hca6 hn6 ho6 => ?_
      simp only [go_sem, binC, out_n, thenX_n]
      have hxd6 : AgX [] H4 H6 := (hxd.tr hx5).trans hx6 (fun _ h _ => h) (fun b hb hl => by have := (hu5.blk hb).1; omega)
      refine wpc_reg ?_
      simp only [go_sem, binC, e35, hw2]
      simp only [go_sem, binC, thenX_n]
      refine ih2 (j + 1) _ H6 u6 (by omega) hxd6 (by rw [htk]; exact ho6) (by simp only [go_sem, binC, e1]) (by simp only [go_sem, binC, e2]) (by simp only [go_sem, binC, e4]) (by simp only [go_sem, binC, e6]) (by simp only [go_sem, binC, e25]) (by simp only [go_sem, binC, e26]) (by simp only [go_sem, binC, e27]) (by simp only [go_sem, binC, e8]) (by simp only [go_sem, binC]) (by simp only [go_sem, binC, e33]) (by simp only [go_sem, binC, e34]) (by simp only [go_sem, binC])
end Go.Proofs.YtbjeldblaclpnaaI
end
