/- What agrees between heaps; results copied out of a slice; numbers of marks. -/
import Derived.Test.YtkdhdklggdbgdaaI23
set_option linter.unusedVariables false
set_option linter.unusedSimpArgs false
namespace Go.Proofs.YtkdhdklggdbgdaaI
open Go Go.RowKit

/-- Two heaps agree on an interval of blocks. -/
def Ag (lo hi : Nat) (H H' : Heap) : Prop := ∀ b, lo ≤ b → b < hi → H'[b]? = H[b]?
theorem Ag.refl (lo hi : Nat) (H : Heap) : Ag lo hi H H := fun _ _ _ => rfl
theorem Ag.trans {lo hi lo' hi' : Nat} {H H1 H2 : Heap} (h : Ag lo hi H H1) (h' : Ag lo' hi' H1 H2) (h1 : lo' ≤ lo) (h2 : hi ≤ hi') : Ag lo hi H H2 := fun b h3 h4 => (h' b (by omega) (by omega)).trans (h b h3 h4)
theorem Ag.sub {lo hi lo' hi' : Nat} {H H1 : Heap} (h : Ag lo hi H H1) (h1 : lo ≤ lo') (h2 : hi' ≤ hi) : Ag lo' hi' H H1 := fun b h3 h4 => h b (by omega) (by omega)
theorem ag_app (H L : Heap) : Ag 0 H.length H (H ++ L) := fun b _ h => List.getElem?_append_left h
theorem Ag.vw0 {H H' : Heap} (h : Ag 0 H.length H H') : Sub (vw 0 H) (vw 0 H') := vw_grow (Nat.le_refl _) fun b _ hb => h b (Nat.zero_le _) hb
theorem vws_lt {lo : Nat} {H : Heap} {b : Nat} {cs : List Value} (h : vws lo H b = some cs) : lo ≤ b ∧ b < H.length ∧ ∃ es et ap, H[b]? = some ⟨cs, es, et, ap, true⟩ := by
  have h1 := vws_vwb (Nat.le_refl _) b cs h
  exact vwb_some h1
theorem Ag.vws {lo : Nat} {H H' : Heap} (h : Ag lo H.length H H') : Sub (vws lo H) (vw 0 H') := by
  intro b cs hb
  obtain ⟨h1, h2, es, et, ap, h3⟩ := vws_lt hb
  unfold vw
  rw [if_pos (Nat.zero_le _), h b h1 h2, h3]
  rfl
theorem Ag.vwb {lo hi : Nat} {H H' : Heap} (h : Ag lo H.length H H') (hh : H.length ≤ hi) : Sub (Go.Proofs.YtkdhdklggdbgdaaI.vws lo H) (Go.Proofs.YtkdhdklggdbgdaaI.vwb lo hi H') := by
  intro b cs hb
  obtain ⟨h1, h2, es, et, ap, h3⟩ := vws_lt hb
  exact vwb_mk h1 (by omega) ((h b h1 h2).trans h3)
theorem FrI.ag {lo hi lo' hi' : Nat} {H H' : Heap} (h : FrI lo hi H H') (h1 : hi' ≤ lo ∨ hi ≤ lo') (h2 : hi' ≤ H.length) : Ag lo' hi' H H' := fun b h3 h4 => h.out (by omega) (by omega)
theorem ag_mark {lo hi lo' hi' w n b o : Nat} {H : Heap} {v : Value} (h : FlatB lo hi H w v n b o) (k : Int) (h1 : hi' ≤ lo ∨ hi ≤ lo') : Ag lo' hi' H (if n = 0 then H else markB H b o k (n * w)) := by
  intro b' h3 h4
  split
  · rfl
  · rename_i h0
    obtain ⟨_, a, _, h5⟩ := h
    obtain ⟨_, h6, h7, _⟩ := h5.resolve_left h0
    exact markB_ne _ _ _ _ (by omega)
theorem mark_len (H : Heap) (n b o : Nat) (k : Int) (m : Nat) : (if n = 0 then H else markB H b o k m).length = H.length := by
  split
  · rfl
  · exact markB_len _ _ _ _ _
theorem gc_box {H : Heap} {b n : Nat} {cs : List Value} (h : H[b]? = some ⟨cs, 0, 0, false, true⟩) (hn : cs.length = n) : getCells H b 0 n = some cs := by
  unfold getCells
  rw [h]
  simp only [Nat.zero_add, hn, Nat.le_refl, if_true, List.drop_zero]
  rw [List.take_of_length_le (by omega)]
theorem setL_all {cs vs : List Value} (h : vs.length = cs.length) : setL cs 0 vs = vs := by
  rw [setL_eq _ _ _ (by omega), List.take_zero, List.nil_append, List.drop_of_length_le (by omega), List.append_nil]

/-- All cells of a slice. -/
theorem sl_cells {α : Type} {A : Co α} {w : Nat} (hw : A.w = w) {H : Heap} {v : Value} {l : List α} (h : SlR A (vw 0 H) v l) (hl : l ≠ []) :
    ∃ b o ys, v = .slice (some ⟨b, o, none⟩) l.length l.length ∧ getCells H b o (l.length * w) = some ys ∧ ys.length = l.length * w ∧ ∀ i (h : i < l.length), A.rd (vw 0 H) ((ys.drop (i * w)).take w) l[i] := by
  obtain ⟨h0, a, rfl, h1⟩ := h
  obtain ⟨b, o, rfl, h1'⟩ := h1.resolve_left hl
  clear h1
  have h1 := h1'
  clear h1'
  have hpos : 0 < l.length := List.length_pos_iff.2 hl
  rw [hw] at h1
  obtain ⟨cs, h2, _⟩ := h1 (l.length - 1) (by omega)
  have h3 := rng_gc h2
  unfold getCells at h3
  split at h3
  · rename_i k hk
    split at h3
    · rename_i hl2
      have hm : l.length * w = (l.length - 1) * w + w := by
        obtain ⟨n, hn⟩ : ∃ n, l.length = n + 1 := ⟨l.length - 1, by omega⟩
        rw [hn, Nat.succ_mul]; rfl
      refine ⟨b, o, (k.cells.drop o).take (l.length * w), rfl, ?_, ?_, fun i hi => ?_⟩
      · unfold getCells
        rw [hk]
        simp only
        rw [if_pos (by omega)]
      · rw [List.length_take, List.length_drop]; omega
      · obtain ⟨cs', h5, h6⟩ := h1 i hi
        have h7 := rng_gc h5
        unfold getCells at h7
        rw [hk] at h7
        simp only at h7
        have hi2 : i * w + w ≤ l.length * w := by rw [← Nat.succ_mul]; exact Nat.mul_le_mul_right _ hi
        rw [if_pos (by omega)] at h7
        simp only [Option.some.injEq] at h7
        rw [← h7] at h6
        have e : (((k.cells.drop o).take (l.length * w)).drop (i * w)).take w = (k.cells.drop (o + i * w)).take w := by
          rw [List.drop_take, List.take_take, List.drop_drop, Nat.min_eq_left (by omega)]
        rw [e]
        exact h6
    · cases h3
  · cases h3
/-- Cells in a fresh block are a slice. -/
theorem sl_fresh {α : Type} {A : Co α} {w : Nat} (hw : A.w = w) {H M : Heap} {l : List α} {ys : List Value} {lo es et : Nat} {ap : Bool} (hlo : lo ≤ H.length) (hy : ys.length = l.length * w) (h0 : l.length ≤ 9223372036854775807)
    (h : ∀ i (h : i < l.length), A.rd (vws lo (H ++ ⟨ys, es, et, ap, true⟩ :: M)) ((ys.drop (i * w)).take w) l[i]) : SlR A (vws lo (H ++ ⟨ys, es, et, ap, true⟩ :: M)) (sli H.length 0 l.length) l := by
  refine ⟨h0, _, rfl, .inr ⟨_, _, rfl, fun i hi => ⟨_, ?_, h i hi⟩⟩⟩
  have hi2 : i * w + w ≤ l.length * w := by rw [← Nat.succ_mul]; exact Nat.mul_le_mul_right _ hi
  unfold rng vws
  rw [if_pos hlo, get_new0, hw]
  simp only [List.getElem?_cons_zero, Option.bind_some, if_true, Nat.zero_add]
  rw [if_pos (by omega)]

theorem sl_at {α : Type} {A : Co α} {w : Nat} (hw : A.w = w) {H L : Heap} {l : List α} {ys : List Value} {lo es et k : Nat} {ap : Bool} (hk : L[k]? = some ⟨ys, es, et, ap, true⟩) (hlo : lo ≤ H.length) (hy : ys.length = l.length * w) (h0 : l.length ≤ 9223372036854775807)
    (h : ∀ i (h : i < l.length), A.rd (vws lo (H ++ L)) ((ys.drop (i * w)).take w) l[i]) : SlR A (vws lo (H ++ L)) (sli (H.length + k) 0 l.length) l := by
  refine ⟨h0, _, rfl, .inr ⟨_, _, rfl, fun i hi => ⟨_, ?_, h i hi⟩⟩⟩
  have hi2 : i * w + w ≤ l.length * w := by rw [← Nat.succ_mul]; exact Nat.mul_le_mul_right _ hi
  unfold rng vws
  rw [if_pos (by omega), get_new, hw, hk]
  simp only [Option.bind_some, if_true, Nat.zero_add]
  rw [if_pos (by omega)]

theorem CoSim.len {α β : Type} {A : Co α} {s : α → β} (h : CoSim A s) (w : Nat) : CoSim (Co.sl A) (fun l => l.length * w) := by
  intro V V' cs cs' l h1 h2 h3
  obtain ⟨l', h4, h5⟩ := h.sl V V' cs cs' l h1 h2 h3
  have h6 : l'.length = l.length := by simpa using congrArg List.length h5
  exact ⟨l', h4, congrArg (· * w) h6⟩
theorem CoSim.sum {α : Type} {A : Co α} {c : α → Nat} (h : CoSim A c) : CoSim (Co.sl A) (fun l => (l.map c).sum) := h.sl.comp List.sum
theorem sum_le {α : Type} (f : α → Nat) (M : Nat) : ∀ l : List α, (∀ a ∈ l, f a ≤ M) → (l.map f).sum ≤ l.length * M
  | [], _ => by simp
  | a :: l, h => by
    rw [List.map_cons, List.sum_cons, List.length_cons, Nat.succ_mul]
    have h1 := sum_le f M l fun b hb => h b (List.mem_cons_of_mem _ hb)
    have h2 := h a List.mem_cons_self
    omega
theorem wpc_gen {F : Nat → Option IFn} {lo : Nat} {c : ICode} {e : Env} {H L : Heap} {K : X → Env → Heap → Prop} (h : ∀ Hb, Hb = H ++ L → wpc F lo c e Hb K) : wpc F lo c e (H ++ L) K := h _ rfl
end Go.Proofs.YtkdhdklggdbgdaaI
