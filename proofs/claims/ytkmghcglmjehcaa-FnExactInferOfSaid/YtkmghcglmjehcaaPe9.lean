/- Texts of this proof, merged: N5, N6, N7, N8, H1, H2, U2, U1, U4, V1, V2, V3, V4, V6. -/
import Derived.Test.YtkmghcglmjehcaaPe8
section
/- After 25 rounds the reference has the labels that are found. -/
set_option linter.unusedVariables false
set_option linter.unusedSimpArgs false
namespace Go.Proofs.YtkmghcglmjehcaaI
open Go Go.RowKit
def rnd (n : Nat) (l : List (TStep n)) (free : Int → Bool) (x : List (Int × Int)) : List (Int × Int) := roundL n l free x.length x
theorem rnd_ind {n : Nat} {l : List (TStep n)} {free : Int → Bool} {x : List (Int × Int)} (h : x.all labB = true) : LeL (rnd n l free x) x ∧ ∀ m, Fix n l free m → LeL m x → LeL m (rnd n l free x) :=
  let q := rounds_ind (l := l) (free := free) (List.range x.length) x h (fun v hv => by simpa using hv)
  ⟨q.1, q.2.1⟩
theorem rnds_ind {n : Nat} {l : List (TStep n)} {free : Int → Bool} {x : List (Int × Int)} (h : x.all labB = true) : ∀ k, LeL (Nat.repeat (rnd n l free) k x) x ∧ ∀ m, Fix n l free m → LeL m x → LeL m (Nat.repeat (rnd n l free) k x)
  | 0 => ⟨LeL.refl h, fun m _ h => h⟩
  | k + 1 => by
    obtain ⟨h1, h2⟩ := rnds_ind h k
    obtain ⟨h3, h4⟩ := rnd_ind (l := l) (free := free) h1.lab
    exact ⟨h3.trans h1, fun m hm hx => h4 m hm (h2 m hm hx)⟩
theorem rnds_inf {n : Nat} {l : List (TStep n)} {free : Int → Bool} {x : List (Int × Int)} (h : x.all labB = true) (hx : x.length ≤ 4) (hv : ∀ t ∈ allL n l, varB x.length t.2.1 = true) : Inf n l free x (Nat.repeat (rnd n l free) 25 x) := by
  obtain ⟨h1, h2⟩ := rnds_ind (l := l) (free := free) h 25
  refine ⟨h1, ?_, fun m hm hf => h2 m hf hm⟩
  have hb := meas_bd x h
  have h3 := iter_fix (f := rnd n l free) (fun y hy => (rnd_ind hy).1) 25 x h (by omega)
  exact round_fix h1.lab (by rw [h1.1]; exact hv) h3
end Go.Proofs.YtkmghcglmjehcaaI
end
section
/- The program's passes end in the labels that are found. -/
set_option linter.unusedVariables false
set_option linter.unusedSimpArgs false
namespace Go.Proofs.YtkmghcglmjehcaaI
open Go Go.RowKit
/-- One step of a pass: what is set is told anew, by the labels of being done of the pass's start. -/
def passS (free : Int → Bool) (ls : List (Int × Int)) (x : Shal × (Int × Int)) : List (Int × Int) := if x.1.1 = 1 ∧ free x.1.2.1 = true then ls.set x.1.2.1.toNat (lboth (ls.getD x.1.2.1.toNat (0, 0)) (lboth x.2 (valL ls x.1.2.2.1))) else ls
def pass (n : Nat) (l : List (TStep n)) (free : Int → Bool) (ls : List (Int × Int)) : List (Int × Int) := ((allL n l).zip (atL n ls (7, 7) l)).foldl (passS free) ls
theorem passS_le {free : Int → Bool} {ls : List (Int × Int)} {x : Shal × (Int × Int)} (hl : ls.all labB = true) (hx : x.1.2.1.toNat < ls.length) : LeL (passS free ls x) ls := by
  unfold passS
  split
  · exact set_le hl hx (lboth_bd _ _)
  · exact LeL.refl hl
theorem pass_ind {free : Int → Bool} : ∀ (xs : List (Shal × (Int × Int))) (ls : List (Int × Int)), ls.all labB = true → (∀ x ∈ xs, x.1.2.1.toNat < ls.length) → LeL (xs.foldl (passS free) ls) ls ∧ (∀ m, LeL m ls → (∀ x ∈ xs, x.1.1 = 1 → free x.1.2.1 = true → ∀ ls', LeL m ls' → Le (m.getD x.1.2.1.toNat (0, 0)) (lboth x.2 (valL ls' x.1.2.2.1))) → LeL m (xs.foldl (passS free) ls)) ∧ (xs.foldl (passS free) ls = ls → ∀ x ∈ xs, passS free ls x = ls)
  | [], ls, hl, _ => ⟨LeL.refl hl, fun m h _ => h, fun _ x hx => by cases hx⟩
  | x :: xs, ls, hl, hx => by
    have hx0 := hx x List.mem_cons_self
    have h0 := passS_le (free := free) hl hx0
    obtain ⟨h1, h2, h3⟩ := pass_ind xs (passS free ls x) h0.lab fun w hw => by rw [h0.1]; exact hx w (List.mem_cons_of_mem _ hw)
    rw [List.foldl_cons]
    refine ⟨h1.trans h0, fun m hm hg => h2 m ?_ fun y hy => hg y (List.mem_cons_of_mem _ hy), fun he => ?_⟩
    · unfold passS
      split
      · rename_i hc
        refine ⟨by rw [List.length_set]; exact hm.1, fun j => ?_⟩
        rw [getD_setP hx0]
        split
        · rename_i hj
          subst hj
          exact le_lboth (hm.2 _) (hg x List.mem_cons_self hc.1 hc.2 ls hm)
        · exact hm.2 j
      · exact hm
    · have e1 : passS free ls x = ls := h0.antisymm (by rw [he] at h1; exact h1)
      intro w hw
      rcases List.mem_cons.1 hw with rfl | hw
      · exact e1
      · have := h3 (by rw [he, e1]) w hw
        rwa [e1] at this
theorem pass_all {n : Nat} {l : List (TStep n)} {free : Int → Bool} {ls : List (Int × Int)} (hl : ls.all labB = true) (hv : ∀ t ∈ allL n l, varB ls.length t.2.1 = true) : LeL (pass n l free ls) ls ∧ (∀ m, Fix n l free m → LeL m ls → LeL m (pass n l free ls)) ∧ (pass n l free ls = ls → Fix n l free ls) := by
  have hmem : ∀ x ∈ (allL n l).zip (atL n ls (7, 7) l), x.1.2.1.toNat < ls.length := fun x hx => by
    have := varB_i.1 (hv _ (List.of_mem_zip hx).1)
    omega
  obtain ⟨h1, h2, h3⟩ := pass_ind (free := free) _ ls hl hmem
  refine ⟨h1, fun m hm h => h2 m h fun x hx k1 k2 ls' h' => ?_, fun he i hi hk hf => ?_⟩
  · obtain ⟨i, hi, rfl⟩ := List.getElem_of_mem hx
    rw [List.length_zip] at hi
    have hi1 : i < (allL n l).length := by omega
    have hi2 : i < (atL n ls (7, 7) l).length := by omega
    simp only [List.getElem_zip] at k1 k2 ⊢
    have q := hm i hi1 k1 k2
    refine q.trans (lboth_mono ?_ (valL_mono h' _))
    have := (atL_mono h (Le.refl (show labB ((7, 7) : Int × Int) = true from rfl)) l).2 i
    rwa [show (atL n ls (7, 7) l).getD i (0, 0) = (atL n ls (7, 7) l)[i] by simp [List.getD, hi2]] at this
  · have hat : i < (atL n ls (7, 7) l).length := by rw [atL_len]; exact hi
    have hz : i < ((allL n l).zip (atL n ls (7, 7) l)).length := by rw [List.length_zip]; omega
    have hx := hmem _ (List.getElem_mem hz)
    have h4 := h3 he _ (List.getElem_mem hz)
    simp only [List.getElem_zip] at h4 hx
    unfold passS at h4
    rw [if_pos ⟨hk, hf⟩] at h4
    have h5 : ls.getD (allL n l)[i].2.1.toNat (0, 0) = lboth (ls.getD (allL n l)[i].2.1.toNat (0, 0)) (lboth (atL n ls (7, 7) l)[i] (valL ls (allL n l)[i].2.2.1)) := by
      conv => lhs; rw [← h4]
      rw [getD_setP hx, if_pos rfl]
    rw [h5, show (atL n ls (7, 7) l).getD i (0, 0) = (atL n ls (7, 7) l)[i] by simp [List.getD, hat]]
    exact lboth_le_r (lab_getD hl _) (lboth_bd _ _)
/-- Where a pass changes nothing any more the labels are found. -/
theorem passes_inf {n : Nat} {l : List (TStep n)} {free : Int → Bool} {x : List (Int × Int)} (h : x.all labB = true) (hv : ∀ t ∈ allL n l, varB x.length t.2.1 = true) {k : Nat} (he : pass n l free (Nat.repeat (pass n l free) k x) = Nat.repeat (pass n l free) k x) : Inf n l free x (Nat.repeat (pass n l free) k x) := by
  have hind : ∀ k, LeL (Nat.repeat (pass n l free) k x) x ∧ ∀ m, Fix n l free m → LeL m x → LeL m (Nat.repeat (pass n l free) k x) := fun k => by
    induction k with
    | zero => exact ⟨LeL.refl h, fun m _ h => h⟩
    | succ k ih =>
      obtain ⟨h3, h4, _⟩ := pass_all (free := free) ih.1.lab (fun t ht => by rw [ih.1.1]; exact hv t ht)
      exact ⟨h3.trans ih.1, fun m hm hx => h4 m hm (ih.2 m hm hx)⟩
  obtain ⟨h1, h2⟩ := hind k
  exact ⟨h1, (pass_all h1.lab (fun t ht => by rw [h1.1]; exact hv t ht)).2.2 he, fun m hm hf => h2 m hf hm⟩
end Go.Proofs.YtkmghcglmjehcaaI
end
section
/- What is fine, by the order of labels. -/
set_option linter.unusedVariables false
set_option linter.unusedSimpArgs false
namespace Go.Proofs.YtkmghcglmjehcaaI
open Go Go.RowKit
end Go.Proofs.YtkmghcglmjehcaaI
end
section
/- Labels that are found are fine if some are. -/
set_option linter.unusedVariables false
set_option linter.unusedSimpArgs false
namespace Go.Proofs.YtkmghcglmjehcaaI
open Go Go.RowKit
theorem shB_varN {k : Nat} {t : Shal} (h : shB k t = true) : varB k t.2.1 = true := by
  simp only [shB, Bool.and_eq_true] at h
  exact h.1
end Go.Proofs.YtkmghcglmjehcaaI
end
section
/- Trees of steps in blocks of one's own. -/
set_option linter.unusedVariables false
set_option linter.unusedSimpArgs false
namespace Go.Proofs.YtkmghcglmjehcaaI
open Go Go.RowKit
def shOf {n : Nat} (s : TStep (n + 1)) : Shal := (s.1, s.2.1, s.2.2.1, s.2.2.2.1)
def thOf {n : Nat} (s : TStep (n + 1)) : List (TStep n) := s.2.2.2.2.1
def elOf {n : Nat} (s : TStep (n + 1)) : List (TStep n) := s.2.2.2.2.2
def shV (s : Shal) (tv ev : Value) : List Value := [.int .i64 s.1, .int .i64 s.2.1, .int .i64 s.2.2.1.1, .int .i64 s.2.2.1.2.1, .int .i64 s.2.2.1.2.2, .int .i64 s.2.2.2, tv, ev]
def shRg (s : Shal) : Prop := RgI s.1 ∧ RgI s.2.1 ∧ RgI s.2.2.1.1 ∧ RgI s.2.2.1.2.1 ∧ RgI s.2.2.1.2.2 ∧ RgI s.2.2.2
/-- One step in memory: its cells, and the blocks of the steps in it. -/
def EltT {n : Nat} (P : Value → List (TStep n) → List Nat → Prop) (a : TStep (n + 1)) (cs : List Value) (B : List Nat) : Prop := ∃ tv ev B1 B2, cs = shV (shOf a) tv ev ∧ shRg (shOf a) ∧ P tv (thOf a) B1 ∧ P ev (elOf a) B2 ∧ B = B1 ++ B2
def BodyT {n : Nat} (P : Value → List (TStep n) → List Nat → Prop) (l : List (TStep (n + 1))) (cs : List Value) (Bs : List (List Nat)) : Prop := l.length ≤ 1048576 ∧ cs.length = l.length * 8 ∧ Bs.length = l.length ∧ Bs.flatten.Nodup ∧
  ∀ (i : Nat) (h : i < l.length) (h' : i < Bs.length), EltT P l[i] ((cs.drop (i * 8)).take 8) Bs[i]
/-- A tree of steps whose lists each lie in a block of its own. -/
def OwnT (lo : Nat) (H : Heap) : (n : Nat) → Value → List (TStep n) → List Nat → Prop
  | 0, v, l, B => v = nilS ∧ l = [] ∧ B = []
  | n + 1, v, l, B => (v = nilS ∧ l = [] ∧ B = []) ∨ ∃ b cs Bs, lo ≤ b ∧ v = sli b 0 l.length ∧ l ≠ [] ∧ H[b]? = some ⟨cs, 8, 83, true, true⟩ ∧ B = b :: Bs.flatten ∧ b ∉ Bs.flatten ∧ BodyT (OwnT lo H n) l cs Bs
theorem OwnT.nil {lo : Nat} {H : Heap} : ∀ {n : Nat}, OwnT lo H n nilS [] []
  | 0 => ⟨rfl, rfl, rfl⟩
  | n + 1 => .inl ⟨rfl, rfl, rfl⟩
theorem OwnT.one {lo : Nat} {H : Heap} : ∀ {n : Nat} {v : Value} {l : List (TStep n)} {B : List Nat}, OwnT lo H n v l B → one v = true
  | 0, v, l, B, ⟨h, _⟩ => by rw [h]; rfl
  | n + 1, v, l, B, .inl ⟨h, _⟩ => by rw [h]; rfl
  | n + 1, v, l, B, .inr ⟨b, cs, Bs, _, h, _⟩ => by rw [h]; rfl
theorem EltT.imp {n : Nat} {P P' : Value → List (TStep n) → List Nat → Prop} {a : TStep (n + 1)} {cs : List Value} {B : List Nat} (h : EltT P a cs B) (h1 : ∀ v l B1, (∀ b ∈ B1, b ∈ B) → P v l B1 → P' v l B1) : EltT P' a cs B := by
  obtain ⟨tv, ev, B1, B2, e1, e2, e3, e4, rfl⟩ := h
  exact ⟨tv, ev, B1, B2, e1, e2, h1 _ _ _ (fun b hb => List.mem_append_left _ hb) e3, h1 _ _ _ (fun b hb => List.mem_append_right _ hb) e4, rfl⟩
theorem mem_flat {Bs : List (List Nat)} {i : Nat} (hi : i < Bs.length) {b : Nat} (hb : b ∈ Bs[i]) : b ∈ Bs.flatten := List.mem_flatten.2 ⟨_, List.getElem_mem hi, hb⟩
theorem BodyT.imp {n : Nat} {P P' : Value → List (TStep n) → List Nat → Prop} {l : List (TStep (n + 1))} {cs : List Value} {Bs : List (List Nat)} (h : BodyT P l cs Bs) (h1 : ∀ v l B1, (∀ b ∈ B1, b ∈ Bs.flatten) → P v l B1 → P' v l B1) : BodyT P' l cs Bs := by
  obtain ⟨a0, a1, a2, a3, a4⟩ := h
  exact ⟨a0, a1, a2, a3, fun i h h' => (a4 i h h').imp fun v l B1 hs hp => h1 v l B1 (fun b hb => mem_flat h' (hs b hb)) hp⟩
theorem BodyT.nil {n : Nat} {P : Value → List (TStep n) → List Nat → Prop} : BodyT P [] [] [] := ⟨by simp, rfl, rfl, by simp, fun i h => by simp at h⟩
theorem OwnT.keep {lo lo' : Nat} {H H' : Heap} : ∀ {n : Nat} {v : Value} {l : List (TStep n)} {B : List Nat}, OwnT lo H n v l B → lo' ≤ lo → (∀ b ∈ B, H'[b]? = H[b]?) → OwnT lo' H' n v l B
  | 0, v, l, B, h, _, _ => h
  | n + 1, v, l, B, .inl h, _, _ => .inl h
  | n + 1, v, l, B, .inr ⟨b, cs, Bs, h1, h2, h3, h5, h8, h9, h10⟩, hlo, hk => by
    refine .inr ⟨b, cs, Bs, by omega, h2, h3, ?_, h8, h9, h10.imp fun v l B1 hs h => OwnT.keep h hlo fun b' hb' => hk b' (by rw [h8]; exact List.mem_cons_of_mem _ (hs b' hb'))⟩
    rw [hk b (by rw [h8]; exact List.mem_cons_self)]; exact h5
theorem OwnT.ge {lo : Nat} {H : Heap} : ∀ {n : Nat} {v : Value} {l : List (TStep n)} {B : List Nat}, OwnT lo H n v l B → ∀ b ∈ B, lo ≤ b ∧ b < H.length ∧ ∃ cs, H[b]? = some ⟨cs, 8, 83, true, true⟩
  | 0, v, l, B, ⟨_, _, h⟩, b, hb => by rw [h] at hb; cases hb
  | n + 1, v, l, B, .inl ⟨_, _, h⟩, b, hb => by rw [h] at hb; cases hb
  | n + 1, v, l, B, .inr ⟨b0, cs, Bs, h1, h2, h3, h5, h8, h9, ⟨a0, a1, a2, a3, a4⟩⟩, b, hb => by
    rw [h8, List.mem_cons] at hb
    rcases hb with rfl | hb
    · exact ⟨h1, (List.getElem?_eq_some_iff.1 h5).1, cs, h5⟩
    · obtain ⟨X, hX, hbX⟩ := List.mem_flatten.1 hb
      obtain ⟨i, hi, rfl⟩ := List.getElem_of_mem hX
      obtain ⟨tv, ev, B1, B2, _, _, e3, e4, e5⟩ := a4 i (by omega) hi
      rw [e5, List.mem_append] at hbX
      rcases hbX with h | h
      · exact OwnT.ge e3 b h
      · exact OwnT.ge e4 b h
theorem OwnT.nodup {lo : Nat} {H : Heap} : ∀ {n : Nat} {v : Value} {l : List (TStep n)} {B : List Nat}, OwnT lo H n v l B → B.Nodup
  | 0, v, l, B, ⟨_, _, h⟩ => by rw [h]; exact List.nodup_nil
  | n + 1, v, l, B, .inl ⟨_, _, h⟩ => by rw [h]; exact List.nodup_nil
  | n + 1, v, l, B, .inr ⟨b0, cs, Bs, h1, h2, h3, h5, h8, h9, ⟨a0, a1, a2, a3, a4⟩⟩ => by rw [h8]; exact List.nodup_cons.2 ⟨h9, a3⟩
theorem OwnT.len {lo : Nat} {H : Heap} : ∀ {n : Nat} {v : Value} {l : List (TStep n)} {B : List Nat}, OwnT lo H n v l B → l.length ≤ 1048576 ∧ ∃ a, v = .slice a l.length l.length
  | 0, v, l, B, ⟨h, h2, _⟩ => by rw [h, h2]; exact ⟨by simp, none, rfl⟩
  | n + 1, v, l, B, .inl ⟨h, h2, _⟩ => by rw [h, h2]; exact ⟨by simp, none, rfl⟩
  | n + 1, v, l, B, .inr ⟨b, cs, Bs, _, h, _, _, _, _, ⟨a0, _⟩⟩ => ⟨a0, _, h⟩
theorem OwnT.sl {lo : Nat} {H : Heap} : ∀ {n : Nat} {v : Value} {l : List (TStep n)} {B : List Nat}, OwnT lo H n v l B → SlR (Co.step n) (vws lo H) v l
  | 0, v, l, B, ⟨h, h2, _⟩ => by rw [h, h2]; exact ⟨by simp, none, rfl, .inl rfl⟩
  | n + 1, v, l, B, .inl ⟨h, h2, _⟩ => by rw [h, h2]; exact ⟨by simp, none, rfl, .inl rfl⟩
  | n + 1, v, l, B, .inr ⟨b, cs, Bs, h1, h2, h3, h5, h8, h9, ⟨a0, a1, a2, a3, a4⟩⟩ => by
    refine ⟨by omega, _, h2, .inr ⟨b, 0, rfl, fun i hi => ?_⟩⟩
    obtain ⟨tv, ev, B1, B2, e1, e2, e3, e4, e5⟩ := a4 i hi (by omega)
    have hr := step_rd e2.1 e2.2.1 e2.2.2.1 e2.2.2.2.1 e2.2.2.2.2.1 e2.2.2.2.2.2 (OwnT.sl e3) (OwnT.sl e4)
    refine ⟨shV (shOf l[i]) tv ev, ?_, hr⟩
    unfold rng vws
    rw [if_pos h1, h5]
    simp only [Option.bind_some, if_true, Nat.zero_add, step_w]
    rw [if_pos (by have : i * 8 + 8 ≤ l.length * 8 := by omega
                   omega), ← e1]
theorem flat_apart {Bs : List (List Nat)} (h : Bs.flatten.Nodup) {i j : Nat} (hi : i < Bs.length) (hj : j < Bs.length) (hij : i ≠ j) {b : Nat} (hb : b ∈ Bs[i]) : b ∉ Bs[j] := by
  have hp := (List.pairwise_flatten.1 h).2
  intro hb2
  rcases Nat.lt_or_ge i j with hlt | hge
  · exact (List.pairwise_iff_getElem.1 hp i j hi hj hlt) b hb b hb2 rfl
  · exact (List.pairwise_iff_getElem.1 hp j i hj hi (by omega)) b hb2 b hb rfl
theorem flat_in {Bs : List (List Nat)} (h : Bs.flatten.Nodup) {i : Nat} (hi : i < Bs.length) : Bs[i].Nodup := (List.pairwise_flatten.1 h).1 _ (List.getElem_mem hi)
/-- A step more. -/
theorem BodyT.snoc {n : Nat} {P P' : Value → List (TStep n) → List Nat → Prop} {l : List (TStep (n + 1))} {cs cs8 : List Value} {Bs : List (List Nat)} {a : TStep (n + 1)} {B : List Nat} (h : BodyT P l cs Bs) (h1 : ∀ v l B1, (∀ b ∈ B1, b ∈ Bs.flatten) → P v l B1 → P' v l B1) (ha : EltT P' a cs8 B) (hB : B.Nodup) (hap : ∀ b ∈ B, b ∉ Bs.flatten) (hl : l.length < 1048576) : BodyT P' (l ++ [a]) (cs ++ cs8) (Bs ++ [B]) := by
  obtain ⟨a0, a1, a2, a3, a4⟩ := h
  have h8 : cs8.length = 8 := by obtain ⟨tv, ev, B1, B2, e1, _⟩ := ha; rw [e1]; rfl
  refine ⟨by rw [List.length_append, List.length_singleton]; omega, by rw [List.length_append, List.length_append, a1, h8, List.length_singleton]; omega, by rw [List.length_append, List.length_append, a2]; rfl, ?_, fun i hi hi' => ?_⟩
  · rw [List.flatten_append, List.nodup_append]
    refine ⟨a3, by simpa using hB, fun x hx y hy => ?_⟩
    simp only [List.flatten_cons, List.flatten_nil, List.append_nil] at hy
    intro he
    subst he
    exact hap x hy hx
  · rcases Nat.lt_or_ge i l.length with hlt | hge
    · rw [List.getElem_append_left hlt, List.getElem_append_left (by omega : i < Bs.length)]
      have := (a4 i hlt (by omega)).imp fun v l B1 hs hp => h1 v l B1 (fun b hb => mem_flat (by omega) (hs b hb)) hp
      have hd : ((cs ++ cs8).drop (i * 8)).take 8 = (cs.drop (i * 8)).take 8 := by
        rw [List.drop_append_of_le_length (by omega), List.take_append_of_le_length (by rw [List.length_drop]; omega)]
      rw [hd]
      exact this
    · have hil : i = l.length := by rw [List.length_append, List.length_singleton] at hi; omega
      subst hil
      have e1 : (l ++ [a])[l.length]'hi = a := by simp
      have e2 : (Bs ++ [B])[l.length]'hi' = B := by
        rw [List.getElem_append_right (by omega)]; simp
      rw [e1, e2, List.drop_append, List.drop_of_length_le (by omega), a1, Nat.sub_self, List.nil_append, List.drop_zero, List.take_of_length_le (by omega)]
      exact ha
end Go.Proofs.YtkmghcglmjehcaaI
end
section
/- Steps copied; steps changed in their place. -/
set_option linter.unusedVariables false
set_option linter.unusedSimpArgs false
namespace Go.Proofs.YtkmghcglmjehcaaI
open Go Go.RowKit
def c_cloneSteps : IFn := ⟨1, 26, [.t 2],
 .seq (.reg none [
    ⟨(some 2), none, .mov (.c (.slice none 0 0))⟩])
 (.seq (.reg none [
    ⟨(some 3), none, .mov (.c (.slice none 0 0))⟩])
 (.seq (.seq (.reg none [
     ⟨(some 6), none, .mov (.t 0)⟩,
     ⟨(some 7), none, .len (.t 6)⟩,
     ⟨(some 8), none, .mov (.c (.int .i64 0))⟩])
  (.block 0 (.loop (.seq (.reg none [
       ⟨(some 9), none, .bin .lss (.t 8) (.t 7)⟩])
    (.seq (.cond (.t 9) (.skip) (.exit 0))
    (.seq (.block 1 (.seq (.reg none [
         ⟨(some 10), none, .iad 8 (.t 6) (.t 8)⟩,
         ⟨(some 11), none, .load true 8 (.t 10)⟩,
         ⟨(some 5), none, .new [(.int .i64 0), (.int .i64 0), (.int .i64 0), (.int .i64 0), (.int .i64 0), (.int .i64 0), (.slice none 0 0), (.slice none 0 0)]⟩,
         ⟨none, none, .store 8 (.t 5) (.t 11)⟩])
      (.seq (.reg (some 7) [
         ⟨(some 12), none, .fad 6 (.t 5)⟩,
         ⟨(some 13), none, .load false 1 (.t 12)⟩,
         ⟨(some 14), none, .call .k (.f 110) [(.t 13)]⟩,
         ⟨(some 15), none, .fad 7 (.t 5)⟩,
         ⟨(some 16), none, .load false 1 (.t 15)⟩,
         ⟨(some 17), none, .call .k (.f 110) [(.t 16)]⟩,
         ⟨(some 18), none, .fad 6 (.t 5)⟩,
         ⟨none, none, .store 1 (.t 18) (.t 14)⟩,
         ⟨(some 19), none, .fad 7 (.t 5)⟩,
         ⟨none, none, .store 1 (.t 19) (.t 17)⟩])
      (.reg none [
        ⟨(some 20), none, .mov (.t 3)⟩,
        ⟨(some 21), none, .load true 8 (.t 5)⟩,
        ⟨(some 22), none, .lit 8 83 1 [(.int .i64 0), (.int .i64 0), (.int .i64 0), (.int .i64 0), (.int .i64 0), (.int .i64 0), (.slice none 0 0), (.slice none 0 0)] [(0, 8, (.t 21))]⟩,
        ⟨(some 23), none, .app 8 83 96 true (.t 20) (.t 22)⟩,
        ⟨(some 3), none, .mov (.t 23)⟩]))))
    (.reg none [
      ⟨(some 24), none, .bin .add (.t 8) (.c (.int .i64 1))⟩,
      ⟨(some 8), none, .mov (.t 24)⟩])))))))
 (.seq (.reg none [
    ⟨(some 25), none, .mov (.t 3)⟩,
    ⟨(some 2), none, .mov (.t 25)⟩])
 (.ret))))⟩
theorem op_app_kill {F : Nat → Option IFn} {lo0 es et bytes : Nat} {x y : Opd} {e : Env} {H : Heap} {cs ys : List Value} {b n : Nat} {K : Value → Heap → Prop} (hk : H[b]? = some ⟨cs, es, et, true, true⟩) (hn : cs.length = n * es) (hx : x.ev e = sli b 0 n) (hy : y.ev e = sli H.length 0 1) (hlo : lo0 ≤ b) (hyl : ys.length = es) (hl : n < 1048576) (hb : bytes ≤ 1048576)
    (k : ∀ H', AgX [b] H H' → H'[H.length + 1]? = some ⟨cs ++ ys, es, et, true, true⟩ → K (sli (H.length + 1) 0 (n + 1)) H') : wpOp F lo0 (.app es et bytes true x y) e (H ++ [⟨ys, es, et, true, true⟩]) K := by
  have hbl := (List.getElem?_eq_some_iff.1 hk).1
  have hbytes : (n + 1) * bytes ≤ 1048576 * 1048576 := Nat.mul_le_mul (by omega) hb
  refine op_app _ _ _ _ _ (b := ⟨b, 0, none⟩) (n := n) (c := n) (a := ⟨H.length, 0, none⟩) (m := 1) (c' := 1) (ys := ys) (kb := ⟨cs, es, et, true, true⟩) hx hy (by omega) ?_ ?_ ⟨hlo, rfl, rfl, rfl, rfl, hn, by omega, by omega⟩ ?_
  · unfold getCells
    rw [get_new0]
    simp only [List.getElem?_cons_zero, Nat.one_mul, Nat.zero_add]
    rw [if_pos (by omega), List.drop_zero, List.take_of_length_le (by omega)]
  · show (H ++ [_])[b]? = _
    rw [List.getElem?_append_left hbl]; exact hk
  · have hset : (H ++ ([⟨ys, es, et, true, true⟩] : Heap)).set b ⟨[], es, et, false, true && n == 0⟩ = H.set b ⟨[], es, et, false, true && n == 0⟩ ++ [⟨ys, es, et, true, true⟩] := List.set_append_left _ _ hbl
    simp only [if_true, Bool.or_true, Bool.and_true, List.length_append, List.length_cons, List.length_nil, Nat.zero_add]
    rw [hset, List.append_assoc]
    have hag : AgX [b] H (H.set b ⟨[], es, et, false, true && n == 0⟩ ++ ([⟨ys, es, et, true, true⟩] ++ [⟨cs ++ ys, es, et, true, true⟩])) := (AgX.set H b _).trans (AgX.app [] _ _) (fun b h _ => h) (fun b h _ => by cases h)
    refine k _ hag ?_
    have : H.length + 1 = (H.set b ⟨[], es, et, false, true && n == 0⟩).length + 1 := by rw [List.length_set]
    rw [this, get_new]
    rfl
def CloneOk (F : Nat → Option IFn) (f n : Nat) : Prop := ∀ (H : Heap) (v : Value) (l : List (TStep n)), SlR (Co.step n) (vw 0 H) v l → (Co.sl (Co.step n)).sm l → ∃ v' B H', KC F f [v] H v' H' ∧ AgX [] H H' ∧ OwnT H.length H' n v' l B
theorem cloneSteps_ok {F : Nat → Option IFn} {f n : Nat} (hf : F f = some c_cloneSteps) (ih : ∀ m, n = m + 1 → CloneOk F 110 m) : CloneOk F f n := by
  intro H v l hv hsm
  suffices h : ∃ v' H', KC F f [v] H v' H' ∧ (∃ B, AgX [] H H' ∧ OwnT H.length H' n v' l B) by
    obtain ⟨v', H', h1, B, h2⟩ := h
    exact ⟨v', B, H', h1, h2⟩
  have hv0 := hv
  obtain ⟨h0, av, rfl, _⟩ := hv
  have hlm : l.length ≤ 1048576 := hsm.1
  refine KC.mk hf rfl ?_
  refine seq_reg ?_
  simp only [go_sem, binC]
  refine seq_reg ?_
  simp only [go_sem, binC]
  refine seq_assoc (seq_reg ?_)
  simp only [go_sem, binC]
  refine seq_block (wpc_loop ?_)
  suffices h : ∀ (k i : Nat) (e : Env) (Hc : Heap) (v3 : Value) (B : List Nat), i + k = l.length → AgX [] H Hc → OwnT H.length Hc n v3 (l.take i) B → e 3 = v3 → e 6 = .slice av l.length l.length → e 7 = .int .i64 l.length → e 8 = .int .i64 i → W F H.length _ e Hc _ from
    h l.length 0 _ H nilS [] (by omega) (AgX.refl _ _) OwnT.nil (by simp only [go_sem, binC]) (by simp only [go_sem, binC]) (by simp only [go_sem, binC]) (by (simp only [go_sem, binC]) <;> rfl)
  intro k
  induction k with
  | zero =>
    intro i e Hc v3 B hi hxc ho e3 e6 e7 e8
    refine lp_step ?_
    refine seq_reg ?_
    simp only [go_sem, binC, e7, e8]
    refine seq_cond (t := false) (by simp only [go_sem, binC]; rw [decide_eq_false (by omega)]) ?_
    simp only [go_sem, binC]
    refine seq_exit ?_
    simp only [go_sem, binC, thenX_e, out_e, thenX_n]
    refine seq_reg ?_
    simp only [go_sem, binC, e3]
    rw [List.take_of_length_le (by omega)] at ho
    exact wpc_ret ⟨Or.inr rfl, _, (by (simp only [go_sem, binC]) <;> rfl), B, hxc, ho⟩
  | succ k ihk =>
    intro i e Hc v3 B hi hxc ho e3 e6 e7 e8
    have hil : i < l.length := by omega
    cases n with
    | zero => exact (l[i]).elim
    | succ n =>
    obtain ⟨vb, vo, kd, vr, va, vbb, vc, hh, tv, ev, tl, el, hav, hs, rg, otv, oev, hgc, htl, hel⟩ := step_at hv0 hil
    simp only [Value.slice.injEq, and_true] at hav
    subst hav
    obtain ⟨_, tva, rfl, _⟩ := id htl
    obtain ⟨_, eva, rfl, _⟩ := id hel
    have hg8 := hgc Hc (agx_sub hxc)
    have hsi : (Co.step (n + 1)).sm l[i] := hsm.2 _ (List.getElem_mem hil)
    rw [hs] at hsi
    obtain ⟨_, _, _, _, smt, sme⟩ := hsi
    have hw1 : IntKind.i64.wrap ((i : Int) + 1) = ((i + 1 : Nat) : Int) := by rw [wrap_id (by omega) (by omega)]; omega
    have hHl := hxc.1
    refine lp_step ?_
    refine seq_reg ?_
    simp only [go_sem, binC, e7, e8]
    refine seq_cond (t := true) (by simp only [go_sem, binC]; rw [decide_eq_true (by omega)]) ?_
    simp only [go_sem, binC]
    refine seq_skip (seq_block (seq_reg ?_))
    simp only [go_sem, binC, e6, e8]
    refine ⟨⟨by omega, by omega⟩, ?_⟩
    simp only [go_sem, binC, Int.toNat_natCast, hg8, otv, oev]
    refine ⟨by omega, ?_⟩
    refine wpc_gen fun H1 hH1 => ?_
    have hx1 : AgX [] Hc H1 := hH1 ▸ AgX.app [] _ _
    have hbx : H1[Hc.length]? = some ⟨[.int .i64 kd, .int .i64 vr, .int .i64 va, .int .i64 vbb, .int .i64 vc, .int .i64 hh, (.slice tva tl.length tl.length), (.slice eva el.length el.length)], 0, 0, false, true⟩ := hH1 ▸ get_new0 _ _
    have hl1 : H1.length = Hc.length + 1 := by rw [hH1, List.length_append]; rfl
    clear hH1
    refine seq_regD ?_
    simp only [go_sem, binC, gc_of hbx, inBlk_some]
    obtain ⟨tv', B1, H2, k2, hx2, o2⟩ := ih n rfl H1 _ tl (htl.mono (agx_sub (hxc.tr hx1))) smt
    obtain ⟨_, ta', rfl⟩ := id o2.len
    refine op_callK (by simp only [go_sem, binC]; exact k2) ?_
    have hbx2 := hx2.get hbx (by simp)
    simp only [go_sem, binC, gc_of hbx2, inBlk_some]
    obtain ⟨ev', B2, H3, k3, hx3, o3⟩ := ih n rfl H2 _ el (hel.mono (agx_sub ((hxc.tr hx1).tr hx2))) sme
    obtain ⟨_, ea', rfl⟩ := id o3.len
    refine op_callK (by simp only [go_sem, binC]; exact k3) ?_
    have hbx3 := hx3.get hbx2 (by simp)
    have hl2 := hx2.1
    have hl3 := hx3.1
    have hb3l := (List.getElem?_eq_some_iff.1 hbx3).1
    have ot' := o2.one
    have oe' := o3.one
    simp only [go_sem, binC, hbx3, ot', oe']
    refine ⟨by omega, ?_⟩
    simp only [go_sem, binC, List.getElem?_set_self hb3l, ot', oe', List.set_set]
    refine ⟨by omega, ?_⟩
    refine wpc_genH fun H4 hH4 => ?_
    have hx4 : AgX [Hc.length] H3 H4 := by rw [hH4]; exact AgX.set _ _ _
    have hb4 : H4[Hc.length]? = some ⟨[.int .i64 kd, .int .i64 vr, .int .i64 va, .int .i64 vbb, .int .i64 vc, .int .i64 hh, (.slice ta' tl.length tl.length), (.slice ea' el.length el.length)], 0, 0, false, true⟩ := by rw [hH4]; exact List.getElem?_set_self hb3l
    have hl4 : H4.length = H3.length := by rw [hH4, List.length_set]
    clear hH4
    refine wpc_reg ?_
    simp only [go_sem, binC, e3, gc_of hb4, inBlk_some]
    have hag4 : AgX [] H H4 := (((hxc.tr hx1).tr hx2).tr hx3).trans hx4 (fun _ h _ => h) (fun b h1 h2 => by simp only [List.mem_singleton] at h1; omega)
    have hg2 := o2.ge
    have hg3 := o3.ge
    have hgB := ho.ge
    have hkt : ∀ b ∈ B, H4[b]? = Hc[b]? := fun b hb => by
      have h2 := (hgB b hb).2.1
      rw [hx4.2 b (by omega) (by simp; omega), hx3.2 b (by omega) (by simp), hx2.2 b (by omega) (by simp), hx1.2 b h2 (by simp)]
    have ho4 := ho.keep (Nat.le_refl _) hkt
    have o24 : OwnT H.length H4 n (.slice ta' tl.length tl.length) tl B1 := o2.keep (by omega) fun b hb => by
      have := hg2 b hb
      rw [hx4.2 b (by omega) (by simp; omega), hx3.2 b (by omega) (by simp)]
    have o34 : OwnT H.length H4 n (.slice ea' el.length el.length) el B2 := o3.keep (by omega) fun b hb => by
      have := hg3 b hb
      rw [hx4.2 b (by omega) (by simp; omega)]
    have hnd : (B1 ++ B2).Nodup := List.nodup_append.2 ⟨o2.nodup, o3.nodup, fun x hx y hy he => by have := hg2 x hx; have := hg3 y hy; omega⟩
    have hrg : shRg (shOf l[i]) := by rw [hs]; exact rg
    have helt : ∀ {H' : Heap}, (∀ b ∈ B1 ++ B2, H'[b]? = H4[b]?) → EltT (OwnT H.length H' n) l[i] [.int .i64 kd, .int .i64 vr, .int .i64 va, .int .i64 vbb, .int .i64 vc, .int .i64 hh, (.slice ta' tl.length tl.length), (.slice ea' el.length el.length)] (B1 ++ B2) := fun hk => by
      rw [hs]
      exact ⟨(.slice ta' tl.length tl.length), (.slice ea' el.length el.length), B1, B2, rfl, rg, o24.keep (Nat.le_refl _) (fun b hb => hk b (List.mem_append_left _ hb)), o34.keep (Nat.le_refl _) (fun b hb => hk b (List.mem_append_right _ hb)), rfl⟩
    have hfar : ∀ b ∈ B1 ++ B2, Hc.length < b ∧ b < H4.length := fun b hb => by
      rcases List.mem_append.1 hb with h | h
      · have := hg2 b h; omega
      · have := hg3 b h; omega
    have htk : l.take (i + 1) = l.take i ++ [l[i]] := by rw [List.take_add_one, List.getElem?_eq_getElem hil]; rfl
    have htl' : (l.take i).length = i := by rw [List.length_take]; omega
    have hend : ∀ (e' : Env) (H' : Heap) (v' : Value) (B' : List Nat), AgX [] H H' → OwnT H.length H' (n + 1) v' (l.take (i + 1)) B' → e' 3 = v' → e' 6 = .slice (some ⟨vb, vo, none⟩) l.length l.length → e' 7 = .int .i64 l.length → e' 8 = .int .i64 ((i + 1 : Nat) : Int) → W F H.length _ e' H' _ := fun e' H' v' B' a1 a2 a3 a6 a7 a8 => ihk (i + 1) e' H' v' B' (by omega) a1 a2 a3 a6 a7 a8
    rcases ho4 with ⟨rfl, hl0, _⟩ | ⟨b, cs, Bs, hb1, rfl, hne, hb2, rfl, hb4n, hbd⟩
    · have hi0 : i = 0 := by have := congrArg List.length hl0; rw [htl'] at this; simpa using this
      subst hi0
      refine op_app_nil _ _ _ _ _ (a := ⟨H4.length, 0, none⟩) (m := 1) (c' := 1) (ys := [.int .i64 kd, .int .i64 vr, .int .i64 va, .int .i64 vbb, .int .i64 vc, .int .i64 hh, (.slice ta' tl.length tl.length), (.slice ea' el.length el.length)]) (by (simp only [go_sem, binC, e3]) <;> rfl) (by (simp only [go_sem, binC]) <;> rfl) (by omega) (by rw [gc_new0]; rfl) (by omega) (by omega) ?_
      simp only [go_sem, binC, out_n, thenX_n]
      refine wpc_reg ?_
      simp only [go_sem, binC, e8, hw1]
      simp only [go_sem, binC, thenX_n]
      have hx5 : AgX [] H4 (H4 ++ [⟨[.int .i64 kd, .int .i64 vr, .int .i64 va, .int .i64 vbb, .int .i64 vc, .int .i64 hh, (.slice ta' tl.length tl.length), (.slice ea' el.length el.length)], 8, 83, true, true⟩, ⟨[.int .i64 kd, .int .i64 vr, .int .i64 va, .int .i64 vbb, .int .i64 vc, .int .i64 hh, (.slice ta' tl.length tl.length), (.slice ea' el.length el.length)], 8, 83, true, true⟩]) := AgX.app [] _ _
      refine hend _ _ (sli (H4.length + 1) 0 1) ((H4.length + 1) :: [B1 ++ B2].flatten) (hag4.tr hx5) (.inr ⟨H4.length + 1, _, [B1 ++ B2], by omega, by rw [show (l.take (0 + 1)).length = 1 by rw [List.length_take]; omega], by rw [htk]; exact List.append_ne_nil_of_right_ne_nil _ (by simp), get_new _ _ 1, rfl, ?_, ?_⟩) (by (simp only [go_sem, binC]) <;> rfl) (by simp only [go_sem, binC, e6]) (by simp only [go_sem, binC, e7]) (by simp only [go_sem, binC])
      · simp only [List.flatten_cons, List.flatten_nil, List.append_nil]
        intro hb
        have := hfar _ hb
        omega
      · have := (BodyT.nil (P := OwnT H.length H4 n)).snoc (P' := OwnT H.length (H4 ++ [⟨[.int .i64 kd, .int .i64 vr, .int .i64 va, .int .i64 vbb, .int .i64 vc, .int .i64 hh, (.slice ta' tl.length tl.length), (.slice ea' el.length el.length)], 8, 83, true, true⟩, ⟨[.int .i64 kd, .int .i64 vr, .int .i64 va, .int .i64 vbb, .int .i64 vc, .int .i64 hh, (.slice ta' tl.length tl.length), (.slice ea' el.length el.length)], 8, 83, true, true⟩]) n) (a := l[0]) (fun v l B1 hs h => h.keep (Nat.le_refl _) fun b hb => by have := hs b hb; simp at this) (helt (fun b hb => hx5.2 b (hfar b hb).2 (by simp))) hnd (fun b _ => by simp) (by simp)
        rw [htk, hl0]
        exact this
    · rw [htl']
      have hbB : b < Hc.length := (hgB b (List.mem_cons_self)).2.1
      obtain ⟨c1, c2, c3, c4, c5⟩ := id hbd
      rw [htl'] at c1 c2 c3
      refine op_app_kill hb2 c2 (by simp only [go_sem, binC, e3, htl']) (by (simp only [go_sem, binC]) <;> rfl) (by omega) rfl (by omega) (by omega) fun H5 hx5 hb5 => ?_
      simp only [go_sem, binC, out_n, thenX_n]
      refine wpc_reg ?_
      simp only [go_sem, binC, e8, hw1]
      simp only [go_sem, binC, thenX_n]
      have hk5 : ∀ b' ∈ Bs.flatten, H5[b']? = H4[b']? := fun b' hb' => hx5.2 b' (by have := (hgB b' (List.mem_cons_of_mem _ hb')).2.1; omega) (by intro h; simp only [List.mem_singleton] at h; subst h; exact hb4n hb')
      refine hend _ H5 (sli (H4.length + 1) 0 (i + 1)) ((H4.length + 1) :: (Bs ++ [B1 ++ B2]).flatten) (hag4.trans hx5 (fun _ h _ => h) (fun b' h1 h2 => by simp only [List.mem_singleton] at h1; omega)) (.inr ⟨H4.length + 1, _, Bs ++ [B1 ++ B2], by omega, by rw [List.length_take, Nat.min_eq_left (by omega)], by rw [htk]; exact List.append_ne_nil_of_right_ne_nil _ (by simp), hb5, rfl, ?_, ?_⟩) (by (simp only [go_sem, binC]) <;> rfl) (by simp only [go_sem, binC, e6]) (by simp only [go_sem, binC, e7]) (by simp only [go_sem, binC])
      · rw [List.flatten_append, List.mem_append]
        simp only [List.flatten_cons, List.flatten_nil, List.append_nil]
        rintro (h | h)
        · have := (hgB _ (List.mem_cons_of_mem _ h)).2.1; omega
        · have := hfar _ h; omega
      · rw [htk]
        exact hbd.snoc (fun v l B' hs h => h.keep (Nat.le_refl _) fun b' hb' => hk5 b' (hs b' hb')) (helt (fun b' hb' => hx5.2 b' (hfar b' hb').2 (by have := hfar b' hb'; simp; omega))) hnd (fun b' hb' h => by have := hfar b' hb'; have := (hgB b' (List.mem_cons_of_mem _ h)).2.1; omega) (by rw [htl']; omega)
theorem cloneSteps_all {F : Nat → Option IFn} (hf : F 110 = some c_cloneSteps) : ∀ n, CloneOk F 110 n
  | 0 => cloneSteps_ok hf fun m h => by cases h
  | n + 1 => cloneSteps_ok hf fun m h => by cases h; exact cloneSteps_all hf n
end Go.Proofs.YtkmghcglmjehcaaI
end
section
/- Programs in memory of one's own; a program copied. -/
set_option linter.unusedVariables false
set_option linter.unusedSimpArgs false
namespace Go.Proofs.YtkmghcglmjehcaaI
open Go Go.RowKit
def okS (k : Nat) (s : Shal) : Prop := varB k s.2.1 = true ∧ (valB k s.2.2.1 = true ∨ s.2.2.1 = (0, 0, 0)) ∧ (s.1 = 1 → valB k s.2.2.1 = true) ∧ (s.1 ≠ 1 → s.2.2.1 = (0, 0, 0)) ∧ (s.1 = 3 → 0 ≤ s.2.2.2 ∧ s.2.2.2 ≤ 2)
theorem stepB_okS (k : Nat) : ∀ (n : Nat) (d : Int) (s : TStep n), stepB k n d s = true → ∀ t ∈ allT n s, okS k t
  | 0, _, s, _ => s.elim
  | n + 1, d, (kd, vr, v, ho, th, el), h => by
    intro t ht
    rw [allT_succ, List.mem_cons, List.mem_append] at ht
    have h0 := h
    simp only [stepB, Bool.and_eq_true, decide_eq_true_eq] at h
    obtain ⟨⟨h1, hv⟩, h⟩ := h
    have hnil : ((th.length : Int) + el.length = 0) → t ∈ allL n th ∨ t ∈ allL n el → False := fun h0 hm => by
      obtain rfl : th = [] := List.eq_nil_of_length_eq_zero (by omega)
      obtain rfl : el = [] := List.eq_nil_of_length_eq_zero (by omega)
      simp [allL] at hm
    have go : ∀ l : List (TStep n), l.all (stepB k n (d - 1)) = true → t ∈ allL n l → okS k t := fun l hl hm => by
      unfold allL at hm
      rw [List.mem_flatten] at hm
      obtain ⟨ts, h3, h4⟩ := hm
      obtain ⟨a, h5, rfl⟩ := List.mem_map.1 h3
      exact stepB_okS k n (d - 1) a (List.all_eq_true.1 hl a h5) t h4
    by_cases k1 : kd = 1
    · rw [if_pos k1] at h
      simp only [Bool.and_eq_true, decide_eq_true_eq] at h
      rcases ht with rfl | ht
      · exact ⟨hv, .inl h.1.1, fun _ => h.1.1, fun hh => absurd k1 hh, fun hh => by simp only at hh; omega⟩
      · exact (hnil h.2 ht).elim
    rw [if_neg k1] at h
    by_cases k3 : kd = 3
    · rw [if_pos k3] at h
      simp only [Bool.and_eq_true, decide_eq_true_eq, inB_iff] at h
      rcases ht with rfl | ht
      · exact ⟨hv, .inr h.1.1, fun hh => absurd hh k1, fun _ => h.1.1, fun _ => h.1.2⟩
      · exact (hnil h.2 ht).elim
    rw [if_neg k3] at h
    by_cases k2 : kd = 2
    · rw [if_pos k2] at h
      simp only [Bool.and_eq_true, decide_eq_true_eq] at h
      rcases ht with rfl | ht | ht
      · exact ⟨hv, .inr h.1.1.1, fun hh => absurd hh k1, fun _ => h.1.1.1, fun hh => absurd hh k3⟩
      · exact go th h.1.2 ht
      · exact go el h.2 ht
    · rw [if_neg k2] at h; cases h
theorem progB_okS {n : Nat} {ls : List (Int × Int)} {l : List (TStep n)} (h : progB n (ls, l) = true) : ∀ t ∈ allL n l, okS ls.length t := by
  simp only [progB, Bool.and_eq_true, decide_eq_true_eq, List.all_eq_true] at h
  intro t ht
  unfold allL at ht
  rw [List.mem_flatten] at ht
  obtain ⟨ts, h3, h4⟩ := ht
  obtain ⟨a, h5, rfl⟩ := List.mem_map.1 h3
  exact stepB_okS _ n 3 a (h.1.2 a h5) t h4
def c_pclone : IFn := ⟨1, 10, [.cell true 2 2],
 .seq (.reg none [
    ⟨(some 1), none, .box (.t 0)⟩,
    ⟨(some 2), none, .new [(.slice none 0 0), (.slice none 0 0)]⟩])
 (.seq (.reg (some 5) [
    ⟨(some 3), none, .fad 0 (.t 1)⟩,
    ⟨(some 4), none, .load false 1 (.t 3)⟩,
    ⟨(some 5), none, .app 2 35 16 false (.c (.slice none 0 0)) (.t 4)⟩,
    ⟨(some 6), none, .fad 1 (.t 1)⟩,
    ⟨(some 7), none, .load false 1 (.t 6)⟩,
    ⟨(some 8), none, .call .k (.f 110) [(.t 7)]⟩,
    ⟨(some 9), none, .build [(.slice none 0 0), (.slice none 0 0)] [(0, 1, (.t 5)), (1, 1, (.t 8))]⟩,
    ⟨none, none, .store 2 (.t 2) (.t 9)⟩])
 (.ret))⟩
def LabV (lo : Nat) (H : Heap) (v : Value) (ls : List (Int × Int)) : Prop := (v = nilS ∧ ls = []) ∨ ∃ b, lo ≤ b ∧ v = sli b 0 ls.length ∧ ls ≠ [] ∧ H[b]? = some ⟨ls.flatMap fp, 2, 35, true, true⟩
theorem LabV.one {lo : Nat} {H : Heap} {v : Value} {ls : List (Int × Int)} (h : LabV lo H v ls) : one v = true := by
  rcases h with ⟨rfl, _⟩ | ⟨b, _, rfl, _⟩ <;> rfl
theorem LabV.shape {lo : Nat} {H : Heap} {v : Value} {ls : List (Int × Int)} (h : LabV lo H v ls) : ∃ a, v = .slice a ls.length ls.length := by
  rcases h with ⟨rfl, rfl⟩ | ⟨b, _, rfl, _⟩
  · exact ⟨none, rfl⟩
  · exact ⟨_, rfl⟩
theorem LabV.keep {lo lo' : Nat} {H H' : Heap} {v : Value} {ls : List (Int × Int)} {xs : List Nat} (h : LabV lo H v ls) (hl : lo' ≤ lo) (hx : AgX xs H H') (hn : ∀ b, lo ≤ b → H[b]? = some ⟨ls.flatMap fp, 2, 35, true, true⟩ → b ∉ xs) : LabV lo' H' v ls := by
  rcases h with h | ⟨b, h1, h2, h3, h4⟩
  · exact .inl h
  · exact .inr ⟨b, by omega, h2, h3, hx.get h4 (hn b h1 h4)⟩
theorem LabV.sl {lo : Nat} {H : Heap} {v : Value} {ls : List (Int × Int)} (h : LabV lo H v ls) (hr : ∀ p ∈ ls, RgI p.1 ∧ RgI p.2) (hl : ls.length ≤ 1000) : SlR Co.p2 (vw 0 H) v ls := by
  rcases h with h | ⟨b, h1, h2, h3, h4⟩
  · exact GLi.slP (es := 2) (lo := lo) (et := 35) (.inl h) hr hl
  · exact GLi.slP (es := 2) (.inr ⟨b, true, h1, h2, h3, h4⟩) hr hl
theorem p2_rg {V : Vw} {v : Value} {l : List (Int × Int)} (h : SlR Co.p2 V v l) : ∀ w ∈ l, RgI w.1 ∧ RgI w.2 := by
  intro w hw
  obtain ⟨i, hi, rfl⟩ := List.getElem_of_mem hw
  obtain ⟨_, a, rfl, h2⟩ := h
  rcases h2 with h2 | ⟨b, o, _, h2⟩
  · rw [h2] at hi; simp at hi
  · obtain ⟨cs, _, _, _, _, ⟨_, r1⟩, ⟨_, r2⟩⟩ := h2 i hi
    exact ⟨r1, r2⟩
theorem sl_p2s {H : Heap} {v : Value} {l : List (Int × Int)} (h : SlR Co.p2 (vw 0 H) v l) (hl : l ≠ []) : ∃ b o, v = .slice (some ⟨b, o, none⟩) l.length l.length ∧ getCells H b o (l.length * 2) = some (l.flatMap fp) := by
  obtain ⟨b, o, ys, h1, h3, h2, h4⟩ := sl_cells (w := 2) rfl h hl
  refine ⟨b, o, h1, ?_⟩
  have hfl := flat_len (fl := fp) (w := 2) (fun _ => rfl) l
  have : ys = l.flatMap fp := by
    refine List.ext_getElem? fun m => ?_
    by_cases hm : m < l.length * 2
    · have hi : m / 2 < l.length := by omega
      obtain ⟨_, _, e1, ⟨rfl, _⟩, ⟨rfl, _⟩⟩ := h4 (m / 2) hi
      have q1 : ((ys.drop (m / 2 * 2)).take 2)[m % 2]? = ys[m]? := by
        rw [List.getElem?_take, if_pos (by omega), List.getElem?_drop]
        congr 1; omega
      have q2 : (l.flatMap fp)[m]? = (fp l[m / 2])[m % 2]? := by
        have e : l.flatMap fp = (l.take (m / 2)).flatMap fp ++ (fp l[m / 2] ++ (l.drop (m / 2 + 1)).flatMap fp) := by
          conv => lhs; rw [← List.take_append_drop (m / 2) l, List.drop_eq_getElem_cons hi]
          rw [List.flatMap_append, List.flatMap_cons]
        have hlt : ((l.take (m / 2)).flatMap fp).length = m / 2 * 2 := by rw [flat_len (fl := fp) (w := 2) (fun _ => rfl), List.length_take]; omega
        rw [e, List.getElem?_append_right (by omega), hlt, List.getElem?_append_left (by show m - m / 2 * 2 < 2; omega)]
        congr 1; omega
      rw [← q1, e1, q2]
      rfl
    · rw [List.getElem?_eq_none (by omega), List.getElem?_eq_none (by omega)]
  rw [← this]
  exact h3
def PCloneOk (F : Nat → Option IFn) (f : Nat) : Prop := ∀ (H : Heap) (n : Nat) (lv sv : Value) (ls : List (Int × Int)) (l : List (TStep n)), SlR Co.p2 (vw 0 H) lv ls → SlR (Co.step n) (vw 0 H) sv l → (Co.prog n).sm (ls, l) → ∃ lv' sv' B H', KC F f [.agg #[lv, sv]] H (.agg #[lv', sv']) H' ∧ AgX [] H H' ∧ LabV H.length H' lv' ls ∧ OwnT H.length H' n sv' l B
theorem pclone_ok {F : Nat → Option IFn} {f : Nat} (hf : F f = some c_pclone) (gc : ∀ n, CloneOk F 110 n) : PCloneOk F f := by
  intro H n lv sv ls l r1 r2 hsm
  suffices h : ∃ w H', KC F f [.agg #[lv, sv]] H w H' ∧ (∃ lv' sv' B, w = .agg #[lv', sv'] ∧ AgX [] H H' ∧ LabV H.length H' lv' ls ∧ OwnT H.length H' n sv' l B) by
    obtain ⟨w, H', h1, lv', sv', B, rfl, h2⟩ := h
    exact ⟨lv', sv', B, H', h1, h2⟩
  have osv : one sv = true := by obtain ⟨_, a, rfl, _⟩ := r2; rfl
  have olv : one lv = true := by obtain ⟨_, a, rfl, _⟩ := r1; rfl
  have hls : ls.length ≤ 1048576 := hsm.1.1
  refine KC.mk hf rfl ?_
  refine seq_reg ?_
  simp only [go_sem, binC, osv, olv]
  refine wpc_gen fun H1 hH1 => ?_
  have hx1 : AgX [] H H1 := hH1 ▸ AgX.app [] _ _
  have hb1 : H1[H.length]? = some ⟨[lv, sv], 0, 0, false, true⟩ := hH1 ▸ get_new0 _ _
  have hb2 : H1[H.length + 1]? = some ⟨[nilS, nilS], 0, 0, false, true⟩ := hH1 ▸ get_new _ _ 1
  have hln : H1.length = H.length + 2 := by rw [hH1]; simp
  clear hH1
  have hl1 := hx1.1
  have happ : ∀ (e : Env) (K : Value → Heap → Prop), e 4 = lv → (∀ lv' L, LabV H.length (H1 ++ L) lv' ls → K lv' (H1 ++ L)) → wpOp F H1.length (.app 2 35 16 false (.c (.slice none 0 0)) (.t 4)) e H1 K := by
    intro e K e4 k
    by_cases hl0 : ls = []
    · obtain ⟨_, a, rfl, _⟩ := r1
      subst hl0
      refine op_app_zero _ _ _ _ _ rfl (by (simp only [go_sem, binC, e4]) <;> rfl) ?_
      have := k nilS []
      rw [List.append_nil] at this
      exact this (.inl ⟨rfl, rfl⟩)
    · obtain ⟨b, o, rfl, hg⟩ := sl_p2s (r1.mono (agx_sub hx1)) hl0
      have hne : ls.length ≠ 0 := fun h => hl0 (List.eq_nil_of_length_eq_zero h)
      refine op_app_nil _ _ _ _ _ rfl (by (simp only [go_sem, binC, e4]) <;> rfl) hne hg (by omega) (by omega) ?_
      exact k _ _ (.inr ⟨H1.length, hl1, rfl, hl0, get_new0 _ _⟩)
  refine seq_regD ?_
  simp only [go_sem, binC, gc_of hb1, inBlk_some]
  refine happ _ _ (by simp only [go_sem, binC]) fun lv' L hL => ?_
  have hx2 : AgX [] H1 (H1 ++ L) := AgX.app [] _ _
  have hb12 := hx2.get hb1 (by simp)
  simp only [go_sem, binC, gc_of hb12, inBlk_some]
  obtain ⟨sv', B, H3, k3, hx3, o3⟩ := gc n (H1 ++ L) sv l (r2.mono (agx_sub (hx1.tr hx2))) hsm.2
  obtain ⟨la', rfl⟩ := hL.shape
  obtain ⟨_, sa', rfl⟩ := id o3.len
  refine op_callK (by simp only [go_sem, binC]; exact k3) ?_
  have hb23 := (hx2.tr hx3).get hb2 (by simp)
  have hb23l := (List.getElem?_eq_some_iff.1 hb23).1
  simp only [go_sem, binC, hb23]
  have hl3 := hx3.1
  have hl2 := hx2.1
  have hxs : AgX [H.length + 1] H3 (H3.set (H.length + 1) ⟨[.slice la' ls.length ls.length, .slice sa' l.length l.length], 0, 0, false, true⟩) := AgX.set _ _ _
  refine wpc_ret ⟨Or.inr rfl, .agg #[.slice la' ls.length ls.length, .slice sa' l.length l.length], ?_, _, _, B, rfl, ((hx1.tr hx2).tr hx3).setN (by omega) _, ?_, ?_⟩
  · simp [resV, resL, res1, putE_get, ptr, gc_set hb23l, inBlk_some, valOf]
  · exact (hL.keep (Nat.le_refl _) hx3 (fun b _ _ => by simp)).keep (Nat.le_refl _) hxs (fun b _ h1 h2 => by simp only [List.mem_singleton] at h2; subst h2; rw [hb23] at h1; simp at h1)
  · refine o3.keep (by omega) fun b hb => hxs.2 b (o3.ge b hb).2.1 (fun h => ?_)
    have := (o3.ge b hb).1
    simp only [List.mem_singleton] at h
    have hq : (H1 ++ L).length = H1.length + L.length := List.length_append
    omega
theorem flat_set : ∀ (l : List (Int × Int)) (i : Nat) (x : Int × Int), i < l.length → setL (l.flatMap fp) (i * 2) (fp x) = (l.set i x).flatMap fp := by
  intro l i x hi
  have hfl := flat_len (fl := fp) (w := 2) (fun _ => rfl) l
  rw [setL_eq _ _ _ (by show i * 2 + 2 ≤ _; omega)]
  have e : l.flatMap fp = (l.take i).flatMap fp ++ (fp l[i] ++ (l.drop (i + 1)).flatMap fp) := by
    conv => lhs; rw [← List.take_append_drop i l, List.drop_eq_getElem_cons hi]
    rw [List.flatMap_append, List.flatMap_cons]
  have hlt : ((l.take i).flatMap fp).length = i * 2 := by rw [flat_len (fl := fp) (w := 2) (fun _ => rfl), List.length_take]; omega
  rw [List.set_eq_take_append_cons_drop, if_pos hi, List.flatMap_append, List.flatMap_cons, e]
  rw [List.take_append_of_le_length (by omega), List.take_of_length_le (by omega), List.drop_append, List.drop_of_length_le (by rw [hlt]; show _ ≤ i * 2 + 2; omega), hlt]
  rw [show i * 2 + (fp x).length - i * 2 = 2 from by show i * 2 + 2 - i * 2 = 2; omega]
  rw [List.nil_append, List.append_assoc]
  rfl
theorem LabV.blk {lo : Nat} {H : Heap} {v : Value} {ls : List (Int × Int)} (h : LabV lo H v ls) {b : Nat} (hb : b ∈ blkOf v) : lo ≤ b ∧ v = sli b 0 ls.length ∧ H[b]? = some ⟨ls.flatMap fp, 2, 35, true, true⟩ := by
  rcases h with ⟨rfl, _⟩ | ⟨b', q1, rfl, q3, q4⟩
  · cases hb
  · simp only [blkOf, sli, List.mem_singleton] at hb
    subst hb
    exact ⟨q1, rfl, q4⟩
theorem bne_t {a b : Int} (h : ¬ a = b) : (a != b) = true := by simp [h]
theorem bne_f {a b : Int} (h : a = b) : (a != b) = false := by simp [h]
theorem blk_slP {es et b : Nat} {ap so : Bool} {H : Heap} {l : List (Int × Int)} (h : H[b]? = some ⟨l.flatMap fp, es, et, ap, so⟩) (hr : ∀ p ∈ l, RgI p.1 ∧ RgI p.2) (hl : l.length ≤ 1000) : SlR Co.p2 (vw 0 H) (sli b 0 l.length) l := by
  by_cases h0 : l = []
  · subst h0; exact ⟨by simp, _, rfl, .inl rfl⟩
  · have hfl := flat_len (fl := fp) (w := 2) (fun _ => rfl) l
    refine ⟨by omega, _, rfl, .inr ⟨b, 0, rfl, fun i hi => ⟨fp l[i], ?_, ⟨[.int .i64 l[i].1], [.int .i64 l[i].2], rfl, ⟨rfl, (hr _ (List.getElem_mem hi)).1⟩, ⟨rfl, (hr _ (List.getElem_mem hi)).2⟩⟩⟩⟩⟩
    unfold rng vw
    rw [if_pos (Nat.zero_le _), h]
    simp only [Option.map_some, Nat.zero_add, show Co.p2.w = 2 from rfl]
    rw [if_pos (by omega)]
    congr 1
    have : l.flatMap fp = (l.take i).flatMap fp ++ (fp l[i] ++ (l.drop (i + 1)).flatMap fp) := by
      conv => lhs; rw [← List.take_append_drop i l, List.drop_eq_getElem_cons hi]
      rw [List.flatMap_append, List.flatMap_cons]
    rw [this]
    have hlt : ((l.take i).flatMap fp).length = i * 2 := by rw [flat_len (fl := fp) (w := 2) (fun _ => rfl), List.length_take]; omega
    rw [List.drop_append, List.drop_of_length_le (by omega), hlt, Nat.sub_self, List.nil_append, List.drop_zero]
    rfl
end Go.Proofs.YtkmghcglmjehcaaI
end
section
/- Labels that are found: plain facts of the laws. -/
set_option linter.unusedVariables false
set_option linter.unusedSimpArgs false
namespace Go.Proofs.YtkmghcglmjehcaaI
open Go Go.RowKit
/-- The labels to begin with. -/
def startL (ls : List (Int × Int)) (free : List Bool) : List (Int × Int) := (List.range ls.length).map fun i => if free.getD i false = true then (7, 7) else ls.getD i (0, 0)
def freeF (free : List Bool) (x : Int) : Bool := free.getD x.toNat false
def infL (n : Nat) (l : List (TStep n)) (free : List Bool) (init : List (Int × Int)) : List (Int × Int) := Nat.repeat (rnd n l (freeF free)) 25 init
def inferV (n : Nat) (p : TProg n) (free : List Bool) : Option (List (Int × Int)) := if progB n p = true ∧ free.length = p.1.length ∧ typeP n (infL n p.2 free (startL p.1 free), p.2) = true then some (infL n p.2 free (startL p.1 free)) else none
theorem startL_len (ls : List (Int × Int)) (free : List Bool) : (startL ls free).length = ls.length := by simp [startL]
theorem startL_get {ls : List (Int × Int)} {free : List Bool} {i : Nat} (hi : i < ls.length) : (startL ls free).getD i (0, 0) = if free.getD i false = true then (7, 7) else ls.getD i (0, 0) := by
  simp [startL, List.getD, hi]
theorem startL_lab {ls : List (Int × Int)} {free : List Bool} (h : ls.all labB = true) : (startL ls free).all labB = true := by
  rw [List.all_eq_true]
  intro x hx
  unfold startL at hx
  obtain ⟨i, _, rfl⟩ := List.mem_map.1 hx
  split
  · rfl
  · exact lab_getD h i
theorem startL_none (ls : List (Int × Int)) : startL ls [] = ls := List.ext_getElem (startL_len _ _) fun i h1 h2 => by
  have := startL_get (free := []) h2
  simpa [List.getD, h1, h2] using this
theorem startL_step {ls : List (Int × Int)} {free : List Bool} {v : Nat} (hv : v < free.length) (hl : free.length = ls.length) : startL ls (free.take (v + 1)) = if free.getD v false = true then (startL ls (free.take v)).set v (7, 7) else startL ls (free.take v) := by
  have e0 : ∀ i, i < ls.length → (free.take v).getD i false = if i < v then free.getD i false else false := fun i hi => by
    by_cases h : i < v
    · rw [if_pos h]; simp [List.getD, h]
    · rw [if_neg h]; simp [List.getD, List.getElem?_take, h]
  have e1 : ∀ i, i < ls.length → (free.take (v + 1)).getD i false = if i < v + 1 then free.getD i false else false := fun i hi => by
    by_cases h : i < v + 1
    · rw [if_pos h]; simp [List.getD, h]
    · rw [if_neg h]; simp [List.getD, List.getElem?_take, h]
  refine List.ext_getElem (by split <;> simp [startL_len]) fun i h1 h2 => ?_
  rw [startL_len] at h1
  have a1 := startL_get (free := free.take (v + 1)) h1
  have a0 := startL_get (free := free.take v) h1
  rw [e1 i h1] at a1
  rw [e0 i h1] at a0
  have b1 : (startL ls (free.take (v + 1)))[i]'(by rw [startL_len]; exact h1) = (startL ls (free.take (v + 1))).getD i (0, 0) := by simp [List.getD, startL_len, h1]
  have b0 : (startL ls (free.take v))[i]'(by rw [startL_len]; exact h1) = (startL ls (free.take v)).getD i (0, 0) := by simp [List.getD, startL_len, h1]
  rw [b1, a1]
  by_cases hf : free.getD v false = true
  · simp only [hf, if_true, List.getElem_set]
    by_cases hiv : v = i
    · subst hiv
      rw [List.getD_eq_getElem?_getD] at hf
      simp [hf]
    · rw [if_neg hiv, b0, a0]
      by_cases h : i < v
      · simp [h, show i < v + 1 by omega]
      · simp [h, show ¬ i < v + 1 by omega]
  · simp only [hf, Bool.false_eq_true, if_false]
    rw [b0, a0]
    by_cases hiv : v = i
    · subst hiv
      rw [List.getD_eq_getElem?_getD] at hf
      simp [hf]
    · by_cases h : i < v
      · simp [h, show i < v + 1 by omega]
      · simp [h, show ¬ i < v + 1 by omega]
theorem progB_ls {n : Nat} {ls r : List (Int × Int)} {l : List (TStep n)} (h : progB n (ls, l) = true) (hl : r.length = ls.length) (hr : r.all labB = true) : progB n (r, l) = true := by
  unfold progB at h ⊢
  simp only [Bool.and_eq_true, decide_eq_true_eq] at h ⊢
  rw [hl]
  exact ⟨⟨⟨h.1.1.1, hr⟩, h.1.2⟩, h.2⟩
theorem progB_var {n : Nat} {ls : List (Int × Int)} {l : List (TStep n)} (h : progB n (ls, l) = true) : ∀ t ∈ allL n l, varB ls.length t.2.1 = true := fun t ht => shB_varN (progB_sh h t ht)
theorem progB_le4 {n : Nat} {ls : List (Int × Int)} {l : List (TStep n)} (h : progB n (ls, l) = true) : ls.length ≤ 4 := by
  unfold progB at h
  simp only [Bool.and_eq_true, decide_eq_true_eq] at h
  have := h.1.1.1
  omega
theorem infL_inf {n : Nat} {ls : List (Int × Int)} {l : List (TStep n)} (free : List Bool) (h : progB n (ls, l) = true) : Inf n l (freeF free) (startL ls free) (infL n l free (startL ls free)) := by
  refine rnds_inf (startL_lab (progB_lab h)) ?_ fun t ht => ?_
  · rw [startL_len]; exact progB_le4 h
  · rw [startL_len]; exact progB_var h t ht
attribute [local irreducible] infL
theorem infL_len {n : Nat} {ls : List (Int × Int)} {l : List (TStep n)} {free : List Bool} (h : progB n (ls, l) = true) : (infL n l free (startL ls free)).length = ls.length := by
  rw [(infL_inf free h).le.1, startL_len]
theorem inferV_some {n : Nat} {p : TProg n} {free : List Bool} {r : List (Int × Int)} (h : inferV n p free = some r) : progB n p = true ∧ free.length = p.1.length ∧ typeP n (r, p.2) = true ∧ r = infL n p.2 free (startL p.1 free) := by
  unfold inferV at h
  split at h
  · rename_i hc
    simp only [Option.some.injEq] at h
    subst h
    exact ⟨hc.1, hc.2.1, hc.2.2, rfl⟩
  · cases h
end Go.Proofs.YtkmghcglmjehcaaI
end
section
/- Labels that are found (the program's). -/
set_option linter.unusedVariables false
set_option linter.unusedSimpArgs false
namespace Go.Proofs.YtkmghcglmjehcaaI
open Go Go.RowKit
attribute [local irreducible] infL
def c_iInferOf : IFn := ⟨2, 99, [.cell true 2 4, .t 5],
 .seq (.reg none [
    ⟨(some 2), none, .box (.t 0)⟩,
    ⟨(some 4), none, .new [(.slice none 0 0), (.slice none 0 0)]⟩,
    ⟨(some 5), none, .mov (.c (.bool false))⟩])
 (.seq (.seq (.reg none [
     ⟨(some 14), none, .load true 2 (.t 2)⟩,
     ⟨(some 15), none, .call .q (.f 54) [(.t 14)]⟩,
     ⟨(some 16), none, .un .not (.t 15)⟩,
     ⟨(some 17), none, .mov (.t 16)⟩,
     ⟨(some 18), (some (17, false)), .mov (.t 1)⟩,
     ⟨(some 19), (some (17, false)), .len (.t 18)⟩,
     ⟨(some 20), (some (17, false)), .fad 0 (.t 2)⟩,
     ⟨(some 21), (some (17, false)), .load false 1 (.t 20)⟩,
     ⟨(some 22), (some (17, false)), .len (.t 21)⟩,
     ⟨(some 23), (some (17, false)), .bin .neq (.t 19) (.t 22)⟩,
     ⟨(some 24), none, .pick (.t 17) (.c (.bool true)) (.t 23)⟩])
  (.cond (.t 24) (.seq (.reg none [
      ⟨(some 25), none, .build [(.slice none 0 0), (.slice none 0 0)] []⟩,
      ⟨none, none, .store 2 (.t 4) (.t 25)⟩,
      ⟨(some 5), none, .mov (.c (.bool false))⟩])
   (.ret)) (.skip)))
 (.seq (.reg none [
    ⟨(some 26), none, .load true 2 (.t 2)⟩,
    ⟨(some 27), none, .call .k (.f 55) [(.t 26)]⟩,
    ⟨(some 6), none, .new [(.slice none 0 0), (.slice none 0 0)]⟩,
    ⟨none, none, .store 2 (.t 6) (.t 27)⟩])
 (.seq (.seq (.reg none [
     ⟨(some 28), none, .mov (.t 1)⟩,
     ⟨(some 29), none, .len (.t 28)⟩,
     ⟨(some 30), none, .mov (.c (.int .i64 0))⟩])
  (.block 0 (.loop (.seq (.reg none [
       ⟨(some 31), none, .bin .lss (.t 30) (.t 29)⟩])
    (.seq (.cond (.t 31) (.skip) (.exit 0))
    (.seq (.block 1 (.seq (.reg none [
         ⟨(some 32), none, .mov (.t 30)⟩,
         ⟨(some 33), none, .iad 1 (.t 28) (.t 30)⟩,
         ⟨(some 34), none, .load false 1 (.t 33)⟩,
         ⟨(some 7), none, .mov (.t 32)⟩,
         ⟨(some 8), none, .mov (.t 34)⟩])
      (.seq (.reg none [
         ⟨(some 35), none, .mov (.t 8)⟩])
      (.cond (.t 35) (.reg (some 4) [
         ⟨(some 36), none, .fad 0 (.t 6)⟩,
         ⟨(some 37), none, .load false 1 (.t 36)⟩,
         ⟨(some 38), none, .mov (.t 7)⟩,
         ⟨(some 39), none, .call .q (.f 56) []⟩,
         ⟨(some 40), none, .iad 2 (.t 37) (.t 38)⟩,
         ⟨none, none, .store 2 (.t 40) (.t 39)⟩]) (.skip)))))
    (.reg none [
      ⟨(some 41), none, .bin .add (.t 30) (.c (.int .i64 1))⟩,
      ⟨(some 30), none, .mov (.t 41)⟩])))))))
 (.seq (.seq (.reg none [
     ⟨(some 9), none, .mov (.c (.bool true))⟩])
  (.block 2 (.loop (.seq (.seq (.reg none [
        ⟨(some 42), none, .mov (.t 9)⟩])
     (.cond (.t 42) (.skip) (.exit 2)))
    (.block 3 (.seq (.reg none [
        ⟨(some 9), none, .mov (.c (.bool false))⟩])
     (.seq (.reg none [
        ⟨(some 43), none, .load true 2 (.t 6)⟩,
        ⟨(some 44), none, .call .k (.f 57) [(.t 43)]⟩,
        ⟨(some 10), none, .mov (.t 44)⟩])
     (.seq (.reg none [
        ⟨(some 45), none, .fad 1 (.t 6)⟩,
        ⟨(some 46), none, .load false 1 (.t 45)⟩,
        ⟨(some 47), none, .call .k (.f 58) [(.t 46)]⟩,
        ⟨(some 48), none, .len (.t 47)⟩,
        ⟨(some 49), none, .mov (.c (.int .i64 0))⟩])
     (.block 4 (.loop (.seq (.reg none [
          ⟨(some 50), none, .bin .lss (.t 49) (.t 48)⟩])
       (.seq (.cond (.t 50) (.skip) (.exit 4))
       (.seq (.block 5 (.seq (.reg none [
            ⟨(some 51), none, .mov (.t 49)⟩,
            ⟨(some 52), none, .iad 8 (.t 47) (.t 49)⟩,
            ⟨(some 53), none, .load true 8 (.t 52)⟩,
            ⟨(some 12), none, .new [(.int .i64 0), (.int .i64 0), (.int .i64 0), (.int .i64 0), (.int .i64 0), (.int .i64 0), (.slice none 0 0), (.slice none 0 0)]⟩,
            ⟨(some 11), none, .mov (.t 51)⟩,
            ⟨none, none, .store 8 (.t 12) (.t 53)⟩])
         (.seq (.seq (.reg none [
             ⟨(some 54), none, .fad 0 (.t 12)⟩,
             ⟨(some 55), none, .load false 1 (.t 54)⟩,
             ⟨(some 56), none, .bin .neq (.t 55) (.c (.int .i64 1))⟩,
             ⟨(some 57), none, .mov (.t 56)⟩,
             ⟨(some 58), (some (57, false)), .mov (.t 1)⟩,
             ⟨(some 59), (some (57, false)), .fad 1 (.t 12)⟩,
             ⟨(some 60), (some (57, false)), .load false 1 (.t 59)⟩,
             ⟨(some 61), (some (57, false)), .iad 1 (.t 58) (.t 60)⟩,
             ⟨(some 62), (some (57, false)), .load false 1 (.t 61)⟩,
             ⟨(some 63), (some (57, false)), .un .not (.t 62)⟩,
             ⟨(some 64), none, .pick (.t 57) (.c (.bool true)) (.t 63)⟩])
          (.cond (.t 64) (.exit 5) (.skip)))
         (.seq (.reg (some 15) [
            ⟨(some 65), none, .fad 0 (.t 6)⟩,
            ⟨(some 66), none, .load false 1 (.t 65)⟩,
            ⟨(some 67), none, .fad 1 (.t 12)⟩,
            ⟨(some 68), none, .load false 1 (.t 67)⟩,
            ⟨(some 69), none, .iad 2 (.t 66) (.t 68)⟩,
            ⟨(some 70), none, .load true 2 (.t 69)⟩,
            ⟨(some 71), none, .load true 2 (.t 6)⟩,
            ⟨(some 72), none, .load true 8 (.t 12)⟩,
            ⟨(some 73), none, .mov (.t 10)⟩,
            ⟨(some 74), none, .mov (.t 11)⟩,
            ⟨(some 75), none, .iad 2 (.t 73) (.t 74)⟩,
            ⟨(some 76), none, .load true 2 (.t 75)⟩,
            ⟨(some 77), none, .call .q (.f 60) [(.t 71), (.t 72), (.t 76)]⟩,
            ⟨(some 78), none, .call .q (.f 59) [(.t 70), (.t 77)]⟩,
            ⟨(some 13), none, .new [(.int .i64 0), (.int .i64 0)]⟩,
            ⟨none, none, .store 2 (.t 13) (.t 78)⟩])
         (.seq (.reg (some 7) [
            ⟨(some 79), none, .load true 2 (.t 13)⟩,
            ⟨(some 80), none, .fad 0 (.t 6)⟩,
            ⟨(some 81), none, .load false 1 (.t 80)⟩,
            ⟨(some 82), none, .fad 1 (.t 12)⟩,
            ⟨(some 83), none, .load false 1 (.t 82)⟩,
            ⟨(some 84), none, .iad 2 (.t 81) (.t 83)⟩,
            ⟨(some 85), none, .load true 2 (.t 84)⟩,
            ⟨(some 86), none, .eqs true 2 (.t 79) (.t 85)⟩])
         (.cond (.t 86) (.seq (.reg none [
             ⟨(some 87), none, .fad 0 (.t 6)⟩,
             ⟨(some 88), none, .load false 1 (.t 87)⟩,
             ⟨(some 89), none, .fad 1 (.t 12)⟩,
             ⟨(some 90), none, .load false 1 (.t 89)⟩,
             ⟨(some 91), none, .load true 2 (.t 13)⟩,
             ⟨(some 92), none, .iad 2 (.t 88) (.t 90)⟩,
             ⟨none, none, .store 2 (.t 92) (.t 91)⟩])
          (.reg none [
            ⟨(some 9), none, .mov (.c (.bool true))⟩])) (.skip)))))))
       (.reg none [
         ⟨(some 93), none, .bin .add (.t 49) (.c (.int .i64 1))⟩,
         ⟨(some 49), none, .mov (.t 93)⟩]))))))))))))))
 (.seq (.seq (.reg none [
     ⟨(some 94), none, .load true 2 (.t 6)⟩,
     ⟨(some 95), none, .call .q (.f 20) [(.t 94)]⟩,
     ⟨(some 96), none, .un .not (.t 95)⟩])
  (.cond (.t 96) (.seq (.reg none [
      ⟨(some 97), none, .build [(.slice none 0 0), (.slice none 0 0)] []⟩,
      ⟨none, none, .store 2 (.t 4) (.t 97)⟩,
      ⟨(some 5), none, .mov (.c (.bool false))⟩])
   (.ret)) (.skip)))
 (.seq (.reg none [
    ⟨(some 98), none, .load true 2 (.t 6)⟩,
    ⟨none, none, .store 2 (.t 4) (.t 98)⟩,
    ⟨(some 5), none, .mov (.c (.bool true))⟩])
 (.ret)))))))⟩
/-- The program that is told. -/
def inferO (n : Nat) (p : TProg n) (free : List Bool) : List (Int × Int) × List (TStep n) := match inferV n p free with
  | none => ([], [])
  | some r => (r, p.2)
def InferOk (F : Nat → Option IFn) (f : Nat) : Prop := ∀ (H : Heap) (n : Nat) (lv sv w : Value) (ls : List (Int × Int)) (l : List (TStep n)) (free : List Bool), SlR Co.p2 (vw 0 H) lv ls → SlR (Co.step n) (vw 0 H) sv l → (Co.prog n).sm (ls, l) → SlR Co.bool (vw 0 H) w free →
  ∃ lv' sv' H', KC F f [.agg #[lv, sv], w] H (.tuple #[.agg #[lv', sv'], .bool (inferV n (ls, l) free).isSome]) H' ∧ AgX [] H H' ∧ SlR Co.p2 (vw 0 H') lv' (inferO n (ls, l) free).1 ∧ SlR (Co.step n) (vw 0 H') sv' (inferO n (ls, l) free).2
theorem gcB {H : Heap} {v : Value} {l : List Bool} (h : SlR Co.bool (vw 0 H) v l) {i : Nat} (hi : i < l.length) : ∃ b o, v = .slice (some ⟨b, o, none⟩) l.length l.length ∧ getCells H b (o + i) 1 = some [.bool l[i]] := by
  obtain ⟨_, a, rfl, h2⟩ := h
  rcases h2 with h2 | ⟨b, o, rfl, h2⟩
  · rw [h2] at hi; simp at hi
  · obtain ⟨cs, h3, h4⟩ := h2 i hi
    have h5 := rng_gc h3
    rw [show cs = [.bool l[i]] from h4, show Co.bool.w = 1 from rfl, Nat.mul_one] at h5
    exact ⟨b, o, rfl, h5⟩
theorem LabV.set {lo : Nat} {H : Heap} {v : Value} {cur : List (Int × Int)} (h : LabV lo H v cur) {i : Nat} (hi : i < cur.length) (x : Int × Int) : ∃ b, v = sli b 0 cur.length ∧ lo ≤ b ∧ b < H.length ∧ H[b]? = some ⟨cur.flatMap fp, 2, 35, true, true⟩ ∧ LabV lo (H.set b ⟨(cur.set i x).flatMap fp, 2, 35, true, true⟩) v (cur.set i x) := by
  rcases h with ⟨rfl, rfl⟩ | ⟨b, h1, h2, h3, h4⟩
  · simp at hi
  · have hb := (List.getElem?_eq_some_iff.1 h4).1
    refine ⟨b, h2, h1, hb, h4, .inr ⟨b, h1, by rw [List.length_set]; exact h2, fun hn => ?_, List.getElem?_set_self hb⟩⟩
    have := congrArg List.length hn
    rw [List.length_set, List.length_nil] at this
    omega
theorem LabV.getP {lo : Nat} {H : Heap} {v : Value} {cur : List (Int × Int)} (h : LabV lo H v cur) {i : Nat} (hi : i < cur.length) : ∃ b, v = sli b 0 cur.length ∧ getCells H b (i * 2) 2 = some [.int .i64 (cur.getD i (0, 0)).1, .int .i64 (cur.getD i (0, 0)).2] := by
  rcases h with ⟨rfl, rfl⟩ | ⟨b, h1, h2, h3, h4⟩
  · simp at hi
  · refine ⟨b, h2, ?_⟩
    have hfl := flat_len (fl := fp) (w := 2) (fun _ => rfl) cur
    rw [gc_of h4, inBlk_some, if_pos (by omega)]
    have e : cur.flatMap fp = (cur.take i).flatMap fp ++ (fp cur[i] ++ (cur.drop (i + 1)).flatMap fp) := by
      conv => lhs; rw [← List.take_append_drop i cur, List.drop_eq_getElem_cons hi]
      rw [List.flatMap_append, List.flatMap_cons]
    have hlt : ((cur.take i).flatMap fp).length = i * 2 := by rw [flat_len (fl := fp) (w := 2) (fun _ => rfl), List.length_take]; omega
    rw [e, List.drop_append, List.drop_of_length_le (by omega), hlt, Nat.sub_self, List.drop_zero, List.nil_append, List.take_left' (by rfl)]
    simp [fp, List.getD, hi]
theorem OwnT.slX {lo : Nat} {H : Heap} {n : Nat} {v : Value} {l : List (TStep n)} {B xs : List Nat} (h : OwnT lo H n v l B) (hx : ∀ b, b ∈ xs → b ∉ B) : SlR (Co.step n) (vwl lo xs H) v l := by
  have h1 : OwnT lo (hide xs H) n v l B := h.keep (Nat.le_refl _) fun b hb => hide_get_ne fun hm => hx b hm hb
  refine h1.sl.mono fun b cs hb => ?_
  unfold vws at hb
  unfold vwl
  split at hb
  · rename_i hlo
    by_cases hbx : b ∈ xs
    · rw [hide_get_in hbx] at hb
      cases hq : H[b]? with
      | none => rw [hq] at hb; cases hb
      | some k => rw [hq] at hb; cases hb
    · rw [hide_get_ne hbx] at hb
      rw [if_pos ⟨hlo, hbx⟩]
      cases hq : H[b]? with
      | none => rw [hq] at hb; cases hb
      | some k =>
        rw [hq] at hb
        simp only [Option.bind_some] at hb
        split at hb
        · exact hb
        · cases hb
  · cases hb
theorem passes_le {n : Nat} {l : List (TStep n)} {free : Int → Bool} {x : List (Int × Int)} (h : x.all labB = true) (hv : ∀ t ∈ allL n l, varB x.length t.2.1 = true) : ∀ k, LeL (Nat.repeat (pass n l free) k x) x
  | 0 => LeL.refl h
  | k + 1 => by
    have h1 := passes_le (free := free) h hv k
    have h2 := (pass_all (n := n) (l := l) (free := free) h1.lab (by rw [h1.1]; exact hv)).1
    exact h2.trans h1
theorem sm_ls {n : Nat} {ls r : List (Int × Int)} {l : List (TStep n)} (h : (Co.prog n).sm (ls, l)) (hl : r.length = ls.length) : (Co.prog n).sm (r, l) := ⟨⟨by rw [hl]; exact h.1.1, fun _ _ => ⟨trivial, trivial⟩⟩, h.2⟩
theorem lab_rg {ls : List (Int × Int)} (h : ls.all labB = true) : ∀ p ∈ ls, RgI p.1 ∧ RgI p.2 := fun p hp => by
  have q := labB_i.1 (List.all_eq_true.1 h p hp)
  unfold RgI
  exact ⟨by omega, by omega⟩
end Go.Proofs.YtkmghcglmjehcaaI
end
section
/- Sizes of programs with totals, copies of programs in blocks of one's own, marks on programs. -/
set_option linter.unusedVariables false
set_option linter.unusedSimpArgs false
namespace Go.Proofs.YtkmghcglmjehcaaI
open Go Go.RowKit
/-- A size: what is left, and how much was told at most. -/
def SzT (F : Nat → Option IFn) {α : Type} (A : Co α) (agg : Bool) (f : Nat) (t : α → Nat) : Prop :=
  ∀ (H : Heap) (v : Value) (a : α) (left : Int), Rd A agg (vw 0 H) v a → 0 ≤ left → left ≤ 1048576 → ∃ r : Int, QC F f [v, .int .i64 left] H (.int .i64 r) ∧ r ≤ left ∧ (0 ≤ r → A.sm a ∧ ((t a : Nat) : Int) ≤ left - r)
def tT : (n : Nat) → TStep n → Nat
  | 0, s => s.elim
  | n + 1, (_, _, _, _, th, el) => (th.length + (th.map (tT n)).sum) + (el.length + (el.map (tT n)).sum)
def tS (n : Nat) (l : List (TStep n)) : Nat := l.length + (l.map (tT n)).sum
def tP (n : Nat) (p : TProg n) : Nat := p.1.length + tS n p.2
theorem szFlatT_ok {F : Nat → Option IFn} {α : Type} {A : Co α} {f : Nat} (hf : F f = some szFlat) (hs : ∀ a, A.sm a) : SzT F (Co.sl A) false f List.length := by
  rintro H v l left ⟨cs, hc, w, rfl, h0, a, rfl, h2⟩ hl0 hl1
  simp only [go_sem, binC, Option.some.injEq] at hc
  subst hc
  have hw : IntKind.i64.wrap (left - l.length) = left - l.length := wrap_id (by omega) (by omega)
  by_cases hn : left - l.length < 0
  · refine ⟨-1, QC.mk hf rfl ?_, by omega, by omega⟩
    refine seq_reg ?_
    simp only [go_sem, binC]
    refine seq_reg ?_
    simp only [go_sem, binC]
    rw [hw]
    refine seq_assoc (seq_reg ?_)
    simp only [go_sem, binC]
    refine seq_cond (t := true) (by simp only [go_sem, binC]; rw [decide_eq_true hn]) ?_
    simp only [go_sem, binC]
    refine seq_assoc (seq_reg ?_)
    simp only [go_sem, binC]
    refine seq_ret ⟨Or.inr rfl, _, ?_, rfl, rfl⟩
    simp only [go_sem, binC]
  · refine ⟨left - l.length, QC.mk hf rfl ?_, by omega, fun _ => ⟨⟨by omega, fun a _ => hs a⟩, by omega⟩⟩
    refine seq_reg ?_
    simp only [go_sem, binC]
    refine seq_reg ?_
    simp only [go_sem, binC]
    rw [hw]
    refine seq_assoc (seq_reg ?_)
    simp only [go_sem, binC]
    refine seq_cond (t := false) (by simp only [go_sem, binC]; rw [decide_eq_false hn]) ?_
    simp only [go_sem, binC]
    refine seq_skip (seq_reg ?_)
    simp only [go_sem, binC]
    refine wpc_ret ⟨Or.inr rfl, _, ?_, rfl, rfl⟩
    simp only [go_sem, binC]
theorem szNestT_lp {F : Nat → Option IFn} {α : Type} {A : Co α} {g w : Nat} {agg : Bool} {t : α → Nat} (hg : SzT F A agg g t) (hw : A.w = w) (hva : ∀ V cs a, A.rd V cs a → ∃ v, valOf agg cs = some v) {H : Heap} {v : Value} {l : List α} (hv : SlR A (vw 0 H) v l) (hL : l.length ≤ 1048576) :
    ∀ (k i : Nat) (e : Env) (left : Int), i + k = l.length → e 0 = v → e 1 = .int .i64 left → e 5 = .int .i64 i → 0 ≤ left → left ≤ 1048576 →
      W F H.length (.lp (szNestB g w agg)) e H fun x e1 H1 => H1 = H ∧ ((x = .e 0 ∧ ∃ r : Int, e1 1 = .int .i64 r ∧ 0 ≤ r ∧ r ≤ left ∧ (∀ j (h : j < l.length), i ≤ j → A.sm l[j]) ∧ ((((l.drop i).map t).sum : Nat) : Int) ≤ left - r) ∨ (x = .r ∧ e1 4 = .int .i64 (-1))) := by
  obtain ⟨h0, a, rfl, h2⟩ := hv
  intro k
  induction k with
  | zero =>
    intro i e left hi e0 e1 e5 hl0 hl1
    refine lp_step ?_
    refine seq_assoc (seq_reg ?_)
    simp only [go_sem, binC, e0, e1, e5]
    refine seq_cond (t := false) (by simp only [go_sem, binC]; rw [decide_eq_false (by omega)]) ?_
    simp only [go_sem, binC]
    refine seq_exit ⟨rfl, Or.inl ⟨rfl, left, ?_, hl0, by omega, fun j h hj => by omega, by rw [List.drop_of_length_le (by omega)]; simp⟩⟩
    simp only [go_sem, binC, e1]
  | succ k ih =>
    intro i e left hi e0 e1 e5 hl0 hl1
    have hil : i < l.length := by omega
    rcases h2 with h2 | ⟨b, o, rfl, h2⟩
    · rw [h2] at hil; simp at hil
    obtain ⟨cs, h3, h4⟩ := h2 i hil
    obtain ⟨u, hu⟩ := hva _ _ _ h4
    obtain ⟨r, hq, hr1, hr2⟩ := hg H u l[i] left ⟨cs, hu, h4⟩ hl0 hl1
    have h3' := rng_gc h3
    rw [hw] at h3'
    refine lp_step ?_
    refine seq_assoc (seq_reg ?_)
    simp only [go_sem, binC, e0, e1, e5]
    refine seq_cond (t := true) (by simp only [go_sem, binC]; rw [decide_eq_true (by omega)]) ?_
    simp only [go_sem, binC]
    refine seq_skip (seq_block (seq_reg ?_))
    simp only [go_sem, binC, e0, e1, e5, h3', hu]
    refine ⟨by omega, op_callQ (v := .int .i64 r) (by simp only [go_sem, binC, e1]; exact hq) ?_⟩
    simp only [go_sem, binC]
    refine seq_reg ?_
    simp only [go_sem, binC]
    by_cases hn : r < 0
    · refine wpc_cond (t := true) (by simp only [go_sem, binC]; rw [decide_eq_true hn]) ?_
      simp only [go_sem, binC]
      refine seq_reg ?_
      simp only [go_sem, binC]
      refine wpc_ret ⟨rfl, Or.inr ⟨rfl, ?_⟩⟩
      simp only [go_sem, binC]
    · refine wpc_cond (t := false) (by simp only [go_sem, binC]; rw [decide_eq_false hn]) ?_
      simp only [go_sem, binC]
      refine wpc_skip (wpc_reg ?_)
      simp only [go_sem, binC, e5]
      have hw1 : IntKind.i64.wrap ((i : Int) + 1) = ((i + 1 : Nat) : Int) := by rw [wrap_id (by omega) (by omega)]; omega
      rw [hw1]
      refine W_mono (ih (i + 1) _ r (by omega) (by simp only [go_sem, binC, e0]) (by simp only [go_sem, binC]) (by simp only [go_sem, binC]) (by omega) (by omega)) fun x e' H' h5 => ?_
      refine ⟨h5.1, h5.2.imp (fun ⟨hx, r', q1, q2, q3, q4, q5⟩ => ⟨hx, r', q1, q2, by omega, fun j h hj => ?_, ?_⟩) id⟩
      · by_cases hij : j = i
        · subst hij; exact (hr2 (by omega)).1
        · exact q4 j h (by omega)
      · rw [List.drop_eq_getElem_cons hil, List.map_cons, List.sum_cons]
        have := (hr2 (by omega)).2
        omega

theorem szNestT_ok {F : Nat → Option IFn} {α : Type} {A : Co α} {f g w : Nat} {agg : Bool} {t : α → Nat} (hf : F f = some (szNest g w agg)) (hg : SzT F A agg g t) (hw : A.w = w) (hva : ∀ V cs a, A.rd V cs a → ∃ v, valOf agg cs = some v) : SzT F (Co.sl A) false f (fun l => l.length + (l.map t).sum) := by
  rintro H v l left ⟨cs, hc, w', rfl, hv⟩ hl0 hl1
  simp only [go_sem, binC, Option.some.injEq] at hc
  subst hc
  have hv' := hv
  obtain ⟨h0, a, rfl, h2⟩ := hv
  have hwr : IntKind.i64.wrap (left - l.length) = left - l.length := wrap_id (by omega) (by omega)
  by_cases hn : left - l.length < 0
  · refine ⟨-1, QC.mk hf rfl ?_, by omega, by omega⟩
    refine seq_reg ?_
    simp only [go_sem, binC]
    refine seq_reg ?_
    simp only [go_sem, binC]
    rw [hwr]
    refine seq_assoc (seq_reg ?_)
    simp only [go_sem, binC]
    refine seq_cond (t := true) (by simp only [go_sem, binC]; rw [decide_eq_true hn]) ?_
    simp only [go_sem, binC]
    refine seq_assoc (seq_reg ?_)
    simp only [go_sem, binC]
    refine seq_ret ⟨Or.inr rfl, _, ?_, rfl, rfl⟩
    simp only [go_sem, binC]
  · suffices h : ∃ r : Int, wpc F H.length (szNest g w agg).body (ini [.slice a l.length l.length, .int .i64 left]) H (fin [.t 4] fun w' _ => w' = .int .i64 r ∧ scal w' = true) ∧ r ≤ left ∧ (0 ≤ r → (Co.sl A).sm l ∧ (((l.length + (l.map t).sum : Nat)) : Int) ≤ left - r) by
      obtain ⟨r, h, h'⟩ := h
      exact ⟨r, QC.mk hf rfl h, h'⟩
    have key := szNestT_lp hg hw hva hv' (by omega) l.length 0 (putE (putE (putE (putE (putE (putE (putE (putE (putE (ini [.slice a l.length l.length, .int .i64 left]) (some 4) (.int .i64 0)) (some 6) (.int .i64 left)) (some 7) (.slice a l.length l.length)) (some 8) (.int .i64 l.length)) (some 9) (.int .i64 (left - l.length))) (some 1) (.int .i64 (left - l.length))) (some 10) (.int .i64 (left - l.length))) (some 11) (.bool (decide (left - l.length < 0)))) (some 5) (.int .i64 0)) (left - l.length) (by omega) (by simp only [go_sem, binC]) (by simp only [go_sem, binC]) (by simp only [go_sem, binC]; rfl) (by omega) (by omega)
    obtain ⟨x, e1, H1, k1, rfl, k2⟩ := key
    rcases k2 with ⟨rfl, r, k3, k4, k5, k6, k7⟩ | ⟨rfl, k3⟩
    · rw [List.drop_zero] at k7
      refine ⟨r, ?_, by omega, fun _ => ⟨⟨by omega, fun a ha => ?_⟩, by omega⟩⟩
      · refine seq_reg ?_
        simp only [go_sem, binC]
        refine seq_reg ?_
        simp only [go_sem, binC]
        rw [hwr]
        refine seq_assoc (seq_reg ?_)
        simp only [go_sem, binC]
        refine seq_cond (t := false) (by simp only [go_sem, binC]; rw [decide_eq_false hn]) ?_
        simp only [go_sem, binC]
        refine seq_skip (seq_assoc (seq_reg ?_))
        simp only [go_sem, binC]
        refine seq_block (wpc_loop ⟨_, _, _, k1, ?_⟩)
        simp only [go_sem, binC, out_e, thenX_n]
        refine seq_reg ?_
        simp only [go_sem, binC, k3]
        refine wpc_ret ⟨Or.inr rfl, _, ?_, rfl, rfl⟩
        simp only [go_sem, binC]
      · obtain ⟨j, hj, rfl⟩ := List.getElem_of_mem ha
        exact k6 j hj (by omega)
    · refine ⟨-1, ?_, by omega, by omega⟩
      refine seq_reg ?_
      simp only [go_sem, binC]
      refine seq_reg ?_
      simp only [go_sem, binC]
      rw [hwr]
      refine seq_assoc (seq_reg ?_)
      simp only [go_sem, binC]
      refine seq_cond (t := false) (by simp only [go_sem, binC]; rw [decide_eq_false hn]) ?_
      simp only [go_sem, binC]
      refine seq_skip (seq_assoc (seq_reg ?_))
      simp only [go_sem, binC]
      refine seq_block (wpc_loop ⟨_, _, _, k1, ?_⟩)
      simp only [go_sem, binC, out_r, thenX_r]
      refine ⟨Or.inr rfl, _, ?_, rfl, rfl⟩
      simp only [go_sem, binC, k3]
theorem szStepT_ok {n : Nat} {F : Nat → Option IFn} {f : Nat} (hf : F f = some c_szStep) (g4 : SzT F (Co.sl (Co.step n)) false 76 (tS n)) (g5 : SzT F (Co.sl (Co.step n)) false 76 (tS n)) : SzT F (Co.step (n + 1)) true f (tT (n + 1)) := by
  rintro H v ⟨a0, a1, ⟨a2, a3, a4⟩, a5, a6, a7⟩ left ⟨cs, hc, _, _, rfl, ⟨rfl, b0⟩, _, _, rfl, ⟨rfl, b1⟩, _, _, rfl, ⟨_, _, rfl, ⟨rfl, b2⟩, _, _, rfl, ⟨rfl, b3⟩, ⟨rfl, b4⟩⟩, _, _, rfl, ⟨rfl, b5⟩, _, _, rfl, ⟨v6, rfl, r6⟩, ⟨v7, rfl, r7⟩⟩ hl0 hl1
  simp only [go_sem, binC, Option.some.injEq] at hc
  subst hc
  obtain ⟨_, x6⟩ := r6.shape
  subst x6
  obtain ⟨_, x7⟩ := r7.shape
  subst x7
  suffices h : ∃ w, QC F f _ H w ∧ ∃ r : Int, w = .int .i64 r ∧ r ≤ left ∧ (0 ≤ r → (Co.step (n + 1)).sm (a0, a1, (a2, a3, a4), a5, a6, a7) ∧ ((tT (n + 1) (a0, a1, (a2, a3, a4), a5, a6, a7) : Nat) : Int) ≤ left - r) from let ⟨w, h1, r, h2, h3⟩ := h; ⟨r, h2 ▸ h1, h3⟩
  refine QC.mkE hf rfl ?_
  refine seq_reg ?_
  simp only [go_sem, binC]
  refine seq_reg ?_
  simp only [go_sem, binC]
  obtain ⟨z4, k4, y4, m4⟩ := g4 (H ++ _) _ a6 left ⟨_, rfl, ⟨_, rfl, r6.mono (vw_app 0 H _)⟩⟩ (by omega) (by omega)
  refine op_callQ (by simp only [go_sem, binC]; exact k4) ?_
  simp only [go_sem, binC]
  refine seq_assoc (seq_reg ?_)
  simp only [go_sem, binC]
  by_cases n4 : z4 < 0
  · refine seq_cond (t := true) (by simp only [go_sem, binC]; rw [decide_eq_true n4]) ?_
    simp only [go_sem, binC]
    refine seq_assoc (seq_reg ?_)
    simp only [go_sem, binC]
    refine seq_ret ⟨Or.inr rfl, .int .i64 (-1), by simp only [go_sem, binC], ⟨-1, rfl, by omega, by omega⟩, rfl⟩
  refine seq_cond (t := false) (by simp only [go_sem, binC]; rw [decide_eq_false n4]) ?_
  simp only [go_sem, binC]
  refine seq_skip ?_
  refine seq_reg ?_
  simp only [go_sem, binC]
  obtain ⟨z5, k5, y5, m5⟩ := g5 (H ++ _) _ a7 z4 ⟨_, rfl, ⟨_, rfl, r7.mono (vw_app 0 H _)⟩⟩ (by omega) (by omega)
  refine op_callQ (by simp only [go_sem, binC]; exact k5) ?_
  simp only [go_sem, binC]
  refine seq_assoc (seq_reg ?_)
  simp only [go_sem, binC]
  by_cases n5 : z5 < 0
  · refine seq_cond (t := true) (by simp only [go_sem, binC]; rw [decide_eq_true n5]) ?_
    simp only [go_sem, binC]
    refine seq_assoc (seq_reg ?_)
    simp only [go_sem, binC]
    refine seq_ret ⟨Or.inr rfl, .int .i64 (-1), by simp only [go_sem, binC], ⟨-1, rfl, by omega, by omega⟩, rfl⟩
  refine seq_cond (t := false) (by simp only [go_sem, binC]; rw [decide_eq_false n5]) ?_
  simp only [go_sem, binC]
  refine seq_skip ?_
  refine seq_reg ?_
  simp only [go_sem, binC]
  refine wpc_ret ⟨Or.inr rfl, .int .i64 z5, by simp only [go_sem, binC], ⟨_, rfl, by omega, fun _ => ⟨⟨trivial, trivial, ⟨trivial, trivial, trivial⟩, trivial, (m4 (by omega)).1, (m5 (by omega)).1⟩, by have p := (m4 (by omega)).2; have q := (m5 (by omega)).2; simp only [tT, tP, tS] at p q ⊢; omega⟩⟩, rfl⟩
theorem szProgT_ok {n : Nat} {F : Nat → Option IFn} {f : Nat} (hf : F f = some c_szProg) (g0 : SzT F (Co.sl Co.p2) false 75 List.length) (g1 : SzT F (Co.sl (Co.step n)) false 76 (tS n)) : SzT F (Co.prog n) true f (tP n) := by
  rintro H v ⟨a0, a1⟩ left ⟨cs, hc, _, _, rfl, ⟨v0, rfl, r0⟩, ⟨v1, rfl, r1⟩⟩ hl0 hl1
  simp only [go_sem, binC, Option.some.injEq] at hc
  subst hc
  obtain ⟨_, x0⟩ := r0.shape
  subst x0
  obtain ⟨_, x1⟩ := r1.shape
  subst x1
  suffices h : ∃ w, QC F f _ H w ∧ ∃ r : Int, w = .int .i64 r ∧ r ≤ left ∧ (0 ≤ r → (Co.prog n).sm (a0, a1) ∧ ((tP n (a0, a1) : Nat) : Int) ≤ left - r) from let ⟨w, h1, r, h2, h3⟩ := h; ⟨r, h2 ▸ h1, h3⟩
  refine QC.mkE hf rfl ?_
  refine seq_reg ?_
  simp only [go_sem, binC]
  refine seq_reg ?_
  simp only [go_sem, binC]
  obtain ⟨z0, k0, y0, m0⟩ := g0 (H ++ _) _ a0 left ⟨_, rfl, ⟨_, rfl, r0.mono (vw_app 0 H _)⟩⟩ (by omega) (by omega)
  refine op_callQ (by simp only [go_sem, binC]; exact k0) ?_
  simp only [go_sem, binC]
  refine seq_assoc (seq_reg ?_)
  simp only [go_sem, binC]
  by_cases n0 : z0 < 0
  · refine seq_cond (t := true) (by simp only [go_sem, binC]; rw [decide_eq_true n0]) ?_
    simp only [go_sem, binC]
    refine seq_assoc (seq_reg ?_)
    simp only [go_sem, binC]
    refine seq_ret ⟨Or.inr rfl, .int .i64 (-1), by simp only [go_sem, binC], ⟨-1, rfl, by omega, by omega⟩, rfl⟩
  refine seq_cond (t := false) (by simp only [go_sem, binC]; rw [decide_eq_false n0]) ?_
  simp only [go_sem, binC]
  refine seq_skip ?_
  refine seq_reg ?_
  simp only [go_sem, binC]
  obtain ⟨z1, k1, y1, m1⟩ := g1 (H ++ _) _ a1 z0 ⟨_, rfl, ⟨_, rfl, r1.mono (vw_app 0 H _)⟩⟩ (by omega) (by omega)
  refine op_callQ (by simp only [go_sem, binC]; exact k1) ?_
  simp only [go_sem, binC]
  refine seq_assoc (seq_reg ?_)
  simp only [go_sem, binC]
  by_cases n1 : z1 < 0
  · refine seq_cond (t := true) (by simp only [go_sem, binC]; rw [decide_eq_true n1]) ?_
    simp only [go_sem, binC]
    refine seq_assoc (seq_reg ?_)
    simp only [go_sem, binC]
    refine seq_ret ⟨Or.inr rfl, .int .i64 (-1), by simp only [go_sem, binC], ⟨-1, rfl, by omega, by omega⟩, rfl⟩
  refine seq_cond (t := false) (by simp only [go_sem, binC]; rw [decide_eq_false n1]) ?_
  simp only [go_sem, binC]
  refine seq_skip ?_
  refine seq_reg ?_
  simp only [go_sem, binC]
  refine wpc_ret ⟨Or.inr rfl, .int .i64 z1, by simp only [go_sem, binC], ⟨_, rfl, by omega, fun _ => ⟨⟨(m0 (by omega)).1, (m1 (by omega)).1⟩, by have p := (m0 (by omega)).2; have q := (m1 (by omega)).2; simp only [tT, tP, tS] at p q ⊢; omega⟩⟩, rfl⟩
end Go.Proofs.YtkmghcglmjehcaaI
end
section
/- Marks on programs. -/
set_option linter.unusedVariables false
set_option linter.unusedSimpArgs false
namespace Go.Proofs.YtkmghcglmjehcaaI
open Go Go.RowKit
def c_markStepS : IFn := ⟨2, 72, [.t 4],
 .seq (.reg none [
    ⟨(some 4), none, .mov (.c (.int .i64 0))⟩])
 (.seq (.seq (.reg none [
     ⟨(some 5), none, .mov (.c (.int .i64 0))⟩])
  (.block 0 (.loop (.seq (.seq (.reg none [
        ⟨(some 6), none, .mov (.t 5)⟩,
        ⟨(some 7), none, .mov (.t 0)⟩,
        ⟨(some 8), none, .len (.t 7)⟩,
        ⟨(some 9), none, .bin .lss (.t 6) (.t 8)⟩])
     (.cond (.t 9) (.skip) (.exit 0)))
    (.seq (.block 1 (.seq (.reg none [
         ⟨(some 12), none, .mov (.t 0)⟩,
         ⟨(some 13), none, .mov (.t 5)⟩,
         ⟨(some 14), none, .mov (.t 1)⟩,
         ⟨(some 15), none, .iad 8 (.t 12) (.t 13)⟩,
         ⟨(some 16), none, .fad 0 (.t 15)⟩,
         ⟨none, none, .store 1 (.t 16) (.t 14)⟩])
      (.seq (.reg none [
         ⟨(some 17), none, .mov (.t 1)⟩,
         ⟨(some 18), none, .bin .add (.t 17) (.c (.int .i64 1))⟩,
         ⟨(some 1), none, .mov (.t 18)⟩])
      (.seq (.reg none [
         ⟨(some 19), none, .mov (.t 0)⟩,
         ⟨(some 20), none, .mov (.t 5)⟩,
         ⟨(some 21), none, .mov (.t 1)⟩,
         ⟨(some 22), none, .iad 8 (.t 19) (.t 20)⟩,
         ⟨(some 23), none, .fad 1 (.t 22)⟩,
         ⟨none, none, .store 1 (.t 23) (.t 21)⟩])
      (.seq (.reg none [
         ⟨(some 24), none, .mov (.t 1)⟩,
         ⟨(some 25), none, .bin .add (.t 24) (.c (.int .i64 1))⟩,
         ⟨(some 1), none, .mov (.t 25)⟩])
      (.seq (.reg none [
         ⟨(some 26), none, .mov (.t 0)⟩,
         ⟨(some 27), none, .mov (.t 5)⟩,
         ⟨(some 28), none, .mov (.t 1)⟩,
         ⟨(some 29), none, .iad 8 (.t 26) (.t 27)⟩,
         ⟨(some 30), none, .fad 2 (.t 29)⟩,
         ⟨(some 31), none, .fad 0 (.t 30)⟩,
         ⟨none, none, .store 1 (.t 31) (.t 28)⟩])
      (.seq (.reg none [
         ⟨(some 32), none, .mov (.t 1)⟩,
         ⟨(some 33), none, .bin .add (.t 32) (.c (.int .i64 1))⟩,
         ⟨(some 1), none, .mov (.t 33)⟩])
      (.seq (.reg none [
         ⟨(some 34), none, .mov (.t 0)⟩,
         ⟨(some 35), none, .mov (.t 5)⟩,
         ⟨(some 36), none, .mov (.t 1)⟩,
         ⟨(some 37), none, .iad 8 (.t 34) (.t 35)⟩,
         ⟨(some 38), none, .fad 2 (.t 37)⟩,
         ⟨(some 39), none, .fad 1 (.t 38)⟩,
         ⟨none, none, .store 1 (.t 39) (.t 36)⟩])
      (.seq (.reg none [
         ⟨(some 40), none, .mov (.t 1)⟩,
         ⟨(some 41), none, .bin .add (.t 40) (.c (.int .i64 1))⟩,
         ⟨(some 1), none, .mov (.t 41)⟩])
      (.seq (.reg none [
         ⟨(some 42), none, .mov (.t 0)⟩,
         ⟨(some 43), none, .mov (.t 5)⟩,
         ⟨(some 44), none, .mov (.t 1)⟩,
         ⟨(some 45), none, .iad 8 (.t 42) (.t 43)⟩,
         ⟨(some 46), none, .fad 2 (.t 45)⟩,
         ⟨(some 47), none, .fad 2 (.t 46)⟩,
         ⟨none, none, .store 1 (.t 47) (.t 44)⟩])
      (.seq (.reg none [
         ⟨(some 48), none, .mov (.t 1)⟩,
         ⟨(some 49), none, .bin .add (.t 48) (.c (.int .i64 1))⟩,
         ⟨(some 1), none, .mov (.t 49)⟩])
      (.seq (.reg none [
         ⟨(some 50), none, .mov (.t 0)⟩,
         ⟨(some 51), none, .mov (.t 5)⟩,
         ⟨(some 52), none, .mov (.t 1)⟩,
         ⟨(some 53), none, .iad 8 (.t 50) (.t 51)⟩,
         ⟨(some 54), none, .fad 5 (.t 53)⟩,
         ⟨none, none, .store 1 (.t 54) (.t 52)⟩])
      (.seq (.reg none [
         ⟨(some 55), none, .mov (.t 1)⟩,
         ⟨(some 56), none, .bin .add (.t 55) (.c (.int .i64 1))⟩,
         ⟨(some 1), none, .mov (.t 56)⟩])
      (.seq (.reg none [
         ⟨(some 57), none, .mov (.t 0)⟩,
         ⟨(some 58), none, .mov (.t 5)⟩,
         ⟨(some 59), none, .iad 8 (.t 57) (.t 58)⟩,
         ⟨(some 60), none, .fad 6 (.t 59)⟩,
         ⟨(some 61), none, .load false 1 (.t 60)⟩,
         ⟨(some 62), none, .mov (.t 1)⟩,
         ⟨(some 63), none, .call .n (.f 82) [(.t 61), (.t 62)]⟩,
         ⟨(some 1), none, .mov (.t 63)⟩])
      (.reg none [
        ⟨(some 64), none, .mov (.t 0)⟩,
        ⟨(some 65), none, .mov (.t 5)⟩,
        ⟨(some 66), none, .iad 8 (.t 64) (.t 65)⟩,
        ⟨(some 67), none, .fad 7 (.t 66)⟩,
        ⟨(some 68), none, .load false 1 (.t 67)⟩,
        ⟨(some 69), none, .mov (.t 1)⟩,
        ⟨(some 70), none, .call .n (.f 82) [(.t 68), (.t 69)]⟩,
        ⟨(some 1), none, .mov (.t 70)⟩])))))))))))))))
    (.reg none [
      ⟨(some 10), none, .mov (.t 5)⟩,
      ⟨(some 11), none, .bin .add (.t 10) (.c (.int .i64 1))⟩,
      ⟨(some 5), none, .mov (.t 11)⟩]))))))
 (.seq (.reg none [
    ⟨(some 71), none, .mov (.t 1)⟩,
    ⟨(some 4), none, .mov (.t 71)⟩])
 (.ret)))⟩
def c_markProg : IFn := ⟨2, 14, [.t 4],
 .seq (.reg none [
    ⟨(some 2), none, .box (.t 0)⟩,
    ⟨(some 4), none, .mov (.c (.int .i64 0))⟩])
 (.seq (.reg none [
    ⟨(some 5), none, .fad 0 (.t 2)⟩,
    ⟨(some 6), none, .load false 1 (.t 5)⟩,
    ⟨(some 7), none, .mov (.t 1)⟩,
    ⟨(some 8), none, .call .n (.f 81) [(.t 6), (.t 7)]⟩,
    ⟨(some 1), none, .mov (.t 8)⟩])
 (.seq (.reg none [
    ⟨(some 9), none, .fad 1 (.t 2)⟩,
    ⟨(some 10), none, .load false 1 (.t 9)⟩,
    ⟨(some 11), none, .mov (.t 1)⟩,
    ⟨(some 12), none, .call .n (.f 82) [(.t 10), (.t 11)]⟩,
    ⟨(some 1), none, .mov (.t 12)⟩])
 (.seq (.reg none [
    ⟨(some 13), none, .mov (.t 1)⟩,
    ⟨(some 4), none, .mov (.t 13)⟩])
 (.ret))))⟩
def cT : (n : Nat) → TStep n → Nat
  | 0, s => s.elim
  | n + 1, (_, _, _, _, th, el) => 6 + ((th.map (cT n)).sum + (el.map (cT n)).sum)
def cS (n : Nat) (l : List (TStep n)) : Nat := (l.map (cT n)).sum
def nLab (l : List (Int × Int)) : Nat := l.length * 2
def cP (n : Nat) (p : TProg n) : Nat := nLab p.1 + cS n p.2
theorem cS_le : ∀ (n : Nat), (∀ s : TStep n, cT n s ≤ 6 + 6 * tT n s)
  | 0 => fun s => s.elim
  | n + 1 => fun (k, x, v, h, th, el) => by
    have go : ∀ l : List (TStep n), (l.map (cT n)).sum ≤ 6 * (l.length + (l.map (tT n)).sum) := by
      intro l
      induction l with
      | nil => simp
      | cons a l ih =>
        have := cS_le n a
        simp only [List.map_cons, List.sum_cons, List.length_cons]
        omega
    have h1 := go th
    have h2 := go el
    simp only [cT, tT]
    omega
theorem cS_le' {n : Nat} (l : List (TStep n)) : cS n l ≤ 6 * tS n l := by
  unfold cS tS
  induction l with
  | nil => simp
  | cons a l ih =>
    have := cS_le n a
    simp only [List.map_cons, List.sum_cons, List.length_cons]
    omega
theorem cP_le {n : Nat} (p : TProg n) : cP n p ≤ 6 * tP n p := by
  have := cS_le' p.2
  unfold cP tP nLab
  omega
theorem sT : ∀ n, CoSim (Co.step n) (cT n)
  | 0 => fun V V' cs cs' a _ _ h => h.elim
  | n + 1 => by
    have h1 := (sT n).sum
    have hv : CoSim Co.val (fun p : Int × Int × Int => ((), (), ())) := CoSim.pair CoSim.int (CoSim.pair CoSim.int CoSim.int)
    have h2 := (CoSim.pair CoSim.int (CoSim.pair CoSim.int (CoSim.pair hv (CoSim.pair CoSim.int (CoSim.pair h1 h1))))).comp (fun p => 6 + (p.2.2.2.2.1 + p.2.2.2.2.2))
    intro V V' cs cs' a g1 g2 g3
    obtain ⟨a', g4, g5⟩ := h2 V V' cs cs' a g1 g2 g3
    exact ⟨a', g4, g5⟩
theorem sS (n : Nat) : CoSim (Co.sl (Co.step n)) (cS n) := (sT n).sum
theorem sLab : CoSim (Co.sl Co.p2) nLab := (CoSim.pair CoSim.int CoSim.int).len 2
theorem FrI.sl1 {lo hi : Nat} {H H' : Heap} (h : FrI lo hi H H') {b j : Nat} {a : Option Addr} {n c : Nat} (hg : getCells H b j 1 = some [.slice a n c]) : getCells H' b j 1 = some [.slice a n c] := by
  unfold getCells at hg ⊢
  cases hb : H[b]? with
  | none => rw [hb] at hg; cases hg
  | some k =>
    rw [hb] at hg
    simp only at hg
    split at hg
    case isFalse => cases hg
    case isTrue hl =>
    rcases h.2 b (List.getElem?_eq_some_iff.1 hb).1 with h1 | ⟨_, _, k1, k2, h1, h2, _, h3⟩
    · rw [h1, hb]
      simp only
      rw [if_pos hl]
      exact hg
    · rw [hb] at h1
      cases h1
      rw [h2]
      simp only
      rw [h3.1, if_pos hl]
      have e1 : k.cells[j]? = some (.slice a n c) := by
        have := congrArg (fun q => (q.getD []).head?) hg
        simp only [Option.getD_some, List.head?_cons, List.head?_take, List.head?_drop] at this
        simpa using this
      obtain ⟨c', q1, q2⟩ := h3.2 j _ e1
      have q3 : c' = .slice a n c := by
        rcases q2 with q2 | ⟨⟨m, q2⟩, _⟩
        · exact q2
        · cases q2
      subst q3
      obtain ⟨hj, hje⟩ := List.getElem?_eq_some_iff.1 q1
      rw [List.drop_eq_getElem_cons hj, hje]
      rfl
/-- Six numbers of a step written. -/
theorem frI_six {lo hi : Nat} {H : Heap} {b o : Nat} {cs : List Value} {es et : Nat} {ap : Bool} (hb : H[b]? = some ⟨cs, es, et, ap, true⟩) (h1 : lo ≤ b) (h2 : b < hi) (hl : o + 6 ≤ cs.length) (hc : ∀ j, j < 6 → ∃ m, cs[o + j]? = some (.int .i64 m)) {k : Int} (hk : 0 ≤ k) (hkn : k + 6 ≤ 9223372036854775807) : FrI lo hi H (markB H b o k 6) := by
  refine ⟨Nat.le_of_eq (markB_len _ _ _ _ _).symm, fun b' hb' => ?_⟩
  by_cases e : b' = b
  · subst e
    refine .inr ⟨h1, h2, _, _, hb, markB_get hb _ _ _, rfl, setL_length _ _ _, fun i c hi => ?_⟩
    simp only at hi ⊢
    rw [setL_get _ _ _ _ (by rw [seqI_length]; exact hl), seqI_length]
    by_cases hi2 : o ≤ i ∧ i < o + 6
    · rw [if_pos hi2, seqI_at _ _ _ (by omega)]
      obtain ⟨m, hm⟩ := hc (i - o) (by omega)
      rw [show o + (i - o) = i by omega, hi] at hm
      cases hm
      exact ⟨_, rfl, .inr ⟨⟨m, rfl⟩, _, rfl, by omega, by omega⟩⟩
    · rw [if_neg hi2]
      exact ⟨c, hi, .inl rfl⟩
  · exact .inl (markB_ne _ _ _ _ e)
set_option maxHeartbeats 4000000 in
theorem mkSteps_ok {F : Nat → Option IFn} {n : Nat} (hf : F 82 = some c_markStepS) (ihn : MkOk F (Co.sl (Co.step n)) false 82 (cS n)) : MkOk F (Co.sl (Co.step (n + 1))) false 82 (cS (n + 1)) := by
  rintro H v l lo hi lo0 k ⟨cs, hc, u, rfl, hr⟩ hhi hlo hk hkn
  simp only [valOf_one, Option.some.injEq] at hc
  subst hc
  have hr0 := hr
  obtain ⟨hn, a, rfl, ha⟩ := hr
  have hs := sT (n + 1)
  suffices h : ∃ v H', NC F lo0 82 [.slice a l.length l.length, .int .i64 k] H v H' ∧ v = .int .i64 (k + (cS (n + 1) l : Nat)) ∧ FrI lo hi H H' by
    obtain ⟨v, H', h1, rfl, h2⟩ := h
    exact ⟨H', h1, h2⟩
  unfold cS at hkn ⊢
  refine NC.mk hf rfl ?_
  refine seq_reg ?_
  simp only [go_sem, binC]
  refine seq_assoc (seq_reg ?_)
  simp only [go_sem, binC]
  refine seq_block (wpc_loop ?_)
  suffices h : ∀ (j i : Nat) (e : Env) (H' : Heap), i + j = l.length → FrI lo hi H H' → e 0 = .slice a l.length l.length → e 5 = .int .i64 i → e 1 = .int .i64 (k + (((l.map (cT (n + 1))).take i).sum : Nat)) → W F lo0 _ e H' _ from
    h l.length 0 _ _ (by omega) (FrI.refl _ _ _) (by simp only [go_sem, binC]) (by simp only [go_sem, binC]; rfl) (by simp only [go_sem, binC]; simp)
  intro j
  induction j with
  | zero =>
    intro i e H' hi2 hfr e0 e5 e1
    refine lp_step ?_
    refine seq_assoc (seq_reg ?_)
    simp only [go_sem, binC, e0, e5]
    refine seq_cond (t := false) (by simp only [go_sem, binC]; rw [decide_eq_false (by omega)]) ?_
    simp only [go_sem, binC]
    refine seq_exit ?_
    simp only [go_sem, binC, thenX_e, out_e, thenX_n]
    refine seq_reg ?_
    simp only [go_sem, binC, e1]
    obtain rfl : i = l.length := by omega
    refine wpc_ret ⟨Or.inr rfl, _, (by simp only [go_sem, binC]; rfl), ?_, hfr⟩
    rw [List.take_of_length_le (by rw [List.length_map]; omega)]
  | succ j ih =>
    intro i e H' hi2 hfr e0 e5 e1
    have hil : i < l.length := by omega
    have hsum := sum_take (fun x => x) (l.map (cT (n + 1))) i (by rw [List.length_map]; exact hil)
    rw [List.getElem_map] at hsum
    have hle := sum_take_le (l.map (cT (n + 1))) (i + 1)
    obtain ⟨l', hl', hm⟩ := hs.sl _ _ _ _ _ hfr.vsim (CsSim.refl _) (Co.rd_sl.2 hr0)
    obtain ⟨_, a', e6, h7⟩ := Co.rd_sl.1 hl'
    have hll : l'.length = l.length := by have := congrArg List.length hm; simpa using this
    rcases h7 with rfl | ⟨b, o, rfl, h7⟩
    · simp only [List.length_nil] at hll; omega
    obtain ⟨cs, h8, h9⟩ := h7 i (by omega)
    rw [hll] at e6
    simp only [Value.slice.injEq] at e6
    obtain ⟨rfl, _⟩ := e6
    have hci : cT (n + 1) l'[i] = cT (n + 1) l[i] := by
      have := congrArg (fun q => q[i]?) hm
      simp only [List.getElem?_map, List.getElem?_eq_getElem hil, List.getElem?_eq_getElem (show i < l'.length by omega), Option.map_some, Option.some.injEq] at this
      exact this
    rw [← hci] at hsum
    generalize l'[i] = s at h9 hsum
    obtain ⟨c0, c1, ⟨c2, c3, c4⟩, c5, th, el⟩ := s
    obtain ⟨_, _, rfl, ⟨rfl, b0⟩, _, _, rfl, ⟨rfl, b1⟩, _, _, rfl, ⟨_, _, rfl, ⟨rfl, b2⟩, _, _, rfl, ⟨rfl, b3⟩, ⟨rfl, b4⟩⟩, _, _, rfl, ⟨rfl, b5⟩, _, _, rfl, ⟨tv, rfl, r6⟩, ⟨ev, rfl, r7⟩⟩ := h9
    simp only [List.cons_append, List.nil_append] at h8
    obtain ⟨ccs, es, et, ap, hb, hlen, hcut, hlb, hbh⟩ : ∃ ccs es et ap, H'[b]? = some ⟨ccs, es, et, ap, true⟩ ∧ o + i * 8 + 8 ≤ ccs.length ∧ (ccs.drop (o + i * 8)).take 8 = [.int .i64 c0, .int .i64 c1, .int .i64 c2, .int .i64 c3, .int .i64 c4, .int .i64 c5, tv, ev] ∧ lo ≤ b ∧ b < hi := by
      rw [step_w] at h8
      unfold rng at h8
      split at h8
      · rename_i kk hk2
        obtain ⟨g1, g2, es, et, ap, g3⟩ := vwb_some hk2
        split at h8
        · rename_i hl2
          simp only [Option.some.injEq] at h8
          exact ⟨kk, es, et, ap, g3, hl2, h8, g1, g2⟩
        · cases h8
      · cases h8
    clear h8
    have hcj : ∀ j, ccs[o + i * 8 + j]? = if j < 8 then [.int .i64 c0, .int .i64 c1, .int .i64 c2, .int .i64 c3, .int .i64 c4, .int .i64 c5, tv, ev][j]? else ccs[o + i * 8 + j]? := fun j => by
      split
      · rename_i hj
        rw [← hcut, List.getElem?_take_of_lt hj, List.getElem?_drop]
      · rfl
    have hone : ∀ v' : Value, ∀ j, j < 8 → 6 ≤ j → ccs[o + i * 8 + j]? = some v' → ∀ q, getCells (markB H' b (o + i * 8) q 6) b (o + i * 8 + j) 1 = some [v'] := fun v' j h1 h2 h3 q => by
      unfold getCells
      rw [markB_get hb]
      simp only [setL_length]
      rw [if_pos (by omega)]
      have hg : (setL ccs (o + i * 8) (seqI q 6))[o + i * 8 + j]? = some v' := by
        rw [setL_get _ _ _ _ (by rw [seqI_length]; omega), seqI_length, if_neg (by omega)]
        exact h3
      obtain ⟨hj, hje⟩ := List.getElem?_eq_some_iff.1 hg
      rw [List.drop_eq_getElem_cons hj, hje]
      rfl
    obtain ⟨h60, a6, rfl, h62⟩ := r6
    obtain ⟨h70, a7, rfl, h72⟩ := r7
    have hq0 : 0 ≤ k + (((l.map (cT (n + 1))).take i).sum : Nat) := by omega
    have hct : cT (n + 1) (c0, c1, (c2, c3, c4), c5, th, el) = 6 + (cS n th + cS n el) := rfl
    rw [hct] at hsum
    have hqn : (k + (((l.map (cT (n + 1))).take i).sum : Nat)) + (6 + (cS n th + cS n el) : Nat) ≤ 9223372036854775807 := by omega
    have hq2 : k + (((l.map (cT (n + 1))).take (i + 1)).sum : Nat) = (k + (((l.map (cT (n + 1))).take i).sum : Nat)) + (6 + (cS n th + cS n el) : Nat) := by omega
    generalize k + (((l.map (cT (n + 1))).take i).sum : Nat) = q at e1 hq0 hqn hq2
    have hF6 := frI_six hb hlb hbh (o := o + i * 8) (k := q) (by omega) (fun j hj => by
      rw [hcj, if_pos (by omega)]
      have : j = 0 ∨ j = 1 ∨ j = 2 ∨ j = 3 ∨ j = 4 ∨ j = 5 := by omega
      rcases this with rfl | rfl | rfl | rfl | rfl | rfl <;> exact ⟨_, rfl⟩) hq0 (by omega)
    have g6 := hone _ 6 (by omega) (by omega) (by rw [hcj, if_pos (by omega)]; rfl) q
    have g7 := hone _ 7 (by omega) (by omega) (by rw [hcj, if_pos (by omega)]; rfl) q
    have hlen6 : ∀ m, (setL ccs (o + i * 8) (seqI q m)).length = ccs.length := fun m => setL_length _ _ _
    refine lp_step ?_
    refine seq_assoc (seq_reg ?_)
    simp only [go_sem, binC, e0, e5]
    refine seq_cond (t := true) (by simp only [go_sem, binC]; rw [decide_eq_true (by omega)]) ?_
    simp only [go_sem, binC]
    refine seq_skip (seq_block ?_)
    rw [← markB_zero H' b (o + i * 8) q]
    refine seq_reg ?_
    simp only [go_sem, binC, e0, e5, e1, markB_get hb, hlen6]
    refine ⟨⟨by omega, by omega⟩, ⟨by omega, by omega⟩, ?_⟩
    rw [markB_step hb (m := 0) (by omega) (by omega)]
    refine seq_reg ?_
    simp only [go_sem, binC, e1]
    rw [wrap_id (x := q + 1) (by omega) (by omega)]
    refine seq_reg ?_
    simp only [go_sem, binC, e0, e5, e1, markB_get hb, hlen6]
    refine ⟨⟨by omega, by omega⟩, ⟨by omega, by omega⟩, ?_⟩
    rw [markB_step hb (m := 1) (by omega) (by omega)]
    refine seq_reg ?_
    simp only [go_sem, binC, e1]
    rw [wrap_id (x := (q + 1) + 1) (by omega) (by omega)]
    refine seq_reg ?_
    simp only [go_sem, binC, e0, e5, e1, markB_get hb, hlen6]
    refine ⟨⟨by omega, by omega⟩, ⟨by omega, by omega⟩, ?_⟩
    rw [markB_step hb (m := 2) (by omega) (by omega)]
    refine seq_reg ?_
    simp only [go_sem, binC, e1]
    rw [wrap_id (x := ((q + 1) + 1) + 1) (by omega) (by omega)]
    refine seq_reg ?_
    simp only [go_sem, binC, e0, e5, e1, markB_get hb, hlen6]
    refine ⟨⟨by omega, by omega⟩, ⟨by omega, by omega⟩, ?_⟩
    rw [markB_step hb (m := 3) (by omega) (by omega)]
    refine seq_reg ?_
    simp only [go_sem, binC, e1]
    rw [wrap_id (x := (((q + 1) + 1) + 1) + 1) (by omega) (by omega)]
    refine seq_reg ?_
    simp only [go_sem, binC, e0, e5, e1, markB_get hb, hlen6]
    refine ⟨⟨by omega, by omega⟩, ⟨by omega, by omega⟩, ?_⟩
    rw [markB_step hb (m := 4) (by omega) (by omega)]
    refine seq_reg ?_
    simp only [go_sem, binC, e1]
    rw [wrap_id (x := ((((q + 1) + 1) + 1) + 1) + 1) (by omega) (by omega)]
    refine seq_reg ?_
    simp only [go_sem, binC, e0, e5, e1, markB_get hb, hlen6]
    refine ⟨⟨by omega, by omega⟩, ⟨by omega, by omega⟩, ?_⟩
    rw [markB_step hb (m := 5) (by omega) (by omega)]
    refine seq_reg ?_
    simp only [go_sem, binC, e1]
    rw [wrap_id (x := (((((q + 1) + 1) + 1) + 1) + 1) + 1) (by omega) (by omega)]
    obtain ⟨th', ht1, ht2⟩ := sS n _ _ _ _ th hF6.vsim (CsSim.refl [.slice a6 th.length th.length]) ⟨_, rfl, h60, a6, rfl, h62⟩
    obtain ⟨Ha, ka, fa⟩ := ihn _ (.slice a6 th.length th.length) th' lo hi lo0 (q + 6) ⟨_, rfl, ht1⟩ (by have := hfr.1; have := hF6.1; omega) hlo (by omega) (by omega)
    rw [ht2] at ka
    refine seq_reg ?_
    simp only [go_sem, binC, e0, e5, g6]
    refine ⟨⟨by omega, by omega⟩, ?_⟩
    refine op_callN (by simp only [go_sem, binC]; rw [show (((((q + 1) + 1) + 1) + 1) + 1) + 1 = q + 6 by omega]; exact ka) ?_
    simp only [go_sem, binC]
    have hFa := hF6.trans fa
    obtain ⟨el', he1, he2⟩ := sS n _ _ _ _ el hFa.vsim (CsSim.refl [.slice a7 el.length el.length]) ⟨_, rfl, h70, a7, rfl, h72⟩
    obtain ⟨Hb, kb, fb⟩ := ihn _ (.slice a7 el.length el.length) el' lo hi lo0 (q + 6 + (cS n th : Nat)) ⟨_, rfl, he1⟩ (by have := hfr.1; have := hFa.1; omega) hlo (by omega) (by omega)
    rw [he2] at kb
    have g7a := fa.sl1 g7
    refine wpc_reg ?_
    simp only [go_sem, binC, e0, e5, g7a]
    refine ⟨⟨by omega, by omega⟩, ?_⟩
    refine op_callN (by simp only [go_sem, binC]; exact kb) ?_
    simp only [go_sem, binC, out_n, thenX_n]
    have hw1 : IntKind.i64.wrap ((i : Int) + 1) = ((i + 1 : Nat) : Int) := by rw [wrap_id (by omega) (by omega)]; omega
    refine wpc_reg ?_
    simp only [go_sem, binC, e5, hw1]
    simp only [go_sem, binC, thenX_n]
    refine ih (i + 1) _ Hb (by omega) ((hfr.trans hFa).trans fb) (by simp only [go_sem, binC, e0]) (by simp only [go_sem, binC]) (by simp only [go_sem, binC]; rw [hq2]; congr 1; omega)
theorem mkSteps_all {F : Nat → Option IFn} (hf : F 82 = some c_markStepS) : ∀ n, MkOk F (Co.sl (Co.step n)) false 82 (cS n)
  | 0 => by
    rintro H v l lo hi lo0 k ⟨cs, hc, u, rfl, hr⟩ hhi hlo hk hkn
    simp only [valOf_one, Option.some.injEq] at hc
    subst hc
    obtain ⟨hn, a, rfl, ha⟩ := hr
    have h0 : l = [] := by
      cases l with
      | nil => rfl
      | cons s l => exact s.elim
    subst h0
    suffices h : ∃ v H', NC F lo0 82 [.slice a 0 0, .int .i64 k] H v H' ∧ v = .int .i64 k ∧ FrI lo hi H H' by
      obtain ⟨v, H', h1, rfl, h2⟩ := h
      refine ⟨H', ?_, h2⟩
      have e : k + ((cS 0 [] : Nat) : Int) = k := by simp [cS]
      rw [e]
      exact h1
    refine NC.mk hf rfl ?_
    refine seq_reg ?_
    simp only [go_sem, binC]
    refine seq_assoc (seq_reg ?_)
    simp only [go_sem, binC]
    refine seq_block (wpc_loop ?_)
    refine lp_step ?_
    refine seq_assoc (seq_reg ?_)
    simp only [go_sem, binC]
    refine seq_cond (t := false) (by simp only [go_sem, binC]; rfl) ?_
    simp only [go_sem, binC]
    refine seq_exit ?_
    simp only [go_sem, binC, thenX_e, out_e, thenX_n]
    refine seq_reg ?_
    simp only [go_sem, binC]
    exact wpc_ret ⟨Or.inr rfl, _, (by (simp only [go_sem, binC]) <;> rfl), rfl, FrI.refl _ _ _⟩
  | n + 1 => mkSteps_ok hf (mkSteps_all hf n)
end Go.Proofs.YtkmghcglmjehcaaI
end
section
/- Copies of programs in blocks of one's own, and marks on them. -/
set_option linter.unusedVariables false
set_option linter.unusedSimpArgs false
namespace Go.Proofs.YtkmghcglmjehcaaI
open Go Go.RowKit
theorem toLabel_okS {F : Nat → Option IFn} {f : Nat} (hf : F f = some c_toLabel) : ToOkS F Co.p2 true .q f := by
  refine ToOkS.ofQ ?_
  rintro H v ⟨a0, a1⟩ ⟨cs, hc, _, _, rfl, ⟨rfl, b0⟩, ⟨rfl, b1⟩⟩ hs
  simp only [go_sem, binC, Option.some.injEq] at hc
  subst hc
  refine ⟨_, QC.mk hf rfl ?_, ⟨_, rfl, _, _, rfl, ⟨rfl, b0⟩, ⟨rfl, b1⟩⟩⟩
  repeat (refine seq_reg ?_; simp only [go_sem, binC])
  refine wpc_ret ⟨Or.inr rfl, _, ?_, rfl, rfl⟩
  simp only [go_sem, binC]
theorem toVal_okS {F : Nat → Option IFn} {f : Nat} (hf : F f = some c_toVal) : ToOkS F Co.val true .q f := by
  refine ToOkS.ofQ ?_
  rintro H v ⟨a0, a1, a2⟩ ⟨cs, hc, _, _, rfl, ⟨rfl, b0⟩, _, _, rfl, ⟨rfl, b1⟩, ⟨rfl, b2⟩⟩ hs
  simp only [go_sem, binC, Option.some.injEq] at hc
  subst hc
  refine ⟨_, QC.mk hf rfl ?_, ⟨_, rfl, _, _, rfl, ⟨rfl, b0⟩, _, _, rfl, ⟨rfl, b1⟩, ⟨rfl, b2⟩⟩⟩
  repeat (refine seq_reg ?_; simp only [go_sem, binC])
  refine wpc_ret ⟨Or.inr rfl, _, ?_, rfl, rfl⟩
  simp only [go_sem, binC]
theorem toStep_okS {n : Nat} {F : Nat → Option IFn} {f : Nat} (hf : F f = some c_toStep) (g2 : ToOkS F Co.val true .q 148) (g4 : ToOkS F (Co.sl (Co.step n)) false .k 78) (g5 : ToOkS F (Co.sl (Co.step n)) false .k 78) : ToOkS F (Co.step (n + 1)) true .k f := by
  refine ToOkS.ofK ?_
  rintro H v ⟨a0, a1, ⟨a2, a3, a4⟩, a5, a6, a7⟩ ⟨cs, hc, _, _, rfl, ⟨rfl, b0⟩, _, _, rfl, ⟨rfl, b1⟩, _, _, rfl, ⟨_, _, rfl, ⟨rfl, b2⟩, _, _, rfl, ⟨rfl, b3⟩, ⟨rfl, b4⟩⟩, _, _, rfl, ⟨rfl, b5⟩, _, _, rfl, ⟨v6, rfl, r6⟩, ⟨v7, rfl, r7⟩⟩ ⟨s0, s1, ⟨s2, s3, s4⟩, s5, s6, s7⟩
  simp only [go_sem, binC, Option.some.injEq] at hc
  subst hc
  obtain ⟨_, x6⟩ := r6.shape
  subst x6
  obtain ⟨_, x7⟩ := r7.shape
  subst x7
  refine KC.mk hf rfl ?_
  refine seq_reg ?_
  simp only [go_sem, binC]
  refine seq_reg ?_
  simp only [go_sem, binC]
  refine seq_reg ?_
  simp only [go_sem, binC]
  refine seq_reg ?_
  simp only [go_sem, binC]
  refine seq_reg ?_
  simp only [go_sem, binC]
  refine g2 _ _ ⟨a2, a3, a4⟩ ⟨_, rfl, ⟨_, _, rfl, ⟨rfl, b2⟩, _, _, rfl, ⟨rfl, b3⟩, ⟨rfl, b4⟩⟩⟩ ⟨s2, s3, s4⟩ _ _ _ _ (by simp only [go_sem, binC]) ?_
  rintro w2 L2 ⟨_, hc, _, _, rfl, ⟨rfl, bq2⟩, _, _, rfl, ⟨rfl, bq3⟩, ⟨rfl, bq4⟩⟩
  simp only [go_sem, binC, Option.some.injEq] at hc
  subst hc
  simp only [go_sem, binC]
  refine seq_reg ?_
  simp only [go_sem, binC]
  refine seq_reg ?_
  simp only [go_sem, binC]
  refine g4 _ _ a6 ⟨_, rfl, ⟨_, rfl, r6.mono (vw_app 0 H _)⟩⟩ s6 _ _ _ _ (by simp only [go_sem, binC]) ?_
  rintro w4 L4 ⟨_, hc, vq6, rfl, rq6⟩
  simp only [go_sem, binC, Option.some.injEq] at hc
  subst hc
  obtain ⟨_, xq6⟩ := rq6.shape
  subst xq6
  simp only [go_sem, binC]
  refine seq_reg ?_
  simp only [go_sem, binC]
  refine g5 _ _ a7 ⟨_, rfl, ⟨_, rfl, r7.mono (vw_app 0 H _)⟩⟩ s7 _ _ _ _ (by simp only [go_sem, binC]) ?_
  rintro w5 L5 ⟨_, hc, vq7, rfl, rq7⟩
  simp only [go_sem, binC, Option.some.injEq] at hc
  subst hc
  obtain ⟨_, xq7⟩ := rq7.shape
  subst xq7
  simp only [go_sem, binC]
  refine seq_reg ?_
  simp only [go_sem, binC]
  refine wpc_ret ⟨Or.inr rfl, _, by simp only [go_sem, binC], _, rfl, _, rfl, _, _, rfl, ⟨rfl, b0⟩, _, _, rfl, ⟨rfl, b1⟩, _, _, rfl, ⟨_, _, rfl, ⟨rfl, b2⟩, _, _, rfl, ⟨rfl, b3⟩, ⟨rfl, b4⟩⟩, _, _, rfl, ⟨rfl, b5⟩, _, _, rfl, ⟨_, rfl, rq6.mono (vws_in (H.length + 3) (L2 ++ L4) L5 (by simp only [go_sem, binC]; try omega) (by omega) (by simp only [go_sem, binC]) (by simp only [go_sem, binC]))⟩, ⟨_, rfl, rq7.mono (vws_in (H.length + 3) (L2 ++ (L4 ++ L5)) [] (by simp only [go_sem, binC]; try omega) (by omega) (by simp only [go_sem, binC]) (by simp only [go_sem, binC]))⟩⟩
theorem toProg_okS {n : Nat} {F : Nat → Option IFn} {f : Nat} (hf : F f = some c_toProg) (g0 : ToOkS F (Co.sl Co.p2) false .k 77) (g1 : ToOkS F (Co.sl (Co.step n)) false .k 78) : ToOkS F (Co.prog n) true .k f := by
  refine ToOkS.ofK ?_
  rintro H v ⟨a0, a1⟩ ⟨cs, hc, _, _, rfl, ⟨v0, rfl, r0⟩, ⟨v1, rfl, r1⟩⟩ ⟨s0, s1⟩
  simp only [go_sem, binC, Option.some.injEq] at hc
  subst hc
  obtain ⟨_, x0⟩ := r0.shape
  subst x0
  obtain ⟨_, x1⟩ := r1.shape
  subst x1
  refine KC.mk hf rfl ?_
  refine seq_reg ?_
  simp only [go_sem, binC]
  refine seq_reg ?_
  simp only [go_sem, binC]
  refine seq_reg ?_
  simp only [go_sem, binC]
  refine g0 _ _ a0 ⟨_, rfl, ⟨_, rfl, r0.mono (vw_app 0 H _)⟩⟩ s0 _ _ _ _ (by simp only [go_sem, binC]) ?_
  rintro w0 L0 ⟨_, hc, vq0, rfl, rq0⟩
  simp only [go_sem, binC, Option.some.injEq] at hc
  subst hc
  obtain ⟨_, xq0⟩ := rq0.shape
  subst xq0
  simp only [go_sem, binC]
  refine seq_reg ?_
  simp only [go_sem, binC]
  refine g1 _ _ a1 ⟨_, rfl, ⟨_, rfl, r1.mono (vw_app 0 H _)⟩⟩ s1 _ _ _ _ (by simp only [go_sem, binC]) ?_
  rintro w1 L1 ⟨_, hc, vq1, rfl, rq1⟩
  simp only [go_sem, binC, Option.some.injEq] at hc
  subst hc
  obtain ⟨_, xq1⟩ := rq1.shape
  subst xq1
  simp only [go_sem, binC]
  refine seq_reg ?_
  simp only [go_sem, binC]
  refine wpc_ret ⟨Or.inr rfl, _, by simp only [go_sem, binC], _, rfl, _, rfl, _, _, rfl, ⟨_, rfl, rq0.mono (vws_in (H.length + 3) L0 L1 (by simp only [go_sem, binC]; try omega) (by omega) (by simp only [go_sem, binC]) (by simp only [go_sem, binC]))⟩, ⟨_, rfl, rq1.mono (vws_in (H.length + 3) (L0 ++ L1) [] (by simp only [go_sem, binC]; try omega) (by omega) (by simp only [go_sem, binC]) (by simp only [go_sem, binC]))⟩⟩
theorem toStepsS_all {F : Nat → Option IFn} (h1 : F 124 = some c_toStep) (h2 : F 78 = some (toCall .k 124 8 83 96 [(.int .i64 0), (.int .i64 0), (.int .i64 0), (.int .i64 0), (.int .i64 0), (.int .i64 0), (.slice none 0 0), (.slice none 0 0)] true)) (gv : ToOkS F Co.val true .q 148) : ∀ n, ToOkS F (Co.step n) true .k 124 ∧ ToOkS F (Co.sl (Co.step n)) false .k 78 := by
  intro n
  induction n with
  | zero =>
    have z : ToOkS F (Co.step 0) true .k 124 := by
      rintro H v a ⟨cs, _, h⟩
      exact h.elim
    exact ⟨z, toCallS_ok h2 rfl (by omega) z (step_w 0) (va_t (Co.step 0))⟩
  | succ n ih =>
    have z : ToOkS F (Co.step (n + 1)) true .k 124 := toStep_okS h1 gv ih.2 ih.2
    exact ⟨z, toCallS_ok h2 rfl (by omega) z (step_w (n + 1)) (va_t (Co.step (n + 1)))⟩
theorem szStepsT_all {F : Nat → Option IFn} (h1 : F 122 = some c_szStep) (h2 : F 76 = some (szNest 122 8 true)) : ∀ n, SzT F (Co.step n) true 122 (tT n) ∧ SzT F (Co.sl (Co.step n)) false 76 (tS n) := by
  intro n
  induction n with
  | zero =>
    have z : SzT F (Co.step 0) true 122 (tT 0) := by
      rintro H v a left ⟨cs, _, h⟩
      exact h.elim
    exact ⟨z, szNestT_ok h2 z (step_w 0) (va_t (Co.step 0))⟩
  | succ n ih =>
    have z : SzT F (Co.step (n + 1)) true 122 (tT (n + 1)) := szStepT_ok h1 ih.2 ih.2
    exact ⟨z, szNestT_ok h2 z (step_w (n + 1)) (va_t (Co.step (n + 1)))⟩
theorem markProg_ok {n : Nat} {F : Nat → Option IFn} {f : Nat} (hf : F f = some c_markProg) (g0 : MkOk F (Co.sl Co.p2) false 81 nLab) (s0 : CoSim (Co.sl Co.p2) nLab) (g1 : MkOk F (Co.sl (Co.step n)) false 82 (cS n)) (s1 : CoSim (Co.sl (Co.step n)) (cS n)) : MkOk F (Co.prog n) true f (fun a => nLab a.1 + (cS n) a.2) := by
  rintro H v ⟨a0, a1⟩ lo hi lo0 k ⟨cs, hc, _, _, rfl, ⟨v0, rfl, r0⟩, ⟨v1, rfl, r1⟩⟩ hhi hlo hk hkn
  simp only [go_sem, binC, Option.some.injEq] at hc hkn
  subst hc
  have q0 := r0
  have q1 := r1
  obtain ⟨_, x0⟩ := r0.shape
  subst x0
  obtain ⟨_, x1⟩ := r1.shape
  subst x1
  suffices h : ∃ w H', NC F lo0 f [_, .int .i64 k] H w H' ∧ (w = .int .i64 (k + (((nLab a0 + (cS n) a1 : Nat)) : Int)) ∧ FrI lo hi H H') by
    obtain ⟨w, H', h1, rfl, h2⟩ := h
    exact ⟨H', h1, h2⟩
  refine NC.mk hf rfl ?_
  refine seq_reg ?_
  simp only [go_sem, binC]
  refine wpc_gen fun Hb hHb => ?_
  have hab : Ag 0 H.length H Hb := hHb ▸ ag_app _ _
  have hlb : Hb.length = H.length + 1 := by rw [hHb, List.length_append]; rfl
  have hbx := fun o n => hHb ▸ gc_new0 H _ o n
  simp only [go_sem, binC] at hbx
  have hsb : Sub (vwb lo hi H) (vwb lo hi Hb) := vwb_same fun b _ h => hab b (Nat.zero_le _) (by omega)
  have fr : FrI lo hi H Hb := hHb ▸ FrI.grow _ _
  have fr0 : FrI lo hi Hb Hb := FrI.refl _ _ _
  refine seq_reg ?_
  simp only [go_sem, binC, hbx]
  obtain ⟨d0, x0, y0⟩ := s0 _ _ _ _ a0 fr0.vsim (CsSim.refl _) (show (Co.sl Co.p2).rd (vwb lo hi Hb) _ a0 from ⟨_, rfl, r0.mono hsb⟩)
  obtain ⟨H0, m0, f0⟩ := g0 Hb _ d0 lo hi lo0 (k) ⟨_, (by simp only [go_sem, binC]; rfl), x0⟩ (Nat.le_trans (by omega) fr0.1) hlo (by omega) (by rw [y0]; omega)
  rw [y0] at m0
  refine op_callN (by simp only [go_sem, binC]; exact m0) ?_
  simp only [go_sem, binC]
  have fr00 := fr0.trans f0
  refine seq_reg ?_
  simp only [go_sem, binC, hbx, fun o n => (fr00.gc (b := H.length) (by omega) (.inr hhi) o n).trans (hbx o n)]
  obtain ⟨d1, x1, y1⟩ := s1 _ _ _ _ a1 fr00.vsim (CsSim.refl _) (show (Co.sl (Co.step n)).rd (vwb lo hi Hb) _ a1 from ⟨_, rfl, r1.mono hsb⟩)
  obtain ⟨H1, m1, f1⟩ := g1 H0 _ d1 lo hi lo0 (k + (nLab a0 : Nat)) ⟨_, (by simp only [go_sem, binC]; rfl), x1⟩ (Nat.le_trans (by omega) fr00.1) hlo (by omega) (by rw [y1]; omega)
  rw [y1] at m1
  refine op_callN (by simp only [go_sem, binC]; exact m1) ?_
  simp only [go_sem, binC]
  have fr11 := fr00.trans f1
  refine seq_reg ?_
  simp only [go_sem, binC]
  refine wpc_ret ⟨Or.inr rfl, _, (by simp only [go_sem, binC]; rfl), ?_, fr.trans fr11⟩
  congr 1
  omega
theorem mkLabs_ok {F : Nat → Option IFn} {f : Nat} (hf : F f = some c_mark2) : MkOk F (Co.sl Co.p2) false f nLab := MkOk.flat (AllI.pair AllI.int AllI.int) rfl (by omega) (mark2_ok hf)
end Go.Proofs.YtkmghcglmjehcaaI
end
section
/- Lemmas for laws with marks. -/
set_option linter.unusedVariables false
set_option linter.unusedSimpArgs false
namespace Go.Proofs.YtkmghcglmjehcaaI
open Go Go.RowKit
theorem prog_un {n : Nat} {V : Vw} {v : Value} {ls : List (Int × Int)} {l : List (TStep n)} (h : Rd (Co.prog n) true V v (ls, l)) : ∃ lv sv, v = .agg #[lv, sv] ∧ SlR Co.p2 V lv ls ∧ SlR (Co.step n) V sv l := by
  obtain ⟨cs, hc, _, _, rfl, ⟨v0, rfl, r0⟩, ⟨v1, rfl, r1⟩⟩ := h
  simp only [go_sem, binC, Option.some.injEq] at hc
  exact ⟨v0, v1, hc.symm, r0, r1⟩
theorem ToOkS.x {F : Nat → Option IFn} {α : Type} {A : Co α} {agg : Bool} {m : Mode} {f : Nat} (h : ToOkS F A agg m f) {H : Heap} {v : Value} {a : α} (hr : Rd A agg (vw 0 H) v a) (hs : A.sm a) {e : Env} {lo : Nat} {args : List Opd} {K : Value → Heap → Prop} (ha : args.map (·.ev e) = [v])
    (k : ∀ v' H', AgX [] H H' → Rd A agg (vws H.length H') v' a → K v' H') : wpOp F lo (.call m (.f f) args) e H K :=
  h H v a hr hs e lo args K ha fun v' L hv => k v' _ (AgX.app [] _ _) hv
theorem vws_x {lo : Nat} {H H' : Heap} (hx : AgX [] H H') : Sub (vws lo H) (vw 0 H') := (vws_vw lo H).trans (vw_grow (Nat.zero_le _) fun b _ hb => hx.2 b hb (by simp))
theorem vws_b {lo : Nat} {H H' : Heap} (hx : AgX [] H H') : Sub (vws lo H) (vwb lo H.length H') := Ag.vwb (fun b _ hb => hx.2 b hb (by simp)) (Nat.le_refl _)
theorem FlatB.mono {lo hi hi' w n b o : Nat} {H H' : Heap} {v : Value} (h : FlatB lo hi H w v n b o) (hh : hi ≤ hi') (hH : n = 0 ∨ H'[b]? = H[b]?) : FlatB lo hi' H' w v n b o := by
  obtain ⟨h1, a, h2, h3⟩ := h
  refine ⟨h1, a, h2, ?_⟩
  rcases h3 with h3 | ⟨h3, h4, h5, cs, es, et, ap, h6, h7⟩
  · exact .inl h3
  · rcases hH with hH | hH
    · exact .inl hH
    · exact .inr ⟨h3, h4, by omega, cs, es, et, ap, hH.trans h6, h7⟩
theorem FlatB.one {lo hi w n b o : Nat} {H : Heap} {v : Value} (h : FlatB lo hi H w v n b o) : Go.Proofs.YtkmghcglmjehcaaI.one v = true := by
  obtain ⟨_, a, rfl, _⟩ := h
  rfl
/-- What marks leave alone. -/
theorem mark_out {H : Heap} {n b o m b' : Nat} {k : Int} (h : n = 0 ∨ b' ≠ b) : (if n = 0 then H else markB H b o k m)[b']? = H[b']? := by
  split
  · rfl
  · rename_i h0
    exact markB_ne _ _ _ _ (h.resolve_left h0)
end Go.Proofs.YtkmghcglmjehcaaI
end
section
/- Marks on trees of steps of one's own, and their tests. -/
set_option linter.unusedVariables false
set_option linter.unusedSimpArgs false
namespace Go.Proofs.YtkmghcglmjehcaaI
open Go Go.RowKit
/-- Elements marked one behind the other. -/
def mkLf {α : Type} (g : Int → α → α) (c : α → Nat) : Int → List α → List α
  | _, [] => []
  | k, s :: l => g k s :: mkLf g c (k + (c s : Nat)) l
theorem mkLf_len {α : Type} (g : Int → α → α) (c : α → Nat) : ∀ (l : List α) (k : Int), (mkLf g c k l).length = l.length
  | [], _ => rfl
  | s :: l, k => by rw [mkLf, List.length_cons, mkLf_len g c l, List.length_cons]
theorem mkLf_at {α : Type} (g : Int → α → α) (c : α → Nat) : ∀ (l : List α) (k : Int) (i : Nat) (h : i < (mkLf g c k l).length) (h' : i < l.length), (mkLf g c k l)[i] = g (k + (((l.map c).take i).sum : Nat)) l[i]
  | s :: l, k, 0, _, _ => by simp [mkLf]
  | s :: l, k, i + 1, h, h' => by
    simp only [mkLf, List.getElem_cons_succ, List.map_cons, List.take_succ_cons, List.sum_cons]
    rw [mkLf_at g c l _ i (by simpa [mkLf] using h) (by simpa using h')]
    congr 1
    omega
def mkT : (n : Nat) → Int → TStep n → TStep n
  | 0, _, s => s
  | n + 1, k, (_, _, _, _, th, el) => (k, k + 1, (k + 2, k + 3, k + 4), k + 5, mkLf (mkT n) (cT n) (k + 6) th, mkLf (mkT n) (cT n) (k + 6 + (cS n th : Nat)) el)
def mkL (n : Nat) (k : Int) (l : List (TStep n)) : List (TStep n) := mkLf (mkT n) (cT n) k l
theorem mkL_len {n : Nat} {k : Int} {l : List (TStep n)} : (mkL n k l).length = l.length := mkLf_len _ _ _ _
theorem mkL_at {n : Nat} {k : Int} {l : List (TStep n)} {i : Nat} (h : i < (mkL n k l).length) (h' : i < l.length) : (mkL n k l)[i] = mkT n (k + (((l.map (cT n)).take i).sum : Nat)) l[i] := mkLf_at _ _ _ _ _ h h'
def mkSh (k : Int) : Shal := (k, k + 1, (k + 2, k + 3, k + 4), k + 5)
theorem mkT_sh {n : Nat} (k : Int) (s : TStep (n + 1)) : shOf (mkT (n + 1) k s) = mkSh k ∧ thOf (mkT (n + 1) k s) = mkL n (k + 6) (thOf s) ∧ elOf (mkT (n + 1) k s) = mkL n (k + 6 + (cS n (thOf s) : Nat)) (elOf s) := by
  obtain ⟨a, b, c, e, th, el⟩ := s
  exact ⟨rfl, rfl, rfl⟩
theorem cT_sh {n : Nat} (s : TStep (n + 1)) : cT (n + 1) s = 6 + (cS n (thOf s) + cS n (elOf s)) := by
  obtain ⟨a, b, c, e, th, el⟩ := s
  rfl
theorem seq6 (k : Int) (tv ev : Value) (s : Shal) : setL (shV s tv ev) 0 (seqI k 6) = shV (mkSh k) tv ev := by
  have e2 : k + 1 + 1 = k + 2 := by omega
  have e3 : k + 2 + 1 = k + 3 := by omega
  have e4 : k + 3 + 1 = k + 4 := by omega
  have e5 : k + 4 + 1 = k + 5 := by omega
  simp only [seqI, shV, mkSh, setL_cons, setL_nil, e2, e3, e4, e5]
  rfl
theorem setL_in {xs cs ys : List Value} {o : Nat} (h8 : (cs.drop o).take 8 = ys) (hl : o + 8 ≤ cs.length) (hx : xs.length ≤ 8) : ((setL cs o xs).drop o).take 8 = setL ys 0 xs := by
  have hy : ys.length = 8 := by rw [← h8, List.length_take, List.length_drop]; omega
  refine List.ext_getElem? fun j => ?_
  by_cases hj : j < 8
  · rw [List.getElem?_take_of_lt hj, List.getElem?_drop, setL_get _ _ _ _ (by omega), setL_get _ _ _ _ (by omega)]
    by_cases h : j < xs.length
    · rw [if_pos (by omega), if_pos (by omega), show o + j - o = j by omega, show j - 0 = j by omega]
    · rw [if_neg (by omega), if_neg (by omega), ← h8, List.getElem?_take_of_lt hj, List.getElem?_drop]
  · rw [List.getElem?_take_eq_none (by omega), List.getElem?_eq_none (by rw [setL_length]; omega)]
theorem setL_ne6 {cc xs : List Value} {i j : Nat} (hx : xs.length ≤ 8) (h8 : i * 8 + 8 ≤ cc.length) (hji : j ≠ i) : ((setL cc (i * 8) xs).drop (j * 8)).take 8 = (cc.drop (j * 8)).take 8 := by
  refine List.ext_getElem? fun m => ?_
  rw [List.getElem?_take, List.getElem?_take]
  split
  · rw [List.getElem?_drop, List.getElem?_drop, setL_get _ _ _ _ (by omega), if_neg (by omega)]
  · rfl
theorem gcA8 {H : Heap} {b es et i : Nat} {ap so : Bool} {cs : List Value} {s : Shal} {tv ev : Value} (hb : H[b]? = some ⟨cs, es, et, ap, so⟩) (hl : i * 8 + 8 ≤ cs.length) (h8 : (cs.drop (i * 8)).take 8 = shV s tv ev) : getCells H b (i * 8) 8 = some (shV s tv ev) := by
  unfold getCells
  rw [hb]
  simp only
  rw [if_pos hl, h8]
def MkOwn (F : Nat → Option IFn) (f n : Nat) : Prop := ∀ (H : Heap) (v : Value) (l : List (TStep n)) (B : List Nat) (lo lo0 : Nat) (k : Int), OwnT lo H n v l B → lo0 ≤ lo → 0 ≤ k → k + (cS n l : Nat) ≤ 9223372036854775807 → ∃ H', NC F lo0 f [v, .int .i64 k] H (.int .i64 (k + (cS n l : Nat))) H' ∧ OwnT lo H' n v (mkL n k l) B ∧ AgX B H H'
set_option maxHeartbeats 8000000 in
theorem mkOwn_ok {F : Nat → Option IFn} {n : Nat} (hf : F 82 = some c_markStepS) (ih : ∀ m, n = m + 1 → MkOwn F 82 m) : MkOwn F 82 n := by
  intro H v l B lo lo0 k ho hlo hk hkn
  suffices h : ∃ w H', NC F lo0 82 [v, .int .i64 k] H w H' ∧ (w = .int .i64 (k + (cS n l : Nat)) ∧ OwnT lo H' n v (mkL n k l) B ∧ AgX B H H') by
    obtain ⟨w, H', h1, rfl, h2⟩ := h
    exact ⟨H', h1, h2⟩
  obtain ⟨hlm, av, hv⟩ := ho.len
  subst hv
  refine NC.mk hf rfl ?_
  refine seq_reg ?_
  simp only [go_sem, binC]
  refine seq_assoc (seq_reg ?_)
  simp only [go_sem, binC]
  refine seq_block (wpc_loop ?_)
  by_cases hl0 : l = []
  · subst hl0
    refine lp_step ?_
    refine seq_assoc (seq_reg ?_)
    simp only [go_sem, binC]
    refine seq_cond (t := false) (by (simp only [go_sem, binC]) <;> rfl) ?_
    simp only [go_sem, binC]
    refine seq_exit ?_
    simp only [go_sem, binC, thenX_e, out_e, thenX_n]
    refine seq_reg ?_
    simp only [go_sem, binC]
    exact wpc_ret ⟨Or.inr rfl, _, (by (simp only [go_sem, binC]) <;> rfl), by simp [cS], ho, AgX.refl _ _⟩
  cases n with
  | zero => exact absurd ho.2.1 hl0
  | succ n =>
  obtain ⟨b, cs, Bs, hb1, hv, hne, hb2, hBe, hbn, hbd⟩ := ho.resolve_left (fun h => hl0 h.2.1)
  simp only [sli, Value.slice.injEq, and_true] at hv
  subst hv
  have hbB : b ∈ B := by rw [hBe]; exact List.mem_cons_self
  have hBin : ∀ b' ∈ Bs.flatten, b' ∈ B := fun b' hb' => by rw [hBe]; exact List.mem_cons_of_mem _ hb'
  let lc : Nat → List (TStep (n + 1)) := fun i => l.mapIdx fun j s => if j < i then mkT (n + 1) (k + (((l.map (cT (n + 1))).take j).sum : Nat)) s else s
  have hlc : ∀ i, (lc i).length = l.length := fun i => by simp [lc]
  have hlc0 : lc 0 = l := List.ext_getElem (hlc 0) fun j h1 h2 => by simp [lc]
  have hlcE : lc l.length = mkL (n + 1) k l := List.ext_getElem (by rw [hlc, mkL_len]) fun j h1 h2 => by
    rw [hlc] at h1
    rw [mkL_at h2 h1]
    simp [lc, h1]
  have hlcg : ∀ (i j : Nat) (h : j < (lc i).length) (h' : j < l.length), (lc i)[j] = if j < i then mkT (n + 1) (k + (((l.map (cT (n + 1))).take j).sum : Nat)) l[j] else l[j] := fun i j h h' => by simp [lc]
  suffices h : ∀ (kk i : Nat) (e : Env) (Hc : Heap) (cc : List Value), i + kk = l.length → AgX B H Hc → Hc[b]? = some ⟨cc, 8, 83, true, true⟩ → BodyT (OwnT lo Hc n) (lc i) cc Bs → e 0 = sli b 0 l.length → e 5 = .int .i64 i → e 1 = .int .i64 (k + (((l.map (cT (n + 1))).take i).sum : Nat)) → W F lo0 _ e Hc _ from
    h l.length 0 _ H cs (by omega) (AgX.refl _ _) hb2 (hlc0.symm ▸ hbd) (by (simp only [go_sem, binC]) <;> rfl) (by (simp only [go_sem, binC]) <;> rfl) (by simp only [go_sem, binC]; simp)
  unfold cS at hkn
  intro kk
  induction kk with
  | zero =>
    intro i e Hc cc hi hxc hbc hbdc e0 e5 e1
    refine lp_step ?_
    refine seq_assoc (seq_reg ?_)
    simp only [go_sem, binC, e0, e5]
    refine seq_cond (t := false) (by simp only [go_sem, binC]; rw [decide_eq_false (by omega)]) ?_
    simp only [go_sem, binC]
    refine seq_exit ?_
    simp only [go_sem, binC, thenX_e, out_e, thenX_n]
    have hil : i = l.length := by omega
    rw [hil, hlcE] at hbdc
    refine seq_reg ?_
    simp only [go_sem, binC, e1]
    refine wpc_ret ⟨Or.inr rfl, _, (by (simp only [go_sem, binC]) <;> rfl), ?_, .inr ⟨b, cc, Bs, hb1, by rw [mkL_len]; rfl, fun h => hl0 (List.eq_nil_of_length_eq_zero (by have := congrArg List.length h; rw [mkL_len] at this; exact this)), hbc, hBe, hbn, hbdc⟩, hxc⟩
    unfold cS
    rw [hil, List.take_of_length_le (by rw [List.length_map]; omega)]
  | succ kk ihk =>
    intro i e Hc cc hi hxc hbc hbdc e0 e5 e1
    have hil : i < l.length := by omega
    obtain ⟨c0, c1, c2, c3, c4⟩ := id hbdc
    rw [hlc] at c0 c1 c2
    have hiB : i < Bs.length := by omega
    obtain ⟨tv, ev, B1, B2, q1, q2, q3, q4, q5⟩ := c4 i (by rw [hlc]; exact hil) hiB
    have hli : (lc i)[i]'(by rw [hlc]; exact hil) = l[i] := by rw [hlcg i i _ hil, if_neg (by omega)]
    rw [hli] at q1 q2 q3 q4
    have hsum := sum_take (fun x => x) (l.map (cT (n + 1))) i (by rw [List.length_map]; exact hil)
    rw [List.getElem_map, cT_sh] at hsum
    have hle := sum_take_le (l.map (cT (n + 1))) (i + 1)
    have hq0 : 0 ≤ k + (((l.map (cT (n + 1))).take i).sum : Nat) := by omega
    have hqn : (k + (((l.map (cT (n + 1))).take i).sum : Nat)) + (6 + (cS n (thOf l[i]) + cS n (elOf l[i])) : Nat) ≤ 9223372036854775807 := by omega
    have hq2 : k + (((l.map (cT (n + 1))).take (i + 1)).sum : Nat) = (k + (((l.map (cT (n + 1))).take i).sum : Nat)) + (6 + (cS n (thOf l[i]) + cS n (elOf l[i])) : Nat) := by omega
    have hlci : ∀ h, (lc (i + 1))[i]'h = mkT (n + 1) (k + (((l.map (cT (n + 1))).take i).sum : Nat)) l[i] := fun h => by rw [hlcg (i + 1) i h hil, if_pos (by omega)]
    generalize k + (((l.map (cT (n + 1))).take i).sum : Nat) = q at e1 hq0 hqn hq2 hlci
    have h8 : i * 8 + 8 ≤ cc.length := by omega
    have hbl := (List.getElem?_eq_some_iff.1 hbc).1
    have hb1n : b ∉ B1 := fun h => hbn (mem_flat hiB (by rw [q5]; exact List.mem_append_left _ h))
    have hb2n : b ∉ B2 := fun h => hbn (mem_flat hiB (by rw [q5]; exact List.mem_append_right _ h))
    have h12 : ∀ b' ∈ B2, b' ∉ B1 := fun b' h2 h1 => by
      have hnd := flat_in c3 hiB
      rw [q5, List.nodup_append] at hnd
      exact hnd.2.2 b' h1 b' h2 rfl
    have hlen6 : ∀ m, (setL cc (i * 8) (seqI q m)).length = cc.length := fun m => setL_length _ _ _
    refine lp_step ?_
    refine seq_assoc (seq_reg ?_)
    simp only [go_sem, binC, e0, e5]
    refine seq_cond (t := true) (by simp only [go_sem, binC]; rw [decide_eq_true (by omega)]) ?_
    simp only [go_sem, binC]
    refine seq_skip (seq_block ?_)
    rw [← markB_zero Hc b (i * 8) q]
    refine seq_reg ?_
    simp only [go_sem, binC, e0, e5, e1, markB_get hbc, hlen6]
    refine ⟨⟨by omega, by omega⟩, ⟨by omega, by omega⟩, ?_⟩
    rw [markB_step hbc (m := 0) (by omega) (by omega)]
    refine seq_reg ?_
    simp only [go_sem, binC, e1]
    rw [wrap_id (x := q + 1) (by omega) (by omega)]
    refine seq_reg ?_
    simp only [go_sem, binC, e0, e5, e1, markB_get hbc, hlen6]
    refine ⟨⟨by omega, by omega⟩, ⟨by omega, by omega⟩, ?_⟩
    rw [markB_step hbc (m := 1) (by omega) (by omega)]
    refine seq_reg ?_
    simp only [go_sem, binC, e1]
    rw [wrap_id (x := (q + 1) + 1) (by omega) (by omega)]
    refine seq_reg ?_
    simp only [go_sem, binC, e0, e5, e1, markB_get hbc, hlen6]
    refine ⟨⟨by omega, by omega⟩, ⟨by omega, by omega⟩, ?_⟩
    rw [markB_step hbc (m := 2) (by omega) (by omega)]
    refine seq_reg ?_
    simp only [go_sem, binC, e1]
    rw [wrap_id (x := ((q + 1) + 1) + 1) (by omega) (by omega)]
    refine seq_reg ?_
    simp only [go_sem, binC, e0, e5, e1, markB_get hbc, hlen6]
    refine ⟨⟨by omega, by omega⟩, ⟨by omega, by omega⟩, ?_⟩
    rw [markB_step hbc (m := 3) (by omega) (by omega)]
    refine seq_reg ?_
    simp only [go_sem, binC, e1]
    rw [wrap_id (x := (((q + 1) + 1) + 1) + 1) (by omega) (by omega)]
    refine seq_reg ?_
    simp only [go_sem, binC, e0, e5, e1, markB_get hbc, hlen6]
    refine ⟨⟨by omega, by omega⟩, ⟨by omega, by omega⟩, ?_⟩
    rw [markB_step hbc (m := 4) (by omega) (by omega)]
    refine seq_reg ?_
    simp only [go_sem, binC, e1]
    rw [wrap_id (x := ((((q + 1) + 1) + 1) + 1) + 1) (by omega) (by omega)]
    refine seq_reg ?_
    simp only [go_sem, binC, e0, e5, e1, markB_get hbc, hlen6]
    refine ⟨⟨by omega, by omega⟩, ⟨by omega, by omega⟩, ?_⟩
    rw [markB_step hbc (m := 5) (by omega) (by omega)]
    refine seq_reg ?_
    simp only [go_sem, binC, e1]
    rw [wrap_id (x := (((((q + 1) + 1) + 1) + 1) + 1) + 1) (by omega) (by omega)]
    have hxs : AgX [b] Hc (markB Hc b (i * 8) q 6) := ⟨Nat.le_of_eq (markB_len _ _ _ _ _).symm, fun b' _ hn => markB_ne _ _ _ _ (by simpa using hn)⟩
    have hb1' := markB_get hbc (i * 8) q 6
    generalize hH1 : markB Hc b (i * 8) q 6 = H1 at hb1' hxs
    have hsl : (setL cc (i * 8) (seqI q 6)).length = cc.length := setL_length ..
    have hat : ((setL cc (i * 8) (seqI q 6)).drop (i * 8)).take 8 = shV (mkSh q) tv ev := by rw [setL_in q1 h8 (by rw [seqI_length]; omega), seq6]
    have hg1 := gcA8 hb1' (by rw [hsl]; exact h8) hat
    have hg6 := gc_part (off := 6) (k := 1) hg1 (by omega)
    rw [show ((shV (mkSh q) tv ev).drop 6).take 1 = [tv] from rfl] at hg6
    have otv := q3.one
    have oev := q4.one
    have o31 : OwnT lo H1 n tv (thOf l[i]) B1 := q3.keep (Nat.le_refl _) fun b' hb' => hxs.2 b' (q3.ge b' hb').2.1 (by intro h; simp only [List.mem_singleton] at h; subst h; exact hb1n hb')
    obtain ⟨H2, k2, o2, hx2⟩ := ih n rfl H1 tv (thOf l[i]) B1 lo lo0 (q + 6) o31 hlo (by omega) (by omega)
    refine seq_reg ?_
    simp only [go_sem, binC, e0, e5]
    refine ⟨⟨by omega, by omega⟩, ?_⟩
    simp only [go_sem, binC, Int.toNat_natCast, Nat.zero_add, hg6, otv]
    refine op_callN (by simp only [go_sem, binC]; rw [show (((((q + 1) + 1) + 1) + 1) + 1) + 1 = q + 6 by omega]; exact k2) ?_
    simp only [go_sem, binC]
    have hb2' := hx2.get hb1' hb1n
    have hg2 := gcA8 hb2' (by rw [hsl]; exact h8) hat
    have hg7 := gc_part (off := 7) (k := 1) hg2 (by omega)
    rw [show ((shV (mkSh q) tv ev).drop 7).take 1 = [ev] from rfl] at hg7
    have o42 : OwnT lo H2 n ev (elOf l[i]) B2 := q4.keep (Nat.le_refl _) fun b' hb' => by
      have h1 := (q4.ge b' hb').2.1
      have h2 := hxs.1
      rw [hx2.2 b' (by omega) (h12 b' hb'), hxs.2 b' h1 (by intro h; simp only [List.mem_singleton] at h; subst h; exact hb2n hb')]
    obtain ⟨H3, k3, o3, hx3⟩ := ih n rfl H2 ev (elOf l[i]) B2 lo lo0 (q + 6 + (cS n (thOf l[i]) : Nat)) o42 hlo (by omega) (by omega)
    have hw1 : IntKind.i64.wrap ((i : Int) + 1) = ((i + 1 : Nat) : Int) := by rw [wrap_id (by omega) (by omega)]; omega
    refine wpc_reg ?_
    simp only [go_sem, binC, e0, e5]
    refine ⟨⟨by omega, by omega⟩, ?_⟩
    simp only [go_sem, binC, Int.toNat_natCast, Nat.zero_add, hg7, oev]
    refine op_callN (by simp only [go_sem, binC]; exact k3) ?_
    simp only [go_sem, binC, out_n, thenX_n]
    refine wpc_reg ?_
    simp only [go_sem, binC, e5, hw1]
    simp only [go_sem, binC, thenX_n]
    have hb3' := hx3.get hb2' hb2n
    have hl1 := hxs.1
    have hl2 := hx2.1
    have hBi : ∀ b' ∈ Bs[i], b' ∈ B := fun b' h => hBin b' (mem_flat hiB h)
    have hxB : AgX B H H3 := ((hxc.trans hxs (fun _ h _ => h) (fun b' h1 h2 => by simp only [List.mem_singleton] at h1; subst h1; exact hbB)).trans hx2 (fun _ h _ => h) (fun b' h1 h2 => hBi b' (by rw [q5]; exact List.mem_append_left _ h1))).trans hx3 (fun _ h _ => h) (fun b' h1 h2 => hBi b' (by rw [q5]; exact List.mem_append_right _ h1))
    have o23 : OwnT lo H3 n tv (mkL n (q + 6) (thOf l[i])) B1 := o2.keep (Nat.le_refl _) fun b' hb' => hx3.2 b' (o2.ge b' hb').2.1 (fun h => h12 b' h hb')
    refine ihk (i + 1) _ H3 _ (by omega) hxB hb3' ?_ (by simp only [go_sem, binC, e0]) (by simp only [go_sem, binC]) (by simp only [go_sem, binC]; rw [hq2]; congr 1; omega)
    refine ⟨by rw [hlc]; exact c0, by rw [hlc, hsl]; exact c1, by rw [hlc]; exact c2, c3, fun j hj hj' => ?_⟩
    have hjl : j < l.length := by rw [hlc] at hj; exact hj
    by_cases hji : j = i
    · subst hji
      rw [hlci hj, hat]
      obtain ⟨m1, m2, m3⟩ := mkT_sh q l[j]
      refine ⟨tv, ev, B1, B2, by rw [m1], ?_, by rw [m2]; exact o23, by rw [m3]; exact o3, q5⟩
      rw [m1]
      unfold shRg mkSh RgI
      simp only
      omega
    · have hc4 := c4 j (by rw [hlc]; exact hjl) hj'
      have hif : (lc (i + 1))[j]'hj = (lc i)[j]'(by rw [hlc]; exact hjl) := by
        rw [hlcg (i + 1) j hj hjl, hlcg i j _ hjl]
        by_cases hlt : j < i
        · rw [if_pos hlt, if_pos (by omega)]
        · rw [if_neg hlt, if_neg (by omega)]
      rw [hif, setL_ne6 (by rw [seqI_length]; omega) h8 hji]
      refine hc4.imp fun v l' B' hs h => h.keep (Nat.le_refl _) fun b' hb' => ?_
      have h1 := (h.ge b' hb').2.1
      have hnb : b' ≠ b := fun he => hbn (he ▸ mem_flat hj' (hs b' hb'))
      have hnB : b' ∉ Bs[i] := flat_apart c3 hj' hiB hji (hs b' hb')
      rw [q5, List.mem_append, not_or] at hnB
      rw [hx3.2 b' (by omega) hnB.2, hx2.2 b' (by omega) hnB.1, hxs.2 b' h1 (by simpa using hnb)]
theorem mkOwn_all {F : Nat → Option IFn} (hf : F 82 = some c_markStepS) : ∀ n, MkOwn F 82 n
  | 0 => mkOwn_ok hf fun m h => by cases h
  | n + 1 => mkOwn_ok hf fun m h => by cases h; exact mkOwn_all hf n
end Go.Proofs.YtkmghcglmjehcaaI
end
