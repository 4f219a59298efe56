/- Texts of this proof, merged: N2, N3, N4, N5, N6, N7, N8, H1, H2, U2, U1, U4. -/
import Derived.Test.YtkmghcglmjehcaaPa9
section
/- Labels that are found: the greatest below some that steps allow. -/
set_option linter.unusedVariables false
set_option linter.unusedSimpArgs false
namespace Go.Proofs.YtkmghcglmjehcaaI
open Go Go.RowKit
/-- What is set may be set, as far as it is free. -/
def Fix (n : Nat) (l : List (TStep n)) (free : Int → Bool) (m : List (Int × Int)) : Prop := ∀ i (h : i < (allL n l).length), (allL n l)[i].1 = 1 → free (allL n l)[i].2.1 = true → Le (m.getD (allL n l)[i].2.1.toNat (0, 0)) (lboth ((atL n m (7, 7) l).getD i (0, 0)) (valL m (allL n l)[i].2.2.1))
/-- The greatest labels below some that steps allow. -/
structure Inf (n : Nat) (l : List (TStep n)) (free : Int → Bool) (init r : List (Int × Int)) : Prop where
  le : LeL r init
  fix : Fix n l free r
  top : ∀ m, LeL m init → Fix n l free m → LeL m r
theorem Inf.unique {n : Nat} {l : List (TStep n)} {free : Int → Bool} {init r r' : List (Int × Int)} (h : Inf n l free init r) (h' : Inf n l free init r') : r = r' :=
  (h'.top r h.le h.fix).antisymm (h.top r' h'.le h'.fix)
theorem getD_setP {ls : List (Int × Int)} {x j : Nat} {v : Int × Int} (h : x < ls.length) : (ls.set x v).getD j (0, 0) = if x = j then v else ls.getD j (0, 0) := by
  rw [List.getD_eq_getElem?_getD, List.getD_eq_getElem?_getD, List.getElem?_set]
  by_cases hij : x = j
  · subst hij; rw [if_pos rfl, if_pos h, if_pos rfl]; rfl
  · rw [if_neg hij, if_neg hij]
theorem set_le {ls : List (Int × Int)} {x : Nat} {y : Int × Int} (hl : ls.all labB = true) (hx : x < ls.length) (hy : labB y = true) : LeL (ls.set x (lboth (ls.getD x (0, 0)) y)) ls := ⟨List.length_set, fun j => by
  rw [getD_setP hx]
  split
  · rename_i h; subst h; exact lboth_le_l (lab_getD hl _) hy
  · exact Le.refl (lab_getD hl _)⟩
theorem LeL.app {a b c d : List (Int × Int)} (h1 : LeL a b) (h2 : LeL c d) : LeL (a ++ c) (b ++ d) := ⟨by rw [List.length_append, List.length_append, h1.1, h2.1], fun i => by
  by_cases hi : i < a.length
  · have e1 : (a ++ c).getD i (0, 0) = a.getD i (0, 0) := by simp [List.getD, List.getElem?_append_left hi]
    have e2 : (b ++ d).getD i (0, 0) = b.getD i (0, 0) := by simp [List.getD, List.getElem?_append_left (show i < b.length by have := h1.1; omega)]
    rw [e1, e2]; exact h1.2 i
  · have e1 : (a ++ c).getD i (0, 0) = c.getD (i - a.length) (0, 0) := by simp [List.getD, List.getElem?_append_right (show a.length ≤ i by omega)]
    have e2 : (b ++ d).getD i (0, 0) = d.getD (i - a.length) (0, 0) := by simp [List.getD, List.getElem?_append_right (show b.length ≤ i by have := h1.1; omega), h1.1]
    rw [e1, e2]; exact h2.2 _⟩
theorem atL_mono {n : Nat} {ls ls' : List (Int × Int)} {h h' : Int × Int} (hl : LeL ls ls') (hh : Le h h') (l : List (TStep n)) : LeL (atL n ls h l) (atL n ls' h' l) := by
  induction l with
  | nil => exact ⟨rfl, fun i => by simp [atL, List.getD]; exact Le.refl rfl⟩
  | cons a l ih =>
    have e : ∀ ls h, atL n ls h (a :: l) = atT n ls h a ++ atL n ls h l := fun _ _ => by simp [atL]
    rw [e, e]
    exact (atT_mono hl n h h' a hh).app ih
end Go.Proofs.YtkmghcglmjehcaaI
end
section
/- How often labels may fall. -/
set_option linter.unusedVariables false
set_option linter.unusedSimpArgs false
namespace Go.Proofs.YtkmghcglmjehcaaI
open Go Go.RowKit
def pc (x : Int) : Nat := (x % 2 + x / 2 % 2 + x / 4 % 2).toNat
theorem pc_all : ∀ a b : Fin 8, (bothS (a.val : Int) b.val 3 = a.val → pc a.val ≤ pc b.val ∧ (pc (a.val : Int) = pc b.val → (a.val : Int) = b.val)) ∧ pc (a.val : Int) ≤ 3 := by decide +kernel
theorem pc_le {a b : Int} (ha : 0 ≤ a ∧ a ≤ 7) (hb : 0 ≤ b ∧ b ≤ 7) (h : bothS a b 3 = a) : pc a ≤ pc b ∧ (pc a = pc b → a = b) := by
  obtain ⟨x, rfl⟩ := fin8 ha
  obtain ⟨y, rfl⟩ := fin8 hb
  exact (pc_all x y).1 h
theorem pc_3 {a : Int} (ha : 0 ≤ a ∧ a ≤ 7) : pc a ≤ 3 := by
  obtain ⟨x, rfl⟩ := fin8 ha
  exact (pc_all x 0).2
def pcL (a : Int × Int) : Nat := pc a.1 + pc a.2
theorem pcL_le {a b : Int × Int} (h : Le a b) : pcL a ≤ pcL b ∧ (pcL a = pcL b → a = b) := by
  have qa := labB_i.1 h.la
  have qb := labB_i.1 h.lb
  have he := h.eq
  rw [lboth_ok h.la h.lb] at he
  have e1 : bothS a.1 b.1 3 = a.1 := congrArg Prod.fst he
  have e2 : bothS a.2 b.2 3 = a.2 := congrArg Prod.snd he
  have h1 := pc_le qa.1 qb.1 e1
  have h2 := pc_le qa.2 qb.2 e2
  unfold pcL
  refine ⟨by omega, fun h => ?_⟩
  have k1 := h1.2 (by omega)
  have k2 := h2.2 (by omega)
  exact Prod.ext k1 k2
def meas (ls : List (Int × Int)) : Nat := (ls.map pcL).sum
theorem LeL.tail {a b : Int × Int} {x y : List (Int × Int)} (h : LeL (a :: x) (b :: y)) : Le a b ∧ LeL x y := by
  refine ⟨by simpa [List.getD] using h.2 0, by simpa using h.1, fun i => ?_⟩
  simpa [List.getD] using h.2 (i + 1)
theorem meas_le : ∀ (a b : List (Int × Int)), LeL a b → meas a ≤ meas b ∧ (meas a = meas b → a = b)
  | [], [], _ => ⟨Nat.le_refl _, fun _ => rfl⟩
  | [], _ :: _, h => by have := h.1; simp at this
  | _ :: _, [], h => by have := h.1; simp at this
  | a :: x, b :: y, h => by
    obtain ⟨h1, h2⟩ := h.tail
    have q1 := pcL_le h1
    have q2 := meas_le x y h2
    unfold meas at q2 ⊢
    rw [List.map_cons, List.map_cons, List.sum_cons, List.sum_cons]
    refine ⟨by omega, fun h => ?_⟩
    rw [q1.2 (by omega), q2.2 (by omega)]
theorem meas_bd : ∀ (ls : List (Int × Int)), ls.all labB = true → meas ls ≤ 6 * ls.length
  | [], _ => by simp [meas]
  | a :: ls, h => by
    rw [List.all_cons, Bool.and_eq_true] at h
    have q := labB_i.1 h.1
    have h1 := pc_3 q.1
    have h2 := pc_3 q.2
    have h3 := meas_bd ls h.2
    unfold meas at h3 ⊢
    unfold pcL at h3 ⊢
    rw [List.map_cons, List.sum_cons, List.length_cons]
    omega
/-- What falls, or stays, stays as soon as it was done more often than it can fall. -/
theorem iter_fix {f : List (Int × Int) → List (Int × Int)} (hf : ∀ x, x.all labB = true → LeL (f x) x) : ∀ (k : Nat) (x : List (Int × Int)), x.all labB = true → meas x < k → f (Nat.repeat f k x) = Nat.repeat f k x
  | 0, x, _, h => by omega
  | k + 1, x, hx, h => by
    by_cases he : f x = x
    · have hr : ∀ j, Nat.repeat f j x = x := fun j => by
        induction j with
        | zero => rfl
        | succ j ih => show f (Nat.repeat f j x) = x; rw [ih, he]
      rw [hr, he]
    · have h1 := meas_le _ _ (hf x hx)
      have h2 : meas (f x) < k := by
        have : meas (f x) ≠ meas x := fun h => he (h1.2 h)
        omega
      have h3 := iter_fix hf k (f x) (hf x hx).lab h2
      have hs : ∀ j (y : List (Int × Int)), Nat.repeat f (j + 1) y = Nat.repeat f j (f y) := fun j y => by
        induction j with
        | zero => rfl
        | succ j ih => show f (Nat.repeat f (j + 1) y) = f (Nat.repeat f j (f y)); rw [ih]
      rw [hs]
      exact h3
end Go.Proofs.YtkmghcglmjehcaaI
end
section
/- The reference's rounds end in the labels that are found. -/
set_option linter.unusedVariables false
set_option linter.unusedSimpArgs false
namespace Go.Proofs.YtkmghcglmjehcaaI
open Go Go.RowKit
/-- One step of what a variable needs. -/
def needS (ls : List (Int × Int)) (v : Int) (o : Int × Int) (x : Shal × (Int × Int)) : Int × Int := if x.1.1 = 1 ∧ x.1.2.1 = v then lboth o (lboth x.2 (valL ls x.1.2.2.1)) else o
def needV (n : Nat) (ls : List (Int × Int)) (l : List (TStep n)) (v : Int) : Int × Int := ((allL n l).zip (atL n ls (7, 7) l)).foldl (needS ls v) (ls.getD v.toNat (0, 0))
theorem needS_fold (ls : List (Int × Int)) (v : Int) : ∀ (xs : List (Shal × (Int × Int))) (o : Int × Int), labB o = true → Le (xs.foldl (needS ls v) o) o ∧ (∀ c, Le c o → (∀ x ∈ xs, x.1.1 = 1 → x.1.2.1 = v → Le c (lboth x.2 (valL ls x.1.2.2.1))) → Le c (xs.foldl (needS ls v) o)) ∧ ∀ x ∈ xs, x.1.1 = 1 → x.1.2.1 = v → Le (xs.foldl (needS ls v) o) (lboth x.2 (valL ls x.1.2.2.1))
  | [], o, ho => ⟨Le.refl ho, fun c h _ => h, fun x hx => by cases hx⟩
  | x :: xs, o, ho => by
    have hs : Le (needS ls v o x) o := by
      unfold needS
      split
      · exact lboth_le_l ho (lboth_bd _ _)
      · exact Le.refl ho
    obtain ⟨h1, h2, h3⟩ := needS_fold ls v xs (needS ls v o x) hs.la
    rw [List.foldl_cons]
    refine ⟨h1.trans hs, fun c hc hall => h2 c ?_ fun y hy => hall y (List.mem_cons_of_mem _ hy), fun y hy k1 k2 => ?_⟩
    · unfold needS
      split
      · rename_i hx
        exact le_lboth hc (hall x List.mem_cons_self hx.1 hx.2)
      · exact hc
    · rcases List.mem_cons.1 hy with rfl | hy
      · refine h1.trans ?_
        unfold needS
        rw [if_pos ⟨k1, k2⟩]
        exact lboth_le_r ho (lboth_bd _ _)
      · exact h3 y hy k1 k2
/-- One variable is told anew. -/
def roundS (n : Nat) (l : List (TStep n)) (free : Int → Bool) (ls : List (Int × Int)) (v : Nat) : List (Int × Int) := if free v = true then ls.set v (needV n ls l v) else ls
def roundL (n : Nat) (l : List (TStep n)) (free : Int → Bool) (k : Nat) (ls : List (Int × Int)) : List (Int × Int) := (List.range k).foldl (roundS n l free) ls
theorem needV_le {n : Nat} {ls : List (Int × Int)} {l : List (TStep n)} (hl : ls.all labB = true) (v : Int) : Le (needV n ls l v) (ls.getD v.toNat (0, 0)) := (needS_fold ls v _ _ (lab_getD hl _)).1
theorem roundS_le {n : Nat} {l : List (TStep n)} {free : Int → Bool} {ls : List (Int × Int)} (hl : ls.all labB = true) {v : Nat} (hv : v < ls.length) : LeL (roundS n l free ls v) ls := by
  unfold roundS
  split
  · refine ⟨List.length_set, fun j => ?_⟩
    rw [getD_setP hv]
    split
    · rename_i h; subst h; exact needV_le hl _
    · exact Le.refl (lab_getD hl _)
  · exact LeL.refl hl
theorem roundS_top {n : Nat} {l : List (TStep n)} {free : Int → Bool} {ls m : List (Int × Int)} (hl : ls.all labB = true) {v : Nat} (hv : v < ls.length) (hm : Fix n l free m) (h : LeL m ls) : LeL m (roundS n l free ls v) := by
  unfold roundS
  split
  · rename_i hf
    refine ⟨by rw [List.length_set]; exact h.1, fun j => ?_⟩
    rw [getD_setP hv]
    split
    · rename_i hj
      subst hj
      refine (needS_fold ls v _ _ (lab_getD hl _)).2.1 _ (h.2 _) fun x hx k1 k2 => ?_
      obtain ⟨i, hi, rfl⟩ := List.getElem_of_mem hx
      rw [List.length_zip] at hi
      have hi1 : i < (allL n l).length := by omega
      have hi2 : i < (atL n ls (7, 7) l).length := by omega
      simp only [List.getElem_zip] at k1 k2 ⊢
      have q := hm i hi1 k1 (by rw [k2]; exact hf)
      rw [k2, Int.toNat_natCast] at q
      refine q.trans (lboth_mono ?_ (valL_mono h _))
      have := (atL_mono h (Le.refl (show labB ((7, 7) : Int × Int) = true from rfl)) l).2 i
      rwa [show (atL n ls (7, 7) l).getD i (0, 0) = (atL n ls (7, 7) l)[i] by simp [List.getD, hi2]] at this
    · exact h.2 j
  · exact h
theorem rounds_ind {n : Nat} {l : List (TStep n)} {free : Int → Bool} : ∀ (vs : List Nat) (ls : List (Int × Int)), ls.all labB = true → (∀ v ∈ vs, v < ls.length) → LeL (vs.foldl (roundS n l free) ls) ls ∧ (∀ m, Fix n l free m → LeL m ls → LeL m (vs.foldl (roundS n l free) ls)) ∧ (vs.foldl (roundS n l free) ls = ls → ∀ v ∈ vs, roundS n l free ls v = ls)
  | [], ls, hl, _ => ⟨LeL.refl hl, fun m _ h => h, fun _ v hv => by cases hv⟩
  | v :: vs, ls, hl, hv => by
    have h0 := roundS_le (l := l) (free := free) hl (hv v List.mem_cons_self)
    obtain ⟨h1, h2, h3⟩ := rounds_ind vs (roundS n l free ls v) h0.lab fun w hw => by rw [h0.1]; exact hv w (List.mem_cons_of_mem _ hw)
    rw [List.foldl_cons]
    refine ⟨h1.trans h0, fun m hm h => h2 m hm (roundS_top hl (hv v List.mem_cons_self) hm h), fun he => ?_⟩
    have e1 : roundS n l free ls v = ls := h0.antisymm (by rw [he] at h1; exact h1)
    intro w hw
    rcases List.mem_cons.1 hw with rfl | hw
    · exact e1
    · have := h3 (by rw [he, e1]) w hw
      rwa [e1] at this
theorem round_fix {n : Nat} {l : List (TStep n)} {free : Int → Bool} {ls : List (Int × Int)} (hl : ls.all labB = true) (hv : ∀ t ∈ allL n l, varB ls.length t.2.1 = true) (h : roundL n l free ls.length ls = ls) : Fix n l free ls := by
  intro i hi hk hf
  have hb := varB_i.1 (hv _ (List.getElem_mem hi))
  have hx : (allL n l)[i].2.1.toNat < ls.length := by omega
  have h1 := (rounds_ind (l := l) (free := free) (List.range ls.length) ls hl (fun v hv => by simpa using hv)).2.2 h _ (List.mem_range.2 hx)
  have hc : (((allL n l)[i].2.1.toNat : Nat) : Int) = (allL n l)[i].2.1 := by omega
  unfold roundS at h1
  rw [hc, if_pos hf] at h1
  have hat : i < (atL n ls (7, 7) l).length := by rw [atL_len]; exact hi
  have h2 : ls.getD (allL n l)[i].2.1.toNat (0, 0) = needV n ls l (allL n l)[i].2.1 := by
    conv => lhs; rw [← h1]
    rw [getD_setP hx, if_pos rfl]
  rw [h2]
  have hz : i < ((allL n l).zip (atL n ls (7, 7) l)).length := by rw [List.length_zip]; omega
  have h3 := (needS_fold ls (allL n l)[i].2.1 ((allL n l).zip (atL n ls (7, 7) l)) _ (lab_getD hl (allL n l)[i].2.1.toNat)).2.2 _ (List.getElem_mem hz) (by simpa using hk) (by simp)
  simp only [List.getElem_zip] at h3
  rw [show (atL n ls (7, 7) l).getD i (0, 0) = (atL n ls (7, 7) l)[i] by simp [List.getD, hat]]
  exact h3
end Go.Proofs.YtkmghcglmjehcaaI
end
section
/- After 25 rounds the reference has the labels that are found. -/
set_option linter.unusedVariables false
set_option linter.unusedSimpArgs false
namespace Go.Proofs.YtkmghcglmjehcaaI
open Go Go.RowKit
def rnd (n : Nat) (l : List (TStep n)) (free : Int → Bool) (x : List (Int × Int)) : List (Int × Int) := roundL n l free x.length x
theorem rnd_ind {n : Nat} {l : List (TStep n)} {free : Int → Bool} {x : List (Int × Int)} (h : x.all labB = true) : LeL (rnd n l free x) x ∧ ∀ m, Fix n l free m → LeL m x → LeL m (rnd n l free x) :=
  let q := rounds_ind (l := l) (free := free) (List.range x.length) x h (fun v hv => by simpa using hv)
  ⟨q.1, q.2.1⟩
theorem rnds_ind {n : Nat} {l : List (TStep n)} {free : Int → Bool} {x : List (Int × Int)} (h : x.all labB = true) : ∀ k, LeL (Nat.repeat (rnd n l free) k x) x ∧ ∀ m, Fix n l free m → LeL m x → LeL m (Nat.repeat (rnd n l free) k x)
  | 0 => ⟨LeL.refl h, fun m _ h => h⟩
  | k + 1 => by
    obtain ⟨h1, h2⟩ := rnds_ind h k
    obtain ⟨h3, h4⟩ := rnd_ind (l := l) (free := free) h1.lab
    exact ⟨h3.trans h1, fun m hm hx => h4 m hm (h2 m hm hx)⟩
theorem rnds_inf {n : Nat} {l : List (TStep n)} {free : Int → Bool} {x : List (Int × Int)} (h : x.all labB = true) (hx : x.length ≤ 4) (hv : ∀ t ∈ allL n l, varB x.length t.2.1 = true) : Inf n l free x (Nat.repeat (rnd n l free) 25 x) := by
  obtain ⟨h1, h2⟩ := rnds_ind (l := l) (free := free) h 25
  refine ⟨h1, ?_, fun m hm hf => h2 m hf hm⟩
  have hb := meas_bd x h
  have h3 := iter_fix (f := rnd n l free) (fun y hy => (rnd_ind hy).1) 25 x h (by omega)
  exact round_fix h1.lab (by rw [h1.1]; exact hv) h3
end Go.Proofs.YtkmghcglmjehcaaI
end
section
/- The program's passes end in the labels that are found. -/
set_option linter.unusedVariables false
set_option linter.unusedSimpArgs false
namespace Go.Proofs.YtkmghcglmjehcaaI
open Go Go.RowKit
/-- One step of a pass: what is set is told anew, by the labels of being done of the pass's start. -/
def passS (free : Int → Bool) (ls : List (Int × Int)) (x : Shal × (Int × Int)) : List (Int × Int) := if x.1.1 = 1 ∧ free x.1.2.1 = true then ls.set x.1.2.1.toNat (lboth (ls.getD x.1.2.1.toNat (0, 0)) (lboth x.2 (valL ls x.1.2.2.1))) else ls
def pass (n : Nat) (l : List (TStep n)) (free : Int → Bool) (ls : List (Int × Int)) : List (Int × Int) := ((allL n l).zip (atL n ls (7, 7) l)).foldl (passS free) ls
theorem passS_le {free : Int → Bool} {ls : List (Int × Int)} {x : Shal × (Int × Int)} (hl : ls.all labB = true) (hx : x.1.2.1.toNat < ls.length) : LeL (passS free ls x) ls := by
  unfold passS
  split
  · exact set_le hl hx (lboth_bd _ _)
  · exact LeL.refl hl
theorem pass_ind {free : Int → Bool} : ∀ (xs : List (Shal × (Int × Int))) (ls : List (Int × Int)), ls.all labB = true → (∀ x ∈ xs, x.1.2.1.toNat < ls.length) → LeL (xs.foldl (passS free) ls) ls ∧ (∀ m, LeL m ls → (∀ x ∈ xs, x.1.1 = 1 → free x.1.2.1 = true → ∀ ls', LeL m ls' → Le (m.getD x.1.2.1.toNat (0, 0)) (lboth x.2 (valL ls' x.1.2.2.1))) → LeL m (xs.foldl (passS free) ls)) ∧ (xs.foldl (passS free) ls = ls → ∀ x ∈ xs, passS free ls x = ls)
  | [], ls, hl, _ => ⟨LeL.refl hl, fun m h _ => h, fun _ x hx => by cases hx⟩
  | x :: xs, ls, hl, hx => by
    have hx0 := hx x List.mem_cons_self
    have h0 := passS_le (free := free) hl hx0
    obtain ⟨h1, h2, h3⟩ := pass_ind xs (passS free ls x) h0.lab fun w hw => by rw [h0.1]; exact hx w (List.mem_cons_of_mem _ hw)
    rw [List.foldl_cons]
    refine ⟨h1.trans h0, fun m hm hg => h2 m ?_ fun y hy => hg y (List.mem_cons_of_mem _ hy), fun he => ?_⟩
    · unfold passS
      split
      · rename_i hc
        refine ⟨by rw [List.length_set]; exact hm.1, fun j => ?_⟩
        rw [getD_setP hx0]
        split
        · rename_i hj
          subst hj
          exact le_lboth (hm.2 _) (hg x List.mem_cons_self hc.1 hc.2 ls hm)
        · exact hm.2 j
      · exact hm
    · have e1 : passS free ls x = ls := h0.antisymm (by rw [he] at h1; exact h1)
      intro w hw
      rcases List.mem_cons.1 hw with rfl | hw
      · exact e1
      · have := h3 (by rw [he, e1]) w hw
        rwa [e1] at this
theorem pass_all {n : Nat} {l : List (TStep n)} {free : Int → Bool} {ls : List (Int × Int)} (hl : ls.all labB = true) (hv : ∀ t ∈ allL n l, varB ls.length t.2.1 = true) : LeL (pass n l free ls) ls ∧ (∀ m, Fix n l free m → LeL m ls → LeL m (pass n l free ls)) ∧ (pass n l free ls = ls → Fix n l free ls) := by
  have hmem : ∀ x ∈ (allL n l).zip (atL n ls (7, 7) l), x.1.2.1.toNat < ls.length := fun x hx => by
    have := varB_i.1 (hv _ (List.of_mem_zip hx).1)
    omega
  obtain ⟨h1, h2, h3⟩ := pass_ind (free := free) _ ls hl hmem
  refine ⟨h1, fun m hm h => h2 m h fun x hx k1 k2 ls' h' => ?_, fun he i hi hk hf => ?_⟩
  · obtain ⟨i, hi, rfl⟩ := List.getElem_of_mem hx
    rw [List.length_zip] at hi
    have hi1 : i < (allL n l).length := by omega
    have hi2 : i < (atL n ls (7, 7) l).length := by omega
    simp only [List.getElem_zip] at k1 k2 ⊢
    have q := hm i hi1 k1 k2
    refine q.trans (lboth_mono ?_ (valL_mono h' _))
    have := (atL_mono h (Le.refl (show labB ((7, 7) : Int × Int) = true from rfl)) l).2 i
    rwa [show (atL n ls (7, 7) l).getD i (0, 0) = (atL n ls (7, 7) l)[i] by simp [List.getD, hi2]] at this
  · have hat : i < (atL n ls (7, 7) l).length := by rw [atL_len]; exact hi
    have hz : i < ((allL n l).zip (atL n ls (7, 7) l)).length := by rw [List.length_zip]; omega
    have hx := hmem _ (List.getElem_mem hz)
    have h4 := h3 he _ (List.getElem_mem hz)
    simp only [List.getElem_zip] at h4 hx
    unfold passS at h4
    rw [if_pos ⟨hk, hf⟩] at h4
    have h5 : ls.getD (allL n l)[i].2.1.toNat (0, 0) = lboth (ls.getD (allL n l)[i].2.1.toNat (0, 0)) (lboth (atL n ls (7, 7) l)[i] (valL ls (allL n l)[i].2.2.1)) := by
      conv => lhs; rw [← h4]
      rw [getD_setP hx, if_pos rfl]
    rw [h5, show (atL n ls (7, 7) l).getD i (0, 0) = (atL n ls (7, 7) l)[i] by simp [List.getD, hat]]
    exact lboth_le_r (lab_getD hl _) (lboth_bd _ _)
/-- Where a pass changes nothing any more the labels are found. -/
theorem passes_inf {n : Nat} {l : List (TStep n)} {free : Int → Bool} {x : List (Int × Int)} (h : x.all labB = true) (hv : ∀ t ∈ allL n l, varB x.length t.2.1 = true) {k : Nat} (he : pass n l free (Nat.repeat (pass n l free) k x) = Nat.repeat (pass n l free) k x) : Inf n l free x (Nat.repeat (pass n l free) k x) := by
  have hind : ∀ k, LeL (Nat.repeat (pass n l free) k x) x ∧ ∀ m, Fix n l free m → LeL m x → LeL m (Nat.repeat (pass n l free) k x) := fun k => by
    induction k with
    | zero => exact ⟨LeL.refl h, fun m _ h => h⟩
    | succ k ih =>
      obtain ⟨h3, h4, _⟩ := pass_all (free := free) ih.1.lab (fun t ht => by rw [ih.1.1]; exact hv t ht)
      exact ⟨h3.trans ih.1, fun m hm hx => h4 m hm (ih.2 m hm hx)⟩
  obtain ⟨h1, h2⟩ := hind k
  exact ⟨h1, (pass_all h1.lab (fun t ht => by rw [h1.1]; exact hv t ht)).2.2 he, fun m hm hf => h2 m hf hm⟩
end Go.Proofs.YtkmghcglmjehcaaI
end
section
/- What is fine, by the order of labels. -/
set_option linter.unusedVariables false
set_option linter.unusedSimpArgs false
namespace Go.Proofs.YtkmghcglmjehcaaI
open Go Go.RowKit
theorem wit_both : ∀ a b : Fin 8, (witB (a.val : Int) b.val = true) ↔ bothS (a.val : Int) b.val 3 = a.val := by decide +kernel
theorem witB_iff {a b : Int} (ha : 0 ≤ a ∧ a ≤ 7) (hb : 0 ≤ b ∧ b ≤ 7) : witB a b = true ↔ bothS a b 3 = a := by
  obtain ⟨x, rfl⟩ := fin8 ha
  obtain ⟨y, rfl⟩ := fin8 hb
  exact wit_both x y
theorem flows_le {a b : Int × Int} : flowsB a b = true ↔ Le b a := by
  unfold flowsB
  simp only [Bool.and_eq_true]
  constructor
  · rintro ⟨ha, hb, h1, h2⟩
    have qa := labB_i.1 ha
    have qb := labB_i.1 hb
    refine ⟨hb, ha, ?_⟩
    rw [lboth_ok hb ha, (witB_iff qb.1 qa.1).1 h1, (witB_iff qb.2 qa.2).1 h2]
  · rintro ⟨hb, ha, he⟩
    have qa := labB_i.1 ha
    have qb := labB_i.1 hb
    rw [lboth_ok hb ha] at he
    exact ⟨ha, hb, (witB_iff qb.1 qa.1).2 (congrArg Prod.fst he), (witB_iff qb.2 qa.2).2 (congrArg Prod.snd he)⟩
theorem why0_fine {ls : List (Int × Int)} : ∀ (ss : List Shal) (hs : List (Int × Int)) (i : Nat), (why0 ls ss hs i).2 = false ↔ ∀ x ∈ ss.zip hs, fineB ls x.1 x.2 = true
  | [], hs, i => by simp [why0]
  | _ :: _, [], i => by simp [why0]
  | s :: ss, h :: hs, i => by
    rw [why0, List.zip_cons_cons]
    by_cases hf : fineB ls s h = true
    · rw [if_pos hf, why0_fine ss hs (i + 1)]
      simp [hf]
    · rw [if_neg hf]
      simp [hf]
/-- A program is fine just if it is in form and each step is fine. -/
theorem typeP_iff {n : Nat} {ls : List (Int × Int)} {l : List (TStep n)} : typeP n (ls, l) = true ↔ progB n (ls, l) = true ∧ ∀ x ∈ (allL n l).zip (atL n ls (7, 7) l), fineB ls x.1 x.2 = true := by
  unfold typeP
  rw [Bool.and_eq_true, Bool.not_eq_true']
  refine and_congr_right fun h => ?_
  rw [whyV_yes h]
  exact why0_fine _ _ _
/-- Fine labels satisfy what steps ask, however many are free. -/
theorem typeP_fix {n : Nat} {ls : List (Int × Int)} {l : List (TStep n)} (free : Int → Bool) (h : typeP n (ls, l) = true) : Fix n l free ls := by
  intro i hi hk hf
  have hat : i < (atL n ls (7, 7) l).length := by rw [atL_len]; exact hi
  have hz : i < ((allL n l).zip (atL n ls (7, 7) l)).length := by rw [List.length_zip]; omega
  have h1 := (typeP_iff.1 h).2 _ (List.getElem_mem hz)
  simp only [List.getElem_zip] at h1
  unfold fineB at h1
  rw [if_pos hk] at h1
  rw [show (atL n ls (7, 7) l).getD i (0, 0) = (atL n ls (7, 7) l)[i] by simp [List.getD, hat]]
  exact flows_le.1 h1
end Go.Proofs.YtkmghcglmjehcaaI
end
section
/- Labels that are found are fine if some are. -/
set_option linter.unusedVariables false
set_option linter.unusedSimpArgs false
namespace Go.Proofs.YtkmghcglmjehcaaI
open Go Go.RowKit
theorem Le.has {a b : Int × Int} (h : Le a b) {x : Int} (hx : hasB a.1 x = true) : hasB b.1 x = true := by
  have qa := labB_i.1 h.la
  have qb := labB_i.1 h.lb
  have he := h.eq
  rw [lboth_ok h.la h.lb] at he
  have e1 : bothS a.1 b.1 3 = a.1 := congrArg Prod.fst he
  have := hasB_both (h := x) qa.1 qb.1
  rw [e1, hx, Bool.true_and] at this
  exact this.symm
theorem shB_varN {k : Nat} {t : Shal} (h : shB k t = true) : varB k t.2.1 = true := by
  simp only [shB, Bool.and_eq_true] at h
  exact h.1
theorem inf_typeP {n : Nat} {ls init r : List (Int × Int)} {l : List (TStep n)} {free : Int → Bool} (hI : Inf n l free init r) (hle : LeL ls init) (hsame : ∀ x : Int, 0 ≤ x → free x = false → init.getD x.toNat (0, 0) = ls.getD x.toNat (0, 0)) (h : typeP n (ls, l) = true) (hr : progB n (r, l) = true) : LeL ls r ∧ typeP n (r, l) = true := by
  have hlr : LeL ls r := hI.top ls hle (typeP_fix free h)
  have hP := (typeP_iff.1 h).1
  refine ⟨hlr, typeP_iff.2 ⟨hr, fun x hx => ?_⟩⟩
  obtain ⟨i, hi, rfl⟩ := List.getElem_of_mem hx
  rw [List.length_zip] at hi
  have hi1 : i < (allL n l).length := by omega
  have hi2 : i < (atL n r (7, 7) l).length := by omega
  have hi3 : i < (atL n ls (7, 7) l).length := by rw [atL_len]; exact hi1
  have hz : i < ((allL n l).zip (atL n ls (7, 7) l)).length := by rw [List.length_zip]; omega
  have h1 := (typeP_iff.1 h).2 _ (List.getElem_mem hz)
  have hat : Le (atL n ls (7, 7) l)[i] (atL n r (7, 7) l)[i] := by
    have := (atL_mono hlr (Le.refl (show labB ((7, 7) : Int × Int) = true from rfl)) l).2 i
    simpa [List.getD, hi2, hi3] using this
  have hb := varB_i.1 (shB_varN (progB_sh hP _ (List.getElem_mem hi1)))
  simp only [List.getElem_zip] at h1 ⊢
  have hfix := hI.fix i hi1
  generalize (allL n l)[i] = s at *
  rw [show (atL n r (7, 7) l).getD i (0, 0) = (atL n r (7, 7) l)[i] by simp [List.getD, hi2]] at hfix
  unfold fineB at h1 ⊢
  by_cases k1 : s.1 = 1
  · rw [if_pos k1] at h1 ⊢
    rw [flows_le] at h1 ⊢
    by_cases hf : free s.2.1 = true
    · exact hfix k1 hf
    · have e := hsame s.2.1 hb.1 (by simpa using hf)
      have h2 := hI.le.2 s.2.1.toNat
      rw [e] at h2
      exact (h2.trans h1).trans (lboth_mono hat (valL_mono hlr _))
  · rw [if_neg k1] at h1 ⊢
    by_cases k3 : s.1 = 3
    · rw [if_pos k3] at h1 ⊢
      have q1 := labB_i.1 hat.la
      have q2 := labB_i.1 hat.lb
      have q3 := labB_i.1 (hlr.2 s.2.1.toNat).la
      have q4 := labB_i.1 (hlr.2 s.2.1.toNat).lb
      rw [hasB_both q1.1 q3.1, Bool.and_eq_true] at h1
      rw [hasB_both q2.1 q4.1, Bool.and_eq_true]
      exact ⟨hat.has h1.1, (hlr.2 _).has h1.2⟩
    · rw [if_neg k3]
end Go.Proofs.YtkmghcglmjehcaaI
end
section
/- Trees of steps in blocks of one's own. -/
set_option linter.unusedVariables false
set_option linter.unusedSimpArgs false
namespace Go.Proofs.YtkmghcglmjehcaaI
open Go Go.RowKit
def shOf {n : Nat} (s : TStep (n + 1)) : Shal := (s.1, s.2.1, s.2.2.1, s.2.2.2.1)
def thOf {n : Nat} (s : TStep (n + 1)) : List (TStep n) := s.2.2.2.2.1
def elOf {n : Nat} (s : TStep (n + 1)) : List (TStep n) := s.2.2.2.2.2
def shV (s : Shal) (tv ev : Value) : List Value := [.int .i64 s.1, .int .i64 s.2.1, .int .i64 s.2.2.1.1, .int .i64 s.2.2.1.2.1, .int .i64 s.2.2.1.2.2, .int .i64 s.2.2.2, tv, ev]
def shRg (s : Shal) : Prop := RgI s.1 ∧ RgI s.2.1 ∧ RgI s.2.2.1.1 ∧ RgI s.2.2.1.2.1 ∧ RgI s.2.2.1.2.2 ∧ RgI s.2.2.2
/-- One step in memory: its cells, and the blocks of the steps in it. -/
def EltT {n : Nat} (P : Value → List (TStep n) → List Nat → Prop) (a : TStep (n + 1)) (cs : List Value) (B : List Nat) : Prop := ∃ tv ev B1 B2, cs = shV (shOf a) tv ev ∧ shRg (shOf a) ∧ P tv (thOf a) B1 ∧ P ev (elOf a) B2 ∧ B = B1 ++ B2
def BodyT {n : Nat} (P : Value → List (TStep n) → List Nat → Prop) (l : List (TStep (n + 1))) (cs : List Value) (Bs : List (List Nat)) : Prop := l.length ≤ 1048576 ∧ cs.length = l.length * 8 ∧ Bs.length = l.length ∧ Bs.flatten.Nodup ∧
  ∀ (i : Nat) (h : i < l.length) (h' : i < Bs.length), EltT P l[i] ((cs.drop (i * 8)).take 8) Bs[i]
/-- A tree of steps whose lists each lie in a block of its own. -/
def OwnT (lo : Nat) (H : Heap) : (n : Nat) → Value → List (TStep n) → List Nat → Prop
  | 0, v, l, B => v = nilS ∧ l = [] ∧ B = []
  | n + 1, v, l, B => (v = nilS ∧ l = [] ∧ B = []) ∨ ∃ b cs Bs, lo ≤ b ∧ v = sli b 0 l.length ∧ l ≠ [] ∧ H[b]? = some ⟨cs, 8, 83, true, true⟩ ∧ B = b :: Bs.flatten ∧ b ∉ Bs.flatten ∧ BodyT (OwnT lo H n) l cs Bs
theorem OwnT.nil {lo : Nat} {H : Heap} : ∀ {n : Nat}, OwnT lo H n nilS [] []
  | 0 => ⟨rfl, rfl, rfl⟩
  | n + 1 => .inl ⟨rfl, rfl, rfl⟩
theorem OwnT.one {lo : Nat} {H : Heap} : ∀ {n : Nat} {v : Value} {l : List (TStep n)} {B : List Nat}, OwnT lo H n v l B → one v = true
  | 0, v, l, B, ⟨h, _⟩ => by rw [h]; rfl
  | n + 1, v, l, B, .inl ⟨h, _⟩ => by rw [h]; rfl
  | n + 1, v, l, B, .inr ⟨b, cs, Bs, _, h, _⟩ => by rw [h]; rfl
theorem EltT.imp {n : Nat} {P P' : Value → List (TStep n) → List Nat → Prop} {a : TStep (n + 1)} {cs : List Value} {B : List Nat} (h : EltT P a cs B) (h1 : ∀ v l B1, (∀ b ∈ B1, b ∈ B) → P v l B1 → P' v l B1) : EltT P' a cs B := by
  obtain ⟨tv, ev, B1, B2, e1, e2, e3, e4, rfl⟩ := h
  exact ⟨tv, ev, B1, B2, e1, e2, h1 _ _ _ (fun b hb => List.mem_append_left _ hb) e3, h1 _ _ _ (fun b hb => List.mem_append_right _ hb) e4, rfl⟩
theorem mem_flat {Bs : List (List Nat)} {i : Nat} (hi : i < Bs.length) {b : Nat} (hb : b ∈ Bs[i]) : b ∈ Bs.flatten := List.mem_flatten.2 ⟨_, List.getElem_mem hi, hb⟩
theorem BodyT.imp {n : Nat} {P P' : Value → List (TStep n) → List Nat → Prop} {l : List (TStep (n + 1))} {cs : List Value} {Bs : List (List Nat)} (h : BodyT P l cs Bs) (h1 : ∀ v l B1, (∀ b ∈ B1, b ∈ Bs.flatten) → P v l B1 → P' v l B1) : BodyT P' l cs Bs := by
  obtain ⟨a0, a1, a2, a3, a4⟩ := h
  exact ⟨a0, a1, a2, a3, fun i h h' => (a4 i h h').imp fun v l B1 hs hp => h1 v l B1 (fun b hb => mem_flat h' (hs b hb)) hp⟩
theorem BodyT.nil {n : Nat} {P : Value → List (TStep n) → List Nat → Prop} : BodyT P [] [] [] := ⟨by simp, rfl, rfl, by simp, fun i h => by simp at h⟩
theorem OwnT.keep {lo lo' : Nat} {H H' : Heap} : ∀ {n : Nat} {v : Value} {l : List (TStep n)} {B : List Nat}, OwnT lo H n v l B → lo' ≤ lo → (∀ b ∈ B, H'[b]? = H[b]?) → OwnT lo' H' n v l B
  | 0, v, l, B, h, _, _ => h
  | n + 1, v, l, B, .inl h, _, _ => .inl h
  | n + 1, v, l, B, .inr ⟨b, cs, Bs, h1, h2, h3, h5, h8, h9, h10⟩, hlo, hk => by
    refine .inr ⟨b, cs, Bs, by omega, h2, h3, ?_, h8, h9, h10.imp fun v l B1 hs h => OwnT.keep h hlo fun b' hb' => hk b' (by rw [h8]; exact List.mem_cons_of_mem _ (hs b' hb'))⟩
    rw [hk b (by rw [h8]; exact List.mem_cons_self)]; exact h5
theorem OwnT.ge {lo : Nat} {H : Heap} : ∀ {n : Nat} {v : Value} {l : List (TStep n)} {B : List Nat}, OwnT lo H n v l B → ∀ b ∈ B, lo ≤ b ∧ b < H.length ∧ ∃ cs, H[b]? = some ⟨cs, 8, 83, true, true⟩
  | 0, v, l, B, ⟨_, _, h⟩, b, hb => by rw [h] at hb; cases hb
  | n + 1, v, l, B, .inl ⟨_, _, h⟩, b, hb => by rw [h] at hb; cases hb
  | n + 1, v, l, B, .inr ⟨b0, cs, Bs, h1, h2, h3, h5, h8, h9, ⟨a0, a1, a2, a3, a4⟩⟩, b, hb => by
    rw [h8, List.mem_cons] at hb
    rcases hb with rfl | hb
    · exact ⟨h1, (List.getElem?_eq_some_iff.1 h5).1, cs, h5⟩
    · obtain ⟨X, hX, hbX⟩ := List.mem_flatten.1 hb
      obtain ⟨i, hi, rfl⟩ := List.getElem_of_mem hX
      obtain ⟨tv, ev, B1, B2, _, _, e3, e4, e5⟩ := a4 i (by omega) hi
      rw [e5, List.mem_append] at hbX
      rcases hbX with h | h
      · exact OwnT.ge e3 b h
      · exact OwnT.ge e4 b h
theorem OwnT.nodup {lo : Nat} {H : Heap} : ∀ {n : Nat} {v : Value} {l : List (TStep n)} {B : List Nat}, OwnT lo H n v l B → B.Nodup
  | 0, v, l, B, ⟨_, _, h⟩ => by rw [h]; exact List.nodup_nil
  | n + 1, v, l, B, .inl ⟨_, _, h⟩ => by rw [h]; exact List.nodup_nil
  | n + 1, v, l, B, .inr ⟨b0, cs, Bs, h1, h2, h3, h5, h8, h9, ⟨a0, a1, a2, a3, a4⟩⟩ => by rw [h8]; exact List.nodup_cons.2 ⟨h9, a3⟩
theorem OwnT.len {lo : Nat} {H : Heap} : ∀ {n : Nat} {v : Value} {l : List (TStep n)} {B : List Nat}, OwnT lo H n v l B → l.length ≤ 1048576 ∧ ∃ a, v = .slice a l.length l.length
  | 0, v, l, B, ⟨h, h2, _⟩ => by rw [h, h2]; exact ⟨by simp, none, rfl⟩
  | n + 1, v, l, B, .inl ⟨h, h2, _⟩ => by rw [h, h2]; exact ⟨by simp, none, rfl⟩
  | n + 1, v, l, B, .inr ⟨b, cs, Bs, _, h, _, _, _, _, ⟨a0, _⟩⟩ => ⟨a0, _, h⟩
theorem OwnT.sl {lo : Nat} {H : Heap} : ∀ {n : Nat} {v : Value} {l : List (TStep n)} {B : List Nat}, OwnT lo H n v l B → SlR (Co.step n) (vws lo H) v l
  | 0, v, l, B, ⟨h, h2, _⟩ => by rw [h, h2]; exact ⟨by simp, none, rfl, .inl rfl⟩
  | n + 1, v, l, B, .inl ⟨h, h2, _⟩ => by rw [h, h2]; exact ⟨by simp, none, rfl, .inl rfl⟩
  | n + 1, v, l, B, .inr ⟨b, cs, Bs, h1, h2, h3, h5, h8, h9, ⟨a0, a1, a2, a3, a4⟩⟩ => by
    refine ⟨by omega, _, h2, .inr ⟨b, 0, rfl, fun i hi => ?_⟩⟩
    obtain ⟨tv, ev, B1, B2, e1, e2, e3, e4, e5⟩ := a4 i hi (by omega)
    have hr := step_rd e2.1 e2.2.1 e2.2.2.1 e2.2.2.2.1 e2.2.2.2.2.1 e2.2.2.2.2.2 (OwnT.sl e3) (OwnT.sl e4)
    refine ⟨shV (shOf l[i]) tv ev, ?_, hr⟩
    unfold rng vws
    rw [if_pos h1, h5]
    simp only [Option.bind_some, if_true, Nat.zero_add, step_w]
    rw [if_pos (by have : i * 8 + 8 ≤ l.length * 8 := by omega
                   omega), ← e1]
/-- A step more. -/
theorem BodyT.snoc {n : Nat} {P P' : Value → List (TStep n) → List Nat → Prop} {l : List (TStep (n + 1))} {cs cs8 : List Value} {Bs : List (List Nat)} {a : TStep (n + 1)} {B : List Nat} (h : BodyT P l cs Bs) (h1 : ∀ v l B1, (∀ b ∈ B1, b ∈ Bs.flatten) → P v l B1 → P' v l B1) (ha : EltT P' a cs8 B) (hB : B.Nodup) (hap : ∀ b ∈ B, b ∉ Bs.flatten) (hl : l.length < 1048576) : BodyT P' (l ++ [a]) (cs ++ cs8) (Bs ++ [B]) := by
  obtain ⟨a0, a1, a2, a3, a4⟩ := h
  have h8 : cs8.length = 8 := by obtain ⟨tv, ev, B1, B2, e1, _⟩ := ha; rw [e1]; rfl
  refine ⟨by rw [List.length_append, List.length_singleton]; omega, by rw [List.length_append, List.length_append, a1, h8, List.length_singleton]; omega, by rw [List.length_append, List.length_append, a2]; rfl, ?_, fun i hi hi' => ?_⟩
  · rw [List.flatten_append, List.nodup_append]
    refine ⟨a3, by simpa using hB, fun x hx y hy => ?_⟩
    simp only [List.flatten_cons, List.flatten_nil, List.append_nil] at hy
    intro he
    subst he
    exact hap x hy hx
  · rcases Nat.lt_or_ge i l.length with hlt | hge
    · rw [List.getElem_append_left hlt, List.getElem_append_left (by omega : i < Bs.length)]
      have := (a4 i hlt (by omega)).imp fun v l B1 hs hp => h1 v l B1 (fun b hb => mem_flat (by omega) (hs b hb)) hp
      have hd : ((cs ++ cs8).drop (i * 8)).take 8 = (cs.drop (i * 8)).take 8 := by
        rw [List.drop_append_of_le_length (by omega), List.take_append_of_le_length (by rw [List.length_drop]; omega)]
      rw [hd]
      exact this
    · have hil : i = l.length := by rw [List.length_append, List.length_singleton] at hi; omega
      subst hil
      have e1 : (l ++ [a])[l.length]'hi = a := by simp
      have e2 : (Bs ++ [B])[l.length]'hi' = B := by
        rw [List.getElem_append_right (by omega)]; simp
      rw [e1, e2, List.drop_append, List.drop_of_length_le (by omega), a1, Nat.sub_self, List.nil_append, List.drop_zero, List.take_of_length_le (by omega)]
      exact ha
end Go.Proofs.YtkmghcglmjehcaaI
end
section
/- Steps copied; steps changed in their place. -/
set_option linter.unusedVariables false
set_option linter.unusedSimpArgs false
namespace Go.Proofs.YtkmghcglmjehcaaI
open Go Go.RowKit
def c_cloneSteps : IFn := ⟨1, 26, [.t 2],
 .seq (.reg none [
    ⟨(some 2), none, .mov (.c (.slice none 0 0))⟩])
 (.seq (.reg none [
    ⟨(some 3), none, .mov (.c (.slice none 0 0))⟩])
 (.seq (.seq (.reg none [
     ⟨(some 6), none, .mov (.t 0)⟩,
     ⟨(some 7), none, .len (.t 6)⟩,
     ⟨(some 8), none, .mov (.c (.int .i64 0))⟩])
  (.block 0 (.loop (.seq (.reg none [
       ⟨(some 9), none, .bin .lss (.t 8) (.t 7)⟩])
    (.seq (.cond (.t 9) (.skip) (.exit 0))
    (.seq (.block 1 (.seq (.reg none [
         ⟨(some 10), none, .iad 8 (.t 6) (.t 8)⟩,
         ⟨(some 11), none, .load true 8 (.t 10)⟩,
         ⟨(some 5), none, .new [(.int .i64 0), (.int .i64 0), (.int .i64 0), (.int .i64 0), (.int .i64 0), (.int .i64 0), (.slice none 0 0), (.slice none 0 0)]⟩,
         ⟨none, none, .store 8 (.t 5) (.t 11)⟩])
      (.seq (.reg (some 7) [
         ⟨(some 12), none, .fad 6 (.t 5)⟩,
         ⟨(some 13), none, .load false 1 (.t 12)⟩,
         ⟨(some 14), none, .call .k (.f 110) [(.t 13)]⟩,
         ⟨(some 15), none, .fad 7 (.t 5)⟩,
         ⟨(some 16), none, .load false 1 (.t 15)⟩,
         ⟨(some 17), none, .call .k (.f 110) [(.t 16)]⟩,
         ⟨(some 18), none, .fad 6 (.t 5)⟩,
         ⟨none, none, .store 1 (.t 18) (.t 14)⟩,
         ⟨(some 19), none, .fad 7 (.t 5)⟩,
         ⟨none, none, .store 1 (.t 19) (.t 17)⟩])
      (.reg none [
        ⟨(some 20), none, .mov (.t 3)⟩,
        ⟨(some 21), none, .load true 8 (.t 5)⟩,
        ⟨(some 22), none, .lit 8 83 1 [(.int .i64 0), (.int .i64 0), (.int .i64 0), (.int .i64 0), (.int .i64 0), (.int .i64 0), (.slice none 0 0), (.slice none 0 0)] [(0, 8, (.t 21))]⟩,
        ⟨(some 23), none, .app 8 83 96 true (.t 20) (.t 22)⟩,
        ⟨(some 3), none, .mov (.t 23)⟩]))))
    (.reg none [
      ⟨(some 24), none, .bin .add (.t 8) (.c (.int .i64 1))⟩,
      ⟨(some 8), none, .mov (.t 24)⟩])))))))
 (.seq (.reg none [
    ⟨(some 25), none, .mov (.t 3)⟩,
    ⟨(some 2), none, .mov (.t 25)⟩])
 (.ret))))⟩
theorem op_app_kill {F : Nat → Option IFn} {lo0 es et bytes : Nat} {x y : Opd} {e : Env} {H : Heap} {cs ys : List Value} {b n : Nat} {K : Value → Heap → Prop} (hk : H[b]? = some ⟨cs, es, et, true, true⟩) (hn : cs.length = n * es) (hx : x.ev e = sli b 0 n) (hy : y.ev e = sli H.length 0 1) (hlo : lo0 ≤ b) (hyl : ys.length = es) (hl : n < 1048576) (hb : bytes ≤ 1048576)
    (k : ∀ H', AgX [b] H H' → H'[H.length + 1]? = some ⟨cs ++ ys, es, et, true, true⟩ → K (sli (H.length + 1) 0 (n + 1)) H') : wpOp F lo0 (.app es et bytes true x y) e (H ++ [⟨ys, es, et, true, true⟩]) K := by
  have hbl := (List.getElem?_eq_some_iff.1 hk).1
  have hbytes : (n + 1) * bytes ≤ 1048576 * 1048576 := Nat.mul_le_mul (by omega) hb
  refine op_app _ _ _ _ _ (b := ⟨b, 0, none⟩) (n := n) (c := n) (a := ⟨H.length, 0, none⟩) (m := 1) (c' := 1) (ys := ys) (kb := ⟨cs, es, et, true, true⟩) hx hy (by omega) ?_ ?_ ⟨hlo, rfl, rfl, rfl, rfl, hn, by omega, by omega⟩ ?_
  · unfold getCells
    rw [get_new0]
    simp only [List.getElem?_cons_zero, Nat.one_mul, Nat.zero_add]
    rw [if_pos (by omega), List.drop_zero, List.take_of_length_le (by omega)]
  · show (H ++ [_])[b]? = _
    rw [List.getElem?_append_left hbl]; exact hk
  · have hset : (H ++ ([⟨ys, es, et, true, true⟩] : Heap)).set b ⟨[], es, et, false, true && n == 0⟩ = H.set b ⟨[], es, et, false, true && n == 0⟩ ++ [⟨ys, es, et, true, true⟩] := List.set_append_left _ _ hbl
    simp only [if_true, Bool.or_true, Bool.and_true, List.length_append, List.length_cons, List.length_nil, Nat.zero_add]
    rw [hset, List.append_assoc]
    have hag : AgX [b] H (H.set b ⟨[], es, et, false, true && n == 0⟩ ++ ([⟨ys, es, et, true, true⟩] ++ [⟨cs ++ ys, es, et, true, true⟩])) := (AgX.set H b _).trans (AgX.app [] _ _) (fun b h _ => h) (fun b h _ => by cases h)
    refine k _ hag ?_
    have : H.length + 1 = (H.set b ⟨[], es, et, false, true && n == 0⟩).length + 1 := by rw [List.length_set]
    rw [this, get_new]
    rfl
def CloneOk (F : Nat → Option IFn) (f n : Nat) : Prop := ∀ (H : Heap) (v : Value) (l : List (TStep n)), SlR (Co.step n) (vw 0 H) v l → (Co.sl (Co.step n)).sm l → ∃ v' B H', KC F f [v] H v' H' ∧ AgX [] H H' ∧ OwnT H.length H' n v' l B
theorem cloneSteps_ok {F : Nat → Option IFn} {f n : Nat} (hf : F f = some c_cloneSteps) (ih : ∀ m, n = m + 1 → CloneOk F 110 m) : CloneOk F f n := by
  intro H v l hv hsm
  suffices h : ∃ v' H', KC F f [v] H v' H' ∧ (∃ B, AgX [] H H' ∧ OwnT H.length H' n v' l B) by
    obtain ⟨v', H', h1, B, h2⟩ := h
    exact ⟨v', B, H', h1, h2⟩
  have hv0 := hv
  obtain ⟨h0, av, rfl, _⟩ := hv
  have hlm : l.length ≤ 1048576 := hsm.1
  refine KC.mk hf rfl ?_
  refine seq_reg ?_
  simp only [go_sem, binC]
  refine seq_reg ?_
  simp only [go_sem, binC]
  refine seq_assoc (seq_reg ?_)
  simp only [go_sem, binC]
  refine seq_block (wpc_loop ?_)
  suffices h : ∀ (k i : Nat) (e : Env) (Hc : Heap) (v3 : Value) (B : List Nat), i + k = l.length → AgX [] H Hc → OwnT H.length Hc n v3 (l.take i) B → e 3 = v3 → e 6 = .slice av l.length l.length → e 7 = .int .i64 l.length → e 8 = .int .i64 i → W F H.length _ e Hc _ from
    h l.length 0 _ H nilS [] (by omega) (AgX.refl _ _) OwnT.nil (by simp only [go_sem, binC]) (by simp only [go_sem, binC]) (by simp only [go_sem, binC]) (by (simp only [go_sem, binC]) <;> rfl)
  intro k
  induction k with
  | zero =>
    intro i e Hc v3 B hi hxc ho e3 e6 e7 e8
    refine lp_step ?_
    refine seq_reg ?_
    simp only [go_sem, binC, e7, e8]
    refine seq_cond (t := false) (by simp only [go_sem, binC]; rw [decide_eq_false (by omega)]) ?_
    simp only [go_sem, binC]
    refine seq_exit ?_
    simp only [go_sem, binC, thenX_e, out_e, thenX_n]
    refine seq_reg ?_
    simp only [go_sem, binC, e3]
    rw [List.take_of_length_le (by omega)] at ho
    exact wpc_ret ⟨Or.inr rfl, _, (by (simp only [go_sem, binC]) <;> rfl), B, hxc, ho⟩
  | succ k ihk =>
    intro i e Hc v3 B hi hxc ho e3 e6 e7 e8
    have hil : i < l.length := by omega
    cases n with
    | zero => exact (l[i]).elim
    | succ n =>
    obtain ⟨vb, vo, kd, vr, va, vbb, vc, hh, tv, ev, tl, el, hav, hs, rg, otv, oev, hgc, htl, hel⟩ := step_at hv0 hil
    simp only [Value.slice.injEq, and_true] at hav
    subst hav
    obtain ⟨_, tva, rfl, _⟩ := id htl
    obtain ⟨_, eva, rfl, _⟩ := id hel
    have hg8 := hgc Hc (agx_sub hxc)
    have hsi : (Co.step (n + 1)).sm l[i] := hsm.2 _ (List.getElem_mem hil)
    rw [hs] at hsi
    obtain ⟨_, _, _, _, smt, sme⟩ := hsi
    have hw1 : IntKind.i64.wrap ((i : Int) + 1) = ((i + 1 : Nat) : Int) := by rw [wrap_id (by omega) (by omega)]; omega
    have hHl := hxc.1
    refine lp_step ?_
    refine seq_reg ?_
    simp only [go_sem, binC, e7, e8]
    refine seq_cond (t := true) (by simp only [go_sem, binC]; rw [decide_eq_true (by omega)]) ?_
    simp only [go_sem, binC]
    refine seq_skip (seq_block (seq_reg ?_))
    simp only [go_sem, binC, e6, e8]
    refine ⟨⟨by omega, by omega⟩, ?_⟩
    simp only [go_sem, binC, Int.toNat_natCast, hg8, otv, oev]
    refine ⟨by omega, ?_⟩
    refine wpc_gen fun H1 hH1 => ?_
    have hx1 : AgX [] Hc H1 := hH1 ▸ AgX.app [] _ _
    have hbx : H1[Hc.length]? = some ⟨[.int .i64 kd, .int .i64 vr, .int .i64 va, .int .i64 vbb, .int .i64 vc, .int .i64 hh, (.slice tva tl.length tl.length), (.slice eva el.length el.length)], 0, 0, false, true⟩ := hH1 ▸ get_new0 _ _
    have hl1 : H1.length = Hc.length + 1 := by rw [hH1, List.length_append]; rfl
    clear hH1
    refine seq_regD ?_
    simp only [go_sem, binC, gc_of hbx, inBlk_some]
    obtain ⟨tv', B1, H2, k2, hx2, o2⟩ := ih n rfl H1 _ tl (htl.mono (agx_sub (hxc.tr hx1))) smt
    obtain ⟨_, ta', rfl⟩ := id o2.len
    refine op_callK (by simp only [go_sem, binC]; exact k2) ?_
    have hbx2 := hx2.get hbx (by simp)
    simp only [go_sem, binC, gc_of hbx2, inBlk_some]
    obtain ⟨ev', B2, H3, k3, hx3, o3⟩ := ih n rfl H2 _ el (hel.mono (agx_sub ((hxc.tr hx1).tr hx2))) sme
    obtain ⟨_, ea', rfl⟩ := id o3.len
    refine op_callK (by simp only [go_sem, binC]; exact k3) ?_
    have hbx3 := hx3.get hbx2 (by simp)
    have hl2 := hx2.1
    have hl3 := hx3.1
    have hb3l := (List.getElem?_eq_some_iff.1 hbx3).1
    have ot' := o2.one
    have oe' := o3.one
    simp only [go_sem, binC, hbx3, ot', oe']
    refine ⟨by omega, ?_⟩
    simp only [go_sem, binC, List.getElem?_set_self hb3l, ot', oe', List.set_set]
    refine ⟨by omega, ?_⟩
    refine wpc_genH fun H4 hH4 => ?_
    have hx4 : AgX [Hc.length] H3 H4 := by rw [hH4]; exact AgX.set _ _ _
    have hb4 : H4[Hc.length]? = some ⟨[.int .i64 kd, .int .i64 vr, .int .i64 va, .int .i64 vbb, .int .i64 vc, .int .i64 hh, (.slice ta' tl.length tl.length), (.slice ea' el.length el.length)], 0, 0, false, true⟩ := by rw [hH4]; exact List.getElem?_set_self hb3l
    have hl4 : H4.length = H3.length := by rw [hH4, List.length_set]
    clear hH4
    refine wpc_reg ?_
    simp only [go_sem, binC, e3, gc_of hb4, inBlk_some]
    have hag4 : AgX [] H H4 := (((hxc.tr hx1).tr hx2).tr hx3).trans hx4 (fun _ h _ => h) (fun b h1 h2 => by simp only [List.mem_singleton] at h1; omega)
    have hg2 := o2.ge
    have hg3 := o3.ge
    have hgB := ho.ge
    have hkt : ∀ b ∈ B, H4[b]? = Hc[b]? := fun b hb => by
      have h2 := (hgB b hb).2.1
      rw [hx4.2 b (by omega) (by simp; omega), hx3.2 b (by omega) (by simp), hx2.2 b (by omega) (by simp), hx1.2 b h2 (by simp)]
    have ho4 := ho.keep (Nat.le_refl _) hkt
    have o24 : OwnT H.length H4 n (.slice ta' tl.length tl.length) tl B1 := o2.keep (by omega) fun b hb => by
      have := hg2 b hb
      rw [hx4.2 b (by omega) (by simp; omega), hx3.2 b (by omega) (by simp)]
    have o34 : OwnT H.length H4 n (.slice ea' el.length el.length) el B2 := o3.keep (by omega) fun b hb => by
      have := hg3 b hb
      rw [hx4.2 b (by omega) (by simp; omega)]
    have hnd : (B1 ++ B2).Nodup := List.nodup_append.2 ⟨o2.nodup, o3.nodup, fun x hx y hy he => by have := hg2 x hx; have := hg3 y hy; omega⟩
    have hrg : shRg (shOf l[i]) := by rw [hs]; exact rg
    have helt : ∀ {H' : Heap}, (∀ b ∈ B1 ++ B2, H'[b]? = H4[b]?) → EltT (OwnT H.length H' n) l[i] [.int .i64 kd, .int .i64 vr, .int .i64 va, .int .i64 vbb, .int .i64 vc, .int .i64 hh, (.slice ta' tl.length tl.length), (.slice ea' el.length el.length)] (B1 ++ B2) := fun hk => by
      rw [hs]
      exact ⟨(.slice ta' tl.length tl.length), (.slice ea' el.length el.length), B1, B2, rfl, rg, o24.keep (Nat.le_refl _) (fun b hb => hk b (List.mem_append_left _ hb)), o34.keep (Nat.le_refl _) (fun b hb => hk b (List.mem_append_right _ hb)), rfl⟩
    have hfar : ∀ b ∈ B1 ++ B2, Hc.length < b ∧ b < H4.length := fun b hb => by
      rcases List.mem_append.1 hb with h | h
      · have := hg2 b h; omega
      · have := hg3 b h; omega
    have htk : l.take (i + 1) = l.take i ++ [l[i]] := by rw [List.take_add_one, List.getElem?_eq_getElem hil]; rfl
    have htl' : (l.take i).length = i := by rw [List.length_take]; omega
    have hend : ∀ (e' : Env) (H' : Heap) (v' : Value) (B' : List Nat), AgX [] H H' → OwnT H.length H' (n + 1) v' (l.take (i + 1)) B' → e' 3 = v' → e' 6 = .slice (some ⟨vb, vo, none⟩) l.length l.length → e' 7 = .int .i64 l.length → e' 8 = .int .i64 ((i + 1 : Nat) : Int) → W F H.length _ e' H' _ := fun e' H' v' B' a1 a2 a3 a6 a7 a8 => ihk (i + 1) e' H' v' B' (by omega) a1 a2 a3 a6 a7 a8
    rcases ho4 with ⟨rfl, hl0, _⟩ | ⟨b, cs, Bs, hb1, rfl, hne, hb2, rfl, hb4n, hbd⟩
    · have hi0 : i = 0 := by have := congrArg List.length hl0; rw [htl'] at this; simpa using this
      subst hi0
      refine op_app_nil _ _ _ _ _ (a := ⟨H4.length, 0, none⟩) (m := 1) (c' := 1) (ys := [.int .i64 kd, .int .i64 vr, .int .i64 va, .int .i64 vbb, .int .i64 vc, .int .i64 hh, (.slice ta' tl.length tl.length), (.slice ea' el.length el.length)]) (by (simp only [go_sem, binC, e3]) <;> rfl) (by (simp only [go_sem, binC]) <;> rfl) (by omega) (by rw [gc_new0]; rfl) (by omega) (by omega) ?_
      simp only [go_sem, binC, out_n, thenX_n]
      refine wpc_reg ?_
      simp only [go_sem, binC, e8, hw1]
      simp only [go_sem, binC, thenX_n]
      have hx5 : AgX [] H4 (H4 ++ [⟨[.int .i64 kd, .int .i64 vr, .int .i64 va, .int .i64 vbb, .int .i64 vc, .int .i64 hh, (.slice ta' tl.length tl.length), (.slice ea' el.length el.length)], 8, 83, true, true⟩, ⟨[.int .i64 kd, .int .i64 vr, .int .i64 va, .int .i64 vbb, .int .i64 vc, .int .i64 hh, (.slice ta' tl.length tl.length), (.slice ea' el.length el.length)], 8, 83, true, true⟩]) := AgX.app [] _ _
      refine hend _ _ (sli (H4.length + 1) 0 1) ((H4.length + 1) :: [B1 ++ B2].flatten) (hag4.tr hx5) (.inr ⟨H4.length + 1, _, [B1 ++ B2], by omega, by rw [show (l.take (0 + 1)).length = 1 by rw [List.length_take]; omega], by rw [htk]; exact List.append_ne_nil_of_right_ne_nil _ (by simp), get_new _ _ 1, rfl, ?_, ?_⟩) (by (simp only [go_sem, binC]) <;> rfl) (by simp only [go_sem, binC, e6]) (by simp only [go_sem, binC, e7]) (by simp only [go_sem, binC])
      · simp only [List.flatten_cons, List.flatten_nil, List.append_nil]
        intro hb
        have := hfar _ hb
        omega
      · have := (BodyT.nil (P := OwnT H.length H4 n)).snoc (P' := OwnT H.length (H4 ++ [⟨[.int .i64 kd, .int .i64 vr, .int .i64 va, .int .i64 vbb, .int .i64 vc, .int .i64 hh, (.slice ta' tl.length tl.length), (.slice ea' el.length el.length)], 8, 83, true, true⟩, ⟨[.int .i64 kd, .int .i64 vr, .int .i64 va, .int .i64 vbb, .int .i64 vc, .int .i64 hh, (.slice ta' tl.length tl.length), (.slice ea' el.length el.length)], 8, 83, true, true⟩]) n) (a := l[0]) (fun v l B1 hs h => h.keep (Nat.le_refl _) fun b hb => by have := hs b hb; simp at this) (helt (fun b hb => hx5.2 b (hfar b hb).2 (by simp))) hnd (fun b _ => by simp) (by simp)
        rw [htk, hl0]
        exact this
    · rw [htl']
      have hbB : b < Hc.length := (hgB b (List.mem_cons_self)).2.1
      obtain ⟨c1, c2, c3, c4, c5⟩ := id hbd
      rw [htl'] at c1 c2 c3
      refine op_app_kill hb2 c2 (by simp only [go_sem, binC, e3, htl']) (by (simp only [go_sem, binC]) <;> rfl) (by omega) rfl (by omega) (by omega) fun H5 hx5 hb5 => ?_
      simp only [go_sem, binC, out_n, thenX_n]
      refine wpc_reg ?_
      simp only [go_sem, binC, e8, hw1]
      simp only [go_sem, binC, thenX_n]
      have hk5 : ∀ b' ∈ Bs.flatten, H5[b']? = H4[b']? := fun b' hb' => hx5.2 b' (by have := (hgB b' (List.mem_cons_of_mem _ hb')).2.1; omega) (by intro h; simp only [List.mem_singleton] at h; subst h; exact hb4n hb')
      refine hend _ H5 (sli (H4.length + 1) 0 (i + 1)) ((H4.length + 1) :: (Bs ++ [B1 ++ B2]).flatten) (hag4.trans hx5 (fun _ h _ => h) (fun b' h1 h2 => by simp only [List.mem_singleton] at h1; omega)) (.inr ⟨H4.length + 1, _, Bs ++ [B1 ++ B2], by omega, by rw [List.length_take, Nat.min_eq_left (by omega)], by rw [htk]; exact List.append_ne_nil_of_right_ne_nil _ (by simp), hb5, rfl, ?_, ?_⟩) (by (simp only [go_sem, binC]) <;> rfl) (by simp only [go_sem, binC, e6]) (by simp only [go_sem, binC, e7]) (by simp only [go_sem, binC])
      · rw [List.flatten_append, List.mem_append]
        simp only [List.flatten_cons, List.flatten_nil, List.append_nil]
        rintro (h | h)
        · have := (hgB _ (List.mem_cons_of_mem _ h)).2.1; omega
        · have := hfar _ h; omega
      · rw [htk]
        exact hbd.snoc (fun v l B' hs h => h.keep (Nat.le_refl _) fun b' hb' => hk5 b' (hs b' hb')) (helt (fun b' hb' => hx5.2 b' (hfar b' hb').2 (by have := hfar b' hb'; simp; omega))) hnd (fun b' hb' h => by have := hfar b' hb'; have := (hgB b' (List.mem_cons_of_mem _ h)).2.1; omega) (by rw [htl']; omega)
theorem cloneSteps_all {F : Nat → Option IFn} (hf : F 110 = some c_cloneSteps) : ∀ n, CloneOk F 110 n
  | 0 => cloneSteps_ok hf fun m h => by cases h
  | n + 1 => cloneSteps_ok hf fun m h => by cases h; exact cloneSteps_all hf n
end Go.Proofs.YtkmghcglmjehcaaI
end
section
/- Programs in memory of one's own; a program copied. -/
set_option linter.unusedVariables false
set_option linter.unusedSimpArgs false
namespace Go.Proofs.YtkmghcglmjehcaaI
open Go Go.RowKit
def okS (k : Nat) (s : Shal) : Prop := varB k s.2.1 = true ∧ (valB k s.2.2.1 = true ∨ s.2.2.1 = (0, 0, 0)) ∧ (s.1 = 1 → valB k s.2.2.1 = true) ∧ (s.1 ≠ 1 → s.2.2.1 = (0, 0, 0)) ∧ (s.1 = 3 → 0 ≤ s.2.2.2 ∧ s.2.2.2 ≤ 2)
theorem stepB_okS (k : Nat) : ∀ (n : Nat) (d : Int) (s : TStep n), stepB k n d s = true → ∀ t ∈ allT n s, okS k t
  | 0, _, s, _ => s.elim
  | n + 1, d, (kd, vr, v, ho, th, el), h => by
    intro t ht
    rw [allT_succ, List.mem_cons, List.mem_append] at ht
    have h0 := h
    simp only [stepB, Bool.and_eq_true, decide_eq_true_eq] at h
    obtain ⟨⟨h1, hv⟩, h⟩ := h
    have hnil : ((th.length : Int) + el.length = 0) → t ∈ allL n th ∨ t ∈ allL n el → False := fun h0 hm => by
      obtain rfl : th = [] := List.eq_nil_of_length_eq_zero (by omega)
      obtain rfl : el = [] := List.eq_nil_of_length_eq_zero (by omega)
      simp [allL] at hm
    have go : ∀ l : List (TStep n), l.all (stepB k n (d - 1)) = true → t ∈ allL n l → okS k t := fun l hl hm => by
      unfold allL at hm
      rw [List.mem_flatten] at hm
      obtain ⟨ts, h3, h4⟩ := hm
      obtain ⟨a, h5, rfl⟩ := List.mem_map.1 h3
      exact stepB_okS k n (d - 1) a (List.all_eq_true.1 hl a h5) t h4
    by_cases k1 : kd = 1
    · rw [if_pos k1] at h
      simp only [Bool.and_eq_true, decide_eq_true_eq] at h
      rcases ht with rfl | ht
      · exact ⟨hv, .inl h.1.1, fun _ => h.1.1, fun hh => absurd k1 hh, fun hh => by simp only at hh; omega⟩
      · exact (hnil h.2 ht).elim
    rw [if_neg k1] at h
    by_cases k3 : kd = 3
    · rw [if_pos k3] at h
      simp only [Bool.and_eq_true, decide_eq_true_eq, inB_iff] at h
      rcases ht with rfl | ht
      · exact ⟨hv, .inr h.1.1, fun hh => absurd hh k1, fun _ => h.1.1, fun _ => h.1.2⟩
      · exact (hnil h.2 ht).elim
    rw [if_neg k3] at h
    by_cases k2 : kd = 2
    · rw [if_pos k2] at h
      simp only [Bool.and_eq_true, decide_eq_true_eq] at h
      rcases ht with rfl | ht | ht
      · exact ⟨hv, .inr h.1.1.1, fun hh => absurd hh k1, fun _ => h.1.1.1, fun hh => absurd hh k3⟩
      · exact go th h.1.2 ht
      · exact go el h.2 ht
    · rw [if_neg k2] at h; cases h
theorem progB_okS {n : Nat} {ls : List (Int × Int)} {l : List (TStep n)} (h : progB n (ls, l) = true) : ∀ t ∈ allL n l, okS ls.length t := by
  simp only [progB, Bool.and_eq_true, decide_eq_true_eq, List.all_eq_true] at h
  intro t ht
  unfold allL at ht
  rw [List.mem_flatten] at ht
  obtain ⟨ts, h3, h4⟩ := ht
  obtain ⟨a, h5, rfl⟩ := List.mem_map.1 h3
  exact stepB_okS _ n 3 a (h.1.2 a h5) t h4
def c_pclone : IFn := ⟨1, 10, [.cell true 2 2],
 .seq (.reg none [
    ⟨(some 1), none, .box (.t 0)⟩,
    ⟨(some 2), none, .new [(.slice none 0 0), (.slice none 0 0)]⟩])
 (.seq (.reg (some 5) [
    ⟨(some 3), none, .fad 0 (.t 1)⟩,
    ⟨(some 4), none, .load false 1 (.t 3)⟩,
    ⟨(some 5), none, .app 2 35 16 false (.c (.slice none 0 0)) (.t 4)⟩,
    ⟨(some 6), none, .fad 1 (.t 1)⟩,
    ⟨(some 7), none, .load false 1 (.t 6)⟩,
    ⟨(some 8), none, .call .k (.f 110) [(.t 7)]⟩,
    ⟨(some 9), none, .build [(.slice none 0 0), (.slice none 0 0)] [(0, 1, (.t 5)), (1, 1, (.t 8))]⟩,
    ⟨none, none, .store 2 (.t 2) (.t 9)⟩])
 (.ret))⟩
def LabV (lo : Nat) (H : Heap) (v : Value) (ls : List (Int × Int)) : Prop := (v = nilS ∧ ls = []) ∨ ∃ b, lo ≤ b ∧ v = sli b 0 ls.length ∧ ls ≠ [] ∧ H[b]? = some ⟨ls.flatMap fp, 2, 35, true, true⟩
theorem LabV.one {lo : Nat} {H : Heap} {v : Value} {ls : List (Int × Int)} (h : LabV lo H v ls) : one v = true := by
  rcases h with ⟨rfl, _⟩ | ⟨b, _, rfl, _⟩ <;> rfl
theorem LabV.shape {lo : Nat} {H : Heap} {v : Value} {ls : List (Int × Int)} (h : LabV lo H v ls) : ∃ a, v = .slice a ls.length ls.length := by
  rcases h with ⟨rfl, rfl⟩ | ⟨b, _, rfl, _⟩
  · exact ⟨none, rfl⟩
  · exact ⟨_, rfl⟩
theorem LabV.keep {lo lo' : Nat} {H H' : Heap} {v : Value} {ls : List (Int × Int)} {xs : List Nat} (h : LabV lo H v ls) (hl : lo' ≤ lo) (hx : AgX xs H H') (hn : ∀ b, lo ≤ b → H[b]? = some ⟨ls.flatMap fp, 2, 35, true, true⟩ → b ∉ xs) : LabV lo' H' v ls := by
  rcases h with h | ⟨b, h1, h2, h3, h4⟩
  · exact .inl h
  · exact .inr ⟨b, by omega, h2, h3, hx.get h4 (hn b h1 h4)⟩
theorem LabV.sl {lo : Nat} {H : Heap} {v : Value} {ls : List (Int × Int)} (h : LabV lo H v ls) (hr : ∀ p ∈ ls, RgI p.1 ∧ RgI p.2) (hl : ls.length ≤ 1000) : SlR Co.p2 (vw 0 H) v ls := by
  rcases h with h | ⟨b, h1, h2, h3, h4⟩
  · exact GLi.slP (es := 2) (lo := lo) (et := 35) (.inl h) hr hl
  · exact GLi.slP (es := 2) (.inr ⟨b, true, h1, h2, h3, h4⟩) hr hl
theorem p2_rg {V : Vw} {v : Value} {l : List (Int × Int)} (h : SlR Co.p2 V v l) : ∀ w ∈ l, RgI w.1 ∧ RgI w.2 := by
  intro w hw
  obtain ⟨i, hi, rfl⟩ := List.getElem_of_mem hw
  obtain ⟨_, a, rfl, h2⟩ := h
  rcases h2 with h2 | ⟨b, o, _, h2⟩
  · rw [h2] at hi; simp at hi
  · obtain ⟨cs, _, _, _, _, ⟨_, r1⟩, ⟨_, r2⟩⟩ := h2 i hi
    exact ⟨r1, r2⟩
theorem sl_p2s {H : Heap} {v : Value} {l : List (Int × Int)} (h : SlR Co.p2 (vw 0 H) v l) (hl : l ≠ []) : ∃ b o, v = .slice (some ⟨b, o, none⟩) l.length l.length ∧ getCells H b o (l.length * 2) = some (l.flatMap fp) := by
  obtain ⟨b, o, ys, h1, h3, h2, h4⟩ := sl_cells (w := 2) rfl h hl
  refine ⟨b, o, h1, ?_⟩
  have hfl := flat_len (fl := fp) (w := 2) (fun _ => rfl) l
  have : ys = l.flatMap fp := by
    refine List.ext_getElem? fun m => ?_
    by_cases hm : m < l.length * 2
    · have hi : m / 2 < l.length := by omega
      obtain ⟨_, _, e1, ⟨rfl, _⟩, ⟨rfl, _⟩⟩ := h4 (m / 2) hi
      have q1 : ((ys.drop (m / 2 * 2)).take 2)[m % 2]? = ys[m]? := by
        rw [List.getElem?_take, if_pos (by omega), List.getElem?_drop]
        congr 1; omega
      have q2 : (l.flatMap fp)[m]? = (fp l[m / 2])[m % 2]? := by
        have e : l.flatMap fp = (l.take (m / 2)).flatMap fp ++ (fp l[m / 2] ++ (l.drop (m / 2 + 1)).flatMap fp) := by
          conv => lhs; rw [← List.take_append_drop (m / 2) l, List.drop_eq_getElem_cons hi]
          rw [List.flatMap_append, List.flatMap_cons]
        have hlt : ((l.take (m / 2)).flatMap fp).length = m / 2 * 2 := by rw [flat_len (fl := fp) (w := 2) (fun _ => rfl), List.length_take]; omega
        rw [e, List.getElem?_append_right (by omega), hlt, List.getElem?_append_left (by show m - m / 2 * 2 < 2; omega)]
        congr 1; omega
      rw [← q1, e1, q2]
      rfl
    · rw [List.getElem?_eq_none (by omega), List.getElem?_eq_none (by omega)]
  rw [← this]
  exact h3
def PCloneOk (F : Nat → Option IFn) (f : Nat) : Prop := ∀ (H : Heap) (n : Nat) (lv sv : Value) (ls : List (Int × Int)) (l : List (TStep n)), SlR Co.p2 (vw 0 H) lv ls → SlR (Co.step n) (vw 0 H) sv l → (Co.prog n).sm (ls, l) → ∃ lv' sv' B H', KC F f [.agg #[lv, sv]] H (.agg #[lv', sv']) H' ∧ AgX [] H H' ∧ LabV H.length H' lv' ls ∧ OwnT H.length H' n sv' l B
theorem pclone_ok {F : Nat → Option IFn} {f : Nat} (hf : F f = some c_pclone) (gc : ∀ n, CloneOk F 110 n) : PCloneOk F f := by
  intro H n lv sv ls l r1 r2 hsm
  suffices h : ∃ w H', KC F f [.agg #[lv, sv]] H w H' ∧ (∃ lv' sv' B, w = .agg #[lv', sv'] ∧ AgX [] H H' ∧ LabV H.length H' lv' ls ∧ OwnT H.length H' n sv' l B) by
    obtain ⟨w, H', h1, lv', sv', B, rfl, h2⟩ := h
    exact ⟨lv', sv', B, H', h1, h2⟩
  have osv : one sv = true := by obtain ⟨_, a, rfl, _⟩ := r2; rfl
  have olv : one lv = true := by obtain ⟨_, a, rfl, _⟩ := r1; rfl
  have hls : ls.length ≤ 1048576 := hsm.1.1
  refine KC.mk hf rfl ?_
  refine seq_reg ?_
  simp only [go_sem, binC, osv, olv]
  refine wpc_gen fun H1 hH1 => ?_
  have hx1 : AgX [] H H1 := hH1 ▸ AgX.app [] _ _
  have hb1 : H1[H.length]? = some ⟨[lv, sv], 0, 0, false, true⟩ := hH1 ▸ get_new0 _ _
  have hb2 : H1[H.length + 1]? = some ⟨[nilS, nilS], 0, 0, false, true⟩ := hH1 ▸ get_new _ _ 1
  have hln : H1.length = H.length + 2 := by rw [hH1]; simp
  clear hH1
  have hl1 := hx1.1
  have happ : ∀ (e : Env) (K : Value → Heap → Prop), e 4 = lv → (∀ lv' L, LabV H.length (H1 ++ L) lv' ls → K lv' (H1 ++ L)) → wpOp F H1.length (.app 2 35 16 false (.c (.slice none 0 0)) (.t 4)) e H1 K := by
    intro e K e4 k
    by_cases hl0 : ls = []
    · obtain ⟨_, a, rfl, _⟩ := r1
      subst hl0
      refine op_app_zero _ _ _ _ _ rfl (by (simp only [go_sem, binC, e4]) <;> rfl) ?_
      have := k nilS []
      rw [List.append_nil] at this
      exact this (.inl ⟨rfl, rfl⟩)
    · obtain ⟨b, o, rfl, hg⟩ := sl_p2s (r1.mono (agx_sub hx1)) hl0
      have hne : ls.length ≠ 0 := fun h => hl0 (List.eq_nil_of_length_eq_zero h)
      refine op_app_nil _ _ _ _ _ rfl (by (simp only [go_sem, binC, e4]) <;> rfl) hne hg (by omega) (by omega) ?_
      exact k _ _ (.inr ⟨H1.length, hl1, rfl, hl0, get_new0 _ _⟩)
  refine seq_regD ?_
  simp only [go_sem, binC, gc_of hb1, inBlk_some]
  refine happ _ _ (by simp only [go_sem, binC]) fun lv' L hL => ?_
  have hx2 : AgX [] H1 (H1 ++ L) := AgX.app [] _ _
  have hb12 := hx2.get hb1 (by simp)
  simp only [go_sem, binC, gc_of hb12, inBlk_some]
  obtain ⟨sv', B, H3, k3, hx3, o3⟩ := gc n (H1 ++ L) sv l (r2.mono (agx_sub (hx1.tr hx2))) hsm.2
  obtain ⟨la', rfl⟩ := hL.shape
  obtain ⟨_, sa', rfl⟩ := id o3.len
  refine op_callK (by simp only [go_sem, binC]; exact k3) ?_
  have hb23 := (hx2.tr hx3).get hb2 (by simp)
  have hb23l := (List.getElem?_eq_some_iff.1 hb23).1
  simp only [go_sem, binC, hb23]
  have hl3 := hx3.1
  have hl2 := hx2.1
  have hxs : AgX [H.length + 1] H3 (H3.set (H.length + 1) ⟨[.slice la' ls.length ls.length, .slice sa' l.length l.length], 0, 0, false, true⟩) := AgX.set _ _ _
  refine wpc_ret ⟨Or.inr rfl, .agg #[.slice la' ls.length ls.length, .slice sa' l.length l.length], ?_, _, _, B, rfl, ((hx1.tr hx2).tr hx3).setN (by omega) _, ?_, ?_⟩
  · simp [resV, resL, res1, putE_get, ptr, gc_set hb23l, inBlk_some, valOf]
  · exact (hL.keep (Nat.le_refl _) hx3 (fun b _ _ => by simp)).keep (Nat.le_refl _) hxs (fun b _ h1 h2 => by simp only [List.mem_singleton] at h2; subst h2; rw [hb23] at h1; simp at h1)
  · refine o3.keep (by omega) fun b hb => hxs.2 b (o3.ge b hb).2.1 (fun h => ?_)
    have := (o3.ge b hb).1
    simp only [List.mem_singleton] at h
    have hq : (H1 ++ L).length = H1.length + L.length := List.length_append
    omega
theorem flat_set : ∀ (l : List (Int × Int)) (i : Nat) (x : Int × Int), i < l.length → setL (l.flatMap fp) (i * 2) (fp x) = (l.set i x).flatMap fp := by
  intro l i x hi
  have hfl := flat_len (fl := fp) (w := 2) (fun _ => rfl) l
  rw [setL_eq _ _ _ (by show i * 2 + 2 ≤ _; omega)]
  have e : l.flatMap fp = (l.take i).flatMap fp ++ (fp l[i] ++ (l.drop (i + 1)).flatMap fp) := by
    conv => lhs; rw [← List.take_append_drop i l, List.drop_eq_getElem_cons hi]
    rw [List.flatMap_append, List.flatMap_cons]
  have hlt : ((l.take i).flatMap fp).length = i * 2 := by rw [flat_len (fl := fp) (w := 2) (fun _ => rfl), List.length_take]; omega
  rw [List.set_eq_take_append_cons_drop, if_pos hi, List.flatMap_append, List.flatMap_cons, e]
  rw [List.take_append_of_le_length (by omega), List.take_of_length_le (by omega), List.drop_append, List.drop_of_length_le (by rw [hlt]; show _ ≤ i * 2 + 2; omega), hlt]
  rw [show i * 2 + (fp x).length - i * 2 = 2 from by show i * 2 + 2 - i * 2 = 2; omega]
  rw [List.nil_append, List.append_assoc]
  rfl
theorem LabV.blk {lo : Nat} {H : Heap} {v : Value} {ls : List (Int × Int)} (h : LabV lo H v ls) {b : Nat} (hb : b ∈ blkOf v) : lo ≤ b ∧ v = sli b 0 ls.length ∧ H[b]? = some ⟨ls.flatMap fp, 2, 35, true, true⟩ := by
  rcases h with ⟨rfl, _⟩ | ⟨b', q1, rfl, q3, q4⟩
  · cases hb
  · simp only [blkOf, sli, List.mem_singleton] at hb
    subst hb
    exact ⟨q1, rfl, q4⟩
theorem bne_t {a b : Int} (h : ¬ a = b) : (a != b) = true := by simp [h]
theorem bne_f {a b : Int} (h : a = b) : (a != b) = false := by simp [h]
theorem blk_slP {es et b : Nat} {ap so : Bool} {H : Heap} {l : List (Int × Int)} (h : H[b]? = some ⟨l.flatMap fp, es, et, ap, so⟩) (hr : ∀ p ∈ l, RgI p.1 ∧ RgI p.2) (hl : l.length ≤ 1000) : SlR Co.p2 (vw 0 H) (sli b 0 l.length) l := by
  by_cases h0 : l = []
  · subst h0; exact ⟨by simp, _, rfl, .inl rfl⟩
  · have hfl := flat_len (fl := fp) (w := 2) (fun _ => rfl) l
    refine ⟨by omega, _, rfl, .inr ⟨b, 0, rfl, fun i hi => ⟨fp l[i], ?_, ⟨[.int .i64 l[i].1], [.int .i64 l[i].2], rfl, ⟨rfl, (hr _ (List.getElem_mem hi)).1⟩, ⟨rfl, (hr _ (List.getElem_mem hi)).2⟩⟩⟩⟩⟩
    unfold rng vw
    rw [if_pos (Nat.zero_le _), h]
    simp only [Option.map_some, Nat.zero_add, show Co.p2.w = 2 from rfl]
    rw [if_pos (by omega)]
    congr 1
    have : l.flatMap fp = (l.take i).flatMap fp ++ (fp l[i] ++ (l.drop (i + 1)).flatMap fp) := by
      conv => lhs; rw [← List.take_append_drop i l, List.drop_eq_getElem_cons hi]
      rw [List.flatMap_append, List.flatMap_cons]
    rw [this]
    have hlt : ((l.take i).flatMap fp).length = i * 2 := by rw [flat_len (fl := fp) (w := 2) (fun _ => rfl), List.length_take]; omega
    rw [List.drop_append, List.drop_of_length_le (by omega), hlt, Nat.sub_self, List.nil_append, List.drop_zero]
    rfl
end Go.Proofs.YtkmghcglmjehcaaI
end
section
/- Labels that are found: plain facts of the laws. -/
set_option linter.unusedVariables false
set_option linter.unusedSimpArgs false
namespace Go.Proofs.YtkmghcglmjehcaaI
open Go Go.RowKit
/-- The labels to begin with. -/
def startL (ls : List (Int × Int)) (free : List Bool) : List (Int × Int) := (List.range ls.length).map fun i => if free.getD i false = true then (7, 7) else ls.getD i (0, 0)
def freeF (free : List Bool) (x : Int) : Bool := free.getD x.toNat false
def infL (n : Nat) (l : List (TStep n)) (free : List Bool) (init : List (Int × Int)) : List (Int × Int) := Nat.repeat (rnd n l (freeF free)) 25 init
def inferV (n : Nat) (p : TProg n) (free : List Bool) : Option (List (Int × Int)) := if progB n p = true ∧ free.length = p.1.length ∧ typeP n (infL n p.2 free (startL p.1 free), p.2) = true then some (infL n p.2 free (startL p.1 free)) else none
theorem startL_len (ls : List (Int × Int)) (free : List Bool) : (startL ls free).length = ls.length := by simp [startL]
theorem startL_get {ls : List (Int × Int)} {free : List Bool} {i : Nat} (hi : i < ls.length) : (startL ls free).getD i (0, 0) = if free.getD i false = true then (7, 7) else ls.getD i (0, 0) := by
  simp [startL, List.getD, hi]
theorem startL_lab {ls : List (Int × Int)} {free : List Bool} (h : ls.all labB = true) : (startL ls free).all labB = true := by
  rw [List.all_eq_true]
  intro x hx
  unfold startL at hx
  obtain ⟨i, _, rfl⟩ := List.mem_map.1 hx
  split
  · rfl
  · exact lab_getD h i
theorem startL_ge {ls : List (Int × Int)} {free : List Bool} (h : ls.all labB = true) : LeL ls (startL ls free) := ⟨(startL_len _ _).symm, fun i => by
  by_cases hi : i < ls.length
  · rw [startL_get hi]
    have hl := lab_getD h i
    split
    · exact ⟨hl, rfl, by rw [lboth_comm hl rfl, lboth_any hl]⟩
    · exact Le.refl hl
  · rw [show ls.getD i (0, 0) = (0, 0) by simp [List.getD, List.getElem?_eq_none (by omega : ls.length ≤ i)], show (startL ls free).getD i (0, 0) = (0, 0) by simp [List.getD, List.getElem?_eq_none (by rw [startL_len]; omega : (startL ls free).length ≤ i)]]
    exact Le.refl rfl⟩
theorem startL_none (ls : List (Int × Int)) : startL ls [] = ls := List.ext_getElem (startL_len _ _) fun i h1 h2 => by
  have := startL_get (free := []) h2
  simpa [List.getD, h1, h2] using this
theorem startL_step {ls : List (Int × Int)} {free : List Bool} {v : Nat} (hv : v < free.length) (hl : free.length = ls.length) : startL ls (free.take (v + 1)) = if free.getD v false = true then (startL ls (free.take v)).set v (7, 7) else startL ls (free.take v) := by
  have e0 : ∀ i, i < ls.length → (free.take v).getD i false = if i < v then free.getD i false else false := fun i hi => by
    by_cases h : i < v
    · rw [if_pos h]; simp [List.getD, h]
    · rw [if_neg h]; simp [List.getD, List.getElem?_take, h]
  have e1 : ∀ i, i < ls.length → (free.take (v + 1)).getD i false = if i < v + 1 then free.getD i false else false := fun i hi => by
    by_cases h : i < v + 1
    · rw [if_pos h]; simp [List.getD, h]
    · rw [if_neg h]; simp [List.getD, List.getElem?_take, h]
  refine List.ext_getElem (by split <;> simp [startL_len]) fun i h1 h2 => ?_
  rw [startL_len] at h1
  have a1 := startL_get (free := free.take (v + 1)) h1
  have a0 := startL_get (free := free.take v) h1
  rw [e1 i h1] at a1
  rw [e0 i h1] at a0
  have b1 : (startL ls (free.take (v + 1)))[i]'(by rw [startL_len]; exact h1) = (startL ls (free.take (v + 1))).getD i (0, 0) := by simp [List.getD, startL_len, h1]
  have b0 : (startL ls (free.take v))[i]'(by rw [startL_len]; exact h1) = (startL ls (free.take v)).getD i (0, 0) := by simp [List.getD, startL_len, h1]
  rw [b1, a1]
  by_cases hf : free.getD v false = true
  · simp only [hf, if_true, List.getElem_set]
    by_cases hiv : v = i
    · subst hiv
      rw [List.getD_eq_getElem?_getD] at hf
      simp [hf]
    · rw [if_neg hiv, b0, a0]
      by_cases h : i < v
      · simp [h, show i < v + 1 by omega]
      · simp [h, show ¬ i < v + 1 by omega]
  · simp only [hf, Bool.false_eq_true, if_false]
    rw [b0, a0]
    by_cases hiv : v = i
    · subst hiv
      rw [List.getD_eq_getElem?_getD] at hf
      simp [hf]
    · by_cases h : i < v
      · simp [h, show i < v + 1 by omega]
      · simp [h, show ¬ i < v + 1 by omega]
theorem progB_ls {n : Nat} {ls r : List (Int × Int)} {l : List (TStep n)} (h : progB n (ls, l) = true) (hl : r.length = ls.length) (hr : r.all labB = true) : progB n (r, l) = true := by
  unfold progB at h ⊢
  simp only [Bool.and_eq_true, decide_eq_true_eq] at h ⊢
  rw [hl]
  exact ⟨⟨⟨h.1.1.1, hr⟩, h.1.2⟩, h.2⟩
theorem progB_var {n : Nat} {ls : List (Int × Int)} {l : List (TStep n)} (h : progB n (ls, l) = true) : ∀ t ∈ allL n l, varB ls.length t.2.1 = true := fun t ht => shB_varN (progB_sh h t ht)
theorem progB_le4 {n : Nat} {ls : List (Int × Int)} {l : List (TStep n)} (h : progB n (ls, l) = true) : ls.length ≤ 4 := by
  unfold progB at h
  simp only [Bool.and_eq_true, decide_eq_true_eq] at h
  have := h.1.1.1
  omega
theorem infL_inf {n : Nat} {ls : List (Int × Int)} {l : List (TStep n)} (free : List Bool) (h : progB n (ls, l) = true) : Inf n l (freeF free) (startL ls free) (infL n l free (startL ls free)) := by
  refine rnds_inf (startL_lab (progB_lab h)) ?_ fun t ht => ?_
  · rw [startL_len]; exact progB_le4 h
  · rw [startL_len]; exact progB_var h t ht
attribute [local irreducible] infL
theorem Inf.keep {n : Nat} {l : List (TStep n)} {free : List Bool} {init r : List (Int × Int)} (hI : Inf n l (freeF free) init r) {x : Nat} (hf : free.getD x false = false) : r.getD x (0, 0) = init.getD x (0, 0) := by
  have hlen := hI.le.1
  by_cases hx : x < r.length
  · have hle : LeL r (r.set x (init.getD x (0, 0))) := ⟨List.length_set.symm, fun j => by
      rw [getD_setP hx]
      by_cases hj : x = j
      · subst hj; rw [if_pos rfl]; exact hI.le.2 x
      · rw [if_neg hj]; exact Le.refl (hI.le.2 j).la⟩
    have hge : LeL (r.set x (init.getD x (0, 0))) init := ⟨by rw [List.length_set]; exact hlen, fun j => by
      rw [getD_setP hx]
      by_cases hj : x = j
      · subst hj; rw [if_pos rfl]; exact Le.refl (hI.le.2 x).lb
      · rw [if_neg hj]; exact hI.le.2 j⟩
    have hfix : Fix n l (freeF free) (r.set x (init.getD x (0, 0))) := fun i hi hk hfr => by
      have h1 := hI.fix i hi hk hfr
      have hne : ¬ x = (allL n l)[i].2.1.toNat := fun h => by
        unfold freeF at hfr
        rw [← h, hf] at hfr
        cases hfr
      rw [getD_setP hx, if_neg hne]
      exact h1.trans (lboth_mono ((atL_mono hle (Le.refl rfl) l).2 i) (valL_mono hle _))
    have h2 := (hI.top _ hge hfix).2 x
    rw [getD_setP hx, if_pos rfl] at h2
    exact (hI.le.2 x).antisymm h2
  · rw [show r.getD x (0, 0) = (0, 0) by simp [List.getD, List.getElem?_eq_none (by omega : r.length ≤ x)], show init.getD x (0, 0) = (0, 0) by simp [List.getD, List.getElem?_eq_none (by omega : init.length ≤ x)]]
theorem infL_keep {n : Nat} {ls : List (Int × Int)} {l : List (TStep n)} {free : List Bool} (h : progB n (ls, l) = true) {x : Nat} (hx : x < ls.length) (hf : free.getD x false = false) : (infL n l free (startL ls free)).getD x (0, 0) = ls.getD x (0, 0) := by
  rw [(infL_inf free h).keep hf, startL_get hx, hf]
  simp
theorem infL_len {n : Nat} {ls : List (Int × Int)} {l : List (TStep n)} {free : List Bool} (h : progB n (ls, l) = true) : (infL n l free (startL ls free)).length = ls.length := by
  rw [(infL_inf free h).le.1, startL_len]
theorem infL_prog {n : Nat} {ls : List (Int × Int)} {l : List (TStep n)} {free : List Bool} (h : progB n (ls, l) = true) : progB n (infL n l free (startL ls free), l) = true := progB_ls h (infL_len h) (infL_inf free h).le.lab
theorem startL_res {n : Nat} {ls : List (Int × Int)} {l : List (TStep n)} {free : List Bool} (h : progB n (ls, l) = true) : startL (infL n l free (startL ls free)) free = startL ls free := by
  have hl := infL_len (free := free) h
  refine List.ext_getElem (by rw [startL_len, startL_len, hl]) fun i h1 h2 => ?_
  rw [startL_len] at h1 h2
  have a1 := startL_get (free := free) h1
  have a2 := startL_get (free := free) h2
  have b1 : (startL (infL n l free (startL ls free)) free)[i]'(by rw [startL_len]; exact h1) = (startL (infL n l free (startL ls free)) free).getD i (0, 0) := by simp [List.getD, startL_len, h1]
  have b2 : (startL ls free)[i]'(by rw [startL_len]; exact h2) = (startL ls free).getD i (0, 0) := by simp [List.getD, startL_len, h2]
  rw [b1, b2, a1, a2]
  by_cases hf : free.getD i false = true
  · rw [if_pos hf, if_pos hf]
  · rw [if_neg hf, if_neg hf]
    exact infL_keep h h2 (by simpa using hf)
theorem inferV_some {n : Nat} {p : TProg n} {free : List Bool} {r : List (Int × Int)} (h : inferV n p free = some r) : progB n p = true ∧ free.length = p.1.length ∧ typeP n (r, p.2) = true ∧ r = infL n p.2 free (startL p.1 free) := by
  unfold inferV at h
  split at h
  · rename_i hc
    simp only [Option.some.injEq] at h
    subst h
    exact ⟨hc.1, hc.2.1, hc.2.2, rfl⟩
  · cases h
/-- Told twice labels are told once. -/
theorem inferV_twice {n : Nat} {ls r : List (Int × Int)} {l : List (TStep n)} {free : List Bool} (h : inferV n (ls, l) free = some r) : inferV n (r, l) free = some r := by
  obtain ⟨h1, h2, h3, h4⟩ := inferV_some h
  simp only at h1 h2 h3 h4
  subst h4
  unfold inferV
  simp only
  rw [startL_res h1, if_pos ⟨(typeP_iff.1 h3).1, by rw [infL_len h1]; exact h2, h3⟩]
/-- If no labels are free a program is told just if it is fine. -/
theorem inferV_none {n : Nat} {ls : List (Int × Int)} {l : List (TStep n)} {free : List Bool} (hf : free.length = ls.length) (h0 : ∀ i, free.getD i false = false) : inferV n (ls, l) free = if typeP n (ls, l) = true then some ls else none := by
  unfold inferV
  simp only
  by_cases hP : progB n (ls, l) = true
  · have hs : startL ls free = ls := List.ext_getElem (startL_len _ _) fun i h1 h2 => by
      have := startL_get (free := free) h2
      rw [h0 i] at this
      simpa [List.getD, h1, h2] using this
    have hI := infL_inf free hP
    have hr : infL n l free (startL ls free) = ls := by
      refine hI.unique ⟨?_, fun i hi hk hfr => ?_, fun m hm _ => ?_⟩
      · rw [hs]; exact LeL.refl (progB_lab hP)
      · unfold freeF at hfr
        rw [h0] at hfr
        cases hfr
      · rw [hs] at hm; exact hm
    rw [hr]
    by_cases hT : typeP n (ls, l) = true
    · rw [if_pos ⟨hP, hf, hT⟩, if_pos hT]
    · rw [if_neg (fun h => hT h.2.2), if_neg hT]
  · have hT : ¬ typeP n (ls, l) = true := fun h => hP (typeP_iff.1 h).1
    rw [if_neg (fun h => hP h.1), if_neg hT]
/-- What is below some fine labels. -/
theorem inferV_above {n : Nat} {ls ms : List (Int × Int)} {l : List (TStep n)} {free : List Bool} (hP : progB n (ls, l) = true) (hf : free.length = ls.length) (hml : ms.length = ls.length) (hsame : ∀ i, i < ls.length → free.getD i false = false → ms.getD i (0, 0) = ls.getD i (0, 0)) (h : typeP n (ms, l) = true) : ∃ r, inferV n (ls, l) free = some r ∧ LeL ms r := by
  have hmP := (typeP_iff.1 h).1
  have hst : startL ms free = startL ls free := by
    refine List.ext_getElem (by rw [startL_len, startL_len, hml]) fun i h1 h2 => ?_
    rw [startL_len] at h1 h2
    have a1 := startL_get (free := free) h1
    have a2 := startL_get (free := free) h2
    have b1 : (startL ms free)[i]'(by rw [startL_len]; exact h1) = (startL ms free).getD i (0, 0) := by simp [List.getD, startL_len, h1]
    have b2 : (startL ls free)[i]'(by rw [startL_len]; exact h2) = (startL ls free).getD i (0, 0) := by simp [List.getD, startL_len, h2]
    rw [b1, b2, a1, a2]
    by_cases hfr : free.getD i false = true
    · rw [if_pos hfr, if_pos hfr]
    · rw [if_neg hfr, if_neg hfr]
      exact hsame i h2 (by simpa using hfr)
  have hI := infL_inf free hP
  have hle : LeL ms (startL ls free) := by rw [← hst]; exact startL_ge (progB_lab hmP)
  obtain ⟨q1, q2⟩ := inf_typeP hI hle (fun x hx hfr => by
    unfold freeF at hfr
    by_cases hxl : x.toNat < ls.length
    · rw [startL_get hxl, hfr]
      simp only [Bool.false_eq_true, if_false]
      exact (hsame _ hxl hfr).symm
    · rw [show (startL ls free).getD x.toNat (0, 0) = (0, 0) by simp [List.getD, List.getElem?_eq_none (by rw [startL_len]; omega : (startL ls free).length ≤ x.toNat)], show ms.getD x.toNat (0, 0) = (0, 0) by simp [List.getD, List.getElem?_eq_none (by omega : ms.length ≤ x.toNat)]]) h (infL_prog hP)
  exact ⟨_, by unfold inferV; rw [if_pos ⟨hP, hf, q2⟩], q1⟩
theorem top_getD {k i : Nat} (h : i < k) : (List.replicate k ((7, 7) : Int × Int)).getD i (0, 0) = (7, 7) := by simp [List.getD, h]
theorem atT_top {k : Nat} : ∀ (n : Nat) (s : TStep n), (∀ t ∈ allT n s, varB k t.2.1 = true) → ∀ y ∈ atT n (List.replicate k (7, 7)) (7, 7) s, y = (7, 7)
  | 0, s, _ => s.elim
  | n + 1, (kd, x, v, h, th, el), hv => by
    have hx := varB_i.1 (hv (kd, x, v, h) (by rw [allT_succ]; simp))
    simp only at hx
    intro y hy
    rw [atT_succ, top_getD (show x.toNat < k by omega), show lboth ((7, 7) : Int × Int) (7, 7) = (7, 7) from by decide +kernel] at hy
    have go : ∀ (q : List (TStep n)), (∀ t ∈ allL n q, varB k t.2.1 = true) → ∀ y ∈ atL n (List.replicate k (7, 7)) (7, 7) q, y = (7, 7) := fun q hq y hy => by
      unfold atL at hy
      obtain ⟨z, hz, hyz⟩ := List.mem_flatten.1 hy
      obtain ⟨a, ha, rfl⟩ := List.mem_map.1 hz
      exact atT_top n a (fun t ht => hq t (List.mem_flatten.2 ⟨_, List.mem_map.2 ⟨a, ha, rfl⟩, ht⟩)) y hyz
    rcases List.mem_cons.1 hy with h | h
    · exact h
    · rcases List.mem_append.1 h with h | h
      · exact go th (fun t ht => hv t (by rw [allT_succ]; simp [ht])) y h
      · exact go el (fun t ht => hv t (by rw [allT_succ]; simp [ht])) y h
theorem atL_top {n k : Nat} {l : List (TStep n)} (h : ∀ t ∈ allL n l, varB k t.2.1 = true) : ∀ y ∈ atL n (List.replicate k (7, 7)) (7, 7) l, y = (7, 7) := fun y hy => by
  unfold atL at hy
  obtain ⟨z, hz, hyz⟩ := List.mem_flatten.1 hy
  obtain ⟨a, ha, rfl⟩ := List.mem_map.1 hz
  exact atT_top n a (fun t ht => h t (List.mem_flatten.2 ⟨_, List.mem_map.2 ⟨a, ha, rfl⟩, ht⟩)) y hyz
theorem valL_top {k : Nat} {v : Int × Int × Int} (h : valB k v = true) : valL (List.replicate k (7, 7)) v = (7, 7) := by
  obtain ⟨kd, a, b⟩ := v
  have e7 : lboth ((7, 7) : Int × Int) (7, 7) = (7, 7) := by decide +kernel
  have hg : ∀ x, varB k x = true → (List.replicate k ((7, 7) : Int × Int)).getD x.toNat (0, 0) = (7, 7) := fun x hx => top_getD (by have := varB_i.1 hx; omega)
  unfold valB at h
  simp only at h
  unfold valL
  simp only
  by_cases k1 : kd = 1
  · simp [k1]
  by_cases k2 : kd = 2
  · rw [if_neg k1, if_pos k2, Bool.and_eq_true] at h
    rw [if_neg k1, hg a h.1, e7, if_neg (by omega)]
  · rw [if_neg k1, if_neg k2] at h
    by_cases k3 : kd = 3 ∨ kd = 4
    · rw [if_pos k3, Bool.and_eq_true] at h
      rw [if_neg k1, if_pos k3, hg a h.1, hg b h.2, e7, e7]
    · rw [if_neg k3] at h; cases h
theorem has7 : ∀ h : Fin 3, hasB (bothS 7 7 3) (h.val : Int) = true := by decide +kernel
/-- If all labels are free everybody may know, and trusts, all. -/
theorem inferV_more {n : Nat} {ls : List (Int × Int)} {l : List (TStep n)} {free : List Bool} (hP : progB n (ls, l) = true) (hf : free.length = ls.length) (h1 : ∀ i, i < free.length → free.getD i false = true) : inferV n (ls, l) free = some (List.replicate ls.length (7, 7)) := by
  have hlab : (List.replicate ls.length ((7, 7) : Int × Int)).all labB = true := by
    rw [List.all_eq_true]
    intro x hx
    rw [(List.mem_replicate.1 hx).2]
    rfl
  have htP : progB n (List.replicate ls.length (7, 7), l) = true := progB_ls hP (by simp) hlab
  have hT : typeP n (List.replicate ls.length (7, 7), l) = true := by
    refine typeP_iff.2 ⟨htP, fun x hx => ?_⟩
    obtain ⟨i, hi, rfl⟩ := List.getElem_of_mem hx
    rw [List.length_zip] at hi
    have hi1 : i < (allL n l).length := by omega
    have hi2 : i < (atL n (List.replicate ls.length (7, 7)) (7, 7) l).length := by omega
    have hok := progB_okS hP _ (List.getElem_mem hi1)
    have hat := atL_top (progB_var hP) _ (List.getElem_mem hi2)
    simp only [List.getElem_zip]
    rw [hat]
    generalize (allL n l)[i] = s at hok
    have hx := varB_i.1 hok.1
    unfold fineB
    rw [top_getD (show s.2.1.toNat < ls.length by omega)]
    split
    · rename_i hk
      rw [valL_top (hok.2.2.1 hk)]
      decide +kernel
    · split
      · rename_i hk
        have q := hok.2.2.2.2 hk
        have := has7 ⟨s.2.2.2.toNat, by omega⟩
        rwa [show (((⟨s.2.2.2.toNat, by omega⟩ : Fin 3).val : Nat) : Int) = s.2.2.2 by simp only; omega] at this
      · rfl
  obtain ⟨r, hr, hle⟩ := inferV_above (ms := List.replicate ls.length (7, 7)) hP hf (by simp) (fun i hi h0 => by rw [h1 i (by omega)] at h0; cases h0) hT
  rw [hr]
  obtain ⟨_, _, _, he⟩ := inferV_some hr
  simp only at he
  have hI := infL_inf free hP
  rw [← he] at hI
  refine congrArg some (LeL.antisymm ⟨by rw [hI.le.1, startL_len]; simp, fun i => ?_⟩ hle)
  by_cases hi : i < ls.length
  · rw [top_getD hi]
    have hl := (hI.le.2 i).la
    exact ⟨hl, rfl, by rw [lboth_comm hl rfl, lboth_any hl]⟩
  · rw [show r.getD i (0, 0) = (0, 0) by simp [List.getD, List.getElem?_eq_none (by rw [hI.le.1, startL_len]; omega : r.length ≤ i)], show (List.replicate ls.length ((7, 7) : Int × Int)).getD i (0, 0) = (0, 0) by simp [List.getD, hi]]
    exact Le.refl rfl
end Go.Proofs.YtkmghcglmjehcaaI
end
section
/- Labels that are found (the program's). -/
set_option linter.unusedVariables false
set_option linter.unusedSimpArgs false
namespace Go.Proofs.YtkmghcglmjehcaaI
open Go Go.RowKit
attribute [local irreducible] infL
def c_iInferOf : IFn := ⟨2, 99, [.cell true 2 4, .t 5],
 .seq (.reg none [
    ⟨(some 2), none, .box (.t 0)⟩,
    ⟨(some 4), none, .new [(.slice none 0 0), (.slice none 0 0)]⟩,
    ⟨(some 5), none, .mov (.c (.bool false))⟩])
 (.seq (.seq (.reg none [
     ⟨(some 14), none, .load true 2 (.t 2)⟩,
     ⟨(some 15), none, .call .q (.f 54) [(.t 14)]⟩,
     ⟨(some 16), none, .un .not (.t 15)⟩,
     ⟨(some 17), none, .mov (.t 16)⟩,
     ⟨(some 18), (some (17, false)), .mov (.t 1)⟩,
     ⟨(some 19), (some (17, false)), .len (.t 18)⟩,
     ⟨(some 20), (some (17, false)), .fad 0 (.t 2)⟩,
     ⟨(some 21), (some (17, false)), .load false 1 (.t 20)⟩,
     ⟨(some 22), (some (17, false)), .len (.t 21)⟩,
     ⟨(some 23), (some (17, false)), .bin .neq (.t 19) (.t 22)⟩,
     ⟨(some 24), none, .pick (.t 17) (.c (.bool true)) (.t 23)⟩])
  (.cond (.t 24) (.seq (.reg none [
      ⟨(some 25), none, .build [(.slice none 0 0), (.slice none 0 0)] []⟩,
      ⟨none, none, .store 2 (.t 4) (.t 25)⟩,
      ⟨(some 5), none, .mov (.c (.bool false))⟩])
   (.ret)) (.skip)))
 (.seq (.reg none [
    ⟨(some 26), none, .load true 2 (.t 2)⟩,
    ⟨(some 27), none, .call .k (.f 55) [(.t 26)]⟩,
    ⟨(some 6), none, .new [(.slice none 0 0), (.slice none 0 0)]⟩,
    ⟨none, none, .store 2 (.t 6) (.t 27)⟩])
 (.seq (.seq (.reg none [
     ⟨(some 28), none, .mov (.t 1)⟩,
     ⟨(some 29), none, .len (.t 28)⟩,
     ⟨(some 30), none, .mov (.c (.int .i64 0))⟩])
  (.block 0 (.loop (.seq (.reg none [
       ⟨(some 31), none, .bin .lss (.t 30) (.t 29)⟩])
    (.seq (.cond (.t 31) (.skip) (.exit 0))
    (.seq (.block 1 (.seq (.reg none [
         ⟨(some 32), none, .mov (.t 30)⟩,
         ⟨(some 33), none, .iad 1 (.t 28) (.t 30)⟩,
         ⟨(some 34), none, .load false 1 (.t 33)⟩,
         ⟨(some 7), none, .mov (.t 32)⟩,
         ⟨(some 8), none, .mov (.t 34)⟩])
      (.seq (.reg none [
         ⟨(some 35), none, .mov (.t 8)⟩])
      (.cond (.t 35) (.reg (some 4) [
         ⟨(some 36), none, .fad 0 (.t 6)⟩,
         ⟨(some 37), none, .load false 1 (.t 36)⟩,
         ⟨(some 38), none, .mov (.t 7)⟩,
         ⟨(some 39), none, .call .q (.f 56) []⟩,
         ⟨(some 40), none, .iad 2 (.t 37) (.t 38)⟩,
         ⟨none, none, .store 2 (.t 40) (.t 39)⟩]) (.skip)))))
    (.reg none [
      ⟨(some 41), none, .bin .add (.t 30) (.c (.int .i64 1))⟩,
      ⟨(some 30), none, .mov (.t 41)⟩])))))))
 (.seq (.seq (.reg none [
     ⟨(some 9), none, .mov (.c (.bool true))⟩])
  (.block 2 (.loop (.seq (.seq (.reg none [
        ⟨(some 42), none, .mov (.t 9)⟩])
     (.cond (.t 42) (.skip) (.exit 2)))
    (.block 3 (.seq (.reg none [
        ⟨(some 9), none, .mov (.c (.bool false))⟩])
     (.seq (.reg none [
        ⟨(some 43), none, .load true 2 (.t 6)⟩,
        ⟨(some 44), none, .call .k (.f 57) [(.t 43)]⟩,
        ⟨(some 10), none, .mov (.t 44)⟩])
     (.seq (.reg none [
        ⟨(some 45), none, .fad 1 (.t 6)⟩,
        ⟨(some 46), none, .load false 1 (.t 45)⟩,
        ⟨(some 47), none, .call .k (.f 58) [(.t 46)]⟩,
        ⟨(some 48), none, .len (.t 47)⟩,
        ⟨(some 49), none, .mov (.c (.int .i64 0))⟩])
     (.block 4 (.loop (.seq (.reg none [
          ⟨(some 50), none, .bin .lss (.t 49) (.t 48)⟩])
       (.seq (.cond (.t 50) (.skip) (.exit 4))
       (.seq (.block 5 (.seq (.reg none [
            ⟨(some 51), none, .mov (.t 49)⟩,
            ⟨(some 52), none, .iad 8 (.t 47) (.t 49)⟩,
            ⟨(some 53), none, .load true 8 (.t 52)⟩,
            ⟨(some 12), none, .new [(.int .i64 0), (.int .i64 0), (.int .i64 0), (.int .i64 0), (.int .i64 0), (.int .i64 0), (.slice none 0 0), (.slice none 0 0)]⟩,
            ⟨(some 11), none, .mov (.t 51)⟩,
            ⟨none, none, .store 8 (.t 12) (.t 53)⟩])
         (.seq (.seq (.reg none [
             ⟨(some 54), none, .fad 0 (.t 12)⟩,
             ⟨(some 55), none, .load false 1 (.t 54)⟩,
             ⟨(some 56), none, .bin .neq (.t 55) (.c (.int .i64 1))⟩,
             ⟨(some 57), none, .mov (.t 56)⟩,
             ⟨(some 58), (some (57, false)), .mov (.t 1)⟩,
             ⟨(some 59), (some (57, false)), .fad 1 (.t 12)⟩,
             ⟨(some 60), (some (57, false)), .load false 1 (.t 59)⟩,
             ⟨(some 61), (some (57, false)), .iad 1 (.t 58) (.t 60)⟩,
             ⟨(some 62), (some (57, false)), .load false 1 (.t 61)⟩,
             ⟨(some 63), (some (57, false)), .un .not (.t 62)⟩,
             ⟨(some 64), none, .pick (.t 57) (.c (.bool true)) (.t 63)⟩])
          (.cond (.t 64) (.exit 5) (.skip)))
         (.seq (.reg (some 15) [
            ⟨(some 65), none, .fad 0 (.t 6)⟩,
            ⟨(some 66), none, .load false 1 (.t 65)⟩,
            ⟨(some 67), none, .fad 1 (.t 12)⟩,
            ⟨(some 68), none, .load false 1 (.t 67)⟩,
            ⟨(some 69), none, .iad 2 (.t 66) (.t 68)⟩,
            ⟨(some 70), none, .load true 2 (.t 69)⟩,
            ⟨(some 71), none, .load true 2 (.t 6)⟩,
            ⟨(some 72), none, .load true 8 (.t 12)⟩,
            ⟨(some 73), none, .mov (.t 10)⟩,
            ⟨(some 74), none, .mov (.t 11)⟩,
            ⟨(some 75), none, .iad 2 (.t 73) (.t 74)⟩,
            ⟨(some 76), none, .load true 2 (.t 75)⟩,
            ⟨(some 77), none, .call .q (.f 60) [(.t 71), (.t 72), (.t 76)]⟩,
            ⟨(some 78), none, .call .q (.f 59) [(.t 70), (.t 77)]⟩,
            ⟨(some 13), none, .new [(.int .i64 0), (.int .i64 0)]⟩,
            ⟨none, none, .store 2 (.t 13) (.t 78)⟩])
         (.seq (.reg (some 7) [
            ⟨(some 79), none, .load true 2 (.t 13)⟩,
            ⟨(some 80), none, .fad 0 (.t 6)⟩,
            ⟨(some 81), none, .load false 1 (.t 80)⟩,
            ⟨(some 82), none, .fad 1 (.t 12)⟩,
            ⟨(some 83), none, .load false 1 (.t 82)⟩,
            ⟨(some 84), none, .iad 2 (.t 81) (.t 83)⟩,
            ⟨(some 85), none, .load true 2 (.t 84)⟩,
            ⟨(some 86), none, .eqs true 2 (.t 79) (.t 85)⟩])
         (.cond (.t 86) (.seq (.reg none [
             ⟨(some 87), none, .fad 0 (.t 6)⟩,
             ⟨(some 88), none, .load false 1 (.t 87)⟩,
             ⟨(some 89), none, .fad 1 (.t 12)⟩,
             ⟨(some 90), none, .load false 1 (.t 89)⟩,
             ⟨(some 91), none, .load true 2 (.t 13)⟩,
             ⟨(some 92), none, .iad 2 (.t 88) (.t 90)⟩,
             ⟨none, none, .store 2 (.t 92) (.t 91)⟩])
          (.reg none [
            ⟨(some 9), none, .mov (.c (.bool true))⟩])) (.skip)))))))
       (.reg none [
         ⟨(some 93), none, .bin .add (.t 49) (.c (.int .i64 1))⟩,
         ⟨(some 49), none, .mov (.t 93)⟩]))))))))))))))
 (.seq (.seq (.reg none [
     ⟨(some 94), none, .load true 2 (.t 6)⟩,
     ⟨(some 95), none, .call .q (.f 20) [(.t 94)]⟩,
     ⟨(some 96), none, .un .not (.t 95)⟩])
  (.cond (.t 96) (.seq (.reg none [
      ⟨(some 97), none, .build [(.slice none 0 0), (.slice none 0 0)] []⟩,
      ⟨none, none, .store 2 (.t 4) (.t 97)⟩,
      ⟨(some 5), none, .mov (.c (.bool false))⟩])
   (.ret)) (.skip)))
 (.seq (.reg none [
    ⟨(some 98), none, .load true 2 (.t 6)⟩,
    ⟨none, none, .store 2 (.t 4) (.t 98)⟩,
    ⟨(some 5), none, .mov (.c (.bool true))⟩])
 (.ret)))))))⟩
/-- The program that is told. -/
def inferO (n : Nat) (p : TProg n) (free : List Bool) : List (Int × Int) × List (TStep n) := match inferV n p free with
  | none => ([], [])
  | some r => (r, p.2)
def InferOk (F : Nat → Option IFn) (f : Nat) : Prop := ∀ (H : Heap) (n : Nat) (lv sv w : Value) (ls : List (Int × Int)) (l : List (TStep n)) (free : List Bool), SlR Co.p2 (vw 0 H) lv ls → SlR (Co.step n) (vw 0 H) sv l → (Co.prog n).sm (ls, l) → SlR Co.bool (vw 0 H) w free →
  ∃ lv' sv' H', KC F f [.agg #[lv, sv], w] H (.tuple #[.agg #[lv', sv'], .bool (inferV n (ls, l) free).isSome]) H' ∧ AgX [] H H' ∧ SlR Co.p2 (vw 0 H') lv' (inferO n (ls, l) free).1 ∧ SlR (Co.step n) (vw 0 H') sv' (inferO n (ls, l) free).2
theorem gcB {H : Heap} {v : Value} {l : List Bool} (h : SlR Co.bool (vw 0 H) v l) {i : Nat} (hi : i < l.length) : ∃ b o, v = .slice (some ⟨b, o, none⟩) l.length l.length ∧ getCells H b (o + i) 1 = some [.bool l[i]] := by
  obtain ⟨_, a, rfl, h2⟩ := h
  rcases h2 with h2 | ⟨b, o, rfl, h2⟩
  · rw [h2] at hi; simp at hi
  · obtain ⟨cs, h3, h4⟩ := h2 i hi
    have h5 := rng_gc h3
    rw [show cs = [.bool l[i]] from h4, show Co.bool.w = 1 from rfl, Nat.mul_one] at h5
    exact ⟨b, o, rfl, h5⟩
theorem LabV.set {lo : Nat} {H : Heap} {v : Value} {cur : List (Int × Int)} (h : LabV lo H v cur) {i : Nat} (hi : i < cur.length) (x : Int × Int) : ∃ b, v = sli b 0 cur.length ∧ lo ≤ b ∧ b < H.length ∧ H[b]? = some ⟨cur.flatMap fp, 2, 35, true, true⟩ ∧ LabV lo (H.set b ⟨(cur.set i x).flatMap fp, 2, 35, true, true⟩) v (cur.set i x) := by
  rcases h with ⟨rfl, rfl⟩ | ⟨b, h1, h2, h3, h4⟩
  · simp at hi
  · have hb := (List.getElem?_eq_some_iff.1 h4).1
    refine ⟨b, h2, h1, hb, h4, .inr ⟨b, h1, by rw [List.length_set]; exact h2, fun hn => ?_, List.getElem?_set_self hb⟩⟩
    have := congrArg List.length hn
    rw [List.length_set, List.length_nil] at this
    omega
theorem LabV.getP {lo : Nat} {H : Heap} {v : Value} {cur : List (Int × Int)} (h : LabV lo H v cur) {i : Nat} (hi : i < cur.length) : ∃ b, v = sli b 0 cur.length ∧ getCells H b (i * 2) 2 = some [.int .i64 (cur.getD i (0, 0)).1, .int .i64 (cur.getD i (0, 0)).2] := by
  rcases h with ⟨rfl, rfl⟩ | ⟨b, h1, h2, h3, h4⟩
  · simp at hi
  · refine ⟨b, h2, ?_⟩
    have hfl := flat_len (fl := fp) (w := 2) (fun _ => rfl) cur
    rw [gc_of h4, inBlk_some, if_pos (by omega)]
    have e : cur.flatMap fp = (cur.take i).flatMap fp ++ (fp cur[i] ++ (cur.drop (i + 1)).flatMap fp) := by
      conv => lhs; rw [← List.take_append_drop i cur, List.drop_eq_getElem_cons hi]
      rw [List.flatMap_append, List.flatMap_cons]
    have hlt : ((cur.take i).flatMap fp).length = i * 2 := by rw [flat_len (fl := fp) (w := 2) (fun _ => rfl), List.length_take]; omega
    rw [e, List.drop_append, List.drop_of_length_le (by omega), hlt, Nat.sub_self, List.drop_zero, List.nil_append, List.take_left' (by rfl)]
    simp [fp, List.getD, hi]
theorem OwnT.slX {lo : Nat} {H : Heap} {n : Nat} {v : Value} {l : List (TStep n)} {B xs : List Nat} (h : OwnT lo H n v l B) (hx : ∀ b, b ∈ xs → b ∉ B) : SlR (Co.step n) (vwl lo xs H) v l := by
  have h1 : OwnT lo (hide xs H) n v l B := h.keep (Nat.le_refl _) fun b hb => hide_get_ne fun hm => hx b hm hb
  refine h1.sl.mono fun b cs hb => ?_
  unfold vws at hb
  unfold vwl
  split at hb
  · rename_i hlo
    by_cases hbx : b ∈ xs
    · rw [hide_get_in hbx] at hb
      cases hq : H[b]? with
      | none => rw [hq] at hb; cases hb
      | some k => rw [hq] at hb; cases hb
    · rw [hide_get_ne hbx] at hb
      rw [if_pos ⟨hlo, hbx⟩]
      cases hq : H[b]? with
      | none => rw [hq] at hb; cases hb
      | some k =>
        rw [hq] at hb
        simp only [Option.bind_some] at hb
        split at hb
        · exact hb
        · cases hb
  · cases hb
theorem passes_le {n : Nat} {l : List (TStep n)} {free : Int → Bool} {x : List (Int × Int)} (h : x.all labB = true) (hv : ∀ t ∈ allL n l, varB x.length t.2.1 = true) : ∀ k, LeL (Nat.repeat (pass n l free) k x) x
  | 0 => LeL.refl h
  | k + 1 => by
    have h1 := passes_le (free := free) h hv k
    have h2 := (pass_all (n := n) (l := l) (free := free) h1.lab (by rw [h1.1]; exact hv)).1
    exact h2.trans h1
theorem sm_ls {n : Nat} {ls r : List (Int × Int)} {l : List (TStep n)} (h : (Co.prog n).sm (ls, l)) (hl : r.length = ls.length) : (Co.prog n).sm (r, l) := ⟨⟨by rw [hl]; exact h.1.1, fun _ _ => ⟨trivial, trivial⟩⟩, h.2⟩
theorem lab_rg {ls : List (Int × Int)} (h : ls.all labB = true) : ∀ p ∈ ls, RgI p.1 ∧ RgI p.2 := fun p hp => by
  have q := labB_i.1 (List.all_eq_true.1 h p hp)
  unfold RgI
  exact ⟨by omega, by omega⟩
theorem iInferOf_ok {F : Nat → Option IFn} {f : Nat} (hf : F f = some c_iInferOf) (gp : ProgOk F 54) (gpc : PCloneOk F 55) (ge : ∀ H, QC F 56 [] H (.agg #[.int .i64 7, .int .i64 7])) (ga : AtP F 57) (gl : ∀ n, AllP F 58 n) (gs : ISource F 60) (gb : ILBoth F 59) (gty : TypeP F 20) : InferOk F f := by
  intro H n lv sv w ls l free r1 r2 hsm r3
  suffices h : ∃ v H', KC F f [.agg #[lv, sv], w] H v H' ∧ (∃ lv' sv', v = .tuple #[.agg #[lv', sv'], .bool (inferV n (ls, l) free).isSome] ∧ AgX [] H H' ∧ SlR Co.p2 (vw 0 H') lv' (inferO n (ls, l) free).1 ∧ SlR (Co.step n) (vw 0 H') sv' (inferO n (ls, l) free).2) by
    obtain ⟨_, H', h1, lv', sv', rfl, h2⟩ := h
    exact ⟨lv', sv', H', h1, h2⟩
  have osv : one sv = true := by obtain ⟨_, a, rfl, _⟩ := r2; rfl
  obtain ⟨_, la, rfl, _⟩ := id r1
  obtain ⟨hwl, wa, rfl, _⟩ := id r3
  refine KC.mk hf rfl ?_
  refine seq_reg ?_
  simp only [go_sem, binC, osv]
  refine wpc_gen fun H1 hH1 => ?_
  have hx1 : AgX [] H H1 := hH1 ▸ AgX.app [] _ _
  have hb2 : H1[H.length]? = some ⟨[.slice la ls.length ls.length, sv], 0, 0, false, true⟩ := hH1 ▸ get_new0 _ _
  have hb4 : H1[H.length + 1]? = some ⟨[nilS, nilS], 0, 0, false, true⟩ := hH1 ▸ get_new _ _ 1
  have hln1 : H1.length = H.length + 2 := by rw [hH1]; simp
  clear hH1
  have r1' := r1.mono (agx_sub hx1)
  have r2' := r2.mono (agx_sub hx1)
  have r3' := r3.mono (agx_sub hx1)
  have hb4l := (List.getElem?_eq_some_iff.1 hb4).1
  refine seq_assoc (seq_reg ?_)
  simp only [go_sem, binC, gc_of hb2, inBlk_some, osv]
  refine op_callB (by simp only [go_sem, binC]; exact gp H1 n _ (ls, l) (prog_rd r1' r2') hsm) (fun hP => ?_) (fun hP => ?_)
  rotate_left
  · have hN : inferV n (ls, l) free = none := by unfold inferV; rw [if_neg (fun h => by rw [hP] at h; cases h.1)]
    simp only [go_sem, binC]
    refine seq_cond (t := true) rfl ?_
    simp only [go_sem, binC]
    refine seq_assoc (seq_reg ?_)
    simp only [go_sem, binC, hb4]
    refine seq_ret ⟨Or.inr rfl, .tuple #[.agg #[nilS, nilS], .bool false], ?_, nilS, nilS, by rw [hN]; rfl, hx1.setN (by omega) _, ?_, ?_⟩
    · simp [resV, resL, res1, putE_get, notT, ptr, gc_set hb4l, inBlk_some, valOf]
    all_goals (unfold inferO; rw [hN]; exact ⟨by simp, none, rfl, .inl rfl⟩)
  simp only [go_sem, binC, gc_of hb2, inBlk_some]
  by_cases hfl : free.length = ls.length
  case neg =>
    have hN : inferV n (ls, l) free = none := by unfold inferV; rw [if_neg (fun h => hfl h.2.1)]
    simp only [go_sem, binC, bne_t (show ¬ ((free.length : Int) = ls.length) by omega)]
    refine seq_cond (t := true) rfl ?_
    simp only [go_sem, binC]
    refine seq_assoc (seq_reg ?_)
    simp only [go_sem, binC, hb4]
    refine seq_ret ⟨Or.inr rfl, .tuple #[.agg #[nilS, nilS], .bool false], ?_, nilS, nilS, by rw [hN]; rfl, hx1.setN (by omega) _, ?_, ?_⟩
    · simp [resV, resL, res1, putE_get, notT, ptr, gc_set hb4l, inBlk_some, valOf]
    all_goals (unfold inferO; rw [hN]; exact ⟨by simp, none, rfl, .inl rfl⟩)
  have hls4 : ls.length ≤ 4 := progB_le4 hP
  have hlab : ls.all labB = true := progB_lab hP
  have hcnt : (allL n l).length ≤ 8 := progB_cnt hP hsm
  have hvar := progB_var hP
  have hsl := allSL_len l
  simp only [go_sem, binC, bne_f (show ((free.length : Int) = ls.length) by omega)]
  refine seq_cond (t := false) rfl ?_
  simp only [go_sem, binC]
  refine seq_skip (seq_reg ?_)
  simp only [go_sem, binC, gc_of hb2, inBlk_some, osv]
  obtain ⟨lv', sv', B, H2, k2, hx2, hL2, hO2⟩ := gpc H1 n _ sv ls l r1' r2' hsm
  have olv' := hL2.one
  have osv' := hO2.one
  obtain ⟨al, hal⟩ := hL2.shape
  subst hal
  refine op_callK (by simp only [go_sem, binC]; exact k2) ?_
  have hx2l := hx2.1
  simp only [go_sem, binC, olv', osv']
  refine ⟨by omega, ?_⟩
  refine wpc_gen fun H3 hH3 => ?_
  have hx3 : AgX [] H2 H3 := hH3 ▸ AgX.app [] _ _
  have hb6 : H3[H2.length]? = some ⟨[.slice al ls.length ls.length, sv'], 0, 0, false, true⟩ := hH3 ▸ get_new0 _ _
  clear hH3 k2
  have hx3l := hx3.1
  have hL3 := hL2.keep (Nat.le_refl _) hx3 (fun _ _ _ => by simp)
  have hO3 : OwnT H1.length H3 n sv' l B := hO2.keep (Nat.le_refl _) fun b hb => hx3.2 b (hO2.ge b hb).2.1 (by simp)
  have hb23 := (hx2.tr hx3).get hb2 (by simp)
  have hb43 := (hx2.tr hx3).get hb4 (by simp)
  have r33 := r3'.mono (agx_sub (hx2.tr hx3))
  obtain ⟨xs, hxs⟩ : ∃ xs, xs = blkOf (.slice al ls.length ls.length) := ⟨_, rfl⟩
  have hxin : ∀ b, b ∈ xs → H1.length ≤ b ∧ b < H2.length ∧ H3[b]? = some ⟨ls.flatMap fp, 2, 35, true, true⟩ := fun b hb => by
    subst hxs
    obtain ⟨q1, _, q3⟩ := hL3.blk hb
    obtain ⟨_, _, q4⟩ := hL2.blk hb
    exact ⟨q1, (List.getElem?_eq_some_iff.1 q4).1, q3⟩
  have hxB : ∀ b, b ∈ xs → b ∉ B := fun b hb hB => by
    obtain ⟨_, _, q3⟩ := hxin b hb
    obtain ⟨_, _, cs, q4⟩ := hO3.ge b hB
    rw [q3] at q4
    cases q4
  have hsv : SlR (Co.step n) (vwl H1.length xs H3) sv' l := hO3.slX hxB
  have hV : ∀ Hc, AgX xs H3 Hc → Sub (vwl H1.length xs H3) (vw 0 Hc) := fun Hc hx => (vwl_sub hx (lo' := H1.length) (xs' := []) (Nat.le_refl _) fun b' h1 h2 h3 => ⟨h3, by simp⟩).trans (vwl0 _ _ _)
  have hx0 : ∀ Hc, AgX xs H3 Hc → AgX [] H Hc := fun Hc hx => (hx1.tr (hx2.tr hx3)).trans hx (fun _ h _ => h) (fun b hb hlt => by have := (hxin b hb).1; omega)
  have hr3 : ∀ Hc, AgX xs H3 Hc → SlR Co.bool (vw 0 Hc) (.slice wa free.length free.length) free := fun Hc hx => r3.mono (agx_sub (hx0 Hc hx))
  have hget : ∀ Hc, AgX xs H3 Hc → ∀ (b : Nat) (k : Blk), H3[b]? = some k → k.app = false → Hc[b]? = some k := fun Hc hx b k hb hk => hx.get hb fun hm => by
    obtain ⟨_, _, q3⟩ := hxin b hm
    rw [hb] at q3
    cases q3
    cases hk
  refine seq_assoc (seq_reg ?_)
  simp only [go_sem, binC]
  refine seq_block (wpc_loop ?_)
  suffices h1 : ∀ (k i : Nat) (e : Env) (Hc : Heap) (cur : List (Int × Int)), i + k = free.length → cur = startL ls (free.take i) → AgX xs H3 Hc → LabV H1.length Hc (.slice al ls.length ls.length) cur → e 1 = .slice wa free.length free.length → e 4 = ptr (H.length + 1) 0 → e 6 = ptr H2.length 0 → e 28 = .slice wa free.length free.length → e 29 = .int .i64 free.length → e 30 = .int .i64 i → Go.Proofs.YtkmghcglmjehcaaI.W F H.length _ e Hc _ from
    h1 free.length 0 _ H3 ls (by omega) (by rw [List.take_zero, startL_none]) (AgX.refl _ _) hL3 (by simp only [go_sem, binC]) (by simp only [go_sem, binC]) (by simp only [go_sem, binC]) (by simp only [go_sem, binC]) (by simp only [go_sem, binC]) (by (simp only [go_sem, binC]) <;> rfl)
  intro k
  induction k with
  | zero =>
    intro i e Hc cur hi hcur hxc hLc e1 e4 e6 e28 e29 e30
    rw [List.take_of_length_le (by omega)] at hcur
    refine lp_step ?_
    refine seq_reg ?_
    simp only [go_sem, binC, e29, e30]
    refine seq_cond (t := false) (by simp only [go_sem, binC]; rw [decide_eq_false (by omega)]) ?_
    simp only [go_sem, binC]
    refine seq_exit ?_
    simp only [go_sem, binC, thenX_e, out_e, thenX_n]
    clear e28 e29 e30
    have hstl := startL_lab (free := free) hlab
    have hstv : ∀ t ∈ allL n l, varB (startL ls free).length t.2.1 = true := fun t ht => by rw [startL_len]; exact hvar t ht
    refine seq_assoc (seq_reg ?_)
    simp only [go_sem, binC]
    refine seq_block (wpc_loop ?_)
    suffices h2 : ∀ (m k : Nat) (fl : Bool) (e : Env) (Hd : Heap) (cur : List (Int × Int)), meas cur + (if fl = true then 1 else 0) = m → cur = Nat.repeat (pass n l (freeF free)) k (startL ls free) → (fl = false → pass n l (freeF free) cur = cur) → AgX xs H3 Hd → LabV H1.length Hd (.slice al ls.length ls.length) cur → e 1 = .slice wa free.length free.length → e 4 = ptr (H.length + 1) 0 → e 6 = ptr H2.length 0 → e 9 = .bool fl → Go.Proofs.YtkmghcglmjehcaaI.W F H.length _ e Hd _ from
      h2 _ 0 true _ Hc cur rfl (by rw [hcur]; rfl) (fun h => by cases h) hxc hLc (by simp only [go_sem, binC, e1]) (by simp only [go_sem, binC, e4]) (by simp only [go_sem, binC, e6]) (by (simp only [go_sem, binC]) <;> rfl)
    clear hcur hxc hLc e1 e4 e6
    intro m
    induction m using Nat.strongRecOn with
    | _ m ih =>
    intro k fl e Hd cur hm hck hfx hxd hLd e1 e4 e6 e9
    have hle : LeL cur (startL ls free) := hck ▸ passes_le hstl hstv k
    have hcl : cur.length = ls.length := by rw [hle.1, startL_len]
    have hclab := hle.lab
    have hPc : progB n (cur, l) = true := progB_ls hP hcl hclab
    have hsmc : (Co.prog n).sm (cur, l) := sm_ls hsm hcl
    have hb6d := hget Hd hxd _ _ hb6 rfl
    have hb4d := hget Hd hxd _ _ hb43 rfl
    have hb4dl := (List.getElem?_eq_some_iff.1 hb4d).1
    have hlcd : SlR Co.p2 (vw 0 Hd) (.slice al ls.length ls.length) cur := hLd.sl (lab_rg hclab) (by omega)
    have hsvd := hsv.mono (hV Hd hxd)
    have hxdl := hxd.1
    have hx0d : AgX [] H Hd := (hx1.tr (hx2.tr hx3)).trans hxd (fun _ h _ => h) (fun b hb hlt => by have := (hxin b hb).1; omega)
    refine lp_step ?_
    refine seq_assoc (seq_reg ?_)
    simp only [go_sem, binC, e9]
    cases fl with
    | false =>
      have hfix := hfx rfl
      have hinf : cur = infL n l free (startL ls free) := by
        have q := passes_inf (free := freeF free) hstl hstv (k := k) (by rw [← hck]; exact hfix)
        rw [← hck] at q
        exact q.unique (infL_inf free hP)
      refine seq_cond (t := false) (by simp only [go_sem, binC]) ?_
      simp only [go_sem, binC]
      refine seq_exit ?_
      simp only [go_sem, binC, thenX_e, out_e, thenX_n]
      refine seq_assoc (seq_reg ?_)
      simp only [go_sem, binC, e6, gc_of hb6d, inBlk_some, osv']
      refine op_callB (by simp only [go_sem, binC]; exact gty Hd n _ _ cur l hlcd hsvd hsmc) (fun hT => ?_) (fun hT => ?_)
      · have hN : inferV n (ls, l) free = some cur := by
          unfold inferV
          simp only
          rw [← hinf, if_pos ⟨hP, hfl, hT⟩]
        simp only [go_sem, binC]
        refine seq_cond (t := false) rfl ?_
        simp only [go_sem, binC]
        refine seq_skip (seq_reg ?_)
        simp only [go_sem, binC, e4, e6, gc_of hb6d, inBlk_some, osv', hb4d]
        have hxs2 : AgX [H.length + 1] Hd (Hd.set (H.length + 1) ⟨[.slice al ls.length ls.length, sv'], 0, 0, false, true⟩) := AgX.set _ _ _
        refine wpc_ret ⟨Or.inr rfl, .tuple #[.agg #[.slice al ls.length ls.length, sv'], .bool true], ?_, _, _, by rw [hN]; rfl, hx0d.setN (by omega) _, ?_, ?_⟩
        · simp [resV, resL, res1, putE_get, notT, ptr, gc_set hb4dl, inBlk_some, valOf, e4]
        · unfold inferO
          rw [hN]
          refine (hLd.keep (Nat.le_refl _) hxs2 fun b hb _ hm => ?_).sl (lab_rg hclab) (by omega)
          simp only [List.mem_singleton] at hm
          omega
        · unfold inferO
          rw [hN]
          refine hsv.mono ((vwl_sub (hxd.trans hxs2 (zs := xs ++ [H.length + 1]) (fun b hb _ => by simp [hb]) (fun b hb _ => by simp only [List.mem_singleton] at hb; simp [hb])) (lo := H1.length) (xs := xs) (lo' := H1.length) (xs' := []) (Nat.le_refl _) fun b' h1 h2 h3 => ⟨by simp only [List.mem_append, List.mem_singleton, not_or]; exact ⟨h3, by omega⟩, by simp⟩).trans (vwl0 _ _ _))
      · have hN : inferV n (ls, l) free = none := by
          unfold inferV
          simp only
          rw [← hinf, if_neg (fun h => by rw [hT] at h; cases h.2.2)]
        simp only [go_sem, binC]
        refine seq_cond (t := true) rfl ?_
        simp only [go_sem, binC]
        refine seq_assoc (seq_reg ?_)
        simp only [go_sem, binC, e4, hb4d]
        refine seq_ret ⟨Or.inr rfl, .tuple #[.agg #[nilS, nilS], .bool false], ?_, nilS, nilS, by rw [hN]; rfl, hx0d.setN (by omega) _, ?_, ?_⟩
        · simp [resV, resL, res1, putE_get, notT, ptr, gc_set hb4dl, inBlk_some, valOf, e4]
        all_goals (unfold inferO; rw [hN]; exact ⟨by simp, none, rfl, .inl rfl⟩)
    | true =>
      refine seq_cond (t := true) (by simp only [go_sem, binC]) ?_
      simp only [go_sem, binC]
      refine seq_skip (wpc_block (seq_reg ?_))
      simp only [go_sem, binC]
      refine seq_reg ?_
      simp only [go_sem, binC, e6, gc_of hb6d, inBlk_some, osv']
      obtain ⟨wt, H5, k5, hx5, oa⟩ := ga Hd n _ sv' cur l hlcd hsvd hsmc hPc
      refine op_callK (by simp only [go_sem, binC]; exact k5) ?_
      have hatl := atL_len cur (7, 7) l
      obtain ⟨at_, hat⟩ := oa.shape
      rw [hatl] at hat
      subst hat
      simp only [go_sem, binC]
      have hx35 : AgX xs H3 H5 := hxd.trans hx5 (fun _ h _ => h) (fun _ h _ => by cases h)
      have hx5l := hx5.1
      have hb65 := hx5.get hb6d (by simp)
      refine seq_reg ?_
      simp only [go_sem, binC, e6, gc_of hb65, inBlk_some]
      obtain ⟨wl, H6, k6, hx6, ol⟩ := gl n (vwl H1.length xs H3) H5 sv' l (hV H5 hx35) hsv (by omega)
      refine op_callK (by simp only [go_sem, binC]; exact k6) ?_
      obtain ⟨al6, hal6⟩ := ol.shape
      rw [hsl] at hal6
      subst hal6
      simp only [go_sem, binC]
      have hx6l := hx6.1
      have hx56 := hx5.tr hx6
      have hx36 : AgX xs H3 H6 := hx35.trans hx6 (fun _ h _ => h) (fun _ h _ => by cases h)
      have hL6 := hLd.keep (Nat.le_refl _) hx56 (fun _ _ _ => by simp)
      have oa6 := oa.keep (Nat.le_refl _) hx6 (fun _ _ => by simp)
      have hallat : (atL n cur (7, 7) l).all labB = true := atL_lab hclab rfl l
      have hxold : ∀ b, b ∈ xs → b < Hd.length := fun b hb => by have := (hxin b hb).2.1; omega
      refine wpc_block (wpc_loop ?_)
      suffices h3 : ∀ (q j : Nat) (e : Env) (Hf : Heap) (now : List (Int × Int)), j + q = (allL n l).length → now = (((allL n l).zip (atL n cur (7, 7) l)).take j).foldl (passS (freeF free)) cur → AgX xs H6 Hf → LabV H1.length Hf (.slice al ls.length ls.length) now → e 1 = .slice wa free.length free.length → e 4 = ptr (H.length + 1) 0 → e 6 = ptr H2.length 0 → e 9 = .bool (decide (now ≠ cur)) → e 10 = .slice at_ (allL n l).length (allL n l).length → e 47 = .slice al6 (allL n l).length (allL n l).length → e 48 = .int .i64 (allL n l).length → e 49 = .int .i64 j → Go.Proofs.YtkmghcglmjehcaaI.W F H.length _ e Hf _ from
        h3 (allL n l).length 0 _ H6 cur (by omega) rfl (AgX.refl _ _) hL6 (by simp only [go_sem, binC, e1]) (by simp only [go_sem, binC, e4]) (by simp only [go_sem, binC, e6]) (by (simp only [go_sem, binC]) <;> simp) (by simp only [go_sem, binC]) (by simp only [go_sem, binC]) (by simp only [go_sem, binC]) (by (simp only [go_sem, binC]) <;> rfl)
      clear e1 e4 e6 e9
      intro q
      induction q with
      | zero =>
        intro j e Hf now hj hnow hxf hLf e1 e4 e6 e9 e10 e47 e48 e49
        have hzl : ((allL n l).zip (atL n cur (7, 7) l)).length ≤ j := by rw [List.length_zip]; omega
        rw [List.take_of_length_le hzl] at hnow
        have hpa := pass_all (n := n) (l := l) (free := freeF free) hclab (by rw [hcl]; exact hvar)
        have hnp : now = pass n l (freeF free) cur := hnow
        have hml := meas_le now cur (hnp ▸ hpa.1)
        refine lp_step ?_
        refine seq_reg ?_
        simp only [go_sem, binC, e48, e49]
        refine seq_cond (t := false) (by simp only [go_sem, binC]; rw [decide_eq_false (by omega)]) ?_
        simp only [go_sem, binC]
        refine seq_exit ?_
        simp only [go_sem, binC, thenX_e, out_e, out_n, thenX_n]
        refine ih _ ?_ (k + 1) (decide (now ≠ cur)) _ Hf now rfl (by rw [hnp, hck]; rfl) (fun h => ?_) (hx36.trans hxf (fun _ h _ => h) (fun _ h _ => h)) hLf (by simp only [go_sem, binC, e1]) (by simp only [go_sem, binC, e4]) (by simp only [go_sem, binC, e6]) (by simp only [go_sem, binC, e9])
        · by_cases hnc : now = cur
          · simp only [hnc, ne_eq, not_true_eq_false, decide_false, Bool.false_eq_true, if_false]
            simp only [if_true] at hm
            omega
          · have : meas now ≠ meas cur := fun h => hnc (hml.2 h)
            simp only [hnc, ne_eq, not_false_eq_true, decide_true, if_true]
            simp only [if_true] at hm
            have := hml.1
            omega
        · have hnc : now = cur := by simpa using h
          rw [hnc, ← hnp, hnc]
      | succ q ihj =>
        intro j e Hf now hj hnow hxf hLf e1 e4 e6 e9 e10 e47 e48 e49
        have hjl : j < (allL n l).length := by omega
        have hja : j < (atL n cur (7, 7) l).length := by omega
        have hjs : j < (allSL n l).length := by omega
        have hjz : j < ((allL n l).zip (atL n cur (7, 7) l)).length := by rw [List.length_zip]; omega
        have hw1 : IntKind.i64.wrap ((j : Int) + 1) = ((j + 1 : Nat) : Int) := by rw [wrap_id (by omega) (by omega)]; omega
        have hpi := pass_ind (free := freeF free) (((allL n l).zip (atL n cur (7, 7) l)).take j) cur hclab (fun x hx => by
          obtain ⟨i, hi, rfl⟩ := List.getElem_of_mem (List.mem_of_mem_take hx)
          rw [List.getElem_zip]
          have := varB_i.1 (hvar _ (List.getElem_mem (show i < (allL n l).length by rw [List.length_zip] at hi; omega)))
          simp only
          omega)
        rw [← hnow] at hpi
        have hnlab := hpi.1.lab
        have hnl : now.length = ls.length := by rw [hpi.1.1, hcl]
        have hnext : (((allL n l).zip (atL n cur (7, 7) l)).take (j + 1)).foldl (passS (freeF free)) cur = passS (freeF free) now ((allL n l)[j], (atL n cur (7, 7) l)[j]) := by
          rw [List.take_add_one, List.getElem?_eq_getElem hjz, List.foldl_append, ← hnow, List.getElem_zip]
          rfl
        have hx3f : AgX xs H3 Hf := hx36.trans hxf (fun _ h _ => h) (fun _ h _ => h)
        have hxfl := hxf.1
        obtain ⟨ba, ca, hwa, gca, rda⟩ := (oa6.keep (Nat.le_refl _) hxf (fun b hb hm => by have := (oa6.blk hb).1; have := hxold b hm; omega)).at hja
        rw [hatl] at hwa
        simp only [Value.slice.injEq, and_true] at hwa
        subst hwa
        obtain ⟨bs, cs, hws, gcs, rds⟩ := (ol.keep (Nat.le_refl _) hxf (fun b hb hm => by have := (ol.blk hb).1; have := hxold b hm; omega)).at hjs
        rw [hsl] at hws
        simp only [Value.slice.injEq, and_true] at hws
        subst hws
        have hsame := allSL_at l hjs hjl
        obtain ⟨sk, sx, sa, sbb, sc, sg, tv, ev, tl, el, hs2, hcs, rg, otv, oev, _, _⟩ := anyS_rd rds
        have hsh' : shA (allSL n l)[j] = (sk, sx, (sa, sbb, sc), sg) := by unfold shA; rw [hs2]
        rw [hsh'] at hsame
        subst hcs
        have hokj := progB_okS hP _ (List.getElem_mem hjl)
        rw [← hsame] at hokj hnext
        have hoj : labB (atL n cur (7, 7) l)[j] = true := List.all_eq_true.1 hallat _ (List.getElem_mem hja)
        generalize (atL n cur (7, 7) l)[j] = hr at rda hoj hnext
        obtain ⟨ra, rb⟩ := hr
        obtain ⟨_, _, rfl, ⟨hq1, _⟩, ⟨hq2, _⟩⟩ := rda
        simp only at hq1 hq2
        subst hq1 hq2
        have hvx := varB_i.1 hokj.1
        simp only at hvx
        refine lp_step ?_
        refine seq_reg ?_
        simp only [go_sem, binC, e48, e49]
        refine seq_cond (t := true) (by simp only [go_sem, binC]; rw [decide_eq_true (by omega)]) ?_
        simp only [go_sem, binC]
        refine seq_skip (seq_block (seq_reg ?_))
        simp only [go_sem, binC, e47, e49]
        refine ⟨⟨by omega, by omega⟩, ?_⟩
        simp only [go_sem, binC, Int.toNat_natCast, Nat.zero_add, gcs, otv, oev]
        refine ⟨by omega, ?_⟩
        refine wpc_gen fun H7 hH7 => ?_
        have hx7 : AgX [] Hf H7 := hH7 ▸ AgX.app [] _ _
        have hs7 : H7[Hf.length]? = some ⟨[.int .i64 sk, .int .i64 sx, .int .i64 sa, .int .i64 sbb, .int .i64 sc, .int .i64 sg, tv, ev], 0, 0, false, true⟩ := hH7 ▸ get_new0 _ _
        have hl7 : H7.length = Hf.length + 1 := by rw [hH7, List.length_append]; rfl
        clear hH7
        have hx67 : AgX xs H6 H7 := hxf.trans hx7 (fun _ h _ => h) (fun _ h _ => by cases h)
        have hx37 : AgX xs H3 H7 := hx3f.trans hx7 (fun _ h _ => h) (fun _ h _ => by cases h)
        have hL7 := hLf.keep (Nat.le_refl _) hx7 (fun _ _ _ => by simp)
        have hb67 := hget H7 hx37 _ _ hb6 rfl
        have gca7 := gcK gca hx7
        refine seq_assoc (seq_reg ?_)
        simp only [go_sem, binC, gc_of hs7, inBlk_some]
        by_cases k1 : sk = 1
        case neg =>
          rw [show passS (freeF free) now ((sk, sx, (sa, sbb, sc), sg), (ra, rb)) = now from if_neg (fun h => k1 h.1)] at hnext
          simp only [go_sem, binC, bne_t k1]
          refine seq_cond (t := true) rfl ?_
          simp only [go_sem, binC]
          refine seq_exit ?_
          simp only [go_sem, binC, thenX_e, out_e, thenX_n]
          refine wpc_reg ?_
          simp only [go_sem, binC, e49, hw1]
          simp only [go_sem, binC, thenX_n]
          exact ihj (j + 1) _ H7 now (by omega) hnext.symm hx67 hL7 (by simp only [go_sem, binC, e1]) (by simp only [go_sem, binC, e4]) (by simp only [go_sem, binC, e6]) (by simp only [go_sem, binC, e9]) (by simp only [go_sem, binC, e10]) (by simp only [go_sem, binC, e47]) (by simp only [go_sem, binC, e48]) (by simp only [go_sem, binC])
        have hfx2 : sx.toNat < free.length := by omega
        obtain ⟨fb, fo, hfw, hgf⟩ := gcB (hr3 H7 hx37) hfx2
        simp only [Value.slice.injEq, and_true] at hfw
        subst hfw
        simp only [go_sem, binC, bne_f k1, e1, gc_of hs7, inBlk_some]
        refine ⟨⟨by omega, by omega⟩, ?_⟩
        simp only [go_sem, binC, Nat.mul_one, hgf]
        by_cases hfr : free[sx.toNat] = true
        case neg =>
          have hfr' : free[sx.toNat] = false := by simpa using hfr
          rw [show passS (freeF free) now ((sk, sx, (sa, sbb, sc), sg), (ra, rb)) = now from if_neg (fun h => hfr (by have := h.2; unfold freeF at this; simpa [List.getD, hfx2] using this))] at hnext
          simp only [go_sem, binC, hfr', Bool.not_false]
          refine seq_cond (t := true) rfl ?_
          simp only [go_sem, binC]
          refine seq_exit ?_
          simp only [go_sem, binC, thenX_e, out_e, thenX_n]
          refine wpc_reg ?_
          simp only [go_sem, binC, e49, hw1]
          simp only [go_sem, binC, thenX_n]
          exact ihj (j + 1) _ H7 now (by omega) hnext.symm hx67 hL7 (by simp only [go_sem, binC, e1]) (by simp only [go_sem, binC, e4]) (by simp only [go_sem, binC, e6]) (by simp only [go_sem, binC, e9]) (by simp only [go_sem, binC, e10]) (by simp only [go_sem, binC, e47]) (by simp only [go_sem, binC, e48]) (by simp only [go_sem, binC])
        have hval : valB now.length (sa, sbb, sc) = true := by rw [hnl]; exact hokj.2.2.1 k1
        have hsrc := srcL_val hnlab hoj hval
        have hlx := lab_getD hnlab sx.toNat
        rw [show passS (freeF free) now ((sk, sx, (sa, sbb, sc), sg), (ra, rb)) = now.set sx.toNat (lboth (now.getD sx.toNat (0, 0)) (srcL now (sa, sbb, sc) (ra, rb))) from by
          unfold passS
          rw [if_pos ⟨k1, by unfold freeF; simpa [List.getD, hfx2] using hfr⟩, hsrc]] at hnext
        have hlbl : labB (lboth (now.getD sx.toNat (0, 0)) (srcL now (sa, sbb, sc) (ra, rb))) = true := lboth_bd _ _
        have hstle := set_le hnlab (show sx.toNat < now.length by omega) (srcL_lab (ls := now) (v := (sa, sbb, sc)) hoj)
        obtain ⟨bl, hbl, hgl⟩ := hL7.getP (show sx.toNat < now.length by omega)
        rw [hnl] at hbl
        simp only [sli, Value.slice.injEq, and_true] at hbl
        subst hbl
        simp only [go_sem, binC, hfr, Bool.not_true]
        refine seq_cond (t := false) rfl ?_
        simp only [go_sem, binC]
        refine seq_skip (seq_regD ?_)
        simp only [go_sem, binC, e6, e10, gc_of hb67, gc_of hs7, inBlk_some, osv', otv, oev]
        refine ⟨⟨by omega, by omega⟩, ?_⟩
        simp only [go_sem, binC, Nat.zero_add, hgl, gc_of hb67, gc_of hs7, inBlk_some, osv', otv, oev, e10]
        refine ⟨⟨by omega, by omega⟩, ?_⟩
        simp only [go_sem, binC, Int.toNat_natCast, Nat.zero_add, gca7]
        refine op_callQ (by simp only [go_sem, binC]; exact gs H7 _ sv' tv ev now sk sx sa sbb sc sg (ra, rb) osv' otv oev rg.2.2.2.1 rg.2.2.2.2.1 (hL7.sl (lab_rg hnlab) (by omega)) hnlab hval hoj) ?_
        simp only [go_sem, binC]
        refine op_callQ (by simp only [go_sem, binC]; exact gb H7 _ _ hlx (srcL_lab hoj)) ?_
        generalize hnx : lboth (now.getD sx.toNat (0, 0)) (srcL now (sa, sbb, sc) (ra, rb)) = nx at *
        obtain ⟨n1, n2⟩ := nx
        simp only [go_sem, binC]
        refine ⟨by omega, ?_⟩
        refine wpc_gen fun H8 hH8 => ?_
        have hx8 : AgX [] H7 H8 := hH8 ▸ AgX.app [] _ _
        have ht8 : H8[H7.length]? = some ⟨[.int .i64 n1, .int .i64 n2], 0, 0, false, true⟩ := hH8 ▸ get_new0 _ _
        have hl8 : H8.length = H7.length + 1 := by rw [hH8, List.length_append]; rfl
        clear hH8
        have hx68 : AgX xs H6 H8 := hx67.trans hx8 (fun _ h _ => h) (fun _ h _ => by cases h)
        have hx38 : AgX xs H3 H8 := hx37.trans hx8 (fun _ h _ => h) (fun _ h _ => by cases h)
        have hL8 := hL7.keep (Nat.le_refl _) hx8 (fun _ _ _ => by simp)
        have hb68 := hx8.get hb67 (by simp)
        have hs8 := hx8.get hs7 (by simp)
        have hgl8 := gcK hgl hx8
        refine seq_regD ?_
        simp only [go_sem, binC, e6, gc_of hb68, gc_of hs8, gc_of ht8, inBlk_some]
        refine ⟨⟨by omega, by omega⟩, ?_⟩
        simp only [go_sem, binC, Nat.zero_add, hgl8, eqsV2]
        by_cases hsm2 : ((n1, n2) : Int × Int) = now.getD sx.toNat (0, 0)
        · have hset : now.set sx.toNat (n1, n2) = now := by
            rw [hsm2]
            refine List.ext_getElem (by simp) fun i h1 h2 => ?_
            rw [List.getElem_set]
            split
            · rename_i hii; subst hii; simp [List.getD, h2]
            · rfl
          rw [hset] at hnext
          have hd : decide (((n1, n2) : Int × Int) = ((now.getD sx.toNat (0, 0)).1, (now.getD sx.toNat (0, 0)).2)) = true := decide_eq_true hsm2
          simp only [go_sem, binC, hd, Bool.not_true]
          refine wpc_cond (t := false) rfl ?_
          simp only [go_sem, binC]
          refine wpc_skip ?_
          simp only [go_sem, binC, out_n, thenX_n]
          refine wpc_reg ?_
          simp only [go_sem, binC, e49, hw1]
          simp only [go_sem, binC, thenX_n]
          exact ihj (j + 1) _ H8 now (by omega) hnext.symm hx68 hL8 (by simp only [go_sem, binC, e1]) (by simp only [go_sem, binC, e4]) (by simp only [go_sem, binC, e6]) (by simp only [go_sem, binC, e9]) (by simp only [go_sem, binC, e10]) (by simp only [go_sem, binC, e47]) (by simp only [go_sem, binC, e48]) (by simp only [go_sem, binC])
        · have hd : decide (((n1, n2) : Int × Int) = ((now.getD sx.toNat (0, 0)).1, (now.getD sx.toNat (0, 0)).2)) = false := decide_eq_false hsm2
          simp only [go_sem, binC, hd, Bool.not_false]
          refine wpc_cond (t := true) rfl ?_
          simp only [go_sem, binC]
          refine seq_reg ?_
          simp only [go_sem, binC, e6, gc_of hb68, gc_of hs8, gc_of ht8, inBlk_some]
          refine ⟨⟨by omega, by omega⟩, ?_⟩
          obtain ⟨bl2, hbl2, hbl3, hbl4, hbl5, hL9⟩ := hL8.set (show sx.toNat < now.length by omega) (n1, n2)
          simp only [sli, hnl, Value.slice.injEq, and_true, Option.some.injEq, Addr.mk.injEq] at hbl2
          subst hbl2
          have hfl8 := flat_len (fl := fp) (w := 2) (fun _ => rfl) now
          simp only [go_sem, binC, Nat.zero_add, hbl5]
          refine ⟨⟨by omega, by omega⟩, ?_⟩
          rw [show ((now.flatMap fp).set (sx.toNat * 2) (.int .i64 n1)).set (sx.toNat * 2 + 1) (.int .i64 n2) = (now.set sx.toNat (n1, n2)).flatMap fp from flat_set _ _ (n1, n2) (by omega)]
          refine wpc_reg ?_
          simp only [go_sem, binC, out_n, thenX_n]
          refine wpc_reg ?_
          simp only [go_sem, binC, e49, hw1]
          simp only [go_sem, binC, thenX_n]
          have hxs9 : AgX [bl] H8 (H8.set bl ⟨(now.set sx.toNat (n1, n2)).flatMap fp, 2, 35, true, true⟩) := AgX.set _ _ _
          have hblx : bl ∈ xs := by rw [hxs]; simp [blkOf]
          have hne : now.set sx.toNat (n1, n2) ≠ cur := fun h => by
            have h1 := hstle
            rw [h] at h1
            have h2 : now = cur := hpi.1.antisymm h1
            have h3 : (now.set sx.toNat (n1, n2)).getD sx.toNat (0, 0) = cur.getD sx.toNat (0, 0) := by rw [h]
            rw [getD_setP (by omega), if_pos rfl, ← h2] at h3
            exact hsm2 h3
          refine ihj (j + 1) _ _ (now.set sx.toNat (n1, n2)) (by omega) hnext.symm (hx68.trans hxs9 (fun _ h _ => h) (fun b hb _ => by simp only [List.mem_singleton] at hb; subst hb; exact hblx)) hL9 (by simp only [go_sem, binC, e1]) (by simp only [go_sem, binC, e4]) (by simp only [go_sem, binC, e6]) (by simp only [go_sem, binC]; rw [decide_eq_true hne]) (by simp only [go_sem, binC, e10]) (by simp only [go_sem, binC, e47]) (by simp only [go_sem, binC, e48]) (by simp only [go_sem, binC])
  | succ k ih =>
    intro i e Hc cur hi hcur hxc hLc e1 e4 e6 e28 e29 e30
    have hif : i < free.length := by omega
    have hw1 : IntKind.i64.wrap ((i : Int) + 1) = ((i + 1 : Nat) : Int) := by rw [wrap_id (by omega) (by omega)]; omega
    have hcl : cur.length = ls.length := by rw [hcur, startL_len]
    have hb6c := hget Hc hxc _ _ hb6 rfl
    obtain ⟨fb, fo, hfw, hgf⟩ := gcB (hr3 Hc hxc) hif
    simp only [Value.slice.injEq, and_true] at hfw
    subst hfw
    have hxcl := hxc.1
    have hstep := startL_step (ls := ls) hif hfl
    rw [← hcur] at hstep
    refine lp_step ?_
    refine seq_reg ?_
    simp only [go_sem, binC, e29, e30]
    refine seq_cond (t := true) (by simp only [go_sem, binC]; rw [decide_eq_true (by omega)]) ?_
    simp only [go_sem, binC]
    refine seq_skip (seq_block (seq_reg ?_))
    simp only [go_sem, binC, e28, e30]
    refine ⟨⟨by omega, by omega⟩, ?_⟩
    simp only [go_sem, binC, Int.toNat_natCast, Nat.mul_one, hgf]
    refine seq_reg ?_
    simp only [go_sem, binC]
    by_cases hfr : free[i] = true
    · rw [show free.getD i false = true by simpa [List.getD, hif] using hfr, if_pos rfl] at hstep
      obtain ⟨bl2, hbl2, hbl3, hbl4, hbl5, hL9⟩ := hLc.set (show i < cur.length by omega) (7, 7)
      simp only [sli, hcl, Value.slice.injEq, and_true] at hbl2
      subst hbl2
      refine wpc_cond (t := true) (by simp only [go_sem, binC, hfr]) ?_
      simp only [go_sem, binC]
      refine wpc_regD ?_
      simp only [go_sem, binC, e6, gc_of hb6c, inBlk_some]
      refine op_callQ (by simp only [go_sem, binC]; exact ge Hc) ?_
      simp only [go_sem, binC]
      refine ⟨⟨by omega, by omega⟩, ?_⟩
      have hfl8 := flat_len (fl := fp) (w := 2) (fun _ => rfl) cur
      simp only [go_sem, binC, Int.toNat_natCast, Nat.zero_add, hbl5]
      refine ⟨⟨by omega, by omega⟩, ?_⟩
      rw [show ((cur.flatMap fp).set (i * 2) (.int .i64 7)).set (i * 2 + 1) (.int .i64 7) = (cur.set i (7, 7)).flatMap fp from flat_set _ _ (7, 7) (by omega)]
      simp only [go_sem, binC, out_n, thenX_n]
      refine wpc_reg ?_
      simp only [go_sem, binC, e30, hw1]
      simp only [go_sem, binC, thenX_n]
      have hxs9 : AgX [bl2] Hc (Hc.set bl2 ⟨(cur.set i (7, 7)).flatMap fp, 2, 35, true, true⟩) := AgX.set _ _ _
      have hblx : bl2 ∈ xs := by rw [hxs]; simp [blkOf]
      exact ih (i + 1) _ _ (cur.set i (7, 7)) (by omega) hstep.symm (hxc.trans hxs9 (fun _ h _ => h) (fun b hb _ => by simp only [List.mem_singleton] at hb; subst hb; exact hblx)) hL9 (by simp only [go_sem, binC, e1]) (by simp only [go_sem, binC, e4]) (by simp only [go_sem, binC, e6]) (by simp only [go_sem, binC, e28]) (by simp only [go_sem, binC, e29]) (by simp only [go_sem, binC])
    · have hfr' : free[i] = false := by simpa using hfr
      rw [if_neg (show ¬ free.getD i false = true by simp [List.getD, hif, hfr'])] at hstep
      refine wpc_cond (t := false) (by simp only [go_sem, binC, hfr']) ?_
      simp only [go_sem, binC]
      refine wpc_skip ?_
      simp only [go_sem, binC, out_n, thenX_n]
      refine wpc_reg ?_
      simp only [go_sem, binC, e30, hw1]
      simp only [go_sem, binC, thenX_n]
      exact ih (i + 1) _ Hc cur (by omega) hstep.symm hxc hLc (by simp only [go_sem, binC, e1]) (by simp only [go_sem, binC, e4]) (by simp only [go_sem, binC, e6]) (by simp only [go_sem, binC, e28]) (by simp only [go_sem, binC, e29]) (by simp only [go_sem, binC])
end Go.Proofs.YtkmghcglmjehcaaI
end
