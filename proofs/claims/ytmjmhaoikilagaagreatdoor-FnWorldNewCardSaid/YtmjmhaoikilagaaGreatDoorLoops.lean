/-
  Loops: the state up to what the loop needs (some temporaries, some owned blocks).
-/
import Derived.Test.YtmjmhaoikilagaaGreatDoorOps2
set_option linter.unusedVariables false
set_option linter.unusedSimpArgs false
set_option linter.unusedSectionVars false
namespace Go.Lu

def upds : List (Nat × Value) → Env → Env
  | [], e => e
  | (t, v) :: l, e => upd (upds l e) t v
def vals (e : Env) : List (Nat × Value) → Prop
  | [] => True
  | (t, v) :: l => e t = v ∧ vals e l
theorem upds_eq {e : Env} : ∀ {l : List (Nat × Value)}, vals e l → upds l e = e
  | [], _ => rfl
  | (t, v) :: l, ⟨h1, h2⟩ => by
    funext u
    simp only [upds, upds_eq h2, upd]
    cases hb : Nat.beq u t with
    | false => rfl
    | true => rw [Nat.eq_of_beq_eq_true hb]; exact h1.symm

theorem ivq {k : IntKind} {a b : Int} (h : a = b) : Value.int k a = .int k b := by rw [h]
theorem bvq {a b : Bool} (h : a = b) : Value.bool a = .bool b := by rw [h]
def Sub (L₀ L : OL) : Prop := ∃ L', L.Perm (L₀ ++ L')
theorem Sub.refl (L : OL) : Sub L L := ⟨[], by simp⟩
theorem Sub.trans {L₁ L₂ L₃ : OL} (a : Sub L₁ L₂) (b : Sub L₂ L₃) : Sub L₁ L₃ := by
  obtain ⟨A, ha⟩ := a
  obtain ⟨B, hb⟩ := b
  exact ⟨A ++ B, hb.trans (by rw [← List.append_assoc]; exact ha.append_right B)⟩
theorem Sub.cons {L₀ L : OL} {x} (a : Sub L₀ L) : Sub L₀ (x :: L) := by
  obtain ⟨A, ha⟩ := a
  exact ⟨x :: A, (ha.cons x).trans List.perm_middle.symm⟩
theorem Sub.take {L₀ L : OL} {x} (a : Sub L₀ L) : Sub (x :: L₀) (x :: L) := by
  obtain ⟨A, ha⟩ := a
  exact ⟨A, ha.cons x⟩
theorem Sub.top {x : Nat × Obj} {B : OL} : Sub (x :: (B ++ [])) (x :: B) := ⟨[], by simp⟩
theorem Sub.nil {L : OL} : Sub [] L := ⟨L, by simp⟩
theorem Sub.app {L₀ L M : OL} (a : Sub L₀ L) : Sub L₀ (M ++ L) := by
  induction M with
  | nil => exact a
  | cons x M ih => exact ih.cons
theorem Sub.appR {L M : OL} : Sub L (L ++ M) := ⟨M, by simp⟩
/- picking by places -/
def picks {α : Type} (L : List α) : List Nat → Option (List α)
  | [] => some []
  | i :: is => match L[i]?, picks (L.eraseIdx i) is with
    | some x, some r => some (x :: r)
    | _, _ => none
theorem perm_erase {α : Type} {x : α} : ∀ {i : Nat} {L : List α}, L[i]? = some x → L.Perm (x :: L.eraseIdx i)
  | _, [], h => by simp at h
  | 0, y :: L, h => by simp at h; subst h; simp
  | i + 1, y :: L, h => by
    simp only [List.getElem?_cons_succ] at h
    simp only [List.eraseIdx_cons_succ]
    exact ((perm_erase h).cons y).trans (List.Perm.swap x y _)
theorem perm_picks {α : Type} : ∀ (is : List Nat) {L L₀ : List α}, picks L is = some L₀ → ∃ A, L.Perm (L₀ ++ A)
  | [], L, L₀, h => by injection h with h; subst h; exact ⟨L, by simp⟩
  | i :: is, L, L₀, h => by
    simp only [picks] at h
    split at h
    · rename_i x r h1 h2
      injection h with h; subst h
      obtain ⟨A, hA⟩ := perm_picks is h2
      exact ⟨A, (perm_erase h1).trans (hA.cons x)⟩
    · cases h
theorem sub_picks (is : List Nat) {L L₀ : OL} (h : picks L is = some L₀) : Sub L₀ L := perm_picks is h
def cat : List OL → OL
  | [] => []
  | [x] => x
  | x :: y :: l => x ++ cat (y :: l)
theorem cat_flatten : ∀ (S : List OL), cat S = S.flatten
  | [] => rfl
  | [x] => by simp [cat]
  | x :: y :: l => by simp only [cat, cat_flatten (y :: l), List.flatten_cons]
def relA (done : List Nat) : List Nat → List Nat
  | [] => []
  | i :: is => (i - (done.filter (Nat.blt · i)).length) :: relA (i :: done) is
theorem sub_segs (is : List Nat) (S S' : List OL) (h : picks S (relA [] is) = some S') : Sub (cat S') (cat S) := by
  obtain ⟨A, hp⟩ := perm_picks (relA [] is) h
  rw [cat_flatten, cat_flatten]
  exact ⟨A.flatten, by rw [← List.flatten_append]; exact hp.flatten⟩
theorem perm_segs (is : List Nat) (S S' : List OL) (h : picks S (relA [] is) = some S') (hl : Nat.beq S.length S'.length = true) : (cat S).Perm (cat S') := by
  obtain ⟨A, hp⟩ := perm_picks (relA [] is) h
  have := hp.length_eq
  rw [Nat.eq_of_beq_eq_true hl, List.length_append] at this
  have hA : A = [] := List.eq_nil_of_length_eq_zero (by omega)
  subst hA
  rw [List.append_nil] at hp
  rw [cat_flatten, cat_flatten]
  exact hp.flatten

def Abs (l : List (Nat × Value)) (L₀ : OL) (h : LH) (s : St) : Prop := vals s.e l ∧ s.D = [] ∧ Sub L₀ s.L ∧ LE h s.h

section
variable {P : Program} {main : Bool} {lo : Nat → Prop} {A : (Goroutine → LH → Prop) → Prop} {n : Nat} [hA : Adm P main lo A]
include hA

theorem WC_le {c : Code} {a : Act} {h h' : LH} {Q : Out → Act → LH → Prop} (hle : LE h h') (x : WC A c a h Q) : WC A c a h' Q :=
  fun S hS b k cs hb hk => hA.mono S hS _ _ _ hle (x S hS b k cs hb hk)
theorem WR_le {ops : Array Oper} {is : List Nat} {a : Act} {h h' : LH} {Q : Out → Act → LH → Prop} (hle : LE h h') (x : WR A ops is a h Q) : WR A ops is a h' Q :=
  fun S hS b k cs hb hk => hA.mono S hS _ _ _ hle (x S hS b k cs hb hk)
theorem W_sub {c : Code} {e : Env} {D : List Deferred} {L : OL} {h : LH} {Q : Out → St → Prop} (L₀ : OL) (hs : Sub L₀ L) (k : W lo A n c ⟨e, D, L₀, h⟩ Q) : W lo A n c ⟨e, D, L, h⟩ Q := by
  intro ok
  obtain ⟨L', hp⟩ := hs
  have ha := ok.apart.perm hp
  have := k ⟨(ha.perm List.perm_append_comm).right, ok.undef⟩
  refine WC_le ?_ this
  simp only
  rw [ov_perm hp h ok.apart.nodup, ov_append, ov_comm ha]
  exact LE.ov (ha.perm List.perm_append_comm).left
theorem W_le {c : Code} {e : Env} {D : List Deferred} {L : OL} {h h₀ : LH} {Q : Out → St → Prop} (hle : LE h₀ h) (k : W lo A n c ⟨e, D, L, h₀⟩ Q) : W lo A n c ⟨e, D, L, h⟩ Q := by
  intro ok
  exact WC_le (LE_ov hle) (k ⟨ok.apart.le hle, ok.undef⟩)
theorem W_abs {c : Code} {l : List (Nat × Value)} {L₀ : OL} {h : LH} {s : St} {Q : Out → St → Prop} (ha : Abs l L₀ h s) (k : W lo A n c ⟨upds l s.e, [], L₀, h⟩ Q) : W lo A n c s Q := by
  obtain ⟨e, D, L, h'⟩ := s
  obtain ⟨h1, h2, h3, h4⟩ := ha
  simp only at h1 h2 h3 h4 k
  subst h2
  rw [upds_eq h1] at k
  exact W_sub L₀ h3 (W_le h4 k)
/-- A loop, by an index: what the temporaries hold that the loop needs, which blocks are owned, the heap. -/
theorem W_loopA {ι : Type} {c : Code} (μ : ι → Nat) (l : ι → List (Nat × Value)) (L₀ : ι → OL) (hh : ι → LH) (J : ι → Prop) (i₀ : ι) {s : St} {Q : Out → St → Prop} (h₀ : J i₀) (ha : Abs (l i₀) (L₀ i₀) (hh i₀) s)
    (round : ∀ i e, J i → W lo A n c ⟨upds (l i) e, [], L₀ i, hh i⟩ (ThenS (fun s' => ∃ j, J j ∧ Abs (l j) (L₀ j) (hh j) s' ∧ μ j < μ i) Q)) : W lo A n (.loop c) s Q :=
  W_loop (fun i s => J i ∧ Abs (l i) (L₀ i) (hh i) s) μ i₀ ⟨h₀, ha⟩ fun i s ⟨hj, hs⟩ => W_abs hs ((round i s.e hj).mono fun o s' hq => by
    cases o with
    | normal => obtain ⟨j, h1, h2, h3⟩ := hq; exact ⟨j, ⟨h1, h2⟩, h3⟩
    | _ => exact hq)
omit hA in
theorem abs_mk {e : Env} {l : List (Nat × Value)} {L₀ L : OL} {h : LH} (h1 : vals e l) (is : List Nat) (h2 : picks L is = some L₀) : Abs l L₀ h ⟨e, [], L, h⟩ := ⟨h1, rfl, sub_picks is h2, LE.refl _⟩
omit hA in
theorem abs_mk' {e : Env} {l : List (Nat × Value)} {L₀ L : OL} {h : LH} (h1 : vals e l) (h2 : Sub L₀ L) : Abs l L₀ h ⟨e, [], L, h⟩ := ⟨h1, rfl, h2, LE.refl _⟩
omit hA in
theorem abs_le {e : Env} {l : List (Nat × Value)} {L₀ L : OL} {h h' : LH} (h1 : vals e l) (h2 : Sub L₀ L) (h3 : LE h h') : Abs l L₀ h ⟨e, [], L, h'⟩ := ⟨h1, rfl, h2, h3⟩
end
end Go.Lu
