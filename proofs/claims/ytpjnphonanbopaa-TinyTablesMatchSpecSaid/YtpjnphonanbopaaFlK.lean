/- Loops and cuts with boxes in front; what a call owns, handed to the shared world. -/
import Derived.Test.YtpjnphonanbopaaFlJ
namespace Go.FL
open Go Go.RowKit
section
variable {P : Program} {TT : TyTab} {D n : Nat} {Q : APost} {fr : Fr} {L : Hl} {s : World}
/-- a loop that leaves the blocks X in front as they are -/
theorem JC_loopX {γ : Type} {c : Code} (X : Hl) (S : γ → Fr) (H : γ → Hl) (I : γ → World → Prop) (μ : γ → Nat) (mono : ∀ g s s', I g s → Le D s s' → I g s') (g0 : γ)
    (hS : Keeps fr (S g0)) (hL : L = X ++ H g0) (hI : I g0 s)
    (round : ∀ g s, I g s → JC P TT D n (thenQ (fun fr' L' s' => ∃ g' A, Keeps fr' (S g') ∧ L' = A ++ (X ++ H g') ∧ I g' s' ∧ μ g' < μ g) Q) c (S g) (X ++ H g) s) :
    JC P TT D n Q (.loop c) fr L s := JC_loop S (fun g => X ++ H g) I μ mono g0 hS hL hI round
theorem JC_cutX {γ : Type} {x y : Code} (X : Hl) (S : γ → Fr) (H : γ → Hl) (I : γ → World → Prop) (mono : ∀ g s s', I g s → Le D s s' → I g s') (h1 : JC P TT D n (thenQ (Mid S (fun g => X ++ H g) I) Q) x fr L s)
    (h2 : ∀ g s', I g s' → JC P TT D n Q y (S g) (X ++ H g) s') : JC P TT D n Q (.seq x y) fr L s := JC_cut S (fun g => X ++ H g) I mono h1 h2
/-- slots were put in front of a frame that were free there -/
inductive Suf (fr : Fr) : Fr → Prop
  | refl : Suf fr fr
  | push {d : Nat} {v : Value} {fr' : Fr} (hd : (flook fr d).isNone = true) (h : Suf fr fr') : Suf fr ((d, v) :: fr')
theorem Suf.keeps {fr fr' : Fr} (h : Suf fr fr') : Keeps fr' fr := by
  induction h with
  | refl => exact fun _ _ h => h
  | @push d v fr' hd _ ih =>
    intro t u hu
    rw [flook_cons]
    by_cases he : d = t
    · subst he; rw [hu] at hd; cases hd
    · rw [if_neg he]; exact ih t u hu
/-- ways through a region that meet again with one truth value as their fruit -/
def MidB (D : Nat) (s : World) (fr : Fr) (L : Hl) (t : Nat) (p : Prop) [Decidable p] : Fr → Hl → World → Prop := fun fr' L' s' => Le D s s' ∧ L' = L ∧ Keeps fr' ((t, .bool (decide p)) :: fr)
theorem MidB.mk {t : Nat} {p : Prop} [Decidable p] {fr' : Fr} {s' : World} {b : Bool} (hl : Le D s s') (hS : Suf fr fr') (ht : flook fr' t = some (.bool b)) (hb : b = decide p) : MidB D s fr L t p fr' L s' := by
  subst hb; exact ⟨hl, rfl, Keeps.cons ht hS.keeps⟩
theorem JC_cutB {x y : Code} (t : Nat) (p : Prop) [Decidable p] (h1 : JC P TT D n (thenQ (MidB D s fr L t p) Q) x fr L s)
    (h2 : ∀ s', Le D s s' → JC P TT D n Q y ((t, .bool (decide p)) :: fr) L s') : JC P TT D n Q (.seq x y) fr L s := fun ht a hr ho =>
  wp_seq (wp_mono (h1 ht a hr ho) fun e a w ⟨fr', L', s', k1, k2, k3, k4⟩ => by
    cases e with
    | normal =>
      subst k3
      obtain ⟨j1, j2, j3⟩ := k4
      subst j2
      exact h2 s' j1 ht a (k1.sub j3) k2
    | _ => exact ⟨fr', L', s', k1, k2, k3, k4⟩)
/-- ways that meet again: the frame and the blocks at the entry, with new slots and new blocks in front -/
def MidN {γ : Type} (D : Nat) (s : World) (fr : Fr) (L : Hl) (new : γ → Fr) (B : γ → Hl) (I : γ → World → Prop) : Fr → Hl → World → Prop := fun fr' L' s' => ∃ g A, Le D s s' ∧ L'.Perm (A ++ (B g ++ L)) ∧ I g s' ∧ Keeps fr' (new g ++ fr)
theorem MidN.mk {γ : Type} {new : γ → Fr} {B : γ → Hl} {I : γ → World → Prop} {fr' : Fr} {L' : Hl} {s' : World} (g : γ) (A : Hl) (hl : Le D s s') (hK : Keeps fr' (new g ++ fr)) (hp : L'.Perm (A ++ (B g ++ L))) (hI : I g s') : MidN D s fr L new B I fr' L' s' := ⟨g, A, hl, hp, hI, hK⟩
theorem JC_cutN {γ : Type} {x y : Code} (new : γ → Fr) (B : γ → Hl) (I : γ → World → Prop) (mono : ∀ g s s', I g s → Le D s s' → I g s') (h1 : JC P TT D n (thenQ (MidN D s fr L new B I) Q) x fr L s)
    (h2 : ∀ g s', Le D s s' → I g s' → JC P TT D n Q y (new g ++ fr) (B g ++ L) s') : JC P TT D n Q (.seq x y) fr L s := fun ht a hr ho =>
  wp_seq (wp_mono (h1 ht a hr ho) fun e a w ⟨fr', L', s', k1, k2, k3, k4⟩ => by
    cases e with
    | normal =>
      subst k3
      obtain ⟨g, A, j0, j2, j3, j1⟩ := k4
      rw [fill_perm j2 _ k2]
      obtain ⟨e, d1, d2⟩ := drop_own (k2.perm j2)
      rw [e]
      exact h2 g _ (j0.trans d2) (mono _ _ _ j3 d2) ht a (k1.sub j1) d1
    | _ => exact ⟨fr', L', s', k1, k2, k3, k4⟩)
/-- what is owned comes to lie in the shared world -/
def Pub (M : Hl) (s : World) : Prop := ∀ b zs t, (b, cb zs t) ∈ M → CellsAt s b 0 zs
theorem Pub.nil (s : World) : Pub [] s := fun _ _ _ h => by cases h
theorem Pub.tail {x : Nat × Obj} {M : Hl} {s : World} (h : Pub (x :: M) s) : Pub M s := fun b zs t hm => h b zs t (List.mem_cons_of_mem _ hm)
theorem Pub.left {A B : Hl} {s : World} (h : Pub (A ++ B) s) : Pub A s := fun b zs t hm => h b zs t (List.mem_append_left _ hm)
theorem Pub.right {A B : Hl} {s : World} (h : Pub (A ++ B) s) : Pub B s := fun b zs t hm => h b zs t (List.mem_append_right _ hm)
theorem Pub.le {D : Nat} {A : Hl} {s s' : World} (h : Pub A s) (hl : Le D s s') : Pub A s' := fun b zs t hm => (h b zs t hm).le hl
theorem AC.pubW {f : FuncId} {args : List Value} {R : Value → World → Prop} (h : AC P D f args L s (fun v L' s' => ∃ M', L' = M' ++ L ∧ ∀ s2, Le D s' s2 → Pub M' s2 → R v s2)) :
    AC P D f args L s (fun v L' s' => L = L' ∧ R v s') := by
  refine ⟨h.1, fun ho => (h.2 ho).mono ?_⟩
  rintro e w' ⟨v, L', s', h1, rfl, h3, h4, M', rfl, h6⟩
  obtain ⟨d1, d2, d3⟩ := drop_own h3
  refine ⟨v, L, fill M' s', h1, d1, d2, h4.trans d3, rfl, h6 _ d3 fun b zs t hm j u hj => ?_⟩
  rw [mem_cell h3.left hm, Nat.zero_add]; exact hj
end
end Go.FL
