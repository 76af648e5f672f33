/- A cut that keeps the frame; rows of actions and terms. -/
import Derived.Test.YtpjnphonanbopaaFlL
namespace Go.FL
open Go Go.RowKit
section
variable {P : Program} {TT : TyTab} {D n : Nat} {Q : APost} {fr : Fr} {L : Hl} {s : World}
def MidF {γ : Type} (D : Nat) (s : World) (fr : Fr) (X : Hl) (H : γ → Hl) (I : γ → World → Prop) : Fr → Hl → World → Prop := fun fr' L' s' => ∃ g A, Le D s s' ∧ L'.Perm (A ++ (X ++ H g)) ∧ I g s' ∧ Keeps fr' fr
theorem MidF.mk {γ : Type} {X : Hl} {H : γ → Hl} {I : γ → World → Prop} {fr' : Fr} {L' : Hl} {s' : World} (g : γ) (A : Hl) (hl : Le D s s') (hK : Keeps fr' fr) (hp : L'.Perm (A ++ (X ++ H g))) (hI : I g s') : MidF D s fr X H I fr' L' s' := ⟨g, A, hl, hp, hI, hK⟩
/-- ways that meet again; the frame is that of the entry, what is owned is X and H g -/
theorem JC_cutF {γ : Type} {x y : Code} (X : Hl) {Y : Hl} (_hX : L = X ++ Y) (H : γ → Hl) (I : γ → World → Prop) (mono : ∀ g s s', I g s → Le D s s' → I g s') (h1 : JC P TT D n (thenQ (MidF D s fr X H I) Q) x fr L s)
    (h2 : ∀ g s', Le D s s' → I g s' → JC P TT D n Q y fr (X ++ H g) s') : JC P TT D n Q (.seq x y) fr L s := fun ht a hr ho =>
  wp_seq (wp_mono (h1 ht a hr ho) fun e a w ⟨fr', L', s', k1, k2, k3, k4⟩ => by
    cases e with
    | normal =>
      subst k3
      obtain ⟨g, A, j0, j2, j3, j1⟩ := k4
      rw [fill_perm j2 _ k2]
      obtain ⟨e, d1, d2⟩ := drop_own (k2.perm j2)
      rw [e]
      exact h2 g _ (j0.trans d2) (mono _ _ _ j3 d2) ht a (k1.sub j1) d1
    | _ => exact ⟨fr', L', s', k1, k2, k3, k4⟩)
end
end Go.FL
namespace Go.Proofs.Ytpjnphonanbopaa
open Go Go.FL
theorem flat_at {css : List (List Value)} {sz : Nat} (hl : ∀ cs ∈ css, cs.length = sz) {j : Nat} {u : Value} (h : css.flatten[j]? = some u) : ∃ i cs r, css[i]? = some cs ∧ cs[r]? = some u ∧ j = i * sz + r := by
  induction css generalizing j with
  | nil => cases h
  | cons c m ih =>
    have hc := hl c (List.mem_cons_self ..)
    rw [List.flatten_cons] at h
    by_cases hj : j < c.length
    · rw [List.getElem?_append_left hj] at h
      exact ⟨0, c, j, rfl, h, by omega⟩
    · rw [List.getElem?_append_right (by omega)] at h
      obtain ⟨i, cs, r, h1, h2, h3⟩ := ih (fun x hx => hl x (List.mem_cons_of_mem _ hx)) h
      exact ⟨i + 1, cs, r, by simpa using h1, h2, by rw [Nat.succ_mul]; omega⟩
def acv (l : List Ac) : List Value := (l.map Ac.cs).flatten
theorem acv_snoc (l : List Ac) (a : Ac) : acv (l ++ [a]) = acv l ++ a.cs := by simp [acv]
theorem acv_app (l m : List Ac) : acv (l ++ m) = acv l ++ acv m := by simp [acv]
theorem acv_len (l : List Ac) : (acv l).length = l.length * 6 := by
  induction l with
  | nil => rfl
  | cons a r ih => simp only [acv, List.map_cons, List.flatten_cons, List.length_append, List.length_cons] at ih ⊢; rw [ih]; simp only [Ac.cs, List.length_cons, List.length_nil]; omega
theorem Acs.row {s : World} {A : Option Addr} {n c : Nat} {l : List Ac} (h : Acs s A n c l) : Row s A n 6 (acv l) := by
  refine ⟨by rw [acv_len, h.1], fun u hu => ?_, fun j u hj => ?_⟩
  · obtain ⟨cs, h1, h2⟩ := List.mem_flatten.1 hu
    obtain ⟨a, _, rfl⟩ := List.mem_map.1 h1
    simp only [Ac.cs, List.mem_cons, List.not_mem_nil, or_false] at h2
    rcases h2 with rfl | rfl | rfl | rfl | rfl | rfl <;> rfl
  · obtain ⟨i, cs, r, h1, h2, h3⟩ := flat_at (sz := 6) (fun cs hcs => by obtain ⟨a, _, rfl⟩ := List.mem_map.1 hcs; rfl) hj
    rw [List.getElem?_map] at h1
    cases ha : l[i]? with
    | none => simp [ha] at h1
    | some a =>
      simp [ha] at h1
      subst h1
      obtain ⟨b, off, cs, k1, k2, _, k3, _⟩ := h.2.2.2 i a ha
      subst k3
      refine ⟨b, off, k1, ?_⟩
      have := k2 r u h2
      rwa [Nat.add_assoc, ← h3] at this
theorem Own.acs {e : Nat} {A : Hl} {Ad : Option Addr} {n c : Nat} {l : List Ac} {s : World} (h : Own e 6 A (.slice Ad n c) n (acv l)) (hu : ∀ a ∈ l, U32 a.x.val ∧ U32 a.y.val) (hp : Pub A s) (hn : n = l.length) : Acs s Ad n c l := by
  refine Own.rows (css := l.map Ac.cs) h hp ?_ hn
  clear h hn
  induction l with
  | nil => exact .nil
  | cons a r ih => exact .cons ⟨rfl, rfl, hu a (List.mem_cons_self ..)⟩ (ih fun b hb => hu b (List.mem_cons_of_mem _ hb))
theorem Acs.u {s : World} {A : Option Addr} {n c : Nat} {l : List Ac} (h : Acs s A n c l) : ∀ a ∈ l, U32 a.x.val ∧ U32 a.y.val := fun a ha => by
  obtain ⟨i, hi⟩ := List.getElem?_of_mem ha
  obtain ⟨_, _, _, _, _, _, _, h5⟩ := h.2.2.2 i a hi
  exact h5
/-- terms -/
def Tms (s : World) (A : Option Addr) (n c : Nat) (l : List Tm) : Prop := Sl 2 (fun _ x cs => cs = [.int .i64 x.kind, .int .u32 x.val] ∧ U32 x.val) s A n c l
theorem Tms.le {D : Nat} {s s' : World} {A : Option Addr} {n c : Nat} {l : List Tm} (h : Tms s A n c l) (hl : Le D s s') : Tms s' A n c l := Sl.le (fun _ _ h => h) h hl
theorem Tms.at_ {s : World} {A : Option Addr} {n c k : Nat} {l : List Tm} (h : Tms s A n c l) (hk : k < n) : ∃ b off x, A = some ⟨b, off, none⟩ ∧ l[k]? = some x ∧ CellsAt s b (off + k * 2) [.int .i64 x.kind, .int .u32 x.val] ∧ U32 x.val := by
  have hl : k < l.length := by rw [← h.1]; exact hk
  obtain ⟨b, off, cs, h1, h2, _, rfl, h4⟩ := h.2.2.2 k l[k] (List.getElem?_eq_getElem hl)
  exact ⟨b, off, l[k], h1, List.getElem?_eq_getElem hl, h2, h4⟩
theorem tms1 {s : World} {b : Nat} {a c : Int} (h : CellsAt s b 0 [.int .i64 a, .int .u32 c]) (hc : U32 c) : Tms s (some ⟨b, 0, none⟩) 1 1 [⟨a, c⟩] := Sl.lit [[_, _]] h rfl (.cons ⟨rfl, rfl, hc⟩ .nil) 1 rfl (by omega)
theorem tms2 {s : World} {b : Nat} {a c d e : Int} (h : CellsAt s b 0 [.int .i64 a, .int .u32 c, .int .i64 d, .int .u32 e]) (hc : U32 c) (he : U32 e) : Tms s (some ⟨b, 0, none⟩) 2 2 [⟨a, c⟩, ⟨d, e⟩] := Sl.lit [[_, _], [_, _]] h rfl (.cons ⟨rfl, rfl, hc⟩ (.cons ⟨rfl, rfl, he⟩ .nil)) 2 rfl (by omega)
theorem acs1 {s : World} {b : Nat} {k0 t0 a0 b0 c0 d0 : Int} (h : CellsAt s b 0 [.int .i64 k0, .int .i64 t0, .int .i64 a0, .int .u32 b0, .int .i64 c0, .int .u32 d0]) (hu : (U32 b0 ∧ U32 d0)) : Acs s (some ⟨b, 0, none⟩) 1 1 [⟨k0, t0, ⟨a0, b0⟩, ⟨c0, d0⟩⟩] := Sl.lit [[_, _, _, _, _, _]] h rfl (.cons ⟨rfl, rfl, hu⟩ (.nil)) 1 rfl (by omega)
theorem acs2 {s : World} {b : Nat} {k0 t0 a0 b0 c0 d0 k1 t1 a1 b1 c1 d1 : Int} (h : CellsAt s b 0 [.int .i64 k0, .int .i64 t0, .int .i64 a0, .int .u32 b0, .int .i64 c0, .int .u32 d0, .int .i64 k1, .int .i64 t1, .int .i64 a1, .int .u32 b1, .int .i64 c1, .int .u32 d1]) (hu : (U32 b0 ∧ U32 d0) ∧ (U32 b1 ∧ U32 d1)) : Acs s (some ⟨b, 0, none⟩) 2 2 [⟨k0, t0, ⟨a0, b0⟩, ⟨c0, d0⟩⟩, ⟨k1, t1, ⟨a1, b1⟩, ⟨c1, d1⟩⟩] := Sl.lit [[_, _, _, _, _, _], [_, _, _, _, _, _]] h rfl (.cons ⟨rfl, rfl, hu.1⟩ (.cons ⟨rfl, rfl, hu.2⟩ (.nil))) 2 rfl (by omega)
theorem acs3 {s : World} {b : Nat} {k0 t0 a0 b0 c0 d0 k1 t1 a1 b1 c1 d1 k2 t2 a2 b2 c2 d2 : Int} (h : CellsAt s b 0 [.int .i64 k0, .int .i64 t0, .int .i64 a0, .int .u32 b0, .int .i64 c0, .int .u32 d0, .int .i64 k1, .int .i64 t1, .int .i64 a1, .int .u32 b1, .int .i64 c1, .int .u32 d1, .int .i64 k2, .int .i64 t2, .int .i64 a2, .int .u32 b2, .int .i64 c2, .int .u32 d2]) (hu : (U32 b0 ∧ U32 d0) ∧ (U32 b1 ∧ U32 d1) ∧ (U32 b2 ∧ U32 d2)) : Acs s (some ⟨b, 0, none⟩) 3 3 [⟨k0, t0, ⟨a0, b0⟩, ⟨c0, d0⟩⟩, ⟨k1, t1, ⟨a1, b1⟩, ⟨c1, d1⟩⟩, ⟨k2, t2, ⟨a2, b2⟩, ⟨c2, d2⟩⟩] := Sl.lit [[_, _, _, _, _, _], [_, _, _, _, _, _], [_, _, _, _, _, _]] h rfl (.cons ⟨rfl, rfl, hu.1⟩ (.cons ⟨rfl, rfl, hu.2.1⟩ (.cons ⟨rfl, rfl, hu.2.2⟩ (.nil)))) 3 rfl (by omega)
theorem acs4 {s : World} {b : Nat} {k0 t0 a0 b0 c0 d0 k1 t1 a1 b1 c1 d1 k2 t2 a2 b2 c2 d2 k3 t3 a3 b3 c3 d3 : Int} (h : CellsAt s b 0 [.int .i64 k0, .int .i64 t0, .int .i64 a0, .int .u32 b0, .int .i64 c0, .int .u32 d0, .int .i64 k1, .int .i64 t1, .int .i64 a1, .int .u32 b1, .int .i64 c1, .int .u32 d1, .int .i64 k2, .int .i64 t2, .int .i64 a2, .int .u32 b2, .int .i64 c2, .int .u32 d2, .int .i64 k3, .int .i64 t3, .int .i64 a3, .int .u32 b3, .int .i64 c3, .int .u32 d3]) (hu : (U32 b0 ∧ U32 d0) ∧ (U32 b1 ∧ U32 d1) ∧ (U32 b2 ∧ U32 d2) ∧ (U32 b3 ∧ U32 d3)) : Acs s (some ⟨b, 0, none⟩) 4 4 [⟨k0, t0, ⟨a0, b0⟩, ⟨c0, d0⟩⟩, ⟨k1, t1, ⟨a1, b1⟩, ⟨c1, d1⟩⟩, ⟨k2, t2, ⟨a2, b2⟩, ⟨c2, d2⟩⟩, ⟨k3, t3, ⟨a3, b3⟩, ⟨c3, d3⟩⟩] := Sl.lit [[_, _, _, _, _, _], [_, _, _, _, _, _], [_, _, _, _, _, _], [_, _, _, _, _, _]] h rfl (.cons ⟨rfl, rfl, hu.1⟩ (.cons ⟨rfl, rfl, hu.2.1⟩ (.cons ⟨rfl, rfl, hu.2.2.1⟩ (.cons ⟨rfl, rfl, hu.2.2.2⟩ (.nil))))) 4 rfl (by omega)
theorem acs5 {s : World} {b : Nat} {k0 t0 a0 b0 c0 d0 k1 t1 a1 b1 c1 d1 k2 t2 a2 b2 c2 d2 k3 t3 a3 b3 c3 d3 k4 t4 a4 b4 c4 d4 : Int} (h : CellsAt s b 0 [.int .i64 k0, .int .i64 t0, .int .i64 a0, .int .u32 b0, .int .i64 c0, .int .u32 d0, .int .i64 k1, .int .i64 t1, .int .i64 a1, .int .u32 b1, .int .i64 c1, .int .u32 d1, .int .i64 k2, .int .i64 t2, .int .i64 a2, .int .u32 b2, .int .i64 c2, .int .u32 d2, .int .i64 k3, .int .i64 t3, .int .i64 a3, .int .u32 b3, .int .i64 c3, .int .u32 d3, .int .i64 k4, .int .i64 t4, .int .i64 a4, .int .u32 b4, .int .i64 c4, .int .u32 d4]) (hu : (U32 b0 ∧ U32 d0) ∧ (U32 b1 ∧ U32 d1) ∧ (U32 b2 ∧ U32 d2) ∧ (U32 b3 ∧ U32 d3) ∧ (U32 b4 ∧ U32 d4)) : Acs s (some ⟨b, 0, none⟩) 5 5 [⟨k0, t0, ⟨a0, b0⟩, ⟨c0, d0⟩⟩, ⟨k1, t1, ⟨a1, b1⟩, ⟨c1, d1⟩⟩, ⟨k2, t2, ⟨a2, b2⟩, ⟨c2, d2⟩⟩, ⟨k3, t3, ⟨a3, b3⟩, ⟨c3, d3⟩⟩, ⟨k4, t4, ⟨a4, b4⟩, ⟨c4, d4⟩⟩] := Sl.lit [[_, _, _, _, _, _], [_, _, _, _, _, _], [_, _, _, _, _, _], [_, _, _, _, _, _], [_, _, _, _, _, _]] h rfl (.cons ⟨rfl, rfl, hu.1⟩ (.cons ⟨rfl, rfl, hu.2.1⟩ (.cons ⟨rfl, rfl, hu.2.2.1⟩ (.cons ⟨rfl, rfl, hu.2.2.2.1⟩ (.cons ⟨rfl, rfl, hu.2.2.2.2⟩ (.nil)))))) 5 rfl (by omega)
theorem acs6 {s : World} {b : Nat} {k0 t0 a0 b0 c0 d0 k1 t1 a1 b1 c1 d1 k2 t2 a2 b2 c2 d2 k3 t3 a3 b3 c3 d3 k4 t4 a4 b4 c4 d4 k5 t5 a5 b5 c5 d5 : Int} (h : CellsAt s b 0 [.int .i64 k0, .int .i64 t0, .int .i64 a0, .int .u32 b0, .int .i64 c0, .int .u32 d0, .int .i64 k1, .int .i64 t1, .int .i64 a1, .int .u32 b1, .int .i64 c1, .int .u32 d1, .int .i64 k2, .int .i64 t2, .int .i64 a2, .int .u32 b2, .int .i64 c2, .int .u32 d2, .int .i64 k3, .int .i64 t3, .int .i64 a3, .int .u32 b3, .int .i64 c3, .int .u32 d3, .int .i64 k4, .int .i64 t4, .int .i64 a4, .int .u32 b4, .int .i64 c4, .int .u32 d4, .int .i64 k5, .int .i64 t5, .int .i64 a5, .int .u32 b5, .int .i64 c5, .int .u32 d5]) (hu : (U32 b0 ∧ U32 d0) ∧ (U32 b1 ∧ U32 d1) ∧ (U32 b2 ∧ U32 d2) ∧ (U32 b3 ∧ U32 d3) ∧ (U32 b4 ∧ U32 d4) ∧ (U32 b5 ∧ U32 d5)) : Acs s (some ⟨b, 0, none⟩) 6 6 [⟨k0, t0, ⟨a0, b0⟩, ⟨c0, d0⟩⟩, ⟨k1, t1, ⟨a1, b1⟩, ⟨c1, d1⟩⟩, ⟨k2, t2, ⟨a2, b2⟩, ⟨c2, d2⟩⟩, ⟨k3, t3, ⟨a3, b3⟩, ⟨c3, d3⟩⟩, ⟨k4, t4, ⟨a4, b4⟩, ⟨c4, d4⟩⟩, ⟨k5, t5, ⟨a5, b5⟩, ⟨c5, d5⟩⟩] := Sl.lit [[_, _, _, _, _, _], [_, _, _, _, _, _], [_, _, _, _, _, _], [_, _, _, _, _, _], [_, _, _, _, _, _], [_, _, _, _, _, _]] h rfl (.cons ⟨rfl, rfl, hu.1⟩ (.cons ⟨rfl, rfl, hu.2.1⟩ (.cons ⟨rfl, rfl, hu.2.2.1⟩ (.cons ⟨rfl, rfl, hu.2.2.2.1⟩ (.cons ⟨rfl, rfl, hu.2.2.2.2.1⟩ (.cons ⟨rfl, rfl, hu.2.2.2.2.2⟩ (.nil))))))) 6 rfl (by omega)
theorem tms0 (s : World) : Tms s none 0 0 [] := ⟨rfl, Nat.le_refl _, by omega, fun i x h => by cases h⟩
end Go.Proofs.Ytpjnphonanbopaa
