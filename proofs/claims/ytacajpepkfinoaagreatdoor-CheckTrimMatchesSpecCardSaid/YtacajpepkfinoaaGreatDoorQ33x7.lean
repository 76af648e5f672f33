/- Part 7 of the proof of checkTrimMatchesSpec_holds: texts C28, C29, C30, Rn, V27, V28, V29, V30, FlO, C31, C32, V31. -/
import Derived.Test.YtacajpepkfinoaaGreatDoorQ33x6
import Derived.ArgAppend
set_option linter.unusedVariables false
set_option linter.unusedSimpArgs false
set_option linter.unnecessarySimpa false
set_option maxRecDepth 100000
set_option maxHeartbeats 8000000
namespace Go.Proofs.YtacajpepkfinoaaGreatDoor
open Go.FL
attribute [local irreducible] JC JO JA JB thenQ blockQ retQ AC fill CellsAt QE Ev Mid
mutual
def fdX (p : Prg) (f : Fnc) : Ex → Ex
  | .mk k o n nm ar => match numP p f (.mk k o n nm (fdXs p f ar)) with
    | some v => .mk 1 0 v [] []
    | none => .mk k o n nm (fdXs p f ar)
def fdXs (p : Prg) (f : Fnc) : List Ex → List Ex
  | [] => []
  | x :: r => fdX p f x :: fdXs p f r
end
theorem fdXs_map (p : Prg) (f : Fnc) : ∀ l : List Ex, fdXs p f l = l.map (fdX p f)
  | [] => rfl
  | x :: r => by rw [fdXs, fdXs_map p f r]; rfl
theorem fdXs_len (p : Prg) (f : Fnc) (l : List Ex) : (fdXs p f l).length = l.length := by rw [fdXs_map, List.length_map]
def Ex.withA (x : Ex) (l : List Ex) : Ex := .mk x.kind x.op x.num x.name l
theorem fdX_some {p : Prg} {f : Fnc} {x : Ex} {v : Int} (h : numP p f (x.withA (fdXs p f x.args)) = some v) : fdX p f x = .mk 1 0 v [] [] := by
  cases x; rw [fdX]; simp only [Ex.withA, Ex.kind, Ex.op, Ex.num, Ex.name, Ex.args] at h; rw [h]
theorem fdX_none {p : Prg} {f : Fnc} {x : Ex} (h : numP p f (x.withA (fdXs p f x.args)) = none) : fdX p f x = x.withA (fdXs p f x.args) := by
  cases x; rw [fdX]; simp only [Ex.withA, Ex.kind, Ex.op, Ex.num, Ex.name, Ex.args] at h ⊢; rw [h]
theorem w32_v (a : Int) : U32 (w32 a) := by unfold w32; exact ⟨by omega, by omega⟩
theorem opP_u {k x y : Int} (hx : U32 x) (hy : U32 y) : U32 (opP k x y) := by
  have hX : x.toNat < 4294967296 := by have := hx.2; omega
  have hY : y.toNat < 4294967296 := by have := hy.2; omega
  rw [opP]
  by_cases g0 : 14 ≤ k ∨ k = 1
  · rw [if_pos g0]
    by_cases h : holdB k x y = true
    · rw [if_pos h]; exact ⟨by decide, by decide⟩
    · rw [if_neg h]; exact ⟨by decide, by decide⟩
  rw [if_neg g0]
  by_cases g2 : k = 2
  · rw [if_pos g2]; exact w32_v _
  rw [if_neg g2]
  by_cases g3 : k = 3
  · rw [if_pos g3]; have := hx.1; have := hx.2; exact ⟨by omega, by omega⟩
  rw [if_neg g3]
  by_cases g4 : k = 4
  · rw [if_pos g4]; exact w32_v _
  rw [if_neg g4]
  by_cases g5 : k = 5
  · rw [if_pos g5]; exact ⟨Int.ediv_nonneg hx.1 hy.1, Int.lt_of_le_of_lt (Int.ediv_le_self _ hx.1) hx.2⟩
  rw [if_neg g5]
  by_cases g6 : k = 6
  · rw [if_pos g6]
    rcases Int.lt_or_eq_of_le hy.1 with h5 | h5
    · exact ⟨Int.emod_nonneg _ O, Int.lt_trans (Int.emod_lt_of_pos _ h5) hy.2⟩
    · rw [← h5, Int.emod_zero]; exact hx
  rw [if_neg g6]
  by_cases g7 : k = 7
  · rw [if_pos g7]
    have := Nat.mod_lt (x.toNat <<< y.toNat) (show 0 < 4294967296 by omega)
    exact ⟨Int.natCast_nonneg _, by omega⟩
  rw [if_neg g7]
  by_cases g8 : k = 8
  · rw [if_pos g8]
    have : x.toNat >>> y.toNat ≤ x.toNat := Nat.shiftRight_le _ _
    exact ⟨Int.natCast_nonneg _, by omega⟩
  rw [if_neg g8]
  by_cases g9 : k = 9
  · rw [if_pos g9]
    have : x.toNat &&& y.toNat ≤ x.toNat := Nat.and_le_left
    exact ⟨Int.natCast_nonneg _, by omega⟩
  rw [if_neg g9]
  by_cases g10 : k = 10
  · rw [if_pos g10]; exact w32_v _
  rw [if_neg g10]
  by_cases g11 : k = 11
  · rw [if_pos g11]; exact w32_v _
  rw [if_neg g11]
  by_cases g12 : k = 12
  · rw [if_pos g12]
    have : x.toNat ||| y.toNat < 2 ^ 32 := Nat.or_lt_two_pow hX hY
    exact ⟨Int.natCast_nonneg _, by omega⟩
  rw [if_neg g12]
  have : x.toNat ^^^ y.toNat < 2 ^ 32 := Nat.xor_lt_two_pow hX hY
  exact ⟨Int.natCast_nonneg _, by omega⟩
theorem num_u {p : Prg} {f : Fnc} {x : Ex} {v : Int} (hg : ∀ g ∈ p.globals, U32 g.num) (ha : ∀ a ∈ x.args, U32 a.num) (h : numP p f x = some v) : U32 v := by
  unfold numP at h
  split at h
  · split at h
    · injection h with h; subst h
      unfold gnumOf; split
      · rename_i g hgx; exact hg g (List.mem_of_getElem? hgx)
      · exact ⟨by decide, by decide⟩
    · cases h
  split at h
  · split at h
    · rename_i a r he
      split at h
      · injection h with h; subst h
        exact opP_u (ha a (by rw [he]; exact List.mem_cons_self ..)) ⟨by decide, by decide⟩
      · cases h
    · cases h
  split at h
  · split at h
    · rename_i a b r he
      have h1 := ha a (by rw [he]; exact List.mem_cons_self ..)
      have h2 := ha b (by rw [he]; exact List.mem_cons_of_mem _ (List.mem_cons_self ..))
      split at h
      · split at h
        · split at h
          · injection h with h; subst h; exact opP_u h1 h2
          · cases h
        split at h
        · injection h with h; subst h; exact ⟨by decide, by decide⟩
        split at h
        · injection h with h; subst h; exact ⟨by decide, by decide⟩
        · cases h
      · cases h
    · cases h
  · cases h
theorem all3_mid {β γ : Type} {R : Hl → β → γ → Prop} {P : β → Prop} (hR : ∀ M x cs, R M x cs → P x) {Ms : List Hl} {xs : List β} {css : List γ} (h : All3 R Ms xs css) : ∀ x ∈ xs, P x := by
  induction h with
  | nil => exact fun c h => by cases h
  | cons h1 _ ih => intro c hc; rcases List.mem_cons.1 hc with rfl | hc
                    · exact hR _ _ _ h1
                    · exact ih c hc
theorem OXs.u32 {d : Nat} {M : Hl} {A : Option Addr} {n c : Nat} {xs : List Ex} (h : OXs d M A n c xs) : ∀ x ∈ xs, U32 x.num := by
  obtain ⟨css, Ms, R, _, _, h3, _⟩ := h
  exact all3_mid (fun M x cs h => by obtain ⟨_, _, _, _, _, _, _, hu, _⟩ := h.eq; exact hu) h3
theorem own_blk5 {e : Nat} {M : Hl} {A : Option Addr} {n c : Nat} {xs : List Value} (h : FL.Own e 5 M (.slice A n c) n xs) (hn : 0 < n) : ∃ b ys, A = some ⟨b, 0, none⟩ ∧ M = [(b, cb (xs ++ ys) e)] ∧ ∀ zs : List Value, zs.length = xs.length → FL.Own e 5 [(b, cb (zs ++ ys) e)] (.slice (some ⟨b, 0, none⟩) n c) n zs := by
  generalize hv : Value.slice A n c = v at h
  cases h with
  | nil => injection hv with h1 h2 h3; omega
  | blk b cap n2 xs ys h1 h2 h3 h4 =>
    injection hv with e1 e2 e3
    subst e1; subst e3
    exact ⟨b, ys, rfl, rfl, fun zs hz => .blk b c n zs ys (by rw [hz]; exact h1) (by rw [hz]; exact h2) h3 h4⟩
theorem part_at {α : Type} {g : α → α} {l vs1 vs2 : List α} {v x : α} {k : Nat} (h : (l.take k).map g ++ l.drop k = vs1 ++ v :: vs2) (hk : vs1.length = k) (hx : l[k]? = some x) : vs1 = (l.take k).map g ∧ v = x ∧ vs2 = l.drop (k + 1) := by
  obtain ⟨hl, rfl⟩ := List.getElem?_eq_some_iff.1 hx
  rw [List.drop_eq_getElem_cons hl] at h
  have hlen : ((l.take k).map g).length = k := by rw [List.length_map, List.length_take]; omega
  obtain ⟨h1, h2⟩ := List.append_inj h (by rw [hlen, hk])
  injection h2 with h2 h3
  exact ⟨h1.symm, h2.symm, h3.symm⟩
theorem part_next {α : Type} {g : α → α} {l : List α} {x : α} {k : Nat} (hx : l[k]? = some x) : (l.take (k + 1)).map g ++ l.drop (k + 1) = (l.take k).map g ++ g x :: l.drop (k + 1) := by rw [take_snocE hx]; simp
theorem numOk : FnOK Tryz.prog 92 := ⟨_, Tryz.func92, by kernel_rfl, by kernel_rfl⟩
theorem numO_ac (D : Nat) (X L : Hl) (s : World) (bm : Nat) (Ag Af : Option Addr) (ng cg nf cf : Nat) (p : Prg) (hM : NmOK s bm p) (hGl : Glos s Ag ng cg p.globals) (f : Fnc) (B1 B2 B3 : Option Addr) (m1 d1 m2 d2 m3 d3 : Nat) (hpx : Strs s B1 m1 d1 f.params) (hlx : Strs s B2 m2 d2 f.locals) (d : Nat) (x : Ex) (M : Hl) (A : Option Addr) (n c : Nat) (hO : OXs d M A n c x.args) (hl6 : x.kind = 6 → 1 ≤ x.args.length) (hl7 : x.kind = 7 → 2 ≤ x.args.length) : AC Tryz.prog D 92 [.agg #[.slice Ag ng cg, .slice Af nf cf, .map (some bm), St f.name, .slice B1 m1 d1, .slice B2 m2 d2, .slice B3 m3 d3], .agg #[.int .i64 x.kind, .int .i64 x.op, .int .u32 x.num, St x.name, .slice A n c]] (X ++ (M ++ L)) s fun v L' _ => v = .tuple #[.int .u32 ((numP p f x).getD 0), .bool (numP p f x).isSome] ∧ L' = X ++ (M ++ L) :=
  AC.perm (List.perm_append_comm_assoc ..) (AC.lend M hO.cb numOk fun ho => number2_ac D (X ++ L) _ bm Ag Af ng cg nf cf p (hM.le (fill_le ho)) (hGl.le (fill_le ho)) f B1 B2 B3 m1 d1 m2 d2 m3 d3 (hpx.le (fill_le ho)) (hlx.le (fill_le ho)) d x A n c (hO.pub (pub_own ho)) hl6 hl7) fun v L1 s1 ⟨g0, g1⟩ => ⟨_, by rw [← g1]; exact List.perm_append_comm_assoc .., g0, rfl⟩
def FDX (D d : Nat) : Prop := ∀ (L : Hl) (s : World) (bm : Nat) (Ag Af : Option Addr) (ng cg nf cf : Nat) (p : Prg) (hM : NmOK s bm p) (hGl : Glos s Ag ng cg p.globals) (f : Fnc) (B1 B2 B3 : Option Addr) (m1 d1 m2 d2 m3 d3 : Nat) (hpx : Strs s B1 m1 d1 f.params) (hlx : Strs s B2 m2 d2 f.locals) (M : Hl) (A : Option Addr) (n c : Nat) (xs : List Ex), OXs d M A n c xs → exVs xs = true → AC Tryz.prog D 71 [.agg #[.slice Ag ng cg, .slice Af nf cf, .map (some bm), St f.name, .slice B1 m1 d1, .slice B2 m2 d2, .slice B3 m3 d3], .slice A n c] (M ++ L) s fun v L' _ => ∃ M', L' = M' ++ L ∧ v = .tuple #[] ∧ OXs d M' A n c (fdXs p f xs)
theorem fdx_step (D d : Nat) (ih : ∀ e, d = e + 1 → FDX D e) (L : Hl) (s : World) (bm : Nat) (Ag Af : Option Addr) (ng cg nf cf : Nat) (p : Prg) (hM : NmOK s bm p) (hGl : Glos s Ag ng cg p.globals) (f : Fnc) (B1 B2 B3 : Option Addr) (m1 d1 m2 d2 m3 d3 : Nat) (hpx : Strs s B1 m1 d1 f.params) (hlx : Strs s B2 m2 d2 f.locals) (M : Hl) (A : Option Addr) (n c : Nat) (xs : List Ex) (hOX : OXs d M A n c xs) (hxv : exVs xs = true) : AC Tryz.prog D 71 [.agg #[.slice Ag ng cg, .slice Af nf cf, .map (some bm), St f.name, .slice B1 m1 d1, .slice B2 m2 d2, .slice B3 m3 d3], .slice A n c] (M ++ L) s fun v L' _ => ∃ M', L' = M' ++ L ∧ v = .tuple #[] ∧ OXs d M' A n c (fdXs p f xs) := by
 obtain ⟨css0, Ms0, R0, hO0, rfl, hA0, hn⟩ := hOX
 have hgu : ∀ g ∈ p.globals, U32 g.num := fun g hg => (hGl.u g hg).1
 have hsl := Own.slice hO0
 obtain ⟨A_, c_, hsl1, hsl2, hsl3⟩ := hsl
 injection hsl1 with _ _ hsl4
 subst hsl4
 rw [List.append_assoc]
 refine AC_enter (TT := TT) (fn := Tryz.f71) TT_ok Tryz.func71 V Z Tryz.ntmps71 Z (rs := []) Z [(0, _), (1, _)] Z <| Sr <| JO_boxA Z Z ?_
 intro β1 s1 h1
 refine Nt <| Sr <| Zqm Z Z <| Ws Y4 <| Zqm Z Z <| Nt <| Zp <| ?_
 refine JC_loop (γ := Nat × Hl × Hl) (fun g => [(1, _), (2, _), (8, _), (9, .int .i64 (g.1 : Int))]) (fun g => _ :: (g.2.1 ++ (g.2.2 ++ L))) (fun g tw => Le D s1 tw ∧ (g.1 ≤ n ∧ ∃ css Ms, FL.Own 61 5 g.2.1 (.slice A n c) n (List.flatten css) ∧ g.2.2 = List.flatten Ms ∧ All3 (OX d) Ms ((xs.take g.1).map (fdX p f) ++ xs.drop g.1) css)) (fun g => n - g.1) (fun _ _ _ h hl => ⟨h.1.trans hl, h.2⟩) (0, R0, Ms0.flatten) (.cons Z (.cons Z (.cons Z (.cons Z (.nil _))))) Z ⟨Le.refl _, ⟨Nat.zero_le _, css0, Ms0, hO0, Z, by simpa using hA0⟩⟩ ?_
 intro g s2 I2
 obtain ⟨k, R, Fo⟩ := g
 obtain ⟨hk0, css, Ms, hO, hF, hA3⟩ := I2.2
 simp only at hk0 hO hF hA3
 dsimp only
 refine Sr <| Zqlt Z Z Z <| Nt <| Zs <| ?_
 refine JC_ifD Z (fun c3 => ?_) (fun c3 => ?_)
 ·
  have hk : k < n := by omega
  obtain ⟨b, ys, rfl, rfl, hOw⟩ := own_blk5 hO O
  obtain ⟨x, hx⟩ : ∃ x, xs[k]? = some x := ⟨_, List.getElem?_eq_getElem O⟩
  obtain ⟨us1, u, us2, vs1, v, vs2, ws1, w0, ws2, rfl, hvv, rfl, hvl, hxw, hA1, hA2⟩ := hA3.at_ (k := k) (by rw [List.length_append, List.length_map, List.length_take, List.length_drop]; omega)
  obtain ⟨hvs1, hvx, hvs2⟩ := part_at hvv hvl hx
  obtain rfl : x = v := hvx.symm
  obtain ⟨e, A', n', c', hd, hw0, hxO, hux, hnl⟩ := hxw.eq
  have hwl : w0.length = 5 := by rw [hw0]; rfl
  have hxv1 := (exV_at hxv hx).1
  obtain ⟨hxc, hxva⟩ := exV_eq hxv1
  have hal := (exC_args hxc).2.2.1
  have q6 : (x.withA (fdXs p f x.args)).kind = 6 → 1 ≤ (x.withA (fdXs p f x.args)).args.length := fun q => by
    have h1 : leastE x.kind = 1 := by rw [show x.kind = 6 from q]; rfl
    show 1 ≤ (fdXs p f x.args).length
    rw [fdXs_len]; omega
  have q7 : (x.withA (fdXs p f x.args)).kind = 7 → 2 ≤ (x.withA (fdXs p f x.args)).args.length := fun q => by
    have h1 : leastE x.kind = 2 := by rw [show x.kind = 7 from q]; rfl
    show 2 ≤ (fdXs p f x.args).length
    rw [fdXs_len]; omega
  obtain ⟨P, hP0⟩ : ∃ P, P = ws1.flatten := ⟨_, rfl⟩
  obtain ⟨Q, hQ0⟩ : ∃ Q, Q = ws2.flatten ++ ys := ⟨_, rfl⟩
  obtain ⟨F1, hF1⟩ : ∃ F, F = us1.flatten := ⟨_, rfl⟩
  obtain ⟨F2, hF2⟩ : ∃ F, F = us2.flatten := ⟨_, rfl⟩
  have hPQ : ∀ w : List Value, P ++ (w ++ Q) = (ws1 ++ w :: ws2).flatten ++ ys := fun w => by rw [hP0, hQ0]; simp [List.append_assoc]
  have hP : P.length = 0 + k * 5 := by rw [hP0, rows_flat hA1, hvl, Nat.zero_add]
  have hFF : Fo = F1 ++ (u ++ F2) := by rw [hF, hF1, hF2]; simp
  subst hFF
  rw [← hPQ, List.append_assoc, List.append_assoc]
  simp only [c9, n9]
  refine Zk <| Zt <| Zs <| Zp <| Sr <| Zqm Z Z <| At Z Z <| Zs <| JC_drawT drawsMixed 7 Z 2 ?_
  intro s4 h4
  refine za 0 Z (QE_ldA 0 [_, _, _, _, _, _, _] Z Z Z Z Z) Z <| za 1 Z (QE_mv Z) Z <| za 2 Z (QE_mv Z) Z <| za 3 Z (QE_iaN Z Z Z Z Z Z hk) Z <| za 4 Z (QE_fa Z Z Z Z) Z <| za 5 Z (QE_ld1 1 Z Z Z Z ((nth_mid (c := w0) hP (j := 4) O).trans (by rw [hw0]; rfl))) Z <| JA_1 6 V <| Jb Z trivial Z Z Z (AC.mid (_ :: _ :: F1) u (F2 ++ L) (ih e hd _ _ bm Ag Af ng cg nf cf p (hM.le (h1.t I2.1|>.t h4)) (hGl.le (h1.t I2.1|>.t h4)) f B1 B2 B3 m1 d1 m2 d2 m3 d3 (hpx.le (h1.t I2.1|>.t h4)) (hlx.le (h1.t I2.1|>.t h4)) u A' n' c' x.args hxO hxva)) ?_
  rintro _ _ s5 h5 ⟨u2, rfl, rfl, hu2⟩
  refine ⟨(fun x hx _ => memK2 hx), ?_⟩
  simp only [List.cons_append]
  refine JA_done V <| Zt <| Zs <| JC_drawT drawsMixed 11 Z 2 ?_
  intro s6 h6
  refine za 0 Z (QE_ldA 0 [_, _, _, _, _, _, _] Z Z Z Z Z) Z <| za 1 Z (QE_mv Z) Z <| za 2 Z (QE_mv Z) Z <| za 3 Z (QE_iaN Z Z Z Z Z Z hk) Z <| za 4 Z (QE_cast (QE_ldA 1 w0 Z Z Z Z (cut_mid hP hwl)) (show Value.agg w0.toArray = .agg #[.int .i64 x.kind, .int .i64 x.op, .int .u32 x.num, St x.name, .slice A' n' c'] by rw [hw0])) Z <| JA_1 5 V ?_
  refine Jb Z trivial Z Z Z (numO_ac D (_ :: _ :: F1) (F2 ++ L) _ bm Ag Af ng cg nf cf p (hM.le (h1.t I2.1|>.t h4|>.t h5|>.t h6)) (hGl.le (h1.t I2.1|>.t h4|>.t h5|>.t h6)) f B1 B2 B3 m1 d1 m2 d2 m3 d3 (hpx.le (h1.t I2.1|>.t h4|>.t h5|>.t h6)) (hlx.le (h1.t I2.1|>.t h4|>.t h5|>.t h6)) e (x.withA (fdXs p f x.args)) u2 A' n' c' hu2 q6 q7) ?_
  rintro _ _ s7 h7 ⟨rfl, rfl⟩
  refine ⟨(fun x hx _ => memK2 hx), ?_⟩
  simp only [List.cons_append]
  refine za 6 Z (QE_mv Z) Z <| za 7 Z (QE_ext Z Z) Z <| za 8 Z (QE_ext Z Z) Z <| za 9 Z (QE_as Z) Z <| za 10 Z (QE_as Z) Z <| JA_done V <| Zt <| Sr <| Zqm Z Z <| Nt <| ?_
  refine JC_if Z (fun c8 => ?_) (fun c8 => ?_)
  ·
   obtain ⟨v9, hnum⟩ := Option.isSome_iff_exists.1 c8
   have hau : ∀ a ∈ (x.withA (fdXs p f x.args)).args, U32 a.num := hu2.u32
   obtain ⟨w9, hw9⟩ : ∃ w : List Value, w = [.int .i64 1, .int .i64 0, .int .u32 v9, St [], .slice none 0 0] := ⟨_, rfl⟩
   refine Zr <| Zqm Z Z <| Zqm Z Z <| Zqm Z Z <| JO_q (QE_cast (QE_build [(_, _), (_, _)] [_, _, _, _, _] Z Z Z Z Z Z) (show Value.agg #[.int .i64 1, .int .i64 0, .int .u32 ((numP p f (x.withA (fdXs p f x.args))).getD 0), St [], .slice none 0 0] = .agg #[.int .i64 1, .int .i64 0, .int .u32 v9, St [], .slice none 0 0] by rw [hnum]; rfl)) Z <| JO_q (QE_iaN Z Z Z Z Z Z hk) Z <| JO_st 1 (P ++ (w9 ++ Q)) Z Z Z Z Z (ble_mid hP hwl) Z (by rw [hw9]; exact splice_mid hP (show 5 = w0.length from hwl.symm)) Z <| Zn <| Zb <| Zt <| JC_pubX (_ :: _ :: F1) u2 _ ?_
   intro s10 h10 _
   simp only [List.cons_append]
   rw [show F1 ++ (F2 ++ L) = (F1 ++ F2) ++ L from (List.append_assoc ..).symm]
   refine Zr <| Zqadd Z Z Z (w64 O O) <| Zqm Z Z <| Zn <| ?_
   refine thenQ_n ⟨(k + 1, [(b, cb (P ++ (w9 ++ Q)) 61)], F1 ++ F2), [], kp, Z, ⟨(I2.1.t h4|>.t h5|>.t h6|>.t h7|>.t h10), ⟨by simp only; omega, ws1 ++ w9 :: ws2, us1 ++ [] :: us2, by simp only; rw [hPQ]; exact hOw _ (by simp [hwl, hw9] <;> omega), by simp [hF1, hF2], by simp only; rw [part_next hx, fdX_some hnum, ← hvs1, ← hvs2]; exact hA1.app (.cons (hd ▸ hw9 ▸ OX.mk (x := .mk 1 0 v9 [] []) (OXs.nil _) (num_u hgu hau hnum) (Nat.zero_le _)) hA2)⟩⟩, (by simp only; omega)⟩
  have hnum : numP p f (x.withA (fdXs p f x.args)) = none := Option.isNone_iff_eq_none.1 (by rw [← Option.not_isSome, c8]; rfl)
  refine Zk <| Zb <| Zt <| ?_
  rw [show F1 ++ (u2 ++ (F2 ++ L)) = (F1 ++ (u2 ++ F2)) ++ L from by simp only [List.append_assoc]]
  refine Zr <| Zqadd Z Z Z (w64 O O) <| Zqm Z Z <| Zn <| ?_
  refine thenQ_n ⟨(k + 1, [(b, cb (P ++ (w0 ++ Q)) 61)], F1 ++ (u2 ++ F2)), [], kp, Z, ⟨(I2.1.t h4|>.t h5|>.t h6|>.t h7), ⟨by simp only; omega, ws1 ++ w0 :: ws2, us1 ++ u2 :: us2, by simp only; rw [hPQ]; exact hOw _ (by simp), by simp [hF1, hF2], by simp only; rw [part_next hx, fdX_none hnum, ← hvs1, ← hvs2]; exact hA1.app (.cons (hd ▸ hw0 ▸ OX.mk (x := x.withA (fdXs p f x.args)) hu2 hux hnl) hA2)⟩⟩, (by simp only; omega)⟩
 obtain rfl : n = k := by omega
 rw [List.take_of_length_le O, List.drop_eq_nil_of_le O, List.append_nil, ← fdXs_map] at hA3
 refine Zl <| Zv <| Zv <| Zd <| ?_
 refine retQ_mk [_] _ (.inl Z) (.nil) Z (h1.t I2.1) (fun sR hS2 => ?_)
 exact ⟨R ++ Fo, (List.append_assoc ..).symm, rfl, css, Ms, R, hO, by rw [hF], hA3, by rw [fdXs_len]; exact hn⟩
theorem fdx (D : Nat) : ∀ d, FDX D d
  | 0 => fun L s bm Ag Af ng cg nf cf p hM hGl f B1 B2 B3 m1 d1 m2 d2 m3 d3 hpx hlx M A n c xs h1 h2 => fdx_step D 0 (fun e h => by omega) L s bm Ag Af ng cg nf cf p hM hGl f B1 B2 B3 m1 d1 m2 d2 m3 d3 hpx hlx M A n c xs h1 h2
  | d + 1 => fun L s bm Ag Af ng cg nf cf p hM hGl f B1 B2 B3 m1 d1 m2 d2 m3 d3 hpx hlx M A n c xs h1 h2 => fdx_step D (d + 1) (fun e h => (show d = e by omega) ▸ fdx D d) L s bm Ag Af ng cg nf cf p hM hGl f B1 B2 B3 m1 d1 m2 d2 m3 d3 hpx hlx M A n c xs h1 h2
mutual
def fdS (p : Prg) (f : Fnc) : Stm → Stm
  | .mk k nm es b e => .mk k nm (fdXs p f es) (fdSs p f b) (fdSs p f e)
def fdSs (p : Prg) (f : Fnc) : List Stm → List Stm
  | [] => []
  | x :: r => fdS p f x :: fdSs p f r
end
theorem fdSs_map (p : Prg) (f : Fnc) : ∀ l : List Stm, fdSs p f l = l.map (fdS p f)
  | [] => rfl
  | x :: r => by rw [fdSs, fdSs_map p f r]; rfl
theorem fdS_eq (p : Prg) (f : Fnc) (x : Stm) : fdS p f x = .mk x.kind x.name (fdXs p f x.exprs) (fdSs p f x.body) (fdSs p f x.els) := by cases x; rfl
def FDS (D d : Nat) : Prop := ∀ (L : Hl) (s : World) (bm : Nat) (Ag Af : Option Addr) (ng cg nf cf : Nat) (p : Prg) (hM : NmOK s bm p) (hGl : Glos s Ag ng cg p.globals) (f : Fnc) (B1 B2 B3 : Option Addr) (m1 d1 m2 d2 m3 d3 : Nat) (hpx : Strs s B1 m1 d1 f.params) (hlx : Strs s B2 m2 d2 f.locals) (M : Hl) (A : Option Addr) (n c : Nat) (xs : List Stm) (lv : Nat), SOs d s M A n c xs → stVs xs lv = true → AC Tryz.prog D 46 [.agg #[.slice Ag ng cg, .slice Af nf cf, .map (some bm), St f.name, .slice B1 m1 d1, .slice B2 m2 d2, .slice B3 m3 d3], .slice A n c] (M ++ L) s fun v L' s' => ∃ M', L' = M' ++ L ∧ v = .tuple #[] ∧ SOs d s' M' A n c (fdSs p f xs)
theorem fds_of {D d : Nat} {g : FuncId} {args : List Value} {L L0 : Hl} {s : World} {A : Option Addr} {n c : Nat} {xs : List Stm} (h : AC Tryz.prog D g args L0 s fun v L' s' => ∃ M', L' = M' ++ L ∧ v = .tuple #[] ∧ ∀ s2, Le D s' s2 → SOs d s2 M' A n c xs) : AC Tryz.prog D g args L0 s fun v L' s' => ∃ M', L' = M' ++ L ∧ v = .tuple #[] ∧ SOs d s' M' A n c xs := h.mono fun v L' s' _ ⟨M', h1, h2, h3⟩ => ⟨M', h1, h2, h3 _ (Le.refl _)⟩
theorem memK6 {x a b c d e f : Nat × Obj} {R R' : Hl} (hx : x ∈ (a :: b :: c :: d :: e :: f :: R).take 6) : x ∈ a :: b :: c :: d :: e :: f :: R' := List.mem_append_left R' (show x ∈ [a, b, c, d, e, f] from hx)
theorem fds_step (D d : Nat) (ih : ∀ e, d = e + 1 → FDS D e) (L : Hl) (s : World) (bm : Nat) (Ag Af : Option Addr) (ng cg nf cf : Nat) (p : Prg) (hM : NmOK s bm p) (hGl : Glos s Ag ng cg p.globals) (f : Fnc) (B1 B2 B3 : Option Addr) (m1 d1 m2 d2 m3 d3 : Nat) (hpx : Strs s B1 m1 d1 f.params) (hlx : Strs s B2 m2 d2 f.locals) (M : Hl) (A : Option Addr) (n c : Nat) (xs : List Stm) (lv : Nat) (hSO : SOs d s M A n c xs) (hxv : stVs xs lv = true) : AC Tryz.prog D 46 [.agg #[.slice Ag ng cg, .slice Af nf cf, .map (some bm), St f.name, .slice B1 m1 d1, .slice B2 m2 d2, .slice B3 m3 d3], .slice A n c] (M ++ L) s fun v L' s' => ∃ M', L' = M' ++ L ∧ v = .tuple #[] ∧ ∀ s2, Le D s' s2 → SOs d s2 M' A n c (fdSs p f xs) := by
 obtain ⟨css, Ms0, rfl, hRw, hA0⟩ := hSO
 have hn : n = xs.length := by rw [hRw.1]; exact hA0.len.2
 have hc1 := hRw.2.1
 have hc2 := hRw.2.2.1
 refine AC_enter (TT := TT) (fn := Tryz.f46) TT_ok Tryz.func46 V Z Tryz.ntmps46 Z (rs := []) Z [(0, _), (1, _)] Z <| Sr <| JO_boxA Z Z ?_
 intro β1 s1 h1
 refine Nt <| Sr <| Zqm Z Z <| Ws Y4 <| Zqm Z Z <| Nt <| Zp <| ?_
 refine JC_loop (γ := Nat × Hl) (fun g => [(1, _), (2, _), (6, _), (7, .int .i64 (g.1 : Int))]) (fun g => _ :: (g.2 ++ L)) (fun g tw => Le D s1 tw ∧ (g.1 ≤ n ∧ ∃ Ms, g.2 = List.flatten Ms ∧ All3 (SO d tw) Ms ((xs.take g.1).map (fdS p f) ++ xs.drop g.1) css)) (fun g => n - g.1) (fun _ _ _ h hl => ⟨h.1.trans hl, ⟨h.2.1, by obtain ⟨Ms, q2, q3⟩ := h.2.2; exact ⟨Ms, q2, q3.mono fun _ _ _ k => SO.le hl k⟩⟩⟩) (0, Ms0.flatten) (.cons Z (.cons Z (.cons Z (.cons Z (.nil _))))) Z ⟨Le.refl _, ⟨Nat.zero_le _, Ms0, Z, by simpa using hA0.mono fun _ _ _ k => SO.le h1 k⟩⟩ ?_
 intro g s2 I2
 obtain ⟨k, Fo⟩ := g
 obtain ⟨hk0, Ms, hF, hA3⟩ := I2.2
 simp only at hk0 hF hA3
 dsimp only
 refine Sr <| Zqlt Z Z Z <| Nt <| Zs <| ?_
 refine JC_ifD Z (fun c3 => ?_) (fun c3 => ?_)
 ·
  have hk : k < n := by omega
  obtain ⟨x, hx⟩ : ∃ x, xs[k]? = some x := ⟨_, List.getElem?_eq_getElem O⟩
  obtain ⟨us1, u, us2, vs1, v, vs2, ws1, w0, ws2, rfl, hvv, hcs, hvl, hxw, hA1, hA2⟩ := hA3.at_ (k := k) (by rw [List.length_append, List.length_map, List.length_take, List.length_drop]; omega)
  obtain ⟨hvs1, hvx, hvs2⟩ := part_at hvv hvl hx
  obtain rfl : x = v := hvx.symm
  obtain ⟨e, A1, n1, c1, A2, n2, c2, A3, n3, c3, M1, M2, M3, hd, hw0, rfl, hxO, hxB, hxE, hnl⟩ := hxw.eq
  have hw : css[k]? = some w0 := by
    have := hA1.len
    rw [hcs, List.getElem?_append_right O, show k - ws1.length = 0 by omega]; rfl
  obtain ⟨b, off, rfl, hcx⟩ := hRw.at_ hw
  rw [hw0] at hcx
  obtain ⟨hvx1, _⟩ := stV_at hxv hx
  obtain ⟨_, _, hxe, hxb, hxl⟩ := stV_eq hvx1
  obtain ⟨F1, hF1⟩ : ∃ F, F = us1.flatten := ⟨_, rfl⟩
  obtain ⟨F2, hF2⟩ : ∃ F, F = us2.flatten := ⟨_, rfl⟩
  have hFF : Fo = F1 ++ ((M1 ++ (M2 ++ M3)) ++ F2) := by rw [hF, hF1, hF2]; simp
  subst hFF
  rw [show (F1 ++ ((M1 ++ (M2 ++ M3)) ++ F2)) ++ L = F1 ++ (M1 ++ (M2 ++ (M3 ++ (F2 ++ L)))) from by simp only [List.append_assoc]]
  refine Zk <| Zt <| Zs <| Zp <| Sr <| Zqm Z Z <| At Z Z <| Zs <| JC_drawT drawsMixed 7 Z 1 ?_
  intro s4 h4
  refine za 0 Z (QE_ldA 0 [_, _, _, _, _, _, _] Z Z Z Z Z) Z <| za 1 Z (QE_mv Z) Z <| za 2 Z (QE_mv Z) Z <| za 3 Z (QE_iaN Z Z Z Z Z Z hk) Z <| za 4 Z (QE_fa Z Z Z Z) Z <| za 5 Z (QE_ldsR 2 Z Z Z (hcx.le (h1.t I2.1|>.t h4)) Z) Z <| JA_1 6 V <| Jb Z trivial Z Z Z (AC.mid (_ :: F1) M1 (M2 ++ (M3 ++ (F2 ++ L))) (fdx D e _ _ bm Ag Af ng cg nf cf p (hM.le (h1.t I2.1|>.t h4)) (hGl.le (h1.t I2.1|>.t h4)) f B1 B2 B3 m1 d1 m2 d2 m3 d3 (hpx.le (h1.t I2.1|>.t h4)) (hlx.le (h1.t I2.1|>.t h4)) M1 A1 n1 c1 x.exprs hxO hxe)) ?_
  rintro _ _ s5 h5 ⟨N1, rfl, rfl, hu1⟩
  refine ⟨(fun x hx _ => memK1 hx), ?_⟩
  simp only [List.cons_append]
  rw [show F1 ++ (N1 ++ (M2 ++ (M3 ++ (F2 ++ L)))) = (F1 ++ N1) ++ (M2 ++ (M3 ++ (F2 ++ L))) from (List.append_assoc ..).symm]
  refine JA_done V <| Zt <| Zs <| JC_drawT drawsMixed 7 Z 1 ?_
  intro s6 h6
  refine za 0 Z (QE_ldA 0 [_, _, _, _, _, _, _] Z Z Z Z Z) Z <| za 1 Z (QE_mv Z) Z <| za 2 Z (QE_mv Z) Z <| za 3 Z (QE_iaN Z Z Z Z Z Z hk) Z <| za 4 Z (QE_fa Z Z Z Z) Z <| za 5 Z (QE_ldsR 3 Z Z Z (hcx.le (h1.t I2.1|>.t h4|>.t h5|>.t h6)) Z) Z <| JA_1 6 V ?_
  refine Jb Z trivial Z Z Z (AC.mid (_ :: (F1 ++ N1)) M2 (M3 ++ (F2 ++ L)) (ih e hd _ _ bm Ag Af ng cg nf cf p (hM.le (h1.t I2.1|>.t h4|>.t h5|>.t h6)) (hGl.le (h1.t I2.1|>.t h4|>.t h5|>.t h6)) f B1 B2 B3 m1 d1 m2 d2 m3 d3 (hpx.le (h1.t I2.1|>.t h4|>.t h5|>.t h6)) (hlx.le (h1.t I2.1|>.t h4|>.t h5|>.t h6)) M2 A2 n2 c2 x.body (lv + 1) (hxB.le (h4.t h5|>.t h6)) hxb)) ?_
  rintro _ _ s7 h7 ⟨N2, rfl, rfl, hu2⟩
  refine ⟨(fun x hx _ => memK1 hx), ?_⟩
  simp only [List.cons_append]
  rw [show (F1 ++ N1) ++ (N2 ++ (M3 ++ (F2 ++ L))) = ((F1 ++ N1) ++ N2) ++ (M3 ++ (F2 ++ L)) from (List.append_assoc ..).symm]
  refine JA_done V <| Zt <| JC_drawT drawsMixed 7 Z 1 ?_
  intro s8 h8
  refine za 0 Z (QE_ldA 0 [_, _, _, _, _, _, _] Z Z Z Z Z) Z <| za 1 Z (QE_mv Z) Z <| za 2 Z (QE_mv Z) Z <| za 3 Z (QE_iaN Z Z Z Z Z Z hk) Z <| za 4 Z (QE_fa Z Z Z Z) Z <| za 5 Z (QE_ldsR 4 Z Z Z (hcx.le (h1.t I2.1|>.t h4|>.t h5|>.t h6|>.t h7|>.t h8)) Z) Z <| JA_1 6 V ?_
  refine Jb Z trivial Z Z Z (AC.mid (_ :: ((F1 ++ N1) ++ N2)) M3 (F2 ++ L) (ih e hd _ _ bm Ag Af ng cg nf cf p (hM.le (h1.t I2.1|>.t h4|>.t h5|>.t h6|>.t h7|>.t h8)) (hGl.le (h1.t I2.1|>.t h4|>.t h5|>.t h6|>.t h7|>.t h8)) f B1 B2 B3 m1 d1 m2 d2 m3 d3 (hpx.le (h1.t I2.1|>.t h4|>.t h5|>.t h6|>.t h7|>.t h8)) (hlx.le (h1.t I2.1|>.t h4|>.t h5|>.t h6|>.t h7|>.t h8)) M3 A3 n3 c3 x.els (lv + 1) (hxE.le (h4.t h5|>.t h6|>.t h7|>.t h8)) hxl)) ?_
  rintro _ _ s9 h9 ⟨N3, rfl, rfl, hu3⟩
  refine ⟨(fun x hx _ => memK1 hx), ?_⟩
  simp only [List.cons_append]
  rw [show ((F1 ++ N1) ++ N2) ++ (N3 ++ (F2 ++ L)) = (F1 ++ ((N1 ++ (N2 ++ N3)) ++ F2)) ++ L from by simp only [List.append_assoc]]
  refine JA_done V <| Zb <| Zt <| Zr <| Zqadd Z Z Z (w64 O O) <| Zqm Z Z <| Zn <| ?_
  refine thenQ_n ⟨(k + 1, F1 ++ ((N1 ++ (N2 ++ N3)) ++ F2)), [], kp, Z, ⟨(I2.1.t h4|>.t h5|>.t h6|>.t h7|>.t h8|>.t h9), ⟨by simp only; omega, us1 ++ (N1 ++ (N2 ++ N3)) :: us2, by simp [hF1, hF2], by simp only; rw [part_next hx, ← hvs1, ← hvs2, hcs]; exact (hA1.mono fun _ _ _ k => SO.le (h4.t h5|>.t h6|>.t h7|>.t h8|>.t h9) k).app (.cons (hd ▸ hw0 ▸ fdS_eq p f x ▸ SO.mk (x := .mk x.kind x.name (fdXs p f x.exprs) (fdSs p f x.body) (fdSs p f x.els)) hu1 (hu2.le (h8.t h9)) (hu3.le (Lr D)) hnl) (hA2.mono fun _ _ _ k => SO.le (h4.t h5|>.t h6|>.t h7|>.t h8|>.t h9) k))⟩⟩, (by simp only; omega)⟩
 obtain rfl : n = k := by omega
 rw [List.take_of_length_le O, List.drop_eq_nil_of_le O, List.append_nil, ← fdSs_map] at hA3
 refine Zl <| Zv <| Zv <| Zd <| ?_
 refine retQ_mk [_] _ (.inl Z) (.nil) Z (h1.t I2.1) (fun sR hS2 => ?_)
 exact ⟨Fo, rfl, rfl, fun s2 hs2 => ⟨css, Ms, hF, hRw.le (h1.t I2.1|>.t (hS2.t hs2)), hA3.mono fun _ _ _ k => SO.le ((Lr D).t (hS2.t hs2)) k⟩⟩
theorem fds (D : Nat) : ∀ d, FDS D d
  | 0 => fun L s bm Ag Af ng cg nf cf p hM hGl f B1 B2 B3 m1 d1 m2 d2 m3 d3 hpx hlx M A n c xs lv h1 h2 => fds_of (fds_step D 0 (fun e h => by omega) L s bm Ag Af ng cg nf cf p hM hGl f B1 B2 B3 m1 d1 m2 d2 m3 d3 hpx hlx M A n c xs lv h1 h2)
  | d + 1 => fun L s bm Ag Af ng cg nf cf p hM hGl f B1 B2 B3 m1 d1 m2 d2 m3 d3 hpx hlx M A n c xs lv h1 h2 => fds_of (fds_step D (d + 1) (fun e h => (show d = e by omega) ▸ fds D d) L s bm Ag Af ng cg nf cf p hM hGl f B1 B2 B3 m1 d1 m2 d2 m3 d3 hpx hlx M A n c xs lv h1 h2)
def fdF (p : Prg) (x : Fnc) : Fnc := { x with body := fdSs p x x.body }
def foldP (p : Prg) : Prg := ⟨p.globals, p.funcs.map (fdF p)⟩
theorem mem_ins {x : Nat × Obj} {X M Y : Hl} (h : x ∈ X ++ Y) : x ∈ X ++ (M ++ Y) := by
  rcases List.mem_append.1 h with h | h
  · exact List.mem_append_left _ h
  · exact List.mem_append_right _ (List.mem_append_right _ h)
def foldR (p : Prg) : Prg × (Int × Int) := if (chkF p).1 ≠ 0 then (⟨[], []⟩, chkF p) else if (prgF (foldP p)).1 ≠ 0 then (⟨[], []⟩, prgF (foldP p)) else (foldP p, (0, 0))
theorem foldO_ac (D : Nat) (L : Hl) (s : World) (hG : GP s) (d : Nat) (p : Prg) (Ag Af : Option Addr) (ng cg nf cf : Nat) (hGl : Glos s Ag ng cg p.globals) (hFn : Fncs d s Af nf cf p.funcs) : AC Tryz.prog D 22 [.agg #[.slice Ag ng cg, .slice Af nf cf]] L s fun v L' s' => L = L' ∧ ∃ Bg mg eg Bf mf ef, v = .tuple #[.agg #[.slice Bg mg eg, .slice Bf mf ef], .agg #[.int .i64 (foldR p).2.1, .int .i64 (foldR p).2.2]] ∧ ∀ s2, Le D s' s2 → Glos s2 Bg mg eg (foldR p).1.globals ∧ Fncs d s2 Bf mf ef (foldR p).1.funcs := by
 have hn1 := hGl.1
 have hn2 := hFn.1
 have hU : prU p := ⟨hGl.u, hFn.u⟩
 refine AC_enter (TT := TT) (fn := Tryz.f22) TT_ok Tryz.func22 V Z Tryz.ntmps22 Z (rs := [.cell 2 25, .cell 3 28]) Z [(0, _)] Z <| Sr <| JO_boxA Z Z ?_
 intro β1 s1 h1
 refine JO_allocZ Z [_, _] Z Z ?_
 intro β2 s2 h2
 refine JO_allocZ Z [_, _] Z Z ?_
 intro β3 s3 h3
 refine Nt <| Zs <| Sr <| JO_q (QE_ldA 2 [_, _] Z Z Z Z Z) Z <| Jc Z Z Z (program_ac D _ _ (hG.le (h1.t h2|>.t h3)) d p Ag _ ng cg nf cf (hGl.le (h1.t h2|>.t h3)) (hFn.le (h1.t h2|>.t h3))) ?_
 rintro _ _ s4 h4 ⟨rfl, rfl⟩
 refine JO_allocZ Z [_, _] Z Z ?_
 intro β5 s5 h5
 refine Wt 0 [_, _] Y9 <| Nt <| Sr <| JO_q (QE_ldA 0 [_, _] Z Z Z Z Z) Z <| JO_q (QE_build [] [_, _] Z Z Z Z Z Z) Z <| JO_q (QE_ane Z Z (eqFault _ _ _ _)) Z <| Nt <| ?_
 refine JC_ifN Z (fun c6 => ?_) (fun c6 => ?_)
 ·
  have hb0 : (chkF p).1 ≠ 0 := fun h => c6 (by rw [chk_00 hU h]; exact ⟨rfl, rfl⟩)
  have hE : foldR p = (⟨[], []⟩, chkF p) := if_pos hb0
  refine Zs <| JC_drawE drawsMixed 4 Z [2, 1] (by intro x hx; exact eraseAll_mem hx) ?_
  intro s7 h7
  refine za 0 Z (QE_build [] [_, _] Z Z Z Z Z Z) Z <| za 1 Z (QE_ldA 0 [_, _] Z Z Z Z Z) Z <| JA_1 2 V <| Wu Z trivial 2 [_, _] Y9 (fun _ hx => sub_mem (sbY (sbN (sbY (sbE _)))) hx) <| JA_1 3 V <| Wu Z trivial 1 [_, _] Y9 (fun _ hx => sub_mem (sbY (sbN (sbY (sbE _)))) hx) <| JA_done V <| Zt <| Zo <| Zu <| ?_
  refine retQ_mk [_, _, _, _] L (.inr Z) (.agg (us := [_, _]) 2 Z Z Z Z Z (.agg (us := [_, _]) 1 Z Z Z Z Z (.nil))) Z (h1.t h2|>.t h3|>.t h4|>.t h5|>.t h7) (fun sR hS2 => ?_)
  rw [hE]
  exact ⟨rfl, none, 0, 0, none, 0, 0, rfl, fun s2 hs2 => ⟨glos_nil _, fncs_nil _ _⟩⟩
 have g4 := c6
 have g14 : ¬ (chkF p).1 ≠ 0 := fun h => h g4.1
 obtain ⟨hOK, hz0⟩ := OKP.of hU g4.1
 have hV := hOK.1
 have hV1 := hV.1
 have hV2 := hV.2.1
 have hVf := hV.2.2.2.1
 have hND := (name_nd (p := p) (by rw [hOK.2.1])).1
 refine Zk <| Zt <| ?_
 refine JC_cutN (γ := Nat × Nat × Hl × Value × Value × Nat) (fun g => [(5, .pointer (some ⟨g.1, 0, none⟩)), (6, .pointer (some ⟨g.2.1, 0, none⟩))]) (fun g => ((g.1, cb [g.2.2.2.1, g.2.2.2.2.1] 25) :: (g.2.1, cb [.slice Ag ng cg, .slice Af nf cf, .map (some g.2.2.2.2.2)] 68) :: g.2.2.1)) (fun g tw => (∃ Bg mg eg, g.2.2.2.1 = .slice Bg mg eg ∧ Glos tw Bg mg eg p.globals) ∧ (∃ Bf mf ef, g.2.2.2.2.1 = .slice Bf mf ef ∧ FOs d tw g.2.2.1 Bf mf ef p.funcs) ∧ NmOK tw g.2.2.2.2.2 p) (fun _ _ _ h hl => ⟨by obtain ⟨A, n, c, q1, q2⟩ := h.1; exact ⟨A, n, c, q1, q2.le hl⟩, by obtain ⟨A, n, c, q1, q2⟩ := h.2.1; exact ⟨A, n, c, q1, q2.le hl⟩, h.2.2.le hl⟩) ?_ ?_
 ·
  refine JC_drawT drawsMixed 8 Z 4 ?_
  intro s9 h9
  refine za 0 Z (QE_ldA 3 [_, _] Z Z Z Z Z) Z <| za 2 Z (QE_ldA 3 [_, _] Z Z Z Z Z) Z ?_
  refine JA_3 1 4 5 V ?_ ?_ ?_
  ·
   refine Jb Z trivial Z Z Z (AC.mid [_, _, _, _] [] L (cloneP_ac D _ _ d p Ag _ ng cg nf cf (hGl.le (h1.t h2|>.t h3|>.t h4|>.t h5|>.t h9)) (hFn.le (h1.t h2|>.t h3|>.t h4|>.t h5|>.t h9)) hV)) ?_
   rintro _ _ s10 h10 ⟨M1, rfl, Bg, mg, eg, Bf, mf, ef, rfl, hBG, hBF⟩
   refine ⟨(fun x _ h => mem_ins (X := [_, _, _, _]) (M := M1) (Y := L) h), ?_⟩
   simp only [c9, n9]
   refine JA_3 3 4 5 V ?_ ?_ ?_
   ·
    refine Jb Z trivial Z Z Z (open_ac D _ _ d p Ag _ ng cg nf cf (hGl.le (h1.t h2|>.t h3|>.t h4|>.t h5|>.t h9|>.t h10)) (hFn.le (h1.t h2|>.t h3|>.t h4|>.t h5|>.t h9|>.t h10)) hND) ?_
    rintro _ _ s11 h11 ⟨rfl, bm, rfl, hM⟩
    refine ⟨fun _ _ h => h, ?_⟩
    refine JA_2 4 5 V ?_ ?_
    ·
     refine JB_alloc Z trivial Z [_, _] Z Z ?_
     intro β12 s12 h12
     refine JA_1 5 V <| JB_alloc Z trivial Z [_, _, _] Z Z ?_
     intro β13 s13 h13
     refine JA_1 6 V <| Wu Z trivial 1 [_, _] Y9 (fun _ hx => sub_mem (sbN (sbY (sbY (sbY (sbY (sb0 _)))))) hx) <| JA_1 7 V <| Wu Z trivial 0 [_, _, _] Y9 (fun _ hx => sub_mem (sbN (sbY (sbY (sbY (sbY (sb0 _)))))) hx) <| JA_done V ?_
     refine thenQ_n (MidN.mk (β12, β13, M1, .slice Bg mg eg, .slice Bf mf ef, bm) [] (h9.t h10|>.t h11|>.t h12|>.t h13) (.cons Z (.cons Z sk)) (List.Perm.trans (List.Perm.trans (front_perm _ 0) (front_perm _ 1)) (.cons _ (.cons _ (List.perm_append_comm_assoc [_, _, _, _] M1 L)))) ⟨⟨_, _, _, Z, hBG.le (h11.t h12|>.t h13)⟩, ⟨_, _, _, Z, hBF.le (h11.t h12|>.t h13)⟩, hM.le (h12.t h13)⟩)
    refine JB_alloc Z trivial Z [_, _, _] Z Z ?_
    intro β14 s14 h14
    refine JA_1 4 V <| JB_alloc Z trivial Z [_, _] Z Z ?_
    intro β15 s15 h15
    refine JA_1 6 V <| Wu Z trivial 0 [_, _] Y9 (fun _ hx => sub_mem (sbN (sbY (sbY (sbY (sbY (sb0 _)))))) hx) <| JA_1 7 V <| Wu Z trivial 1 [_, _, _] Y9 (fun _ hx => sub_mem (sbN (sbY (sbY (sbY (sbY (sb0 _)))))) hx) <| JA_done V ?_
    refine thenQ_n (MidN.mk (β15, β14, M1, .slice Bg mg eg, .slice Bf mf ef, bm) [] (h9.t h10|>.t h11|>.t h14|>.t h15) (.cons Z (.cons Z sk)) (List.Perm.trans (List.Perm.trans (front_perm _ 1) (front_perm _ 1)) (.cons _ (.cons _ (List.perm_append_comm_assoc [_, _, _, _] M1 L)))) ⟨⟨_, _, _, Z, hBG.le (h11.t h14|>.t h15)⟩, ⟨_, _, _, Z, hBF.le (h11.t h14|>.t h15)⟩, hM.le (h14.t h15)⟩)
   ·
    refine JB_alloc Z trivial Z [_, _] Z Z ?_
    intro β16 s16 h16
    refine JA_2 3 5 V ?_ ?_
    ·
     refine Jb Z trivial Z Z Z (open_ac D _ _ d p Ag _ ng cg nf cf (hGl.le (h1.t h2|>.t h3|>.t h4|>.t h5|>.t h9|>.t h10|>.t h16)) (hFn.le (h1.t h2|>.t h3|>.t h4|>.t h5|>.t h9|>.t h10|>.t h16)) hND) ?_
     rintro _ _ s17 h17 ⟨rfl, bm, rfl, hM⟩
     refine ⟨fun _ _ h => h, ?_⟩
     refine JA_1 5 V <| JB_alloc Z trivial Z [_, _, _] Z Z ?_
     intro β18 s18 h18
     refine JA_1 6 V <| Wu Z trivial 1 [_, _] Y9 (fun _ hx => sub_mem (sbN (sbY (sbY (sbY (sbY (sb0 _)))))) hx) <| JA_1 7 V <| Wu Z trivial 0 [_, _, _] Y9 (fun _ hx => sub_mem (sbN (sbY (sbY (sbY (sbY (sb0 _)))))) hx) <| JA_done V ?_
     refine thenQ_n (MidN.mk (β16, β18, M1, .slice Bg mg eg, .slice Bf mf ef, bm) [] (h9.t h10|>.t h16|>.t h17|>.t h18) (.cons Z (.cons Z sk)) (List.Perm.trans (List.Perm.trans (front_perm _ 0) (front_perm _ 1)) (.cons _ (.cons _ (List.perm_append_comm_assoc [_, _, _, _] M1 L)))) ⟨⟨_, _, _, Z, hBG.le (h16.t h17|>.t h18)⟩, ⟨_, _, _, Z, hBF.le (h16.t h17|>.t h18)⟩, hM.le h18⟩)
    refine JB_alloc Z trivial Z [_, _, _] Z Z ?_
    intro β19 s19 h19
    refine JA_1 3 V <| Jb Z trivial Z Z Z (open_ac D _ _ d p Ag _ ng cg nf cf (hGl.le (h1.t h2|>.t h3|>.t h4|>.t h5|>.t h9|>.t h10|>.t h16|>.t h19)) (hFn.le (h1.t h2|>.t h3|>.t h4|>.t h5|>.t h9|>.t h10|>.t h16|>.t h19)) hND) ?_
    rintro _ _ s20 h20 ⟨rfl, bm, rfl, hM⟩
    refine ⟨fun _ _ h => h, ?_⟩
    refine JA_1 6 V <| Wu Z trivial 1 [_, _] Y9 (fun _ hx => sub_mem (sbN (sbY (sbY (sbY (sbY (sb0 _)))))) hx) <| JA_1 7 V <| Wu Z trivial 0 [_, _, _] Y9 (fun _ hx => sub_mem (sbN (sbY (sbY (sbY (sbY (sb0 _)))))) hx) <| JA_done V ?_
    refine thenQ_n (MidN.mk (β16, β19, M1, .slice Bg mg eg, .slice Bf mf ef, bm) [] (h9.t h10|>.t h16|>.t h19|>.t h20) (.cons Z (.cons Z sk)) (List.Perm.trans (List.Perm.trans (front_perm _ 0) (front_perm _ 1)) (.cons _ (.cons _ (List.perm_append_comm_assoc [_, _, _, _] M1 L)))) ⟨⟨_, _, _, Z, hBG.le (h16.t h19|>.t h20)⟩, ⟨_, _, _, Z, hBF.le (h16.t h19|>.t h20)⟩, hM.le (Lr D)⟩)
   refine JB_alloc Z trivial Z [_, _, _] Z Z ?_
   intro β21 s21 h21
   refine JA_2 3 4 V ?_ ?_
   ·
    refine Jb Z trivial Z Z Z (open_ac D _ _ d p Ag _ ng cg nf cf (hGl.le (h1.t h2|>.t h3|>.t h4|>.t h5|>.t h9|>.t h10|>.t h21)) (hFn.le (h1.t h2|>.t h3|>.t h4|>.t h5|>.t h9|>.t h10|>.t h21)) hND) ?_
    rintro _ _ s22 h22 ⟨rfl, bm, rfl, hM⟩
    refine ⟨fun _ _ h => h, ?_⟩
    refine JA_1 4 V <| JB_alloc Z trivial Z [_, _] Z Z ?_
    intro β23 s23 h23
    refine JA_1 6 V <| Wu Z trivial 0 [_, _] Y9 (fun _ hx => sub_mem (sbN (sbY (sbY (sbY (sbY (sb0 _)))))) hx) <| JA_1 7 V <| Wu Z trivial 1 [_, _, _] Y9 (fun _ hx => sub_mem (sbN (sbY (sbY (sbY (sbY (sb0 _)))))) hx) <| JA_done V ?_
    refine thenQ_n (MidN.mk (β23, β21, M1, .slice Bg mg eg, .slice Bf mf ef, bm) [] (h9.t h10|>.t h21|>.t h22|>.t h23) (.cons Z (.cons Z sk)) (List.Perm.trans (List.Perm.trans (front_perm _ 1) (front_perm _ 1)) (.cons _ (.cons _ (List.perm_append_comm_assoc [_, _, _, _] M1 L)))) ⟨⟨_, _, _, Z, hBG.le (h21.t h22|>.t h23)⟩, ⟨_, _, _, Z, hBF.le (h21.t h22|>.t h23)⟩, hM.le h23⟩)
   refine JB_alloc Z trivial Z [_, _] Z Z ?_
   intro β24 s24 h24
   refine JA_1 3 V <| Jb Z trivial Z Z Z (open_ac D _ _ d p Ag _ ng cg nf cf (hGl.le (h1.t h2|>.t h3|>.t h4|>.t h5|>.t h9|>.t h10|>.t h21|>.t h24)) (hFn.le (h1.t h2|>.t h3|>.t h4|>.t h5|>.t h9|>.t h10|>.t h21|>.t h24)) hND) ?_
   rintro _ _ s25 h25 ⟨rfl, bm, rfl, hM⟩
   refine ⟨fun _ _ h => h, ?_⟩
   refine JA_1 6 V <| Wu Z trivial 0 [_, _] Y9 (fun _ hx => sub_mem (sbN (sbY (sbY (sbY (sbY (sb0 _)))))) hx) <| JA_1 7 V <| Wu Z trivial 1 [_, _, _] Y9 (fun _ hx => sub_mem (sbN (sbY (sbY (sbY (sbY (sb0 _)))))) hx) <| JA_done V ?_
   refine thenQ_n (MidN.mk (β24, β21, M1, .slice Bg mg eg, .slice Bf mf ef, bm) [] (h9.t h10|>.t h21|>.t h24|>.t h25) (.cons Z (.cons Z sk)) (List.Perm.trans (List.Perm.trans (front_perm _ 1) (front_perm _ 1)) (.cons _ (.cons _ (List.perm_append_comm_assoc [_, _, _, _] M1 L)))) ⟨⟨_, _, _, Z, hBG.le (h21.t h24|>.t h25)⟩, ⟨_, _, _, Z, hBF.le (h21.t h24|>.t h25)⟩, hM.le (Lr D)⟩)
  ·
   refine JB_alloc Z trivial Z [_, _] Z Z ?_
   intro β26 s26 h26
   refine JA_2 1 5 V ?_ ?_
   ·
    refine Jb Z trivial Z Z Z (AC.mid [_, _, _, _, _] [] L (cloneP_ac D _ _ d p Ag _ ng cg nf cf (hGl.le (h1.t h2|>.t h3|>.t h4|>.t h5|>.t h9|>.t h26)) (hFn.le (h1.t h2|>.t h3|>.t h4|>.t h5|>.t h9|>.t h26)) hV)) ?_
    rintro _ _ s27 h27 ⟨M1, rfl, Bg, mg, eg, Bf, mf, ef, rfl, hBG, hBF⟩
    refine ⟨(fun x _ h => mem_ins (X := [_, _, _, _, _]) (M := M1) (Y := L) h), ?_⟩
    simp only [c9, n9]
    refine JA_2 3 5 V ?_ ?_
    ·
     refine Jb Z trivial Z Z Z (open_ac D _ _ d p Ag _ ng cg nf cf (hGl.le (h1.t h2|>.t h3|>.t h4|>.t h5|>.t h9|>.t h26|>.t h27)) (hFn.le (h1.t h2|>.t h3|>.t h4|>.t h5|>.t h9|>.t h26|>.t h27)) hND) ?_
     rintro _ _ s28 h28 ⟨rfl, bm, rfl, hM⟩
     refine ⟨fun _ _ h => h, ?_⟩
     refine JA_1 5 V <| JB_alloc Z trivial Z [_, _, _] Z Z ?_
     intro β29 s29 h29
     refine JA_1 6 V <| Wu Z trivial 1 [_, _] Y9 (fun _ hx => sub_mem (sbN (sbY (sbY (sbY (sbY (sb0 _)))))) hx) <| JA_1 7 V <| Wu Z trivial 0 [_, _, _] Y9 (fun _ hx => sub_mem (sbN (sbY (sbY (sbY (sbY (sb0 _)))))) hx) <| JA_done V ?_
     refine thenQ_n (MidN.mk (β26, β29, M1, .slice Bg mg eg, .slice Bf mf ef, bm) [] (h9.t h26|>.t h27|>.t h28|>.t h29) (.cons Z (.cons Z sk)) (List.Perm.trans (List.Perm.trans (front_perm _ 0) (front_perm _ 1)) (.cons _ (.cons _ (List.perm_append_comm_assoc [_, _, _, _] M1 L)))) ⟨⟨_, _, _, Z, hBG.le (h28.t h29)⟩, ⟨_, _, _, Z, hBF.le (h28.t h29)⟩, hM.le h29⟩)
    refine JB_alloc Z trivial Z [_, _, _] Z Z ?_
    intro β30 s30 h30
    refine JA_1 3 V <| Jb Z trivial Z Z Z (open_ac D _ _ d p Ag _ ng cg nf cf (hGl.le (h1.t h2|>.t h3|>.t h4|>.t h5|>.t h9|>.t h26|>.t h27|>.t h30)) (hFn.le (h1.t h2|>.t h3|>.t h4|>.t h5|>.t h9|>.t h26|>.t h27|>.t h30)) hND) ?_
    rintro _ _ s31 h31 ⟨rfl, bm, rfl, hM⟩
    refine ⟨fun _ _ h => h, ?_⟩
    refine JA_1 6 V <| Wu Z trivial 1 [_, _] Y9 (fun _ hx => sub_mem (sbN (sbY (sbY (sbY (sbY (sb0 _)))))) hx) <| JA_1 7 V <| Wu Z trivial 0 [_, _, _] Y9 (fun _ hx => sub_mem (sbN (sbY (sbY (sbY (sbY (sb0 _)))))) hx) <| JA_done V ?_
    refine thenQ_n (MidN.mk (β26, β30, M1, .slice Bg mg eg, .slice Bf mf ef, bm) [] (h9.t h26|>.t h27|>.t h30|>.t h31) (.cons Z (.cons Z sk)) (List.Perm.trans (List.Perm.trans (front_perm _ 0) (front_perm _ 1)) (.cons _ (.cons _ (List.perm_append_comm_assoc [_, _, _, _] M1 L)))) ⟨⟨_, _, _, Z, hBG.le (h30.t h31)⟩, ⟨_, _, _, Z, hBF.le (h30.t h31)⟩, hM.le (Lr D)⟩)
   refine JB_alloc Z trivial Z [_, _, _] Z Z ?_
   intro β32 s32 h32
   refine JA_1 1 V <| Jb Z trivial Z Z Z (AC.mid [_, _, _, _, _, _] [] L (cloneP_ac D _ _ d p Ag _ ng cg nf cf (hGl.le (h1.t h2|>.t h3|>.t h4|>.t h5|>.t h9|>.t h26|>.t h32)) (hFn.le (h1.t h2|>.t h3|>.t h4|>.t h5|>.t h9|>.t h26|>.t h32)) hV)) ?_
   rintro _ _ s33 h33 ⟨M1, rfl, Bg, mg, eg, Bf, mf, ef, rfl, hBG, hBF⟩
   refine ⟨(fun x _ h => mem_ins (X := [_, _, _, _, _, _]) (M := M1) (Y := L) h), ?_⟩
   simp only [c9, n9]
   refine JA_1 3 V <| Jb Z trivial Z Z Z (open_ac D _ _ d p Ag _ ng cg nf cf (hGl.le (h1.t h2|>.t h3|>.t h4|>.t h5|>.t h9|>.t h26|>.t h32|>.t h33)) (hFn.le (h1.t h2|>.t h3|>.t h4|>.t h5|>.t h9|>.t h26|>.t h32|>.t h33)) hND) ?_
   rintro _ _ s34 h34 ⟨rfl, bm, rfl, hM⟩
   refine ⟨fun _ _ h => h, ?_⟩
   refine JA_1 6 V <| Wu Z trivial 1 [_, _] Y9 (fun _ hx => sub_mem (sbN (sbY (sbY (sbY (sbY (sb0 _)))))) hx) <| JA_1 7 V <| Wu Z trivial 0 [_, _, _] Y9 (fun _ hx => sub_mem (sbN (sbY (sbY (sbY (sbY (sb0 _)))))) hx) <| JA_done V ?_
   refine thenQ_n (MidN.mk (β26, β32, M1, .slice Bg mg eg, .slice Bf mf ef, bm) [] (h9.t h26|>.t h32|>.t h33|>.t h34) (.cons Z (.cons Z sk)) (List.Perm.trans (List.Perm.trans (front_perm _ 0) (front_perm _ 1)) (.cons _ (.cons _ (List.perm_append_comm_assoc [_, _, _, _] M1 L)))) ⟨⟨_, _, _, Z, hBG.le h34⟩, ⟨_, _, _, Z, hBF.le h34⟩, hM.le (Lr D)⟩)
  refine JB_alloc Z trivial Z [_, _, _] Z Z ?_
  intro β35 s35 h35
  refine JA_2 1 4 V ?_ ?_
  ·
   refine Jb Z trivial Z Z Z (AC.mid [_, _, _, _, _] [] L (cloneP_ac D _ _ d p Ag _ ng cg nf cf (hGl.le (h1.t h2|>.t h3|>.t h4|>.t h5|>.t h9|>.t h35)) (hFn.le (h1.t h2|>.t h3|>.t h4|>.t h5|>.t h9|>.t h35)) hV)) ?_
   rintro _ _ s36 h36 ⟨M1, rfl, Bg, mg, eg, Bf, mf, ef, rfl, hBG, hBF⟩
   refine ⟨(fun x _ h => mem_ins (X := [_, _, _, _, _]) (M := M1) (Y := L) h), ?_⟩
   simp only [c9, n9]
   refine JA_2 3 4 V ?_ ?_
   ·
    refine Jb Z trivial Z Z Z (open_ac D _ _ d p Ag _ ng cg nf cf (hGl.le (h1.t h2|>.t h3|>.t h4|>.t h5|>.t h9|>.t h35|>.t h36)) (hFn.le (h1.t h2|>.t h3|>.t h4|>.t h5|>.t h9|>.t h35|>.t h36)) hND) ?_
    rintro _ _ s37 h37 ⟨rfl, bm, rfl, hM⟩
    refine ⟨fun _ _ h => h, ?_⟩
    refine JA_1 4 V <| JB_alloc Z trivial Z [_, _] Z Z ?_
    intro β38 s38 h38
    refine JA_1 6 V <| Wu Z trivial 0 [_, _] Y9 (fun _ hx => sub_mem (sbN (sbY (sbY (sbY (sbY (sb0 _)))))) hx) <| JA_1 7 V <| Wu Z trivial 1 [_, _, _] Y9 (fun _ hx => sub_mem (sbN (sbY (sbY (sbY (sbY (sb0 _)))))) hx) <| JA_done V ?_
    refine thenQ_n (MidN.mk (β38, β35, M1, .slice Bg mg eg, .slice Bf mf ef, bm) [] (h9.t h35|>.t h36|>.t h37|>.t h38) (.cons Z (.cons Z sk)) (List.Perm.trans (List.Perm.trans (front_perm _ 1) (front_perm _ 1)) (.cons _ (.cons _ (List.perm_append_comm_assoc [_, _, _, _] M1 L)))) ⟨⟨_, _, _, Z, hBG.le (h37.t h38)⟩, ⟨_, _, _, Z, hBF.le (h37.t h38)⟩, hM.le h38⟩)
   refine JB_alloc Z trivial Z [_, _] Z Z ?_
   intro β39 s39 h39
   refine JA_1 3 V <| Jb Z trivial Z Z Z (open_ac D _ _ d p Ag _ ng cg nf cf (hGl.le (h1.t h2|>.t h3|>.t h4|>.t h5|>.t h9|>.t h35|>.t h36|>.t h39)) (hFn.le (h1.t h2|>.t h3|>.t h4|>.t h5|>.t h9|>.t h35|>.t h36|>.t h39)) hND) ?_
   rintro _ _ s40 h40 ⟨rfl, bm, rfl, hM⟩
   refine ⟨fun _ _ h => h, ?_⟩
   refine JA_1 6 V <| Wu Z trivial 0 [_, _] Y9 (fun _ hx => sub_mem (sbN (sbY (sbY (sbY (sbY (sb0 _)))))) hx) <| JA_1 7 V <| Wu Z trivial 1 [_, _, _] Y9 (fun _ hx => sub_mem (sbN (sbY (sbY (sbY (sbY (sb0 _)))))) hx) <| JA_done V ?_
   refine thenQ_n (MidN.mk (β39, β35, M1, .slice Bg mg eg, .slice Bf mf ef, bm) [] (h9.t h35|>.t h36|>.t h39|>.t h40) (.cons Z (.cons Z sk)) (List.Perm.trans (List.Perm.trans (front_perm _ 1) (front_perm _ 1)) (.cons _ (.cons _ (List.perm_append_comm_assoc [_, _, _, _] M1 L)))) ⟨⟨_, _, _, Z, hBG.le (h39.t h40)⟩, ⟨_, _, _, Z, hBF.le (h39.t h40)⟩, hM.le (Lr D)⟩)
  refine JB_alloc Z trivial Z [_, _] Z Z ?_
  intro β41 s41 h41
  refine JA_1 1 V <| Jb Z trivial Z Z Z (AC.mid [_, _, _, _, _, _] [] L (cloneP_ac D _ _ d p Ag _ ng cg nf cf (hGl.le (h1.t h2|>.t h3|>.t h4|>.t h5|>.t h9|>.t h35|>.t h41)) (hFn.le (h1.t h2|>.t h3|>.t h4|>.t h5|>.t h9|>.t h35|>.t h41)) hV)) ?_
  rintro _ _ s42 h42 ⟨M1, rfl, Bg, mg, eg, Bf, mf, ef, rfl, hBG, hBF⟩
  refine ⟨(fun x _ h => mem_ins (X := [_, _, _, _, _, _]) (M := M1) (Y := L) h), ?_⟩
  simp only [c9, n9]
  refine JA_1 3 V <| Jb Z trivial Z Z Z (open_ac D _ _ d p Ag _ ng cg nf cf (hGl.le (h1.t h2|>.t h3|>.t h4|>.t h5|>.t h9|>.t h35|>.t h41|>.t h42)) (hFn.le (h1.t h2|>.t h3|>.t h4|>.t h5|>.t h9|>.t h35|>.t h41|>.t h42)) hND) ?_
  rintro _ _ s43 h43 ⟨rfl, bm, rfl, hM⟩
  refine ⟨fun _ _ h => h, ?_⟩
  refine JA_1 6 V <| Wu Z trivial 0 [_, _] Y9 (fun _ hx => sub_mem (sbN (sbY (sbY (sbY (sbY (sb0 _)))))) hx) <| JA_1 7 V <| Wu Z trivial 1 [_, _, _] Y9 (fun _ hx => sub_mem (sbN (sbY (sbY (sbY (sbY (sb0 _)))))) hx) <| JA_done V ?_
  refine thenQ_n (MidN.mk (β41, β35, M1, .slice Bg mg eg, .slice Bf mf ef, bm) [] (h9.t h35|>.t h41|>.t h42|>.t h43) (.cons Z (.cons Z sk)) (List.Perm.trans (List.Perm.trans (front_perm _ 1) (front_perm _ 1)) (.cons _ (.cons _ (List.perm_append_comm_assoc [_, _, _, _] M1 L)))) ⟨⟨_, _, _, Z, hBG.le h43⟩, ⟨_, _, _, Z, hBF.le h43⟩, hM.le (Lr D)⟩)
 intro g s8 h8 I8
 simp only [c9, n9]
 obtain ⟨b5, b6, M1, v1, v2, bm⟩ := g
 obtain ⟨⟨Bg, mg, eg, q1, hBG⟩, ⟨Bf, mf, ef, q2, css, Ms0, hM1, hRw, hA0⟩, hM⟩ := I8
 simp only at q1 q2 hBG hRw hM hA0 hM1
 subst q1 q2
 dsimp only
 have hmf : mf = nf := by rw [hRw.1, hA0.len.2]; exact hn2.symm
 obtain rfl : nf = mf := hmf.symm
 have hcf1 := hRw.2.1
 have hcf2 := hRw.2.2.1
 refine JC_perm (.cons _ (.cons _ (List.perm_append_comm_assoc M1 [_, _, _, _] L))) ?_
 simp only [c9, n9]
 refine Zs <| Sr <| Wb Y5 <| Wl 0 Y6 <| Ws Y4 <| Zqm Z Z <| Nt <| Zp <| ?_
 refine JC_loop (γ := Nat × Hl) (fun g => [(1, _), (2, _), (3, _), (5, _), (6, _), (22, _), (23, .int .i64 (g.1 : Int))]) (fun g => _ :: _ :: _ :: _ :: _ :: _ :: (g.2 ++ L)) (fun g tw => Le D s8 tw ∧ (g.1 ≤ nf ∧ ∃ Ms, g.2 = List.flatten Ms ∧ All3 (FO d tw) Ms ((p.funcs.take g.1).map (fdF p) ++ p.funcs.drop g.1) css)) (fun g => nf - g.1) (fun _ _ _ h hl => ⟨h.1.trans hl, ⟨h.2.1, by obtain ⟨Ms, q2, q3⟩ := h.2.2; exact ⟨Ms, q2, q3.mono fun _ _ _ k => k.le hl⟩⟩⟩) (0, M1) (.cons Z (.cons Z (.cons Z (.cons Z (.cons Z (.cons Z (.cons Z (.nil _)))))))) Z ⟨Le.refl _, ⟨Nat.zero_le _, Ms0, hM1, by simpa using hA0.mono fun _ _ _ k => k.le (Lr D)⟩⟩ ?_
 intro g s44 I44
 obtain ⟨k, Fo⟩ := g
 obtain ⟨hk0, Ms, hF, hA3⟩ := I44.2
 simp only at hk0 hF hA3
 dsimp only
 refine Sr <| Zqlt Z Z Z <| Nt <| Zs <| ?_
 refine JC_ifD Z (fun c45 => ?_) (fun c45 => ?_)
 ·
  have hk : k < nf := by omega
  obtain ⟨b, off, x, B1, m1, d1, B2, m2, d2, B3, m3, d3, rfl, hx, hcx, hpx, hlx, hbx, hnl⟩ := Fncs.at_ (hFn.le (h1.t h2|>.t h3|>.t h4|>.t h5|>.t h8|>.t I44.1)) hk
  have hfx := hVf x (List.mem_of_getElem? hx)
  obtain ⟨us1, u, us2, vs1, v, vs2, ws1, w0, ws2, rfl, hvv, hcs, hvl, hxw, hA1, hA2⟩ := hA3.at_ (k := k) (by rw [List.length_append, List.length_map, List.length_take, List.length_drop]; omega)
  obtain ⟨hvs1, hvx, hvs2⟩ := part_at hvv hvl hx
  obtain rfl : x = v := hvx.symm
  obtain ⟨C1, r1, e1, C2, r2, e2, C3, r3, e3, hw0, hx1, hx2, hxB, _⟩ := hxw
  have hw : css[k]? = some w0 := by
    have := hA1.len
    rw [hcs, List.getElem?_append_right O, show k - ws1.length = 0 by omega]; rfl
  obtain ⟨b9, off9, rfl, hcr⟩ := hRw.at_ hw
  rw [hw0] at hcr
  obtain ⟨F1, hF1⟩ : ∃ F, F = us1.flatten := ⟨_, rfl⟩
  obtain ⟨F2, hF2⟩ : ∃ F, F = us2.flatten := ⟨_, rfl⟩
  have hFF : Fo = F1 ++ (u ++ F2) := by rw [hF, hF1, hF2]; simp
  subst hFF
  rw [show (F1 ++ (u ++ F2)) ++ L = F1 ++ (u ++ (F2 ++ L)) from by simp only [List.append_assoc]]
  refine Zk <| Zt <| Zs <| Zp <| Sr <| Zqm Z Z <| At Z Z <| JC_drawT drawsMixed 14 Z 6 ?_
  intro s46 h46
  refine za 0 Z (QE_ldA 1 [_, _, _] Z Z Z Z Z) Z <| za 1 Z (We Y4) Z <| za 2 Z (Wd 5 Y5) Z <| za 3 Z (QE_mv Z) Z <| za 4 Z (QE_iaN Z Z Z Z Z Z hk) Z <| za 5 Z (QE_ldsA Z Z Z (hcx.le h46) Z) Z <| za 6 Z (QE_build [(_, _), (_, _)] [_, _, _, _, _, _, _] Z Z Z Z Z Z) Z <| za 7 Z (We Y4) Z <| za 8 Z (Wd 0 Y5) Z <| za 9 Z (QE_mv Z) Z <| za 10 Z (QE_iaN Z Z Z Z Z Z hk) Z <| za 11 Z (QE_fa Z Z Z Z) Z <| za 12 Z (QE_ldsR 3 Z Z Z (hcr.le (I44.1.t h46)) Z) Z <| JA_1 13 V ?_
  refine Jb Z trivial Z Z Z (AC.mid (_ :: _ :: _ :: _ :: _ :: _ :: F1) u (F2 ++ L) (fds D d _ _ bm Ag _ ng cg nf cf p (hM.le (I44.1.t h46)) (hGl.le (h1.t h2|>.t h3|>.t h4|>.t h5|>.t h8|>.t I44.1|>.t h46)) x B1 B2 B3 m1 d1 m2 d2 m3 d3 (hpx.le h46) (hlx.le h46) u C3 r3 e3 x.body 1 (hxB.le h46) hfx.2.2.2.2.1)) ?_
  rintro _ _ s47 h47 ⟨u2, rfl, rfl, hu2⟩
  refine ⟨(fun x hx _ => memK6 hx), ?_⟩
  simp only [List.cons_append]
  rw [show F1 ++ (u2 ++ (F2 ++ L)) = (F1 ++ (u2 ++ F2)) ++ L from by simp only [List.append_assoc]]
  refine JA_done V <| Zb <| Zt <| Zr <| Zqadd Z Z Z (w64 O O) <| Zqm Z Z <| Zn <| ?_
  refine thenQ_n ⟨(k + 1, F1 ++ (u2 ++ F2)), [], kp, Z, ⟨(I44.1.t h46|>.t h47), ⟨by simp only; omega, us1 ++ u2 :: us2, by simp [hF1, hF2], by simp only; rw [part_next hx, ← hvs1, ← hvs2, hcs]; exact (hA1.mono fun _ _ _ k => k.le (h46.t h47)).app (.cons ⟨C1, r1, e1, C2, r2, e2, C3, r3, e3, hw0, hx1.le (h46.t h47), hx2.le (h46.t h47), hu2.le (Lr D), hnl⟩ (hA2.mono fun _ _ _ k => k.le (h46.t h47)))⟩⟩, (by simp only; omega)⟩
 obtain rfl : nf = k := by omega
 rw [List.take_of_length_le O, List.drop_eq_nil_of_le O, List.append_nil] at hA3
 refine Zl <| Zv <| Zv <| Zd <| Zt <| Zs <| Zs <| JC_pubX [_, _, _, _, _, _] Fo _ ?_
 intro s48 h48 hpub48
 simp only [c9, n9]
 have hFN : Fncs d s48 Bf nf ef (p.funcs.map (fdF p)) := FOs.pub ⟨css, Ms, hF, hRw.le (I44.1.t h48), hA3.mono fun _ _ _ k => k.le h48⟩ hpub48
 refine Zr <| JO_q (QE_ldA 0 [_, _] Z Z Z Z Z) Z <| Jc Z Z Z (validate_ac D _ _ (hG.le (h1.t h2|>.t h3|>.t h4|>.t h5|>.t h8|>.t I44.1|>.t h48)) d (foldP p) Bg Bf mg eg nf ef (hBG.le (I44.1.t h48)) (hFN.le (Lr D))) ?_
 rintro _ _ s49 h49 ⟨rfl, rfl⟩
 refine JO_allocZ Z [_, _] Z Z ?_
 intro β50 s50 h50
 refine Wt 0 [_, _] Y9 <| Nt <| Sr <| JO_q (QE_ldA 0 [_, _] Z Z Z Z Z) Z <| JO_q (QE_build [] [_, _] Z Z Z Z Z Z) Z <| JO_q (QE_ane Z Z (eqFault _ _ _ _)) Z <| Nt <| ?_
 refine JC_ifN Z (fun c51 => ?_) (fun c51 => ?_)
 ·
  have hE : foldR p = (⟨[], []⟩, prgF (foldP p)) := (if_neg g14).trans (if_pos (fun h => c51 (by rw [prgF_00 h]; exact ⟨rfl, rfl⟩)))
  refine Zs <| JC_drawE drawsMixed 4 Z [5, 4] (by intro x hx; exact eraseAll_mem hx) ?_
  intro s52 h52
  refine za 0 Z (QE_build [] [_, _] Z Z Z Z Z Z) Z <| za 1 Z (QE_ldA 0 [_, _] Z Z Z Z Z) Z <| JA_1 2 V <| Wu Z trivial 5 [_, _] Y9 (fun _ hx => sub_mem (sbY (sbY (sbY (sbY (sbN (sbY (sbE _))))))) hx) <| JA_1 3 V <| Wu Z trivial 4 [_, _] Y9 (fun _ hx => sub_mem (sbY (sbY (sbY (sbY (sbN (sbY (sbE _))))))) hx) <| JA_done V <| Zt <| Zo <| Zu <| ?_
  refine retQ_mk [_, _, _, _, _, _, _] L (.inr Z) (.agg (us := [_, _]) 5 Z Z Z Z Z (.agg (us := [_, _]) 4 Z Z Z Z Z (.nil))) Z (h1.t h2|>.t h3|>.t h4|>.t h5|>.t h8|>.t I44.1|>.t h48|>.t h49|>.t h50|>.t h52) (fun sR hS2 => ?_)
  rw [hE]
  exact ⟨rfl, none, 0, 0, none, 0, 0, rfl, fun s2 hs2 => ⟨glos_nil _, fncs_nil _ _⟩⟩
 have g45 := c51
 have hE : foldR p = (foldP p, (0, 0)) := (if_neg g14).trans (if_neg (fun h => h g45.1))
 refine Zk <| Zt <| Sr <| JO_q (QE_ldA 1 [_, _] Z Z Z Z Z) Z <| JO_q (QE_build [] [_, _] Z Z Z Z Z Z) Z <| Wt 5 [_, _] Y9 <| Wt 4 [_, _] Y9 <| Nt <| Zo <| ?_
 refine retQ_mk [_, _, _, _, _, _, _] L (.inr Z) (.agg (us := [_, _]) 5 Z Z Z Z Z (.agg (us := [_, _]) 4 Z Z Z Z Z (.nil))) Z (h1.t h2|>.t h3|>.t h4|>.t h5|>.t h8|>.t I44.1|>.t h48|>.t h49|>.t h50) (fun sR hS2 => ?_)
 rw [hE]
 exact ⟨rfl, _, _, _, _, _, _, rfl, fun s2 hs2 => ⟨hBG.le (I44.1.t h48|>.t h49|>.t h50|>.t (hS2.t hs2)), hFN.le (h49.t h50|>.t (hS2.t hs2))⟩⟩
theorem fold_ac (D : Nat) (L : Hl) (s : World) (hG : GP s) (d : Nat) (p : Prg) (Ag Af : Option Addr) (ng cg nf cf : Nat) (hGl : Glos s Ag ng cg p.globals) (hFn : Fncs d s Af nf cf p.funcs) : AC Tryz.prog D 22 [.agg #[.slice Ag ng cg, .slice Af nf cf]] L s fun v L' s' => L = L' ∧ ∃ Bg mg eg Bf mf ef, v = .tuple #[.agg #[.slice Bg mg eg, .slice Bf mf ef], .agg #[.int .i64 (foldR p).2.1, .int .i64 (foldR p).2.2]] ∧ Glos s' Bg mg eg (foldR p).1.globals ∧ Fncs d s' Bf mf ef (foldR p).1.funcs := (foldO_ac D L s hG d p Ag Af ng cg nf cf hGl hFn).mono fun v L' s' _ ⟨h1, Bg, mg, eg, Bf, mf, ef, h2, h3⟩ => ⟨h1, Bg, mg, eg, Bf, mf, ef, h2, h3 _ (Le.refl _)⟩
end Go.Proofs.YtacajpepkfinoaaGreatDoor
namespace Go.FL
open Go Go.RowKit
theorem cells_flat {α : Type} {sz : Nat} {f : α → List Value} (hf : ∀ x, (f x).length = sz) {s : World} {b : Nat} : ∀ {l : List α} {off : Nat}, (∀ (i : Nat) (x : α), l[i]? = some x → CellsAt s b (off + i * sz) (f x)) → CellsAt s b off (l.map f).flatten
  | [], off, _ => fun j v h => by simp at h
  | x :: r, off, h => by
    have h0 := h 0 x rfl
    have ih := cells_flat hf (l := r) (off := off + sz) fun i y hy => by
      have := h (i + 1) y (by simpa using hy)
      rwa [show off + (i + 1) * sz = off + sz + i * sz by rw [Nat.succ_mul]; omega] at this
    intro j v hj
    rw [List.map_cons, List.flatten_cons] at hj
    by_cases hl : j < (f x).length
    · rw [List.getElem?_append_left hl] at hj
      have := h0 j v hj
      rwa [Nat.zero_mul, Nat.add_zero] at this
    · rw [List.getElem?_append_right O] at hj
      have := ih (j - (f x).length) v hj
      rw [hf x] at this hl
      rwa [show off + sz + (j - sz) = off + j by omega] at this
theorem flat_len {α : Type} {sz : Nat} {f : α → List Value} (hf : ∀ x, (f x).length = sz) (l : List α) : (l.map f).flatten.length = l.length * sz := by
  induction l with
  | nil => simp
  | cons x r ih => rw [List.map_cons, List.flatten_cons, List.length_append, ih, hf, List.length_cons, Nat.succ_mul]; omega
end Go.FL
namespace Go.Proofs.YtacajpepkfinoaaGreatDoor
open Go Go.FL Go.RowKit
theorem Sl.rowF {α : Type} {sz : Nat} {f : α → List Value} {s : World} {A : Option Addr} {n c : Nat} {l : List α} (h : Sl sz (fun _ x cs => cs = f x) s A n c l) (hf : ∀ x, (f x).length = sz) (h1 : ∀ x, ∀ u ∈ f x, u.oneCell' = true) : Row s A n sz (l.map f).flatten := by
  refine ⟨by rw [flat_len hf, h.1], fun u hu => ?_, fun j u hj => ?_⟩
  · obtain ⟨cs, hc, hu⟩ := List.mem_flatten.1 hu
    obtain ⟨x, _, rfl⟩ := List.mem_map.1 hc
    exact h1 x u hu
  · cases l with
    | nil => simp at hj
    | cons x r =>
      obtain ⟨b, off, cs, hA, _, _, _⟩ := h.2.2.2 0 x rfl
      subst hA
      refine ⟨b, off, Z, cells_flat hf (l := x :: r) (off := off) (fun i y hy => ?_) j u hj⟩
      obtain ⟨b2, off2, cs2, hA2, h2, _, h3⟩ := h.2.2.2 i y hy
      injection hA2 with hA2
      injection hA2 with e1 e2
      subst e1; subst e2; subst h3
      exact h2
theorem Own.rowF {α : Type} {e sz : Nat} {f : α → List Value} {M : Hl} {A : Option Addr} {n c : Nat} {l : List α} {s : World} (h : FL.Own e sz M (.slice A n c) n (l.map f).flatten) (hf : ∀ x, (f x).length = sz) (hp : Pub M s) (hn : n = l.length) : Sl sz (fun _ x cs => cs = f x) s A n c l := by
  refine Own.rows h hp ?_ hn
  clear h hn
  induction l with
  | nil => exact .nil
  | cons x r ih => exact .cons ⟨hf x, rfl⟩ ih
open Go.FL
attribute [local irreducible] JC JO JA JB thenQ blockQ retQ AC fill CellsAt QE Ev Mid
structure RNd where
  name : Str
  u : Int
  count : Int
  loops : Int
def useW (u : Int) : Str := if u = 1 then [115, 101, 116] else if u = 2 then [103, 101, 116] else if u = 3 then [105, 116, 101, 109] else if u = 4 then [99, 97, 108, 108] else [108, 101, 97, 118, 101]
def rnv (r : RNd) : List Value := [St r.name, St (useW r.u), .int .i64 r.count, .int .i64 r.loops]
def rnvs (l : List RNd) : List Value := (l.map rnv).flatten
theorem rnvs_app (a b : List RNd) : rnvs (a ++ b) = rnvs a ++ rnvs b := by simp [rnvs]
def Rns (s : World) (A : Option Addr) (n c : Nat) (l : List RNd) : Prop := Sl 4 (fun _ r cs => cs = rnv r) s A n c l
theorem Rns.le {D : Nat} {s s' : World} {A : Option Addr} {n c : Nat} {l : List RNd} (h : Rns s A n c l) (hl : Le D s s') : Rns s' A n c l := Sl.le (fun _ _ h => h) h hl
theorem Rns.row {s : World} {A : Option Addr} {n c : Nat} {l : List RNd} (h : Rns s A n c l) : Row s A n 4 (rnvs l) := Sl.rowF h (fun _ => rfl) (fun x u hu => by
  simp only [rnv, List.mem_cons, List.not_mem_nil, or_false] at hu
  rcases hu with rfl | rfl | rfl | rfl <;> rfl)
theorem Rns.at_ {s : World} {A : Option Addr} {n c k : Nat} {l : List RNd} (h : Rns s A n c l) (hk : k < n) : ∃ b off r, A = some ⟨b, off, none⟩ ∧ l[k]? = some r ∧ CellsAt s b (off + k * 4) [St r.name, St (useW r.u), .int .i64 r.count, .int .i64 r.loops] := by
  have hl : k < l.length := by rw [← h.1]; exact hk
  obtain ⟨b, off, cs, h1, h2, _, rfl⟩ := h.2.2.2 k l[k] (List.getElem?_eq_getElem hl)
  exact ⟨b, off, l[k], h1, List.getElem?_eq_getElem hl, h2⟩
def ndR : Nd → List RNd
  | .ex x _ => if 2 ≤ x.kind ∧ x.kind ≤ 4 then [⟨x.name, x.kind, (x.args.length : Int), 0⟩] else []
  | .st x lp => if x.kind = 1 then [⟨x.name, 1, 0, 0⟩] else if x.kind = 2 then [⟨x.name, 3, 0, 0⟩] else if x.kind = 5 then [⟨x.name, 4, (x.exprs.length : Int), 0⟩] else if 8 < x.kind then [⟨[], 5, 0, (lp : Int)⟩] else []
theorem ndR_le (n : Nd) : (ndR n).length ≤ 1 := by
  cases n with
  | ex x lp =>
    by_cases h : 2 ≤ x.kind ∧ x.kind ≤ 4
    · rw [ndR, if_pos h]; exact Nat.le_refl 1
    · rw [ndR, if_neg h]; exact Nat.zero_le _
  | st x lp =>
    rw [ndR]
    by_cases h1 : x.kind = 1
    · rw [if_pos h1]; exact Nat.le_refl 1
    rw [if_neg h1]
    by_cases h2 : x.kind = 2
    · rw [if_pos h2]; exact Nat.le_refl 1
    rw [if_neg h2]
    by_cases h5 : x.kind = 5
    · rw [if_pos h5]; exact Nat.le_refl 1
    rw [if_neg h5]
    by_cases h8 : 8 < x.kind
    · rw [if_pos h8]; exact Nat.le_refl 1
    · rw [if_neg h8]; exact Nat.zero_le _
theorem ndRs_le (l : List Nd) : (l.flatMap ndR).length ≤ l.length := by
  induction l with
  | nil => simp
  | cons x r ih => have := ndR_le x; rw [List.flatMap_cons, List.length_append, List.length_cons]; omega
def rxs (l : List Ex) (lp : Nat) : List RNd := (ndXs l lp).flatMap ndR
def rss (l : List Stm) (lp : Nat) : List RNd := (ndSs l lp).flatMap ndR
mutual
theorem rx_lp : ∀ (x : Ex) (lp : Nat), (ndX x lp).flatMap ndR = (ndX x 0).flatMap ndR
  | .mk k o n nm ar, lp => by rw [ndX, ndX, List.flatMap_cons, List.flatMap_cons, rxs_lp ar lp]; rfl
theorem rxs_lp : ∀ (l : List Ex) (lp : Nat), (ndXs l lp).flatMap ndR = (ndXs l 0).flatMap ndR
  | [], _ => rfl
  | x :: r, lp => by rw [ndXs, ndXs, List.flatMap_append, List.flatMap_append, rx_lp x lp, rxs_lp r lp]
end
theorem ndXs_app (a b : List Ex) (lp : Nat) : ndXs (a ++ b) lp = ndXs a lp ++ ndXs b lp := by
  induction a with
  | nil => rfl
  | cons x r ih => rw [List.cons_append, ndXs, ndXs, ih, List.append_assoc]
theorem ndSs_app (a b : List Stm) (lp : Nat) : ndSs (a ++ b) lp = ndSs a lp ++ ndSs b lp := by
  induction a with
  | nil => rfl
  | cons x r ih => rw [List.cons_append, ndSs, ndSs, ih, List.append_assoc]
theorem rxs_take {l : List Ex} {k : Nat} {x : Ex} (h : l[k]? = some x) : rxs (l.take (k + 1)) 0 = rxs (l.take k) 0 ++ ndR (.ex x 0) ++ rxs x.args 0 := by
  rw [rxs, take_snocE h, ndXs_app, List.flatMap_append]
  cases x with
  | mk a b c d e => simp only [ndXs, ndX, List.append_nil, List.flatMap_cons, rxs, List.append_assoc, Ex.args]
theorem rss_take {l : List Stm} {k lp : Nat} {x : Stm} (h : l[k]? = some x) : rss (l.take (k + 1)) lp = rss (l.take k) lp ++ ndR (.st x lp) ++ rxs x.exprs 0 ++ rss x.body (lpI x lp) ++ rss x.els (lpI x lp) := by
  rw [rss, take_snocE h, ndSs_app, List.flatMap_append]
  cases x with
  | mk a b c d e =>
    simp only [ndSs, ndS, List.append_nil, List.flatMap_cons, List.flatMap_append, rss, rxs, List.append_assoc, Stm.exprs, Stm.body, Stm.els, lpI, Stm.kind]
    rw [rxs_lp c lp]
    rfl
theorem rxs_le (l : List Ex) (lp : Nat) : (rxs l lp).length ≤ exNs l := Nat.le_trans (ndRs_le _) (Nat.le_of_eq (ndXs_len l lp))
theorem rss_le (l : List Stm) (lp : Nat) : (rss l lp).length ≤ stNs l := Nat.le_trans (ndRs_le _) (Nat.le_of_eq (ndSs_len l lp))
theorem take_le_ex (l : List Ex) (k : Nat) : exNs (l.take k) ≤ exNs l := by
  induction l generalizing k with
  | nil => simp [exNs]
  | cons x r ih => cases k with
    | zero => simp [exNs]
    | succ k => rw [List.take_succ_cons, exNs, exNs]; have := ih k; omega
theorem take_le_st (l : List Stm) (k : Nat) : stNs (l.take k) ≤ stNs l := by
  induction l generalizing k with
  | nil => simp [stNs]
  | cons x r ih => cases k with
    | zero => simp [stNs]
    | succ k => rw [List.take_succ_cons, stNs, stNs]; have := ih k; omega
def RNX (D d : Nat) : Prop := ∀ (L : Hl) (s : World) (A : Option Addr) (n c : Nat) (xs : List Ex), Exs d s A n c xs → exNs xs ≤ 4000000 → AC Tryz.prog D 63 [.slice A n c] L s fun v L' s' => L = L' ∧ ∃ A' n' c', v = .slice A' n' c' ∧ Rns s' A' n' c' (rxs xs 0)
def RNS (D d : Nat) : Prop := ∀ (L : Hl) (s : World) (A : Option Addr) (n c : Nat) (xs : List Stm) (lp lv : Nat), Stms d s A n c xs → stVs xs lv = true → lp ≤ lv → stNs xs ≤ 4000000 → AC Tryz.prog D 37 [.slice A n c, .int .i64 (lp : Int)] L s fun v L' s' => L = L' ∧ ∃ A' n' c', v = .slice A' n' c' ∧ Rns s' A' n' c' (rss xs lp)
theorem rx_step (D d : Nat) (ih : ∀ e, d = e + 1 → RNX D e) (L : Hl) (s : World) (A : Option Addr) (n c : Nat) (xs : List Ex) (hA : Exs d s A n c xs) (hx9 : exNs xs ≤ 4000000) : AC Tryz.prog D 63 [.slice A n c] L s fun v L' s' => ∃ M', L' = M' ++ L ∧ ∀ s2, Le D s' s2 → Pub M' s2 → ∃ A' n' c', v = .slice A' n' c' ∧ Rns s2 A' n' c' (rxs xs 0) := by
 have hn := hA.1
 have hc1 := hA.2.1
 have hc2 := hA.2.2.1
 refine AC_enter (TT := TT) (fn := Tryz.f63) TT_ok Tryz.func63 V Z Tryz.ntmps63 Z (rs := [.tmp 2]) Z [(0, _)] Z <| Sr <| At Z Z <| Sr <| At Z Z <| Zs <| Sr <| At Z Z <| Zp <| ?_
 refine JC_loop (γ := Nat × Value × Hl) (fun g => [(0, _), (2, _), (3, g.2.1), (4, .int .i64 (g.1 : Int))]) (fun g => g.2.2 ++ L) (fun g tw => Le D s tw ∧ (g.1 ≤ n ∧ FL.Own 86 4 g.2.2 g.2.1 (rxs (xs.take g.1) 0).length (rnvs (rxs (xs.take g.1) 0)))) (fun g => n - g.1) (fun _ _ _ h hl => ⟨h.1.trans hl, h.2⟩) (0, .slice none 0 0, []) (.cons Z (.cons Z (.cons Z (.cons Z (.nil _))))) Z ⟨Le.refl _, ⟨Nat.zero_le _, FL.Own.nil⟩⟩ ?_
 intro g s1 I1
 obtain ⟨k, vo, Mo⟩ := g
 obtain ⟨hk0, hO⟩ := I1.2
 simp only at hk0 hO
 dsimp only
 obtain ⟨Ao, co, rfl, _, _⟩ := Own.slice hO
 have hle1 := rxs_le (xs.take k) 0
 have hle2 := take_le_ex xs k
 refine Zs <| Sr <| Zqm Z Z <| Zqm Z Z <| Ws Y4 <| Zqlt Z Z Z <| Nt <| ?_
 refine JC_ifD Z (fun c2 => ?_) (fun c2 => ?_)
 ·
  have hk : k < n := by omega
  obtain ⟨e, b, off, x, A', n', c', hd, rfl, hx, hcx, hax, hux, hnl⟩ := Exs.at_ (hA.le I1.1) hk
  have hx8 := exNs_mem hx
  have hn' := hax.1
  have hax2 := hax.2.1
  have hax3 := hax.2.2.1
  have hle3 := rxs_le x.args 0
  refine Zk <| Zt <| Zs <| Zp <| Sr <| Zqm Z Z <| Zqm Z Z <| JO_q (QE_iaN Z Z Z Z Z Z hk) Z <| JO_q (QE_ldsA Z Z Z (hcx.le (Lr D)) Z) Z <| JO_allocZ Z [_, _, _, _, _] Z Z ?_
  intro β3 s3 h3
  refine Wt 0 [_, _, _, _, _] Y9 <| Nt <| Zs <| Sr <| W0 Y5 <| Wl 0 Y6 <| Jc Z Z Z (in_ac D _ _ _ _ _) ?_
  rintro _ _ s4 h4 ⟨rfl, rfl⟩
  refine Nt <| ?_
  refine JC_ifD Z (fun c5 => ?_) (fun c5 => ?_)
  ·
   have g19 := c5
   have hu3 : x.kind = 2 ∨ x.kind = 3 ∨ x.kind = 4 := by omega
   have hR0 : ndR (.ex x 0) = [⟨x.name, x.kind, (x.args.length : Int), 0⟩] := if_pos O
   have hlit : rnvs [⟨x.name, x.kind, (x.args.length : Int), 0⟩] = [St x.name, St (useW x.kind), .int .i64 (n' : Int), .int .i64 0] := by rw [hn']; rfl
   refine Sr <| JO_bs [(_, _), (_, _), (_, _)] [_, _, _] Z Z Z Z Z Z Z Z Z ?_
   intro βu s6 h6 hcu
   refine At Z Z <| ?_
   rcases hu3 with g2 | g2 | g2
   ·
    refine JC_drawT drawsMixed 16 Z 1 ?_
    intro s7 h7
    refine za 0 Z (QE_mv Z) Z <| za 1 Z (We Y4) Z <| za 2 Z (Wd 0 Y5) Z <| za 3 Z (QE_mv Z) Z <| za 4 Z (QE_fa0 Z Z Z Z) Z <| za 5 Z (Wd 0 Y5) Z <| za 6 Z (QE_sub' (c := ((0 : Nat) : Int)) Z Z (by rw [w64 O O]; omega)) Z <| za 7 Z (QE_iaN (j := 0) Z Z Z Z Z Z (by decide)) Z <| za 8 Z (QE_ldsR 0 Z Z Z (hcu.le h7) Z) Z <| za 9 Z (We Y4) Z <| za 10 Z (Wd 0 Y5) Z <| za 11 Z (QE_lenS Z Z Z) Z <| za 12 Z (QE_build [(_, _), (_, _), (_, _)] [_, _, _, _] Z Z Z Z Z Z) Z <| JA_1 13 V ?_
    refine JB_bs Z trivial [(_, _)] [_, _, _, _] Z Z Z Z Z Z Z Z Z ?_
    intro βn s8 h8 hcb
    refine JA_1 14 V <| JB_app (sz := 4) Z (by exact trivial) [_] Mo L Z Z Z Z Z Z Z hO (Row.of_cells (hcb.le (Lr D)) Z Z) ⟨by simp [ti86]; omega, by omega⟩ Z (fun A2 x hx _ => memK1 hx) ?_
    intro vx1 Mx1 s9 h9 ox1
    obtain ⟨Ax1, cx1, rfl, _, _⟩ := Own.slice ox1
    simp only [c9, n9]
    refine za 15 Z (QE_as Z) Z <| JA_done V <| Zt <| Zr <| Zqm Z Z <| Wb Y5 <| Wl 0 Y6 <| Jc Z Z Z (ih e hd _ _ A' n' c' x.args (hax.le (h3.t h4|>.t h6|>.t h7|>.t h8|>.t h9)) O) ?_
    rintro _ _ s10 h10 ⟨rfl, Ar, nr, cr, rfl, hRr⟩
    have hAr := hRr.1
    refine JO_app (sz := 4) [_] Mx1 L Z Z Z Z Z Z Z ox1 (hRr.le (Lr D)).row ⟨by simp [ti86]; omega, by omega⟩ Z ?_
    intro vx2 Mx2 s11 h11 ox2
    obtain ⟨Ax2, cx2, rfl, _, _⟩ := Own.slice ox2
    simp only [c9, n9]
    refine Zqa Z Z <| Zn <| Zb <| Zt <| Zr <| Zqm Z Z <| Zqadd Z Z Z (w64 O O) <| Zqa Z Z <| Zn <| ?_
    refine thenQ_n ⟨(k + 1, .slice Ax2 _ cx2, Mx2), [_], kp, Z, ⟨(I1.1.t h3|>.t h4|>.t h6|>.t h7|>.t h8|>.t h9|>.t h10|>.t h11), ⟨by simp only; omega, by simp only; rw [rxs_take hx, hR0, List.length_append, List.length_append, rnvs_app, rnvs_app]; rw [← hAr, hlit, g2]; exact ox2⟩⟩, (by simp only; omega)⟩
   ·
    refine JC_drawT drawsMixed 16 Z 1 ?_
    intro s12 h12
    refine za 0 Z (QE_mv Z) Z <| za 1 Z (We Y4) Z <| za 2 Z (Wd 0 Y5) Z <| za 3 Z (QE_mv Z) Z <| za 4 Z (QE_fa0 Z Z Z Z) Z <| za 5 Z (Wd 0 Y5) Z <| za 6 Z (QE_sub' (c := ((1 : Nat) : Int)) Z Z (by rw [w64 O O]; omega)) Z <| za 7 Z (QE_iaN (j := 1) Z Z Z Z Z Z (by decide)) Z <| za 8 Z (QE_ldsR 1 Z Z Z (hcu.le h12) Z) Z <| za 9 Z (We Y4) Z <| za 10 Z (Wd 0 Y5) Z <| za 11 Z (QE_lenS Z Z Z) Z <| za 12 Z (QE_build [(_, _), (_, _), (_, _)] [_, _, _, _] Z Z Z Z Z Z) Z <| JA_1 13 V ?_
    refine JB_bs Z trivial [(_, _)] [_, _, _, _] Z Z Z Z Z Z Z Z Z ?_
    intro βn s13 h13 hcb
    refine JA_1 14 V <| JB_app (sz := 4) Z (by exact trivial) [_] Mo L Z Z Z Z Z Z Z hO (Row.of_cells (hcb.le (Lr D)) Z Z) ⟨by simp [ti86]; omega, by omega⟩ Z (fun A2 x hx _ => memK1 hx) ?_
    intro vx1 Mx1 s14 h14 ox1
    obtain ⟨Ax1, cx1, rfl, _, _⟩ := Own.slice ox1
    simp only [c9, n9]
    refine za 15 Z (QE_as Z) Z <| JA_done V <| Zt <| Zr <| Zqm Z Z <| Wb Y5 <| Wl 0 Y6 <| Jc Z Z Z (ih e hd _ _ A' n' c' x.args (hax.le (h3.t h4|>.t h6|>.t h12|>.t h13|>.t h14)) O) ?_
    rintro _ _ s15 h15 ⟨rfl, Ar, nr, cr, rfl, hRr⟩
    have hAr := hRr.1
    refine JO_app (sz := 4) [_] Mx1 L Z Z Z Z Z Z Z ox1 (hRr.le (Lr D)).row ⟨by simp [ti86]; omega, by omega⟩ Z ?_
    intro vx2 Mx2 s16 h16 ox2
    obtain ⟨Ax2, cx2, rfl, _, _⟩ := Own.slice ox2
    simp only [c9, n9]
    refine Zqa Z Z <| Zn <| Zb <| Zt <| Zr <| Zqm Z Z <| Zqadd Z Z Z (w64 O O) <| Zqa Z Z <| Zn <| ?_
    refine thenQ_n ⟨(k + 1, .slice Ax2 _ cx2, Mx2), [_], kp, Z, ⟨(I1.1.t h3|>.t h4|>.t h6|>.t h12|>.t h13|>.t h14|>.t h15|>.t h16), ⟨by simp only; omega, by simp only; rw [rxs_take hx, hR0, List.length_append, List.length_append, rnvs_app, rnvs_app]; rw [← hAr, hlit, g2]; exact ox2⟩⟩, (by simp only; omega)⟩
   refine JC_drawT drawsMixed 16 Z 1 ?_
   intro s17 h17
   refine za 0 Z (QE_mv Z) Z <| za 1 Z (We Y4) Z <| za 2 Z (Wd 0 Y5) Z <| za 3 Z (QE_mv Z) Z <| za 4 Z (QE_fa0 Z Z Z Z) Z <| za 5 Z (Wd 0 Y5) Z <| za 6 Z (QE_sub' (c := ((2 : Nat) : Int)) Z Z (by rw [w64 O O]; omega)) Z <| za 7 Z (QE_iaN (j := 2) Z Z Z Z Z Z (by decide)) Z <| za 8 Z (QE_ldsR 2 Z Z Z (hcu.le h17) Z) Z <| za 9 Z (We Y4) Z <| za 10 Z (Wd 0 Y5) Z <| za 11 Z (QE_lenS Z Z Z) Z <| za 12 Z (QE_build [(_, _), (_, _), (_, _)] [_, _, _, _] Z Z Z Z Z Z) Z <| JA_1 13 V <| JB_bs Z trivial [(_, _)] [_, _, _, _] Z Z Z Z Z Z Z Z Z ?_
   intro βn s18 h18 hcb
   refine JA_1 14 V <| JB_app (sz := 4) Z (by exact trivial) [_] Mo L Z Z Z Z Z Z Z hO (Row.of_cells (hcb.le (Lr D)) Z Z) ⟨by simp [ti86]; omega, by omega⟩ Z (fun A2 x hx _ => memK1 hx) ?_
   intro vx1 Mx1 s19 h19 ox1
   obtain ⟨Ax1, cx1, rfl, _, _⟩ := Own.slice ox1
   simp only [c9, n9]
   refine za 15 Z (QE_as Z) Z <| JA_done V <| Zt <| Zr <| Zqm Z Z <| Wb Y5 <| Wl 0 Y6 <| Jc Z Z Z (ih e hd _ _ A' n' c' x.args (hax.le (h3.t h4|>.t h6|>.t h17|>.t h18|>.t h19)) O) ?_
   rintro _ _ s20 h20 ⟨rfl, Ar, nr, cr, rfl, hRr⟩
   have hAr := hRr.1
   refine JO_app (sz := 4) [_] Mx1 L Z Z Z Z Z Z Z ox1 (hRr.le (Lr D)).row ⟨by simp [ti86]; omega, by omega⟩ Z ?_
   intro vx2 Mx2 s21 h21 ox2
   obtain ⟨Ax2, cx2, rfl, _, _⟩ := Own.slice ox2
   simp only [c9, n9]
   refine Zqa Z Z <| Zn <| Zb <| Zt <| Zr <| Zqm Z Z <| Zqadd Z Z Z (w64 O O) <| Zqa Z Z <| Zn <| ?_
   refine thenQ_n ⟨(k + 1, .slice Ax2 _ cx2, Mx2), [_], kp, Z, ⟨(I1.1.t h3|>.t h4|>.t h6|>.t h17|>.t h18|>.t h19|>.t h20|>.t h21), ⟨by simp only; omega, by simp only; rw [rxs_take hx, hR0, List.length_append, List.length_append, rnvs_app, rnvs_app]; rw [← hAr, hlit, g2]; exact ox2⟩⟩, (by simp only; omega)⟩
  have hR0 : ndR (.ex x 0) = [] := if_neg (by have := c5; omega)
  refine Zk <| Zt <| Zr <| Zqm Z Z <| Wb Y5 <| Wl 0 Y6 <| Jc Z Z Z (ih e hd _ _ A' n' c' x.args (hax.le (h3.t h4)) O) ?_
  rintro _ _ s22 h22 ⟨rfl, Ar, nr, cr, rfl, hRr⟩
  have hAr := hRr.1
  refine JO_app (sz := 4) [_] Mo L Z Z Z Z Z Z Z hO (hRr.le (Lr D)).row ⟨by simp [ti86]; omega, by omega⟩ Z ?_
  intro vx1 Mx1 s23 h23 ox1
  obtain ⟨Ax1, cx1, rfl, _, _⟩ := Own.slice ox1
  simp only [c9, n9]
  refine Zqa Z Z <| Zn <| Zb <| Zt <| Zr <| Zqm Z Z <| Zqadd Z Z Z (w64 O O) <| Zqa Z Z <| Zn <| ?_
  refine thenQ_n ⟨(k + 1, .slice Ax1 _ cx1, Mx1), [_], kp, Z, ⟨(I1.1.t h3|>.t h4|>.t h22|>.t h23), ⟨by simp only; omega, by simp only; rw [rxs_take hx, hR0, List.length_append, List.length_append, rnvs_app, rnvs_app]; rw [← hAr]; simpa [rnvs] using ox1⟩⟩, (by simp only; omega)⟩
 obtain rfl : n = k := by omega
 rw [List.take_of_length_le O] at hO ⊢
 refine Zl <| Zv <| Zv <| Zd <| Zt <| Sr <| Zqm Z Z <| At Z Z <| Zo <| ?_
 refine retQ_mk [] _ (.inr Z) (.tmp Z (.nil)) Z I1.1 (fun sR hS2 => ?_)
 exact ⟨Mo, rfl, fun s2 hs2 hp => ⟨_, _, _, rfl, Own.rowF hO (fun _ => rfl) hp rfl⟩⟩
theorem rnx_of {D d : Nat} (h : ∀ (L : Hl) (s : World) (A : Option Addr) (n c : Nat) (xs : List Ex), Exs d s A n c xs → exNs xs ≤ 4000000 → AC Tryz.prog D 63 [.slice A n c] L s fun v L' s' => ∃ M', L' = M' ++ L ∧ ∀ s2, Le D s' s2 → Pub M' s2 → ∃ A' n' c', v = .slice A' n' c' ∧ Rns s2 A' n' c' (rxs xs 0)) : RNX D d := fun L s A n c xs hA hx => AC.pubW (h L s A n c xs hA hx)
theorem rnx (D : Nat) : ∀ d, RNX D d
  | 0 => rnx_of (rx_step D 0 (fun e h => by omega))
  | d + 1 => rnx_of (rx_step D (d + 1) (fun e h => (show d = e by omega) ▸ rnx D d))
theorem rs_step (D d : Nat) (ih : ∀ e, d = e + 1 → RNS D e) (L : Hl) (s : World) (A : Option Addr) (n c : Nat) (xs : List Stm) (lp lv : Nat) (hA : Stms d s A n c xs) (hv : stVs xs lv = true) (hlp : lp ≤ lv) (hx9 : stNs xs ≤ 4000000) : AC Tryz.prog D 37 [.slice A n c, .int .i64 (lp : Int)] L s fun v L' s' => ∃ M', L' = M' ++ L ∧ ∀ s2, Le D s' s2 → Pub M' s2 → ∃ A' n' c', v = .slice A' n' c' ∧ Rns s2 A' n' c' (rss xs lp) := by
 have hn := hA.1
 have hc1 := hA.2.1
 have hc2 := hA.2.2.1
 refine AC_enter (TT := TT) (fn := Tryz.f37) TT_ok Tryz.func37 V Z Tryz.ntmps37 Z (rs := [.tmp 4]) Z [(0, _), (1, _)] Z <| Sr <| At Z Z <| Sr <| At Z Z <| Zs <| Sr <| At Z Z <| Zp <| ?_
 refine JC_loop (γ := Nat × Value × Hl) (fun g => [(0, _), (1, _), (4, _), (5, g.2.1), (6, .int .i64 (g.1 : Int))]) (fun g => g.2.2 ++ L) (fun g tw => Le D s tw ∧ (g.1 ≤ n ∧ FL.Own 86 4 g.2.2 g.2.1 (rss (xs.take g.1) lp).length (rnvs (rss (xs.take g.1) lp)))) (fun g => n - g.1) (fun _ _ _ h hl => ⟨h.1.trans hl, h.2⟩) (0, .slice none 0 0, []) (.cons Z (.cons Z (.cons Z (.cons Z (.cons Z (.nil _)))))) Z ⟨Le.refl _, ⟨Nat.zero_le _, FL.Own.nil⟩⟩ ?_
 intro g s1 I1
 obtain ⟨k, vo, Mo⟩ := g
 obtain ⟨hk0, hO⟩ := I1.2
 simp only at hk0 hO
 dsimp only
 obtain ⟨Ao, co, rfl, _, _⟩ := Own.slice hO
 have hle1 := rss_le (xs.take k) lp
 have hle2 := take_le_st xs k
 refine Zs <| Sr <| Zqm Z Z <| Zqm Z Z <| Ws Y4 <| Zqlt Z Z Z <| Nt <| ?_
 refine JC_ifD Z (fun c2 => ?_) (fun c2 => ?_)
 ·
  have hk : k < n := by omega
  obtain ⟨e, b, off, x, A1, n1, p1, A2, n2, p2, A3, n3, p3, hd, rfl, hx, hcx, hax, hbx, hex, hnl⟩ := Stms.at_ (hA.le I1.1) hk
  have hn1 := hax.1
  have hq1 := hax.2.1
  have hq2 := hax.2.2.1
  have hx8 := stNs_mem hx
  obtain ⟨hvx, _⟩ := stV_at hv hx
  obtain ⟨hlv, _, _, hvB, hvL⟩ := stV_eq hvx
  have hl3 := rxs_le x.exprs 0
  have hl4 := rss_le x.body (lpI x lp)
  have hl5 := rss_le x.els (lpI x lp)
  have hl6 := ndR_le (.st x lp)
  have hlI : lpI x lp ≤ lv + 1 := by rw [lpI]; split <;> omega
  refine Zk <| Zt <| Zs <| Zp <| Sr <| Zqm Z Z <| Zqm Z Z <| JO_q (QE_iaN Z Z Z Z Z Z hk) Z <| JO_q (QE_ldsA Z Z Z (hcx.le (Lr D)) Z) Z <| JO_allocZ Z [_, _, _, _, _] Z Z ?_
  intro β3 s3 h3
  refine Wt 0 [_, _, _, _, _] Y9 <| Nt <| Sr <| Zqm Z Z <| At Z Z <| ?_
  refine JC_cutG (γ := Value × Hl) (fun g => [(5, g.1), (8, .int .i64 ((lpI x lp : Nat) : Int))]) [_] Z (fun g => g.2 ++ L) (fun g tw => FL.Own 86 4 g.2 g.1 ((rss (xs.take k) lp).length + (ndR (.st x lp)).length) (rnvs (rss (xs.take k) lp) ++ rnvs (ndR (.st x lp)))) (fun _ _ _ h hl => h) ?_ ?_
  ·
   refine Sr <| W0 Y5 <| Wl 0 Y6 <| Zqeq Z Z Z <| Nt <| ?_
   refine JC_ifD Z (fun c5 => ?_) (fun c5 => ?_)
   ·
    have hR0 : ndR (.st x lp) = [⟨x.name, 1, 0, 0⟩] := if_pos c5
    refine Zr <| Zqm Z Z <| Wb Y5 <| Wl 0 Y6 <| JO_q (QE_build [(_, _), (_, _)] [_, _, _, _] Z Z Z Z Z Z) Z <| JO_bs [(_, _)] [_, _, _, _] Z Z Z Z Z Z Z Z Z ?_
    intro βn s6 h6 hcb
    refine JO_app (sz := 4) [_] Mo L Z Z Z Z Z Z Z hO (Row.of_cells (hcb.le (Lr D)) Z Z) ⟨by simp [ti86]; omega, by omega⟩ Z ?_
    intro vx1 Mx1 s7 h7 ox1
    obtain ⟨Ax1, cx1, rfl, _, _⟩ := Own.slice ox1
    simp only [c9, n9]
    refine Zqa Z Z <| Zn <| ?_
    refine thenQ_n (MidG.mk (.slice Ax1 _ cx1, Mx1) [] (h6.t h7) (.cons Z (.cons (congrArg (fun i : Int => some (Value.int .i64 i)) (by rw [lpI]; split <;> omega)) (.nil _))) So (List.Perm.refl _) (by rw [hR0]; exact ox1))
   have g1 := c5
   refine Sr <| W0 Y5 <| Wl 0 Y6 <| Zqeq Z Z Z <| Nt <| ?_
   refine JC_ifD Z (fun c8 => ?_) (fun c8 => ?_)
   ·
    have hR0 : ndR (.st x lp) = [⟨x.name, 3, 0, 0⟩] := (if_neg g1).trans (if_pos c8)
    refine Zr <| Zqm Z Z <| Wb Y5 <| Wl 0 Y6 <| JO_q (QE_build [(_, _), (_, _)] [_, _, _, _] Z Z Z Z Z Z) Z <| JO_bs [(_, _)] [_, _, _, _] Z Z Z Z Z Z Z Z Z ?_
    intro βn s9 h9 hcb
    refine JO_app (sz := 4) [_] Mo L Z Z Z Z Z Z Z hO (Row.of_cells (hcb.le (Lr D)) Z Z) ⟨by simp [ti86]; omega, by omega⟩ Z ?_
    intro vx1 Mx1 s10 h10 ox1
    obtain ⟨Ax1, cx1, rfl, _, _⟩ := Own.slice ox1
    simp only [c9, n9]
    refine Zqa Z Z <| Zn <| ?_
    refine thenQ_n (MidG.mk (.slice Ax1 _ cx1, Mx1) [] (h9.t h10) (.cons Z (.cons (congrArg (fun i : Int => some (Value.int .i64 i)) (by rw [lpI]; split <;> omega)) (.nil _))) So (List.Perm.refl _) (by rw [hR0]; exact ox1))
   have g2 := c8
   refine Sr <| W0 Y5 <| Wl 0 Y6 <| Zqeq Z Z Z <| Nt <| ?_
   refine JC_ifD Z (fun c11 => ?_) (fun c11 => ?_)
   ·
    have hR0 : ndR (.st x lp) = [⟨x.name, 4, (n1 : Int), 0⟩] := by rw [hn1]; exact (if_neg g1).trans ((if_neg g2).trans (if_pos c11))
    refine Zr <| Zqm Z Z <| Wb Y5 <| Wl 0 Y6 <| Wb Y5 <| Wl 0 Y6 <| Ws Y4 <| JO_q (QE_build [(_, _), (_, _), (_, _)] [_, _, _, _] Z Z Z Z Z Z) Z <| JO_bs [(_, _)] [_, _, _, _] Z Z Z Z Z Z Z Z Z ?_
    intro βn s12 h12 hcb
    refine JO_app (sz := 4) [_] Mo L Z Z Z Z Z Z Z hO (Row.of_cells (hcb.le (Lr D)) Z Z) ⟨by simp [ti86]; omega, by omega⟩ Z ?_
    intro vx1 Mx1 s13 h13 ox1
    obtain ⟨Ax1, cx1, rfl, _, _⟩ := Own.slice ox1
    simp only [c9, n9]
    refine Zqa Z Z <| Zn <| ?_
    refine thenQ_n (MidG.mk (.slice Ax1 _ cx1, Mx1) [] (h12.t h13) (.cons Z (.cons (congrArg (fun i : Int => some (Value.int .i64 i)) (by rw [lpI]; split <;> omega)) (.nil _))) So (List.Perm.refl _) (by rw [hR0]; exact ox1))
   have g5 := c11
   refine Sr <| W0 Y5 <| Wl 0 Y6 <| Zqgt Z Z Z <| Nt <| ?_
   refine JC_ifD Z (fun c14 => ?_) (fun c14 => ?_)
   ·
    have hR0 : ndR (.st x lp) = [⟨[], 5, 0, (lp : Int)⟩] := (if_neg g1).trans ((if_neg g2).trans ((if_neg g5).trans (if_pos (by have := c14; omega))))
    refine Zr <| Zqm Z Z <| Zqm Z Z <| JO_q (QE_build [(_, _), (_, _)] [_, _, _, _] Z Z Z Z Z Z) Z <| JO_bs [(_, _)] [_, _, _, _] Z Z Z Z Z Z Z Z Z ?_
    intro βn s15 h15 hcb
    refine JO_app (sz := 4) [_] Mo L Z Z Z Z Z Z Z hO (Row.of_cells (hcb.le (Lr D)) Z Z) ⟨by simp [ti86]; omega, by omega⟩ Z ?_
    intro vx1 Mx1 s16 h16 ox1
    obtain ⟨Ax1, cx1, rfl, _, _⟩ := Own.slice ox1
    simp only [c9, n9]
    refine Zqa Z Z <| Zn <| ?_
    refine thenQ_n (MidG.mk (.slice Ax1 _ cx1, Mx1) [] (h15.t h16) (.cons Z (.cons (congrArg (fun i : Int => some (Value.int .i64 i)) (by rw [lpI]; split <;> omega)) (.nil _))) So (List.Perm.refl _) (by rw [hR0]; exact ox1))
   have hR0 : ndR (.st x lp) = [] := (if_neg g1).trans ((if_neg g2).trans ((if_neg g5).trans (if_neg (by have := c14; omega))))
   refine Sr <| W0 Y5 <| Wl 0 Y6 <| Zqeq Z Z Z <| Nt <| ?_
   refine JC_ifD Z (fun c17 => ?_) (fun c17 => ?_)
   ·
    refine Zr <| Zqm Z Z <| Zqadd Z Z Z (w64 O O) <| Zqa Z Z <| Zn <| ?_
    refine thenQ_n (MidG.mk (.slice Ao _ co, Mo) [] (Lr D) (.cons Z (.cons (congrArg (fun i : Int => some (Value.int .i64 i)) (by rw [lpI]; split <;> omega)) (.nil _))) So (List.Perm.refl _) (by rw [hR0]; simpa [rnvs] using hO))
   refine Zk ?_
   refine thenQ_n (MidG.mk (.slice Ao _ co, Mo) [] (Lr D) (.cons Z (.cons (congrArg (fun i : Int => some (Value.int .i64 i)) (by rw [lpI]; split <;> omega)) (.nil _))) So (List.Perm.refl _) (by rw [hR0]; simpa [rnvs] using hO))
  intro g s4 h4 I4
  simp only [c9, n9]
  obtain ⟨vo, Mo⟩ := g
  have hO := I4
  simp only at hO
  dsimp only
  obtain ⟨Ao, co, rfl, _, _⟩ := Own.slice hO
  refine Sr <| Zqm Z Z <| Wb Y5 <| Wl 0 Y6 <| Jc Z Z Z (rnx D e _ _ A1 n1 p1 x.exprs (hax.le (h3.t h4)) O) ?_
  rintro _ _ s18 h18 ⟨rfl, Ar, nr1, cr, rfl, hRx⟩
  have hr1 := hRx.1
  refine JO_app (sz := 4) [_] Mo L Z Z Z Z Z Z Z hO (hRx.le (Lr D)).row ⟨by simp [ti86]; omega, by omega⟩ Z ?_
  intro vx1 Mx1 s19 h19 ox1
  obtain ⟨Ax1, cx1, rfl, _, _⟩ := Own.slice ox1
  simp only [c9, n9]
  refine At Z Z <| Sr <| Zqm Z Z <| Wb Y5 <| Wl 0 Y6 <| Zqm Z Z <| Jc Z Z Z (ih e hd _ _ A2 n2 p2 x.body (lpI x lp) (lv + 1) (hbx.le (h3.t h4|>.t h18|>.t h19)) hvB hlI O) ?_
  rintro _ _ s20 h20 ⟨rfl, Ar2, nr2, cr2, rfl, hRb⟩
  have hr2 := hRb.1
  refine JO_app (sz := 4) [_] Mx1 L Z Z Z Z Z Z Z ox1 (hRb.le (Lr D)).row ⟨by simp [ti86]; omega, by omega⟩ Z ?_
  intro vx2 Mx2 s21 h21 ox2
  obtain ⟨Ax2, cx2, rfl, _, _⟩ := Own.slice ox2
  simp only [c9, n9]
  refine At Z Z <| Zr <| Zqm Z Z <| Wb Y5 <| Wl 0 Y6 <| Zqm Z Z <| Jc Z Z Z (ih e hd _ _ A3 n3 p3 x.els (lpI x lp) (lv + 1) (hex.le (h3.t h4|>.t h18|>.t h19|>.t h20|>.t h21)) hvL hlI O) ?_
  rintro _ _ s22 h22 ⟨rfl, Ar3, nr3, cr3, rfl, hRe⟩
  have hr3 := hRe.1
  refine JO_app (sz := 4) [_] Mx2 L Z Z Z Z Z Z Z ox2 (hRe.le (Lr D)).row ⟨by simp [ti86]; omega, by omega⟩ Z ?_
  intro vx3 Mx3 s23 h23 ox3
  obtain ⟨Ax3, cx3, rfl, _, _⟩ := Own.slice ox3
  simp only [c9, n9]
  refine Zqa Z Z <| Zn <| Zb <| Zt <| Zr <| Zqm Z Z <| Zqadd Z Z Z (w64 O O) <| Zqa Z Z <| Zn <| ?_
  refine thenQ_n ⟨(k + 1, .slice Ax3 _ cx3, Mx3), [_], kp, Z, ⟨(I1.1.t h3|>.t h4|>.t h18|>.t h19|>.t h20|>.t h21|>.t h22|>.t h23), ⟨by simp only; omega, by simp only; rw [rss_take hx]; simp only [List.length_append, rnvs_app]; rw [← hr1, ← hr2, ← hr3]; exact ox3⟩⟩, (by simp only; omega)⟩
 obtain rfl : n = k := by omega
 rw [List.take_of_length_le O] at hO ⊢
 refine Zl <| Zv <| Zv <| Zd <| Zt <| Sr <| Zqm Z Z <| At Z Z <| Zo <| ?_
 refine retQ_mk [] _ (.inr Z) (.tmp Z (.nil)) Z I1.1 (fun sR hS2 => ?_)
 exact ⟨Mo, rfl, fun s2 hs2 hp => ⟨_, _, _, rfl, Own.rowF hO (fun _ => rfl) hp rfl⟩⟩
theorem rns_of {D d : Nat} (h : ∀ (L : Hl) (s : World) (A : Option Addr) (n c : Nat) (xs : List Stm) (lp lv : Nat), Stms d s A n c xs → stVs xs lv = true → lp ≤ lv → stNs xs ≤ 4000000 → AC Tryz.prog D 37 [.slice A n c, .int .i64 (lp : Int)] L s fun v L' s' => ∃ M', L' = M' ++ L ∧ ∀ s2, Le D s' s2 → Pub M' s2 → ∃ A' n' c', v = .slice A' n' c' ∧ Rns s2 A' n' c' (rss xs lp)) : RNS D d := fun L s A n c xs lp lv hA h1 h2 h3 => AC.pubW (h L s A n c xs lp lv hA h1 h2 h3)
theorem rns (D : Nat) : ∀ d, RNS D d
  | 0 => rns_of (rs_step D 0 (fun e h => by omega))
  | d + 1 => rns_of (rs_step D (d + 1) (fun e h => (show d = e by omega) ▸ rns D d))
def rnC (p : Prg) (x : Fnc) (r : RNd) : Int := if r.u = 5 then (if r.loops = 0 then 24 else 0) else useC p x (r.name, r.u, r.count)
theorem useW_leave {u : Int} (h : 1 ≤ u ∧ u ≤ 5) : useW u = [108, 101, 97, 118, 101] ↔ u = 5 := by
  have h5 : u = 1 ∨ u = 2 ∨ u = 3 ∨ u = 4 ∨ u = 5 := by omega
  rcases h5 with rfl | rfl | rfl | rfl | rfl
  · exact iff_of_false (by decide) (by decide)
  · exact iff_of_false (by decide) (by decide)
  · exact iff_of_false (by decide) (by decide)
  · exact iff_of_false (by decide) (by decide)
  · exact iff_of_true (by decide) rfl
theorem mean_0 {p : Prg} {x : Fnc} {nm : Str} : (meanP p x nm).1.1 = 0 ↔ (meanP p x nm).2 = false := by
  constructor
  · intro h
    cases h2 : (meanP p x nm).2 with
    | false => rfl
    | true =>
      rcases mean_kind h2 with h3 | ⟨h3, _⟩ | ⟨h3, _⟩
      · omega
      · omega
      · omega
  · intro h; rw [mean_zero h]
theorem useW_call {u : Int} (h : 1 ≤ u ∧ u ≤ 5) (h4 : ¬ u = 4) : ¬ useW u = [99, 97, 108, 108] := by
  have h5 : u = 1 ∨ u = 2 ∨ u = 3 ∨ u = 5 := by omega
  rcases h5 with rfl | rfl | rfl | rfl <;> decide
def sgW : Str := [115, 101, 116, 32, 103, 101, 116]
def alwW (gk mk : Int) : Str := if mk = 4 then [99, 97, 108, 108] else if mk = 3 then (if gk = 1 then [103, 101, 116] else if gk = 2 then sgW else [105, 116, 101, 109]) else sgW
theorem alw_perm {gk u mk : Int} (hu : 1 ≤ u ∧ u ≤ 4) (hm : 1 ≤ mk ∧ mk ≤ 4) (hg : mk = 3 → 1 ≤ gk ∧ gk ≤ 3) : useW u ∈ splitB 32 (alwW gk mk) ↔ permP gk u mk := by
  have h1 : u = 1 ∨ u = 2 ∨ u = 3 ∨ u = 4 := by omega
  have h2 : mk = 1 ∨ mk = 2 ∨ mk = 3 ∨ mk = 4 := by omega
  have e1 : ∀ g : Int, alwW g 1 = sgW := fun g => rfl
  have e2 : ∀ g : Int, alwW g 2 = sgW := fun g => rfl
  have e4 : ∀ g : Int, alwW g 4 = [99, 97, 108, 108] := fun g => rfl
  rcases h2 with rfl | rfl | rfl | rfl
  · rw [e1]; rcases h1 with rfl | rfl | rfl | rfl
    · exact iff_of_true (by decide) O
    · exact iff_of_true (by decide) O
    · exact iff_of_false (by decide) O
    · exact iff_of_false (by decide) O
  · rw [e2]; rcases h1 with rfl | rfl | rfl | rfl
    · exact iff_of_true (by decide) O
    · exact iff_of_true (by decide) O
    · exact iff_of_false (by decide) O
    · exact iff_of_false (by decide) O
  · have hg := hg rfl
    have h3 : gk = 1 ∨ gk = 2 ∨ gk = 3 := by omega
    rcases h3 with rfl | rfl | rfl <;> rcases h1 with rfl | rfl | rfl | rfl <;> decide
  · rw [e4]; rcases h1 with rfl | rfl | rfl | rfl
    · exact iff_of_false (by decide) O
    · exact iff_of_false (by decide) O
    · exact iff_of_false (by decide) O
    · exact iff_of_true (by decide) O
theorem alw_len (gk mk : Int) : (alwW gk mk).length ≤ 7 := by
  unfold alwW
  by_cases h1 : mk = 4
  · rw [if_pos h1]; decide
  rw [if_neg h1]
  by_cases h2 : mk = 3
  · rw [if_pos h2]
    by_cases h3 : gk = 1
    · rw [if_pos h3]; decide
    rw [if_neg h3]
    by_cases h4 : gk = 2
    · rw [if_pos h4]; decide
    · rw [if_neg h4]; decide
  · rw [if_neg h2]; decide
theorem nodeC_ac (D : Nat) (L : Hl) (s : World) (d : Nat) (p : Prg) (Ag Af : Option Addr) (ng cg nf cf : Nat) (hGl : Glos s Ag ng cg p.globals) (hFn : Fncs d s Af nf cf p.funcs) (hV : PV p) (f : Nat) (x : Fnc) (hx0 : p.funcs[f]? = some x) (r : RNd) (hr : 1 ≤ r.u ∧ r.u ≤ 5) : AC Tryz.prog D 38 [.agg #[.slice Ag ng cg, .slice Af nf cf], .int .i64 (f : Int), .agg #[St r.name, St (useW r.u), .int .i64 r.count, .int .i64 r.loops]] L s fun v L' _ => v = .int .i64 (rnC p x r) ∧ L = L' := by
 have hn1 := hGl.1
 have hn2 := hFn.1
 refine AC_enter (TT := TT) (fn := Tryz.f38) TT_ok Tryz.func38 V Z Tryz.ntmps38 Z (rs := [.tmp 6]) Z [(0, _), (1, _), (2, _)] Z <| Sr <| JO_boxA Z Z ?_
 intro β1 s1 h1
 refine JO_boxA Z Z ?_
 intro β2 s2 h2
 refine At Z Z <| Zs <| Sr <| Wb Y5 <| Wl 0 Y6 <| JO_q (QE_cast (v' := .bool (decide (r.u = 5))) (QE_seq Z Z) (congrArg Value.bool (decide_eq_decide.2 (useW_leave hr)))) Z <| Nt <| ?_
 refine JC_ifD Z (fun c3 => ?_) (fun c3 => ?_)
 ·
  have g5 := c3
  refine Zs <| Sr <| Wb Y5 <| Wl 0 Y6 <| Zqeq Z Z Z <| Nt <| ?_
  refine JC_ifD Z (fun c4 => ?_) (fun c4 => ?_)
  ·
   have hE : rnC p x r = 24 := (if_pos g5).trans (if_pos c4)
   refine Sr <| At Z Z <| Zo <| Zu <| Zu <| ?_
   refine retQ_mk [_, _] L (.inr Z) (.tmp Z (.nil)) Z (h1.t h2) (fun sR hS2 => ?_)
   exact ⟨by rw [hE]; rfl, rfl⟩
  have hE : rnC p x r = 0 := (if_pos g5).trans (if_neg c4)
  refine Zk <| Zt <| Sr <| At Z Z <| Zo <| Zu <| ?_
  refine retQ_mk [_, _] L (.inr Z) (.tmp Z (.nil)) Z (h1.t h2) (fun sR hS2 => ?_)
  exact ⟨by rw [hE]; rfl, rfl⟩
 have g5 := c3
 have hu4 : 1 ≤ r.u ∧ r.u ≤ 4 := by omega
 have hE0 : rnC p x r = useC p x (r.name, r.u, r.count) := if_neg g5
 have hn0 : ¬ r.u = 0 := by omega
 refine Zk <| Zt <| Sr <| JO_q (QE_ldA 1 [_, _] Z Z Z Z Z) Z <| Zqm Z Z <| W0 Y5 <| Wl 0 Y6 <| Jc Z Z Z (meanOf_ac D _ _ d p Ag Af ng cg nf cf (hGl.le (h1.t h2)) (hFn.le (h1.t h2)) f x hx0 r.name) ?_
 rintro _ _ s5 h5 ⟨rfl, rfl⟩
 refine JO_allocZ Z [_, _] Z Z ?_
 intro β6 s6 h6
 refine Wt 0 [_, _] Y9 <| Nt <| Zs <| Sr <| W0 Y5 <| Wl 0 Y6 <| Zqeq Z Z Z <| Nt <| ?_
 refine JC_ifD Z (fun c7 => ?_) (fun c7 => ?_)
 ·
  have hE : rnC p x r = 12 := hE0.trans ((if_neg hn0).trans (if_pos (mean_0.1 c7)))
  refine Sr <| At Z Z <| Zo <| Zu <| ?_
  refine retQ_mk [_, _, _] L (.inr Z) (.tmp Z (.nil)) Z (h1.t h2|>.t h5|>.t h6) (fun sR hS2 => ?_)
  exact ⟨by rw [hE]; rfl, rfl⟩
 have g23 : ¬ (meanP p x r.name).2 = false := fun h => c7 (mean_0.2 h)
 have hmk := mean_kind (p := p) (x := x) (nm := r.name) (by cases h9 : (meanP p x r.name).2 with
   | false => exact absurd h9 g23
   | true => rfl)
 have hmk4 : 1 ≤ (meanP p x r.name).1.1 ∧ (meanP p x r.name).1.1 ≤ 4 := by omega
 have hg3 : (meanP p x r.name).1.1 = 3 → 1 ≤ gkOf p (meanP p x r.name).1.2 ∧ gkOf p (meanP p x r.name).1.2 ≤ 3 := fun h => by
   rcases hmk with q | ⟨_, k, q1, q2⟩ | ⟨q, _⟩
   · omega
   · rw [q1, gkOf_at (List.getElem?_eq_getElem q2)]
     have := gloC_zero (hV.2.2.1 _ (List.getElem_mem q2)).1
     exact ⟨this.1, this.2.1⟩
   · omega
 refine Zk <| Zt <| Sr <| At Z Z <| ?_
 refine JC_cutG (γ := Unit) (fun g => [(8, St (alwW (gkOf p (meanP p x r.name).1.2) (meanP p x r.name).1.1))]) [_, _, _] Z (fun g => L) (fun g tw => True) (fun _ _ _ h hl => h) ?_ ?_
 ·
  refine Sr <| W0 Y5 <| Wl 0 Y6 <| Zqeq Z Z Z <| Nt <| ?_
  refine JC_ifD Z (fun c9 => ?_) (fun c9 => ?_)
  ·
   have hS8 : [99, 97, 108, 108] = alwW (gkOf p (meanP p x r.name).1.2) (meanP p x r.name).1.1 := by rw [alwW, if_pos c9]
   refine Zr <| Zqa Z Z <| Zn <| ?_
   refine thenQ_n (MidG.mk () [] (Lr D) (.cons (congrArg (fun l : List UInt8 => some (St l)) As) (.nil _)) So (List.Perm.refl _) trivial)
  have g26 := c9
  refine Sr <| W0 Y5 <| Wl 0 Y6 <| Zqeq Z Z Z <| Nt <| ?_
  refine JC_ifD Z (fun c10 => ?_) (fun c10 => ?_)
  ·
   have g29 := c10
   obtain ⟨gi, hgi, hgl⟩ : ∃ k : Nat, (meanP p x r.name).1.2 = (k : Int) ∧ k < p.globals.length := by
     rcases hmk with q | ⟨_, q⟩ | ⟨q, _⟩
     · omega
     · exact q
     · omega
   have hgn : gi < ng := by omega
   obtain ⟨b, off, z, Ai, ni, ci, rfl, hz, hcz, hiz, huz, hnz⟩ := Glos.at_ (hGl.le (h1.t h2|>.t h5|>.t h6)) hgn
   have hgk := gkOf_at hz
   have hgk3 : z.kind = 1 ∨ z.kind = 2 ∨ z.kind = 3 := by have := hg3 g29; rw [hgi, hgk] at this; omega
   have hS8 : (if z.kind = 1 then [103, 101, 116] else if z.kind = 2 then sgW else [105, 116, 101, 109]) = alwW (gkOf p (meanP p x r.name).1.2) (meanP p x r.name).1.1 := by rw [alwW, if_neg g26, if_pos g29, hgi, hgk]
   refine Sr <| JO_bs [(_, _), (_, _), (_, _)] [_, _, _] Z Z Z Z Z Z Z Z Z ?_
   intro βu s11 h11 hcu
   refine At Z Z <| ?_
   rcases hgk3 with g3 | g3 | g3
   ·
    rw [if_pos g3] at hS8
    refine Zr <| Zqm Z Z <| W0 Y5 <| Wl 2 Y6 <| Wb Y5 <| Wl 0 Y6 <| JO_q (QE_iaN (j := gi) Z (show lk _ _ = some (.int .i64 (gi : Int)) from by rw [← hgi]; rfl) Z Z Z Z hgn) Z <| W0 Y5 <| JO_q (QE_ldsR0 Z Z Z (hcz.le h11) Z) Z <| JO_q (QE_sub' (c := ((0 : Nat) : Int)) Z Z (by rw [w64 O O]; omega)) Z <| JO_q (QE_iaN (j := 0) Z Z Z Z Z Z (by decide)) Z <| JO_q (QE_ldsR 0 Z Z Z (hcu.le (Lr D)) Z) Z <| Zqa Z Z <| Zn <| ?_
    refine thenQ_n (MidG.mk () [] h11 (.cons (congrArg (fun l : List UInt8 => some (St l)) As) (.nil _)) So (List.Perm.refl _) trivial)
   ·
    rw [if_neg O, if_pos g3] at hS8
    rw [show sgW = [115, 101, 116, 32, 103, 101, 116] from rfl] at hS8
    refine Zr <| Zqm Z Z <| W0 Y5 <| Wl 2 Y6 <| Wb Y5 <| Wl 0 Y6 <| JO_q (QE_iaN (j := gi) Z (show lk _ _ = some (.int .i64 (gi : Int)) from by rw [← hgi]; rfl) Z Z Z Z hgn) Z <| W0 Y5 <| JO_q (QE_ldsR0 Z Z Z (hcz.le h11) Z) Z <| JO_q (QE_sub' (c := ((1 : Nat) : Int)) Z Z (by rw [w64 O O]; omega)) Z <| JO_q (QE_iaN (j := 1) Z Z Z Z Z Z (by decide)) Z <| JO_q (QE_ldsR 1 Z Z Z (hcu.le (Lr D)) Z) Z <| Zqa Z Z <| Zn <| ?_
    refine thenQ_n (MidG.mk () [] h11 (.cons (congrArg (fun l : List UInt8 => some (St l)) As) (.nil _)) So (List.Perm.refl _) trivial)
   rw [if_neg O, if_neg O] at hS8
   refine Zr <| Zqm Z Z <| W0 Y5 <| Wl 2 Y6 <| Wb Y5 <| Wl 0 Y6 <| JO_q (QE_iaN (j := gi) Z (show lk _ _ = some (.int .i64 (gi : Int)) from by rw [← hgi]; rfl) Z Z Z Z hgn) Z <| W0 Y5 <| JO_q (QE_ldsR0 Z Z Z (hcz.le h11) Z) Z <| JO_q (QE_sub' (c := ((2 : Nat) : Int)) Z Z (by rw [w64 O O]; omega)) Z <| JO_q (QE_iaN (j := 2) Z Z Z Z Z Z (by decide)) Z <| JO_q (QE_ldsR 2 Z Z Z (hcu.le (Lr D)) Z) Z <| Zqa Z Z <| Zn <| ?_
   refine thenQ_n (MidG.mk () [] h11 (.cons (congrArg (fun l : List UInt8 => some (St l)) As) (.nil _)) So (List.Perm.refl _) trivial)
  have hS8 : sgW = alwW (gkOf p (meanP p x r.name).1.2) (meanP p x r.name).1.1 := by rw [alwW, if_neg g26, if_neg c10]
  refine Zk ?_
  refine thenQ_n (MidG.mk () [] (Lr D) (.cons (congrArg (fun l : List UInt8 => some (St l)) As) (.nil _)) So (List.Perm.refl _) trivial)
 intro g s8 h8 I8
 simp only [c9, n9]
 refine Zs <| Zs <| JC_draw drawsMixed 6 Z _ (fun _ h => h) ?_
 intro s12 h12
 refine za 0 Z (QE_mv Z) Z <| za 2 Z (We Y4) Z <| za 3 Z (Wd 1 Y5) Z <| JA_1 1 V <| Jb Z trivial Z Z Z (split_ac D _ _ _ 32 (by have := alw_len (gkOf p (meanP p x r.name).1.2) (meanP p x r.name).1.1; omega)) ?_
 rintro _ _ s13 h13 ⟨rfl, As, ns, cs, rfl, hSs⟩
 refine ⟨fun _ _ h => h, ?_⟩
 refine JA_1 4 V <| Jb Z trivial Z Z Z (place_ac D _ _ As ns cs _ (hSs.le (Lr D)) (useW r.u)) ?_
 rintro _ _ s14 h14 ⟨rfl, rfl⟩
 refine ⟨fun _ _ h => h, ?_⟩
 refine za 5 Z (QE_lt Z Z) Z <| JA_done V <| Zt ?_
 refine JC_ifD Z (fun c15 => ?_) (fun c15 => ?_)
 ·
  have g47 : ¬ permP (gkOf p (meanP p x r.name).1.2) r.u (meanP p x r.name).1.1 := fun h => absurd c15 (Int.not_lt.2 ((idxOf_mem (k := 0)).2 ((alw_perm hu4 hmk4 hg3).2 h)))
  have hE : rnC p x r = 13 := hE0.trans ((if_neg hn0).trans ((if_neg g23).trans (if_pos g47)))
  refine Sr <| At Z Z <| Zo <| Zu <| ?_
  refine retQ_mk [_, _, _] L (.inr Z) (.tmp Z (.nil)) Z (h1.t h2|>.t h5|>.t h6|>.t h8|>.t h12|>.t h13|>.t h14) (fun sR hS2 => ?_)
  exact ⟨by rw [hE]; rfl, rfl⟩
 have g47 : permP (gkOf p (meanP p x r.name).1.2) r.u (meanP p x r.name).1.1 := (alw_perm hu4 hmk4 hg3).1 ((idxOf_mem (k := 0)).1 (Int.not_lt.1 c15))
 refine Zk <| Zt <| Zs <| Zs <| ?_
 rcases Classical.em (r.u = 4) with g4 | g4
 ·
  obtain ⟨j, hj, hjn⟩ : ∃ j : Nat, (meanP p x r.name).1.2 = (j : Int) ∧ j < p.funcs.length := by
    rcases hmk with q | ⟨q, _⟩ | ⟨_, q⟩
    · exfalso; have := g47; omega
    · exfalso; have := g47; omega
    · exact q
  have hjf : j < nf := by omega
  obtain ⟨b2, off2, z2, D1, t1, w1, D2, t2, w2, D3, t3, w3, rfl, hz2, hcy, hpz, hlz, hbz, hzl⟩ := Fncs.at_ (hFn.le (h1.t h2|>.t h5|>.t h6|>.t h8|>.t h12|>.t h13|>.t h14)) hjf
  have hm9 := hpz.1
  have hpar := parN_at hj hz2
  refine JC_draw drawsMixed 16 Z _ (fun _ h => h) ?_
  intro s16 h16
  refine za 0 Z (We Y4) Z <| za 1 Z (Wd 1 Y5) Z <| za 2 Z (QE_cast (v' := .bool true) (QE_seq Z Z) (bT (by rw [g4]; rfl))) Z <| za 3 Z (QE_mv Z) Z <| zg 4 Z ⟨_, Z, Z⟩ (We Y4) Z <| zg 5 Z ⟨_, Z, Z⟩ (Wd 2 Y5) Z <| zg 6 Z ⟨_, Z, Z⟩ (We Y4) Z <| zg 7 Z ⟨_, Z, Z⟩ (Wd 0 Y5) Z <| zg 8 Z ⟨_, Z, Z⟩ (QE_iaN (j := j) Z (show lk _ _ = some (.int .i64 (j : Int)) from by rw [← hj]; rfl) Z Z Z Z hjf) Z <| zg 9 Z ⟨_, Z, Z⟩ (QE_fa Z Z Z Z) Z <| zg 10 Z ⟨_, Z, Z⟩ (QE_ldsR 1 Z Z Z (hcy.le h16) Z) Z <| zg 11 Z ⟨_, Z, Z⟩ (QE_lenS Z Z Z) Z ?_
  refine zg 12 Z ⟨_, Z, Z⟩ (We Y4) Z <| zg 13 Z ⟨_, Z, Z⟩ (Wd 1 Y5) Z <| zg 14 Z ⟨_, Z, Z⟩ (QE_ne Z Z) Z <| za 15 Z (QE_pickT Z Z) Z <| JA_done V <| Zt ?_
  refine JC_ifN Z (fun c17 => ?_) (fun c17 => ?_)
  ·
   have hE : rnC p x r = 9 := hE0.trans ((if_neg hn0).trans ((if_neg g23).trans ((if_neg (fun h => h g47)).trans (if_pos ⟨g4, by show r.count ≠ ((parN p (meanP p x r.name).1.2 : Nat) : Int); rw [hpar]; have := c17; omega⟩))))
   refine Sr <| At Z Z <| Zo <| Zu <| ?_
   refine retQ_mk [_, _, _] L (.inr Z) (.tmp Z (.nil)) Z (h1.t h2|>.t h5|>.t h6|>.t h8|>.t h12|>.t h13|>.t h14|>.t h16) (fun sR hS2 => ?_)
   exact ⟨by rw [hE]; rfl, rfl⟩
  have hE : rnC p x r = 0 := hE0.trans ((if_neg hn0).trans ((if_neg g23).trans ((if_neg (fun h => h g47)).trans (if_neg (fun h => h.2 (by show r.count = ((parN p (meanP p x r.name).1.2 : Nat) : Int); rw [hpar]; have := c17; omega))))))
  refine Zk <| Zt <| Sr <| At Z Z <| Zo <| ?_
  refine retQ_mk [_, _, _] L (.inr Z) (.tmp Z (.nil)) Z (h1.t h2|>.t h5|>.t h6|>.t h8|>.t h12|>.t h13|>.t h14|>.t h16) (fun sR hS2 => ?_)
  exact ⟨by rw [hE]; rfl, rfl⟩
 refine JC_draw drawsMixed 16 Z _ (fun _ h => h) ?_
 intro s18 h18
 refine za 0 Z (We Y4) Z <| za 1 Z (Wd 1 Y5) Z <| za 2 Z (QE_cast (v' := .bool false) (QE_seq Z Z) (bZ (useW_call hr g4))) Z <| za 3 Z (QE_mv Z) Z <| zn 4 Z Z Z Z Z <| zn 5 Z Z Z Z Z <| zn 6 Z Z Z Z Z <| zn 7 Z Z Z Z Z <| zn 8 Z Z Z Z Z <| zn 9 Z Z Z Z Z <| zn 10 Z Z Z Z Z <| zn 11 Z Z Z Z Z <| zn 12 Z Z Z Z Z <| zn 13 Z Z Z Z Z <| zn 14 Z Z Z Z Z <| za 15 Z (QE_pickF Z Z) Z <| JA_done V <| Zt <| Zz Z <| ?_
 have hE : rnC p x r = 0 := hE0.trans ((if_neg hn0).trans ((if_neg g23).trans ((if_neg (fun h => h g47)).trans (if_neg (fun h => g4 h.1)))))
 refine Zk <| Zt <| Sr <| At Z Z <| Zo <| ?_
 refine retQ_mk [_, _, _] L (.inr Z) (.tmp Z (.nil)) Z (h1.t h2|>.t h5|>.t h6|>.t h8|>.t h12|>.t h13|>.t h14|>.t h18) (fun sR hS2 => ?_)
 exact ⟨by rw [hE]; rfl, rfl⟩
theorem place_ok : FnOK Tryz.prog 35 := AC.ok (place_ac 0 [] default none 0 0 [] ⟨rfl, Nat.zero_le _, by omega, fun i x h => by cases h⟩ [])
theorem placeO_ac (D : Nat) (X L : Hl) (s : World) (M : Hl) (A : Option Addr) (n c : Nat) (l : List Str) (hO : FL.Own 9 1 M (.slice A n c) n (sb l)) (hu : ∀ x ∈ l, x.length ≤ 9223372036854775807) (hn : n = l.length) (w : Str) : AC Tryz.prog D 35 [.slice A n c, St w] (X ++ (M ++ L)) s fun v L' _ => v = .int .i64 (idxOf (fun x => decide (w = x)) l 0) ∧ L' = X ++ (M ++ L) :=
  AC.perm (List.perm_append_comm_assoc ..) (AC.lend M (own_cb hO) place_ok fun ho => place_ac D (X ++ L) _ A n c l (Own.strs hO hu (pub_own ho) hn) w) fun v L1 s1 ⟨g0, g1⟩ => ⟨_, by rw [← g1]; exact List.perm_append_comm_assoc .., g0, rfl⟩
def bdR (p : Prg) (x : Fnc) : List RNd → Int
  | [] => 0
  | r :: l => if rnC p x r = 0 then bdR p x l else rnC p x r
theorem bdR_at {p : Prg} {x : Fnc} {l : List RNd} {k : Nat} {r : RNd} (h : l[k]? = some r) : bdR p x (l.drop k) = if rnC p x r = 0 then bdR p x (l.drop (k + 1)) else rnC p x r := by
  obtain ⟨hk, rfl⟩ := List.getElem?_eq_some_iff.1 h
  rw [List.drop_eq_getElem_cons hk, bdR]
def okN : Nd → Prop
  | .st y _ => y.kind ≤ 10
  | .ex _ _ => True
theorem okXs : ∀ (l : List Ex) (lp : Nat), ∀ nd ∈ ndXs l lp, okN nd
  | [], _ => fun nd h => by cases h
  | .mk k o n nm ar :: r, lp => fun nd h => by
    rw [ndXs, ndX] at h
    rcases List.mem_append.1 h with h | h
    · rcases List.mem_cons.1 h with rfl | h
      · trivial
      · exact okXs ar lp nd h
    · exact okXs r lp nd h
theorem okSs : ∀ (l : List Stm) (lp lv : Nat), stVs l lv = true → ∀ nd ∈ ndSs l lp, okN nd
  | [], _, _, _ => fun nd h => by cases h
  | .mk k nm es b e :: r, lp, lv, hv => fun nd h => by
    have hv1 : stV (.mk k nm es b e) lv = true := (stV_at hv (k := 0) rfl).1
    have hv2 : stVs r lv = true := by
      have := hv
      rw [stVs, Bool.and_eq_true] at this
      exact this.2
    obtain ⟨_, hc, _, hb, he⟩ := stV_eq hv1
    rw [ndSs, ndS] at h
    rcases List.mem_append.1 h with h | h
    · rcases List.mem_cons.1 h with rfl | h
      · exact (stC_args hc).2.1
      · rcases List.mem_append.1 h with h | h
        · exact okXs es lp nd h
        · rcases List.mem_append.1 h with h | h
          · exact okSs b _ _ hb nd h
          · exact okSs e _ _ he nd h
    · exact okSs r lp lv hv2 nd h
theorem useC_cnt {p : Prg} {x : Fnc} {nm : Str} {u c c' : Int} (h : u ≠ 4) : useC p x (nm, u, c) = useC p x (nm, u, c') := by
  unfold useC
  simp only [h, false_and, if_false]
theorem ndC_R {p : Prg} {x : Fnc} {nd : Nd} (h : okN nd) : (ndR nd = [] ∧ ndC p x nd = 0) ∨ ∃ r, ndR nd = [r] ∧ ndC p x nd = rnC p x r := by
  cases nd with
  | ex y lp =>
    by_cases h1 : 2 ≤ y.kind ∧ y.kind ≤ 4
    · refine .inr ⟨_, by rw [ndR, if_pos h1], ?_⟩
      rw [ndC, rnC, if_neg (by simp only; omega)]
      have h2 : y.kind = 2 ∨ y.kind = 3 ∨ y.kind = 4 := by omega
      rcases h2 with h2 | h2 | h2
      · rw [useE, if_pos h2]; simp only [h2]; exact useC_cnt (by decide)
      · rw [useE, if_neg O, if_pos h2]; simp only [h2]; exact useC_cnt (by decide)
      · rw [useE, if_neg O, if_neg O, if_pos h2]; simp only [h2]
    · refine .inl ⟨by rw [ndR, if_neg h1], ?_⟩
      rw [ndC, useE, if_neg O, if_neg O, if_neg O, useC, if_pos rfl]
  | st y lp =>
    have hk : y.kind ≤ 10 := h
    by_cases h1 : y.kind = 1
    · refine .inr ⟨_, by rw [ndR, if_pos h1], ?_⟩
      rw [ndC, if_neg O, rnC, if_neg (by simp), useS, if_pos h1]
    by_cases h2 : y.kind = 2
    · refine .inr ⟨_, by rw [ndR, if_neg h1, if_pos h2], ?_⟩
      rw [ndC, if_neg O, rnC, if_neg (by simp), useS, if_neg h1, if_pos h2]
    by_cases h5 : y.kind = 5
    · refine .inr ⟨_, by rw [ndR, if_neg h1, if_neg h2, if_pos h5], ?_⟩
      rw [ndC, if_neg O, rnC, if_neg (by simp), useS, if_neg h1, if_neg h2, if_pos h5]
    by_cases h8 : 8 < y.kind
    · refine .inr ⟨_, by rw [ndR, if_neg h1, if_neg h2, if_neg h5, if_pos h8], ?_⟩
      rw [ndC, rnC, if_pos rfl]
      by_cases h0 : lp = 0
      · rw [if_pos ⟨by omega, h0⟩, if_pos (by simp only; omega)]
      · rw [if_neg (fun q => h0 q.2), if_neg (by simp only; omega), useS, if_neg h1, if_neg h2, if_neg h5, useC, if_pos rfl]
    · refine .inl ⟨by rw [ndR, if_neg h1, if_neg h2, if_neg h5, if_neg h8], ?_⟩
      rw [ndC, if_neg O, useS, if_neg h1, if_neg h2, if_neg h5, useC, if_pos rfl]
theorem bdR_eq {p : Prg} {x : Fnc} : ∀ {l : List Nd}, (∀ nd ∈ l, okN nd) → bdR p x (l.flatMap ndR) = badN p x l
  | [], _ => rfl
  | n :: r, h => by
    have ih := bdR_eq (p := p) (x := x) (l := r) fun nd hn => h nd (List.mem_cons_of_mem _ hn)
    rw [List.flatMap_cons, badN]
    rcases ndC_R (p := p) (x := x) (h n (List.mem_cons_self ..)) with ⟨h1, h2⟩ | ⟨q, h1, h2⟩
    · rw [h1, h2, if_pos rfl]; exact ih
    · rw [h1, h2]
      show bdR p x (q :: List.flatMap ndR r) = _
      rw [bdR, ih]
theorem rss_bad {p : Prg} {x : Fnc} {lv : Nat} (h : stVs x.body lv = true) : bdR p x (rss x.body 0) = badN p x (ndSs x.body 0) := bdR_eq (okSs x.body 0 lv h)
theorem ndR_u {nd : Nd} {r : RNd} (h : r ∈ ndR nd) : 1 ≤ r.u ∧ r.u ≤ 5 := by
  cases nd with
  | ex y lp =>
    by_cases h1 : 2 ≤ y.kind ∧ y.kind ≤ 4
    · rw [ndR, if_pos h1, List.mem_singleton] at h; subst h; simp only; omega
    · rw [ndR, if_neg h1] at h; cases h
  | st y lp =>
    rw [ndR] at h
    by_cases h1 : y.kind = 1
    · rw [if_pos h1, List.mem_singleton] at h; subst h; exact ⟨show (1 : Int) ≤ 1 by decide, show (1 : Int) ≤ 5 by decide⟩
    rw [if_neg h1] at h
    by_cases h2 : y.kind = 2
    · rw [if_pos h2, List.mem_singleton] at h; subst h; exact ⟨show (1 : Int) ≤ 3 by decide, show (3 : Int) ≤ 5 by decide⟩
    rw [if_neg h2] at h
    by_cases h5 : y.kind = 5
    · rw [if_pos h5, List.mem_singleton] at h; subst h; exact ⟨show (1 : Int) ≤ 4 by decide, show (4 : Int) ≤ 5 by decide⟩
    rw [if_neg h5] at h
    by_cases h8 : 8 < y.kind
    · rw [if_pos h8, List.mem_singleton] at h; subst h; exact ⟨show (1 : Int) ≤ 5 by decide, show (5 : Int) ≤ 5 by decide⟩
    · rw [if_neg h8] at h; cases h
theorem rss_u {l : List Stm} {lp : Nat} {r : RNd} (h : r ∈ rss l lp) : 1 ≤ r.u ∧ r.u ≤ 5 := by
  obtain ⟨nd, _, h1⟩ := List.mem_flatMap.1 h
  exact ndR_u h1
theorem rchk_ac (D : Nat) (L : Hl) (s : World) (d : Nat) (p : Prg) (Ag Af : Option Addr) (ng cg nf cf : Nat) (hGl : Glos s Ag ng cg p.globals) (hFn : Fncs d s Af nf cf p.funcs) : AC Tryz.prog D 10 [.agg #[.slice Ag ng cg, .slice Af nf cf]] L s fun v L' _ => v = .agg #[.int .i64 (chkF p).1, .int .i64 (chkF p).2] ∧ L = L' := by
 have hn1 := hGl.1
 have hn2 := hFn.1
 have hU : prU p := ⟨hGl.u, hFn.u⟩
 refine AC_enter (TT := TT) (fn := Tryz.f10) TT_ok Tryz.func10 V Z Tryz.ntmps10 Z (rs := [.cell 2 28]) Z [(0, _)] Z <| Sr <| JO_boxA Z Z ?_
 intro β1 s1 h1
 refine JO_allocZ Z [_, _] Z Z ?_
 intro β2 s2 h2
 refine Nt <| Sr <| JO_q (QE_ldA 1 [_, _] Z Z Z Z Z) Z <| Jc Z Z Z (rprgF_ac D _ _ d p Ag Af ng cg nf cf (hGl.le (h1.t h2)) (hFn.le (h1.t h2))) ?_
 rintro _ _ s3 h3 ⟨rfl, rfl⟩
 refine JO_allocZ Z [_, _] Z Z ?_
 intro β4 s4 h4
 refine Wt 0 [_, _] Y9 <| Nt <| Zs <| Sr <| W0 Y5 <| Wl 0 Y6 <| Zqne Z Z Z <| Nt <| ?_
 refine JC_ifN Z (fun c5 => ?_) (fun c5 => ?_)
 ·
  have hE : chkF p = prgF p := if_pos c5
  refine Sr <| JO_q (QE_ldA 0 [_, _] Z Z Z Z Z) Z <| Wt 1 [_, _] Y9 <| Nt <| Zo <| Zu <| ?_
  refine retQ_mk [_, _, _] L (.inr Z) (.agg (us := [_, _]) 1 Z Z Z Z Z (.nil)) Z (h1.t h2|>.t h3|>.t h4) (fun sR hS2 => ?_)
  exact ⟨by rw [hE]; rfl, rfl⟩
 have g14 : ¬ (prgF p).1 ≠ 0 := fun h => h c5
 have hz0 := prgF_00 c5
 have hV := PV.of hU (prF_shape c5)
 have hV1 := hV.1
 have hV2 := hV.2.1
 have hVf := hV.2.2.2.1
 obtain ⟨hN1, hNF⟩ := names_ok hV
 refine Zk <| Zt <| Sr <| At Z Z <| Zs <| Sr <| At Z Z <| Zp <| ?_
 refine JC_loop (γ := Nat × Value × Hl) (fun g => [(1, _), (2, _), (3, _), (4, g.2.1), (5, .int .i64 (g.1 : Int))]) (fun g => _ :: _ :: _ :: (g.2.2 ++ L)) (fun g tw => Le D s4 tw ∧ (g.1 ≤ ng ∧ FL.Own 9 1 g.2.2 g.2.1 g.1 (sb ((p.globals.take g.1).map Glo.name)) ∧ namG p.globals [] 0 = namG (p.globals.drop g.1) ((p.globals.take g.1).map Glo.name) g.1)) (fun g => ng - g.1) (fun _ _ _ h hl => ⟨h.1.trans hl, h.2⟩) (0, .slice none 0 0, []) (.cons Z (.cons Z (.cons Z (.cons Z (.cons Z (.nil _)))))) Z ⟨Le.refl _, ⟨Nat.zero_le _, Own.nil, Z⟩⟩ ?_
 intro g s6 I6
 obtain ⟨k, vo, Mo⟩ := g
 obtain ⟨hk0, hO, hS⟩ := I6.2
 simp only at hk0 hO hS
 dsimp only
 obtain ⟨Av, cv, rfl, hv1, hv2⟩ := Own.slice hO
 refine Zs <| Sr <| Zqm Z Z <| W0 Y5 <| Wl 2 Y6 <| Ws Y4 <| Zqlt Z Z Z <| Nt <| ?_
 refine JC_ifD Z (fun c7 => ?_) (fun c7 => ?_)
 ·
  have hk : k < ng := by omega
  obtain ⟨b, off, x, Ai, ni, ci, rfl, hx, hcx, hix, hux, hnl⟩ := Glos.at_ (hGl.le (h1.t h2|>.t h3|>.t h4|>.t I6.1)) hk
  refine Zk <| Zt <| Zs <| Zp <| Zs <| Sr <| Zqm Z Z <| W0 Y5 <| Wl 2 Y6 <| Zqm Z Z <| JO_q (QE_iaN Z Z Z Z Z Z hk) Z <| JO_q (QE_fa Z Z Z Z) Z <| JO_q (QE_ldsR 1 Z Z Z (hcx.le (Lr D)) Z) Z <| Jc Z Z Z (placeO_ac D [_, _, _] L _ Mo Av k cv _ hO (fun w hw => hN1 w (by rw [List.map_take] at hw; exact List.mem_of_mem_take hw)) (by rw [List.length_map, List.length_take]; omega) x.name) ?_
  rintro _ _ s8 h8 ⟨rfl, rfl⟩
  simp only [c9, n9]
  refine Zqge Z Z Z <| Nt <| ?_
  refine JC_ifD Z (fun c9 => ?_) (fun c9 => ?_)
  ·
   have hi9 := (idxOf_mem (k := 0)).1 c9
   have q9 : namG p.globals [] 0 = (8, (k : Int)) := by rw [hS, namG_at hx, if_pos hi9]
   have hE9 : nameF p = (8, (k : Int)) := by rw [nF_g (by rw [q9]; simp), q9]
   have hE : chkF p = (8, (k : Int)) := by rw [chkF, if_neg g14, if_pos (by rw [hE9]; simp), hE9]
   refine Sr <| Zqm Z Z <| Jc Z Z Z (at_ac D _ _ _ _) ?_
   rintro _ _ s10 h10 ⟨rfl, rfl⟩
   refine Wt 1 [_, _] Y9 <| Nt <| Zo <| Zu <| Zc <| Zu <| Zu <| Zc <| Zu <| ?_
   refine retQ_mk (_ :: _ :: _ :: Mo) L (.inr Z) (.agg (us := [_, _]) 1 Z Z Z Z Z (.nil)) Z (h1.t h2|>.t h3|>.t h4|>.t I6.1|>.t h8|>.t h10) (fun sR hS2 => ?_)
   exact ⟨by rw [hE]; rfl, rfl⟩
  have hz := fun q => c9 ((idxOf_mem (k := 0)).2 q)
  refine Zk <| Zt <| Zr <| Zqm Z Z <| W0 Y5 <| Wl 2 Y6 <| Zqm Z Z <| JO_q (QE_iaN Z Z Z Z Z Z hk) Z <| JO_q (QE_fa Z Z Z Z) Z <| JO_q (QE_ldsR 1 Z Z Z (hcx.le h8) Z) Z <| JO_bs [(_, _)] [_] Z Z Z Z Z Z Z Z Z ?_
  intro βn s11 h11 hcb
  refine JO_app (sz := 1) [_, _, _] Mo L Z Z Z Z Z Z Z hO (Row.of_cells (hcb.le (Lr D)) Z Z) ⟨by simp [ti9]; omega, by omega⟩ Z ?_
  intro vq Mq s12 h12 oq
  obtain ⟨Avq, cvq, rfl, _, _⟩ := Own.slice oq
  simp only [c9, n9]
  refine Zqa Z Z <| Zn <| Zb <| Zt <| Zr <| Zqm Z Z <| Zqadd Z Z Z (w64 O O) <| Zqa Z Z <| Zn <| ?_
  refine thenQ_n ⟨(k + 1, .slice Avq (k + 1) cvq, Mq), [], kp, Z, ⟨(I6.1.t h8|>.t h11|>.t h12), ⟨by simp only; omega, by rw [take_map_next Glo.name hx, sb_app]; exact oq, by simp only; rw [hS, namG_at hx, if_neg hz, take_map_next Glo.name hx]⟩⟩, (by simp only; omega)⟩
 obtain rfl : ng = k := by omega
 rw [List.drop_eq_nil_of_le O, namG] at hS
 rw [List.take_of_length_le O] at hO
 refine Zl <| Zv <| Zv <| Zd <| Zt <| Zs <| Sr <| At Z Z <| Zp <| ?_
 refine JC_loop (γ := Nat × Value × Hl) (fun g => [(1, _), (2, _), (3, _), (4, g.2.1), (6, .int .i64 (g.1 : Int))]) (fun g => _ :: _ :: _ :: (g.2.2 ++ L)) (fun g tw => Le D s6 tw ∧ (g.1 ≤ nf ∧ FL.Own 9 1 g.2.2 g.2.1 (ng + g.1) (sb (p.globals.map Glo.name ++ (p.funcs.take g.1).map Fnc.name)) ∧ namF p.funcs (p.globals.map Glo.name) p.globals.length = namF (p.funcs.drop g.1) (p.globals.map Glo.name ++ (p.funcs.take g.1).map Fnc.name) (p.globals.length + g.1))) (fun g => nf - g.1) (fun _ _ _ h hl => ⟨h.1.trans hl, h.2⟩) (0, .slice Av ng cv, Mo) (.cons Z (.cons Z (.cons Z (.cons Z (.cons Z (.nil _)))))) Z ⟨Le.refl _, ⟨Nat.zero_le _, by simpa using hO, by simp⟩⟩ ?_
 intro g s13 I13
 obtain ⟨k, vo, Mo⟩ := g
 obtain ⟨hk0, hO, hSf⟩ := I13.2
 simp only at hk0 hO hSf
 dsimp only
 obtain ⟨Av, cv, rfl, hv1, hv2⟩ := Own.slice hO
 refine Zs <| Sr <| Zqm Z Z <| Wb Y5 <| Wl 2 Y6 <| Ws Y4 <| Zqlt Z Z Z <| Nt <| ?_
 refine JC_ifD Z (fun c14 => ?_) (fun c14 => ?_)
 ·
  have hk : k < nf := by omega
  obtain ⟨b, off, x, B1, m1, d1, B2, m2, d2, B3, m3, d3, rfl, hx, hcx, hpx, hlx, hbx, hnl⟩ := Fncs.at_ (hFn.le (h1.t h2|>.t h3|>.t h4|>.t I6.1|>.t I13.1)) hk
  have hfx := hVf x (List.mem_of_getElem? hx)
  obtain ⟨hi1, hi2, hi3, hi4, hi5, hi6⟩ := hfx
  have hp9 := hpx.1
  have hl9 := hlx.1
  refine Zk <| Zt <| Zs <| Zp <| Sr <| Wb Y5 <| Wl 2 Y6 <| Zqm Z Z <| JO_q (QE_iaN Z Z Z Z Z Z hk) Z <| JO_q (QE_ldsA Z Z Z (hcx.le (Lr D)) Z) Z <| JO_allocZ Z [_, _, _, _] Z Z ?_
  intro β15 s15 h15
  refine Wt 0 [_, _, _, _] Y9 <| Nt <| Zs <| Sr <| Zqm Z Z <| W0 Y5 <| Wl 0 Y6 <| Jc Z Z Z (placeO_ac D [_, _, _, _] L _ Mo Av (ng + k) cv _ hO (fun w hw => (List.mem_append.1 hw).elim (hN1 w) (fun hw => hNF w (by rw [List.map_take] at hw; exact List.mem_of_mem_take hw))) (by rw [List.length_append, List.length_map, List.length_map, List.length_take]; omega) x.name) ?_
  rintro _ _ s16 h16 ⟨rfl, rfl⟩
  simp only [c9, n9]
  refine Zqge Z Z Z <| Nt <| ?_
  refine JC_ifD Z (fun c17 => ?_) (fun c17 => ?_)
  ·
   have hi9 := (idxOf_mem (k := 0)).1 c17
   have q9 : namF p.funcs (p.globals.map Glo.name) p.globals.length = (8, ((ng + k : Nat) : Int)) := by rw [hSf, namF_at hx, if_pos (.inl hi9), hn1]
   have hE9 : nameF p = (8, ((ng + k : Nat) : Int)) := by rw [nF_f hS (by rw [q9]; simp), q9]
   have hE : chkF p = (8, ((ng + k : Nat) : Int)) := by rw [chkF, if_neg g14, if_pos (by rw [hE9]; simp), hE9]
   refine Sr <| W0 Y5 <| Wl 3 Y6 <| Ws Y4 <| Zqm Z Z <| JO_q (QE_add' Z Z (show IntKind.i64.wrap ((ng : Int) + (k : Int)) = ((ng + k : Nat) : Int) by rw [w64 O O]; simp)) Z <| Jc Z Z Z (at_ac D _ _ _ _) ?_
   rintro _ _ s18 h18 ⟨rfl, rfl⟩
   refine Wt 2 [_, _] Y9 <| Nt <| Zo <| Zu <| Zc <| Zu <| Zu <| Zc <| Zu <| ?_
   refine retQ_mk (_ :: _ :: _ :: _ :: Mo) L (.inr Z) (.agg (us := [_, _]) 2 Z Z Z Z Z (.nil)) Z (h1.t h2|>.t h3|>.t h4|>.t I6.1|>.t I13.1|>.t h15|>.t h16|>.t h18) (fun sR hS2 => ?_)
   exact ⟨by rw [hE]; rfl, rfl⟩
  have hz := fun q => c17 ((idxOf_mem (k := 0)).2 q)
  refine Zk <| Zt <| Sr <| Zqm Z Z <| W0 Y5 <| Wl 0 Y6 <| JO_bs [(_, _)] [_] Z Z Z Z Z Z Z Z Z ?_
  intro βn s19 h19 hcb
  refine JO_app (sz := 1) [_, _, _, _] Mo L Z Z Z Z Z Z Z hO (Row.of_cells (hcb.le (Lr D)) Z Z) ⟨by simp [ti9]; omega, by omega⟩ Z ?_
  intro vq Mq s20 h20 oq
  obtain ⟨Avq, cvq, rfl, _, _⟩ := Own.slice oq
  simp only [c9, n9]
  refine At Z Z <| Sr <| At Z Z <| Sr <| At Z Z <| Zp <| ?_
  refine JC_loop (γ := Nat × Value × Hl) (fun g => [(1, _), (2, _), (3, _), (4, _), (6, _), (7, _), (8, g.2.1), (9, .int .i64 (g.1 : Int))]) (fun g => _ :: _ :: _ :: _ :: (g.2.2 ++ (Mq ++ L))) (fun g tw => Le D s20 tw ∧ (g.1 ≤ m1 + m2 ∧ FL.Own 9 1 g.2.2 g.2.1 g.1 (sb ((x.params ++ x.locals).take g.1)) ∧ ((x.params ++ x.locals).take g.1).Nodup)) (fun g => m1 + m2 - g.1) (fun _ _ _ h hl => ⟨h.1.trans hl, h.2⟩) (0, .slice none 0 0, []) (.cons Z (.cons Z (.cons Z (.cons Z (.cons Z (.cons Z (.cons Z (.cons Z (.nil _))))))))) Z ⟨Le.refl _, ⟨Nat.zero_le _, Own.nil, by simp⟩⟩ ?_
  intro g s21 I21
  obtain ⟨j, vo2, M2⟩ := g
  obtain ⟨hj0, hO2, hN2⟩ := I21.2
  simp only at hj0 hO2 hN2
  dsimp only
  obtain ⟨Av2, cv2, rfl, _, _⟩ := Own.slice hO2
  refine Zs <| Sr <| Zqm Z Z <| Wb Y5 <| Wl 0 Y6 <| Ws Y4 <| Wb Y5 <| Wl 0 Y6 <| Ws Y4 <| Zqadd Z Z Z (w64 O O) <| Zqlt Z Z Z <| Nt <| ?_
  refine JC_ifD Z (fun c22 => ?_) (fun c22 => ?_)
  ·
   have hj : j < m1 + m2 := by omega
   obtain ⟨w8, hws⟩ : ∃ w, (x.params ++ x.locals)[j]? = some w := ⟨_, List.getElem?_eq_getElem (by rw [List.length_append]; omega)⟩
   refine Zk <| Zt <| Zs <| Zp <| Sr <| At Z Z <| Zs <| Sr <| Zqm Z Z <| Wb Y5 <| Wl 0 Y6 <| Ws Y4 <| Zqlt Z Z Z <| Nt <| ?_
   refine JC_ifD Z (fun c23 => ?_) (fun c23 => ?_)
   ·
    have hjm : j < m1 := by omega
    obtain ⟨b2, off2, w9, rfl, hw9, hcw, hw8⟩ := Strs.at_ (hpx.le (h15.t h16|>.t h19|>.t h20|>.t I21.1)) hjm
    obtain rfl : w9 = w8 := by rw [List.getElem?_append_left O, hw9] at hws; injection hws
    refine Zr <| Wb Y5 <| Wl 0 Y6 <| Zqm Z Z <| JO_q (QE_ia1 Z Z Z Z Z Z hjm) Z <| JO_q (QE_ldsR0 Z Z Z (hcw.le (Lr D)) Z) Z <| At Z Z <| Zs <| Sr <| Zqm Z Z <| Zqm Z Z <| Jc Z Z Z (placeO_ac D [_, _, _, _] (Mq ++ L) _ M2 Av2 _ cv2 _ hO2 (fun w hw => by have := ident_len (hi4 w (List.mem_of_mem_take hw)); omega) (by rw [List.length_take, List.length_append]; omega) w9) ?_
    rintro _ _ s24 h24 ⟨rfl, rfl⟩
    simp only [c9, n9]
    refine Zqge Z Z Z <| Nt <| ?_
    refine JC_ifD Z (fun c25 => ?_) (fun c25 => ?_)
    ·
     have hi9 := (idxOf_mem (k := 0)).1 c25
     have q9 : namF p.funcs (p.globals.map Glo.name) p.globals.length = (8, ((ng + k : Nat) : Int)) := by rw [hSf, namF_at hx, if_pos (.inr (not_nodup_take hws hi9)), hn1]
     have hE9 : nameF p = (8, ((ng + k : Nat) : Int)) := by rw [nF_f hS (by rw [q9]; simp), q9]
     have hE : chkF p = (8, ((ng + k : Nat) : Int)) := by rw [chkF, if_neg g14, if_pos (by rw [hE9]; simp), hE9]
     rw [show M2 ++ (Mq ++ L) = (M2 ++ Mq) ++ L from (List.append_assoc ..).symm]
     refine Sr <| W0 Y5 <| Wl 3 Y6 <| Ws Y4 <| Zqm Z Z <| JO_q (QE_add' Z Z (show IntKind.i64.wrap ((ng : Int) + (k : Int)) = ((ng + k : Nat) : Int) by rw [w64 O O]; simp)) Z <| Jc Z Z Z (at_ac D _ _ _ _) ?_
     rintro _ _ s26 h26 ⟨rfl, rfl⟩
     refine Wt 2 [_, _] Y9 <| Nt <| Zo <| Zu <| Zc <| Zu <| Zu <| Zc <| Zc <| Zu <| Zu <| Zc <| Zu ?_
     refine retQ_mk (_ :: _ :: _ :: _ :: (M2 ++ Mq)) L (.inr Z) (.agg (us := [_, _]) 2 Z Z Z Z Z (.nil)) Z (h1.t h2|>.t h3|>.t h4|>.t I6.1|>.t I13.1|>.t h15|>.t h16|>.t h19|>.t h20|>.t I21.1|>.t h24|>.t h26) (fun sR hS2 => ?_)
     exact ⟨by rw [hE]; rfl, rfl⟩
    have hzj := fun q => c25 ((idxOf_mem (k := 0)).2 q)
    refine Zk <| Zt <| Zr <| Zqm Z Z <| Zqm Z Z <| JO_bs [(_, _)] [_] Z Z Z Z Z Z Z Z Z ?_
    intro βn s27 h27 hcb
    refine JO_app (sz := 1) [_, _, _, _] M2 (Mq ++ L) Z Z Z Z Z Z Z hO2 (Row.of_cells (hcb.le (Lr D)) Z Z) ⟨by simp [ti9]; omega, by omega⟩ Z ?_
    intro vw Mw s28 h28 ow
    obtain ⟨Avw, cvw, rfl, _, _⟩ := Own.slice ow
    simp only [c9, n9]
    refine Zqa Z Z <| Zn <| Zb <| Zt <| Zr <| Zqm Z Z <| Zqadd Z Z Z (w64 O O) <| Zqa Z Z <| Zn <| ?_
    refine thenQ_n ⟨(j + 1, .slice Avw (j + 1) cvw, Mw), [], kp, Z, ⟨(I21.1.t h24|>.t h27|>.t h28), ⟨by simp only; omega, by rw [take_snocE hws, sb_app]; exact ow, nodup_take hws hN2 hzj⟩⟩, (by simp only; omega)⟩
   obtain ⟨j2, hj2⟩ : ∃ j2, j = m1 + j2 := ⟨j - m1, by omega⟩
   have hjm : j2 < m2 := by omega
   obtain ⟨b2, off2, w9, rfl, hw9, hcw, hw8⟩ := Strs.at_ (hlx.le (h15.t h16|>.t h19|>.t h20|>.t I21.1)) hjm
   obtain rfl : w9 = w8 := by rw [List.getElem?_append_right O, show j - x.params.length = j2 by omega, hw9] at hws; injection hws
   refine Zr <| Wb Y5 <| Wl 0 Y6 <| Zqm Z Z <| Wb Y5 <| Wl 0 Y6 <| Ws Y4 <| JO_q (QE_sub' (c := (j2 : Int)) Z Z (by rw [w64 O O]; omega)) Z <| JO_q (QE_ia1 Z Z Z Z Z Z hjm) Z <| JO_q (QE_ldsR0 Z Z Z (hcw.le (Lr D)) Z) Z <| At Z Z <| Zs <| Sr <| Zqm Z Z <| Zqm Z Z <| Jc Z Z Z (placeO_ac D [_, _, _, _] (Mq ++ L) _ M2 Av2 _ cv2 _ hO2 (fun w hw => by have := ident_len (hi4 w (List.mem_of_mem_take hw)); omega) (by rw [List.length_take, List.length_append]; omega) w9) ?_
   rintro _ _ s29 h29 ⟨rfl, rfl⟩
   simp only [c9, n9]
   refine Zqge Z Z Z <| Nt <| ?_
   refine JC_ifD Z (fun c30 => ?_) (fun c30 => ?_)
   ·
    have hi9 := (idxOf_mem (k := 0)).1 c30
    have q9 : namF p.funcs (p.globals.map Glo.name) p.globals.length = (8, ((ng + k : Nat) : Int)) := by rw [hSf, namF_at hx, if_pos (.inr (not_nodup_take hws hi9)), hn1]
    have hE9 : nameF p = (8, ((ng + k : Nat) : Int)) := by rw [nF_f hS (by rw [q9]; simp), q9]
    have hE : chkF p = (8, ((ng + k : Nat) : Int)) := by rw [chkF, if_neg g14, if_pos (by rw [hE9]; simp), hE9]
    rw [show M2 ++ (Mq ++ L) = (M2 ++ Mq) ++ L from (List.append_assoc ..).symm]
    refine Sr <| W0 Y5 <| Wl 3 Y6 <| Ws Y4 <| Zqm Z Z <| JO_q (QE_add' Z Z (show IntKind.i64.wrap ((ng : Int) + (k : Int)) = ((ng + k : Nat) : Int) by rw [w64 O O]; simp)) Z <| Jc Z Z Z (at_ac D _ _ _ _) ?_
    rintro _ _ s31 h31 ⟨rfl, rfl⟩
    refine Wt 2 [_, _] Y9 <| Nt <| Zo <| Zu <| Zc <| Zu <| Zu <| Zc <| Zc <| Zu <| Zu <| Zc <| Zu ?_
    refine retQ_mk (_ :: _ :: _ :: _ :: (M2 ++ Mq)) L (.inr Z) (.agg (us := [_, _]) 2 Z Z Z Z Z (.nil)) Z (h1.t h2|>.t h3|>.t h4|>.t I6.1|>.t I13.1|>.t h15|>.t h16|>.t h19|>.t h20|>.t I21.1|>.t h29|>.t h31) (fun sR hS2 => ?_)
    exact ⟨by rw [hE]; rfl, rfl⟩
   have hzj := fun q => c30 ((idxOf_mem (k := 0)).2 q)
   refine Zk <| Zt <| Zr <| Zqm Z Z <| Zqm Z Z <| JO_bs [(_, _)] [_] Z Z Z Z Z Z Z Z Z ?_
   intro βn s32 h32 hcb
   refine JO_app (sz := 1) [_, _, _, _] M2 (Mq ++ L) Z Z Z Z Z Z Z hO2 (Row.of_cells (hcb.le (Lr D)) Z Z) ⟨by simp [ti9]; omega, by omega⟩ Z ?_
   intro vw Mw s33 h33 ow
   obtain ⟨Avw, cvw, rfl, _, _⟩ := Own.slice ow
   simp only [c9, n9]
   refine Zqa Z Z <| Zn <| Zb <| Zt <| Zr <| Zqm Z Z <| Zqadd Z Z Z (w64 O O) <| Zqa Z Z <| Zn <| ?_
   refine thenQ_n ⟨(j + 1, .slice Avw (j + 1) cvw, Mw), [], kp, Z, ⟨(I21.1.t h29|>.t h32|>.t h33), ⟨by simp only; omega, by rw [take_snocE hws, sb_app]; exact ow, nodup_take hws hN2 hzj⟩⟩, (by simp only; omega)⟩
  have hnd : (x.params ++ x.locals).Nodup := by
    rw [List.take_of_length_le (by rw [List.length_append]; omega)] at hN2; exact hN2
  refine Zl <| Zv <| Zv <| Zd <| Zb <| Zt <| JC_pubX [_, _, _, _] M2 _ ?_
  intro s34 h34 hpub34
  simp only [c9, n9]
  refine Zr <| Zqm Z Z <| Zqadd Z Z Z (w64 O O) <| Zqa Z Z <| Zn <| ?_
  refine thenQ_n ⟨(k + 1, .slice Avq (ng + k + 1) cvq, Mq), [_], kp, Z, ⟨(I13.1.t h15|>.t h16|>.t h19|>.t h20|>.t I21.1|>.t h34), ⟨by simp only; omega, by rw [take_map_next Fnc.name hx, ← List.append_assoc, sb_app]; exact oq, by simp only; rw [hSf, namF_at hx, if_neg (fun h => h.elim hz (fun h => h hnd)), take_map_next Fnc.name hx, List.append_assoc]; rfl⟩⟩, (by simp only; omega)⟩
 rw [List.drop_eq_nil_of_le O, namF] at hSf
 rw [List.take_of_length_le (show p.funcs.length ≤ k by omega)] at hO
 refine Zl <| Zv <| Zv <| Zd <| Zt <| Sr <| JO_q (QE_ldA 2 [_, _] Z Z Z Z Z) Z <| Jc Z Z Z (mainOf_ac D _ _ d p Ag _ ng cg nf cf (hGl.le (h1.t h2|>.t h3|>.t h4|>.t I6.1|>.t I13.1)) (hFn.le (h1.t h2|>.t h3|>.t h4|>.t I6.1|>.t I13.1))) ?_
 rintro _ _ s35 h35 ⟨rfl, rfl⟩
 refine At Z Z <| Zs <| Sr <| Zqm Z Z <| Zqlt Z Z Z <| Nt <| ?_
 refine JC_ifD Z (fun c36 => ?_) (fun c36 => ?_)
 ·
  have hE9 := nF_m hS hSf c36
  have hE : chkF p = (12, -1) := by rw [chkF, if_neg g14, if_pos (by rw [hE9]; simp), hE9]
  refine Sr <| Jc Z Z Z (at_ac D _ _ _ _) ?_
  rintro _ _ s37 h37 ⟨rfl, rfl⟩
  refine Wt 1 [_, _] Y9 <| Nt <| Zo <| Zu <| ?_
  refine retQ_mk (_ :: _ :: _ :: Mo) L (.inr Z) (.agg (us := [_, _]) 1 Z Z Z Z Z (.nil)) Z (h1.t h2|>.t h3|>.t h4|>.t I6.1|>.t I13.1|>.t h35|>.t h37) (fun sR hS2 => ?_)
  exact ⟨by rw [hE]; rfl, rfl⟩
 obtain ⟨j, hj⟩ := Int.eq_ofNat_of_zero_le (show 0 ≤ mainF p.funcs by have := c36; omega)
 have hjl := idxOf_lt (p := fun x : Fnc => decide (x.name = mainW)) (l := p.funcs) (k := 0)
 have hjl2 : j < nf := by unfold mainF at hj; omega
 obtain ⟨b, off, x, B1, m1, d1, B2, m2, d2, B3, m3, d3, rfl, hx, hcx, hpx, hlx, hbx, hnl⟩ := Fncs.at_ (hFn.le (h1.t h2|>.t h3|>.t h4|>.t I6.1|>.t I13.1|>.t h35)) hjl2
 have hp9 := hpx.1
 have hE8 := nF_p hS hSf hj hx
 rw [hj]
 refine Zk <| Zt <| Zs <| Sr <| Wb Y5 <| Wl 2 Y6 <| Zqm Z Z <| JO_q (QE_iaN (j := j) Z Z Z Z Z Z hjl2) Z <| JO_q (QE_fa Z Z Z Z) Z <| JO_q (QE_ldsR 1 Z Z Z (hcx.le (Lr D)) Z) Z <| Ws Y4 <| Zqgt Z Z Z <| Nt <| ?_
 refine JC_ifD Z (fun c38 => ?_) (fun c38 => ?_)
 ·
  have hE9 : nameF p = (9, -1) := by rw [hE8, if_neg (fun h => by rw [h] at hp9; simp at hp9; omega)]
  have hE : chkF p = (9, -1) := by rw [chkF, if_neg g14, if_pos (by rw [hE9]; simp), hE9]
  refine Sr <| Jc Z Z Z (at_ac D _ _ _ _) ?_
  rintro _ _ s39 h39 ⟨rfl, rfl⟩
  refine Wt 1 [_, _] Y9 <| Nt <| Zo <| Zu <| ?_
  refine retQ_mk (_ :: _ :: _ :: Mo) L (.inr Z) (.agg (us := [_, _]) 1 Z Z Z Z Z (.nil)) Z (h1.t h2|>.t h3|>.t h4|>.t I6.1|>.t I13.1|>.t h35|>.t h39) (fun sR hS2 => ?_)
  exact ⟨by rw [hE]; rfl, rfl⟩
 have hE9 : nameF p = (0, 0) := by rw [hE8, if_pos (List.eq_nil_of_length_eq_zero O)]
 have g20 : ¬ (nameF p).1 ≠ 0 := fun h => h (by rw [hE9])
 clear hx hcx hpx hlx hbx hnl hE8
 refine Zk <| Zt <| Zs <| Sr <| At Z Z <| Zp <| JC_loop (γ := Nat) (fun k => [(1, _), (2, _), (3, _), (12, .int .i64 (k : Int))]) (fun _ => _) (fun k tw => Le D s35 tw ∧ (k ≤ nf ∧ badF p p.funcs p.globals.length = badF p (p.funcs.drop k) (p.globals.length + k))) (fun k => nf - k) (fun _ _ _ h hl => ⟨h.1.trans hl, h.2⟩) 0 (.cons Z (.cons Z (.cons Z (.cons Z (.nil _))))) Z ⟨Le.refl _, ⟨Nat.zero_le _, Z⟩⟩ ?_
 intro k s40 I40
 have hk0 := I40.2.1
 have hSb := I40.2.2
 refine Zs <| Sr <| Zqm Z Z <| Wb Y5 <| Wl 2 Y6 <| Ws Y4 <| Zqlt Z Z Z <| Nt <| ?_
 refine JC_ifD Z (fun c41 => ?_) (fun c41 => ?_)
 ·
  have hk : k < nf := by omega
  obtain ⟨b, off, x, B1, m1, d1, B2, m2, d2, B3, m3, d3, hAf, hx, hcx, hpx, hlx, hbx, hnl⟩ := Fncs.at_ (hFn.le (h1.t h2|>.t h3|>.t h4|>.t I6.1|>.t I13.1|>.t h35|>.t I40.1)) hk
  injection hAf with hAf
  injection hAf with hAb hAo
  subst hAb; subst hAo
  obtain ⟨hi1, hi2, hi3, hi4, hi5, hi6⟩ := hVf x (List.mem_of_getElem? hx)
  refine Zk <| Zt <| Zs <| Zp <| Sr <| Wb Y5 <| Wl 2 Y6 <| Zqm Z Z <| JO_q (QE_iaN Z Z Z Z Z Z hk) Z <| JO_q (QE_fa Z Z Z Z) Z <| JO_q (QE_ldsR 3 Z Z Z (hcx.le (Lr D)) Z) Z <| Jc Z Z Z (rns D d _ _ B3 m3 d3 x.body 0 1 (hbx.le (Lr D)) hi5 O O) ?_
  rintro _ _ s42 h42 ⟨rfl, Ar, nr, cr, rfl, hRs⟩
  have hnr := hRs.1
  have hnr2 := hRs.2.1
  have hnr3 := hRs.2.2.1
  refine At Z Z <| Sr <| At Z Z <| Zp <| JC_loop (γ := Nat) (fun j => [(1, _), (2, _), (3, _), (12, _), (13, _), (14, .int .i64 (j : Int))]) (fun _ => _) (fun j tw => Le D s42 tw ∧ (j ≤ nr ∧ bdR p x (rss x.body 0) = bdR p x ((rss x.body 0).drop j))) (fun j => nr - j) (fun _ _ _ h hl => ⟨h.1.trans hl, h.2⟩) 0 (.cons Z (.cons Z (.cons Z (.cons Z (.cons Z (.cons Z (.nil _))))))) Z ⟨Le.refl _, ⟨Nat.zero_le _, Z⟩⟩ ?_
  intro j s43 I43
  have hj0 := I43.2.1
  have hSr := I43.2.2
  refine Zs <| Sr <| Zqm Z Z <| Zqm Z Z <| Ws Y4 <| Zqlt Z Z Z <| Nt <| ?_
  refine JC_ifD Z (fun c44 => ?_) (fun c44 => ?_)
  ·
   have hj : j < nr := by omega
   obtain ⟨b3, off3, r, rfl, hrj, hcr⟩ := Rns.at_ (hRs.le I43.1) hj
   have hru := rss_u (List.mem_of_getElem? hrj)
   refine Zk <| Zt <| Zs <| Zp <| Zs <| JC_draw drawsMixed 8 Z _ (fun _ h => h) ?_
   intro s45 h45
   refine za 0 Z (QE_ldA 2 [_, _] Z Z Z Z Z) Z <| za 1 Z (QE_mv Z) Z <| za 2 Z (QE_mv Z) Z <| za 3 Z (QE_mv Z) Z <| za 4 Z (QE_iaN Z Z Z Z Z Z hj) Z <| za 5 Z (QE_ldsA Z Z Z (hcr.le h45) Z) Z <| JA_1 6 V <| Jb Z trivial Z Z Z (nodeC_ac D _ _ d p Ag _ ng cg nf cf (hGl.le (h1.t h2|>.t h3|>.t h4|>.t I6.1|>.t I13.1|>.t h35|>.t I40.1|>.t h42|>.t I43.1|>.t h45)) (hFn.le (h1.t h2|>.t h3|>.t h4|>.t I6.1|>.t I13.1|>.t h35|>.t I40.1|>.t h42|>.t I43.1|>.t h45)) hV k x hx r hru) ?_
   rintro _ _ s46 h46 ⟨rfl, rfl⟩
   refine ⟨fun _ _ h => h, ?_⟩
   refine za 7 Z (QE_as Z) Z <| JA_done V <| Zt <| Sr <| Zqm Z Z <| Zqne Z Z Z <| Nt <| ?_
   refine JC_ifN Z (fun c47 => ?_) (fun c47 => ?_)
   ·
    have hzr := c47
    have hbn : badN p x (ndSs x.body 0) = rnC p x r := by rw [← rss_bad hi5, hSr, bdR_at hrj, if_neg hzr]
    have hE : chkF p = (rnC p x r, ((ng + k : Nat) : Int)) := by rw [chkF, if_neg g14, if_neg g20, hSb, badF_at hx, if_neg (by rw [hbn]; exact hzr), hbn, hn1]
    refine Sr <| Zqm Z Z <| W0 Y5 <| Wl 2 Y6 <| Ws Y4 <| Zqm Z Z <| JO_q (QE_add' Z Z (show IntKind.i64.wrap ((ng : Int) + (k : Int)) = ((ng + k : Nat) : Int) by rw [w64 O O]; simp)) Z <| Jc Z Z Z (at_ac D _ _ _ _) ?_
    rintro _ _ s48 h48 ⟨rfl, rfl⟩
    refine Wt 1 [_, _] Y9 <| Nt <| Zo <| Zc <| Zu <| Zu <| Zc <| Zc <| Zu <| Zu <| Zc <| Zu <| ?_
    refine retQ_mk (_ :: _ :: _ :: Mo) L (.inr Z) (.agg (us := [_, _]) 1 Z Z Z Z Z (.nil)) Z (h1.t h2|>.t h3|>.t h4|>.t I6.1|>.t I13.1|>.t h35|>.t I40.1|>.t h42|>.t I43.1|>.t h45|>.t h46|>.t h48) (fun sR hS2 => ?_)
    exact ⟨by rw [hE]; rfl, rfl⟩
   have hzr := c47
   refine Zk <| Zb <| Zt <| Zr <| Zqm Z Z <| Zqadd Z Z Z (w64 O O) <| Zqa Z Z <| Zn <| ?_
   refine thenQ_n ⟨(j + 1), [], kp, Z, ⟨(I43.1.t h45|>.t h46), ⟨by omega, by rw [hSr, bdR_at hrj, if_pos hzr]⟩⟩, O⟩
  have hbn : badN p x (ndSs x.body 0) = 0 := by rw [← rss_bad hi5, hSr, List.drop_eq_nil_of_le O, bdR]
  refine Zl <| Zv <| Zv <| Zd <| Zb <| Zt <| Zr <| Zqm Z Z <| Zqadd Z Z Z (w64 O O) <| Zqa Z Z <| Zn <| ?_
  refine thenQ_n ⟨(k + 1), [], kp, Z, ⟨(I40.1.t h42|>.t I43.1), ⟨by omega, by rw [hSb, badF_at hx, if_pos hbn]; rfl⟩⟩, O⟩
 rw [List.drop_eq_nil_of_le O, badF] at hSb
 have hE : chkF p = prgF p := by rw [chkF, if_neg g14, if_neg g20, hSb, hz0]
 refine Zl <| Zv <| Zv <| Zd <| Zt <| Sr <| JO_q (QE_ldA 0 [_, _] Z Z Z Z Z) Z <| Wt 1 [_, _] Y9 <| Nt <| Zo <| ?_
 refine retQ_mk (_ :: _ :: _ :: Mo) L (.inr Z) (.agg (us := [_, _]) 1 Z Z Z Z Z (.nil)) Z (h1.t h2|>.t h3|>.t h4|>.t I6.1|>.t I13.1|>.t h35|>.t I40.1) (fun sR hS2 => ?_)
 exact ⟨by rw [hE]; rfl, rfl⟩
end Go.Proofs.YtacajpepkfinoaaGreatDoor
namespace Go.FL
open Go Go.RowKit
variable {P : Program} {TT : TyTab} {D n : Nat} {Q : APost} {fr : Fr} {L : Hl} {s : World} {ops : Array Oper} {rest : List Oper} {d ty : Nat} {pos : String} {af : Array Edge}
theorem Ev_appU {t e m c k sz b0 o0 : Nat} {x y : Operand} {ti te : TI} {A1 : Option Addr} {news xs : List Value} (hT : TabOK P TT) (hx : lk fr x = some (.slice (some ⟨b0, o0, none⟩) k k)) (hy : lk fr y = some (.slice A1 m c)) (ht : tlook TT t = some ti) (hk : ti.kind = .sl e) (he : tlook TT e = some te) (hsz : te.size = sz)
    (hC : CellsAt s b0 o0 xs) (hl : xs.length = k * sz) (hR : Row s A1 m sz news) (hm : 0 < m) (h63 : (k + m) * te.bytes ≤ 140737488355328 ∧ k + m ≤ 9223372036854775807) (ho : OKL D L s) :
    ∃ g cap ys s', Ev P TT D fr (.call { callee := .builtin .append, args := #[x, y], argTypes := #[t, t] }) ty L s (.value (.slice (some ⟨g, 0, none⟩) (k + m) cap)) ((g, cb (xs ++ news ++ ys) e) :: L) s' ∧ OKL D ((g, cb (xs ++ news ++ ys) e) :: L) s' ∧ Le D s s' ∧ k + m ≤ cap ∧ cap ≤ 9223372036854775807 := by
  have hok := hT.at_ ht
  obtain ⟨k1, k2, _⟩ := hok
  rw [hk] at k2
  simp only [TK.fits] at k2
  rw [k2] at k1
  have hte := hT.at_ he
  obtain ⟨i, i1, i2, i3, i4⟩ := info_of hte
  have hpos : 0 < te.size := hte.2.2.2.2.2.1
  have hzs : te.zero.cells.size = te.size := by rw [zero_cells hte]; simpa using hte.2.2.2.1
  have h0 : ∃ b off, A1 = some ⟨b, off, none⟩ ∧ CellsAt s b off news := by
    have hl : 0 < news.length := by rw [hR.1, ← hsz]; exact Nat.mul_pos hm hpos
    obtain ⟨b, off, h1, _⟩ := hR.2.2 0 news[0] (List.getElem?_eq_getElem hl)
    refine ⟨b, off, h1, fun j u hj => ?_⟩
    obtain ⟨b', off', h1', h2⟩ := hR.2.2 j u hj
    rw [h1] at h1'
    injection h1' with h1'; injection h1' with e1 e2; subst e1; subst e2
    exact h2
  obtain ⟨b, off, rfl, hcells⟩ := h0
  obtain ⟨v', w', hrun, hown, hgr⟩ := run_append_arg_grows (P := P) (fill L s) t ty e i te.zero sz te.bytes k1 i1 i4 (i2.trans hsz) i3 (by rw [hzs, hsz]) (by rw [← hsz]; exact hpos) ⟨b0, o0, none⟩ k k xs hl (fun j u hj => by rw [add_lit]; exact fill_cell ho (hC j u hj)) ⟨b, off, none⟩ m c news hR.1
    (fun j u hj => by rw [add_lit]; exact fill_cell ho (hcells j u hj)) O (by simpa [maxLen] using h63.2) h63.1
  obtain ⟨h1, h2⟩ := hown
  rcases h2 with ⟨_, h0⟩ | ⟨g, cap, cur, rfl, hge, hg, hnc, hcm, hcs, ht2⟩
  · omega
  rw [fill_size] at hge
  have hsize := hgr.size
  rw [fill_size] at hsize
  have hcur : cur = (xs ++ news ++ cur.toList.drop ((k + m) * sz)).toArray := by
    rw [← ht2, List.take_append_drop]
  have hlt : ∀ x ∈ L, x.1 < s.heap.size := fun x hx => ho.lt hx
  obtain ⟨r1, r2, r3⟩ := of_grown (D := D) (L' := (g, cb (xs ++ news ++ cur.toList.drop ((k + m) * sz)) e) :: L) ho (hgr.os.trans (fill_os _ _)) (hgr.tape.trans (fill_tape _ _)) (hgr.output.trans (fill_output _ _)) hsize
    (by
      rw [List.map_cons, List.nodup_cons]
      refine ⟨fun hm2 => ?_, ho.nd⟩
      obtain ⟨x, hx, hx2⟩ := List.mem_map.1 hm2
      have := hlt x hx
      simp only at hx2
      omega)
    (fun x hx => by
      rcases List.mem_cons.1 hx with rfl | hx
      · rw [hg, cb, ← hcur]
      · rw [hgr.block x.1 (by rw [fill_size]; exact hlt x hx) (by simp), fill_mem ho hx])
    (fun x hx => by
      rcases List.mem_cons.1 hx with rfl | hx
      · exact .inr hge
      · exact .inl (List.mem_map.2 ⟨x, hx, rfl⟩))
    (fun j hj hn => by rw [hgr.block j (by rw [fill_size]; exact hj) (by simp), fill_other hn])
  refine ⟨g, cap, _, _, fun hT ho dst pos af g ρ hρ => ⟨?_, r2⟩, r2, r3, hnc, by simpa [maxLen] using hcm⟩
  rw [← r1]
  simp only [execOp, resolve, invoke, builtin, Sem.run_bind, Sem.run_pure, Result.andThen_ok, List.map_toArray, List.map_cons, List.map_nil, hρ x _ hx, hρ y _ hy, hrun]
theorem CellsAt.pre {b off : Nat} {xs ys : List Value} (h : CellsAt s b off (xs ++ ys)) : CellsAt s b off xs := fun j v hj => h j v (by rw [List.getElem?_append_left (List.getElem?_eq_some_iff.1 hj).1]; exact hj)
theorem JO_appN {t e m c k sz b0 o0 : Nat} {x y : Operand} {ti te : TI} {A1 : Option Addr} {news xs : List Value} (hx : lk fr x = some (.slice (some ⟨b0, o0, none⟩) k k)) (hy : lk fr y = some (.slice A1 m c)) (ht : tlook TT t = some ti) (hk : ti.kind = .sl e) (he : tlook TT e = some te) (hsz : te.size = sz)
    (hC : CellsAt s b0 o0 xs) (hl : xs.length = k * sz) (hR : Row s A1 m sz news) (hm : 0 < m) (h63 : (k + m) * te.bytes ≤ 140737488355328 ∧ k + m ≤ 9223372036854775807) (hd : Nat.blt d n = true)
    (kk : ∀ g cap s', Le D s s' → CellsAt s' g 0 (xs ++ news) → k + m ≤ cap → cap ≤ 9223372036854775807 → JO P TT D n ops Q rest ((d, .slice (some ⟨g, 0, none⟩) (k + m) cap) :: fr) L s') :
    JO P TT D n ops Q (⟨some d, .call { callee := .builtin .append, args := #[x, y], argTypes := #[t, t] }, ty, pos, af, none⟩ :: rest) fr L s := fun hT a hr ho => by
  obtain ⟨g, cap, ys, s', h1, h2, h3, h4, h5⟩ := Ev_appU (ty := ty) hT hx hy ht hk he hsz hC hl hR hm h63 ho
  obtain ⟨d1, d2, d3⟩ := drop_own (A := [(g, cb (xs ++ news ++ ys) e)]) (B := L) h2
  refine JO_ev (L' := L) (s' := fill [(g, cb (xs ++ news ++ ys) e)] s') hd (fun hT _ dst pos af g2 ρ hρ => ⟨?_, d2⟩) (kk g cap _ (h3.trans d3) (CellsAt.pre (cells_drop h2)) h4 h5) hT a hr ho
  rw [← d1]
  exact (h1 hT ho dst pos af g2 ρ hρ).1
end Go.FL
namespace Go.Proofs.YtacajpepkfinoaaGreatDoor
open Go.FL
attribute [local irreducible] JC JO JA JB thenQ blockQ retQ AC fill CellsAt QE Ev Mid
theorem exs_nil (d : Nat) (s : World) : Exs d s none 0 0 [] := ⟨rfl, Nat.le_refl _, by omega, fun i x h => by cases h⟩
theorem stms_nil (d : Nat) (s : World) : Stms d s none 0 0 [] := ⟨rfl, Nat.le_refl _, by omega, fun i x h => by cases h⟩
theorem strs_nil (s : World) : Strs s none 0 0 [] := ⟨rfl, Nat.le_refl _, by omega, fun i x h => by cases h⟩
theorem wds_nil (s : World) : Wds s none 0 0 [] := ⟨rfl, Nat.le_refl _, by omega, fun i x h => by cases h⟩
def getX : Ex := .mk 5 0 0 [] []
def nX : Ex := .mk 2 0 0 [110] []
def mulX : Ex := .mk 7 4 0 [] [nX, .mk 1 0 2 [] []]
def sumX : Ex := .mk 7 10 0 [] [getX, mulX]
def sumD : Ex := .mk 7 10 0 [] [getX, .mk 1 0 6 [] []]
def smallQ : Prg := ⟨smallP.globals, smallP.funcs ++ [⟨[102], [], [], []⟩]⟩
def smallM : Fnc := ⟨mainW, [], [], [.mk 7 [] [sumX] [] []]⟩
theorem ex_row {d : Nat} {s : World} {k o n : Int} {nm : Str} {A : Option Addr} {m c : Nat} {l : List Ex} (h : Exs d s A m c l) (hn : U32 n) (hl : nm.length ≤ 1000) : ([.int .i64 k, .int .i64 o, .int .u32 n, St nm, .slice A m c] : List Value).length = 5 ∧ ExR (d + 1) s (.mk k o n nm l) [.int .i64 k, .int .i64 o, .int .u32 n, St nm, .slice A m c] := ⟨rfl, A, m, c, rfl, h, hn, show nm.length ≤ 9223372036854775807 by omega⟩
theorem small_of {s : World} {b1 b2 b3 b4 b5 b6 : Nat} (h1 : CellsAt s b1 0 [.int .i64 2, .int .i64 0, .int .u32 0, St [110], .slice none 0 0, .int .i64 1, .int .i64 0, .int .u32 2, St [], .slice none 0 0])
    (h2 : CellsAt s b2 0 [.int .i64 5, .int .i64 0, .int .u32 0, St [], .slice none 0 0, .int .i64 7, .int .i64 4, .int .u32 0, St [], .slice (some ⟨b1, 0, none⟩) 2 2])
    (h3 : CellsAt s b3 0 [.int .i64 1, St [110], .int .u32 3, .slice none 0 0]) (h4 : CellsAt s b4 0 [.int .i64 7, .int .i64 10, .int .u32 0, St [], .slice (some ⟨b2, 0, none⟩) 2 2])
    (h5 : CellsAt s b5 0 [.int .i64 7, St [], .slice (some ⟨b4, 0, none⟩) 1 1, .slice none 0 0, .slice none 0 0]) (h6 : CellsAt s b6 0 [St mainW, .slice none 0 0, .slice none 0 0, .slice (some ⟨b5, 0, none⟩) 1 1]) :
    Glos s (some ⟨b3, 0, none⟩) 1 1 smallP.globals ∧ Fncs 5 s (some ⟨b6, 0, none⟩) 1 1 smallP.funcs := by
  have z : U32 0 := ⟨by decide, by decide⟩
  have e1 : Exs 2 s (some ⟨b1, 0, none⟩) 2 2 [nX, .mk 1 0 2 [] []] := Sl.lit [[_, _, _, _, _], [_, _, _, _, _]] h1 rfl (.cons (ex_row (exs_nil 1 s) z (by decide)) (.cons (ex_row (exs_nil 1 s) ⟨by decide, by decide⟩ (by decide)) .nil)) 2 rfl O
  have e2 : Exs 3 s (some ⟨b2, 0, none⟩) 2 2 [getX, mulX] := Sl.lit [[_, _, _, _, _], [_, _, _, _, _]] h2 rfl (.cons (ex_row (exs_nil 2 s) z (by decide)) (.cons (ex_row e1 z (by decide)) .nil)) 2 rfl O
  have e3 : Exs 4 s (some ⟨b4, 0, none⟩) 1 1 [sumX] := Sl.lit [[_, _, _, _, _]] h4 rfl (.cons (ex_row e2 z (by decide)) .nil) 1 rfl O
  have e4 : Stms 5 s (some ⟨b5, 0, none⟩) 1 1 [.mk 7 [] [sumX] [] []] := Sl.lit [[_, _, _, _, _]] h5 rfl (.cons ⟨rfl, _, _, _, _, _, _, _, _, _, rfl, e3, stms_nil 4 s, stms_nil 4 s, by decide⟩ .nil) 1 rfl O
  exact ⟨Sl.lit [[_, _, _, _]] h3 rfl (.cons ⟨rfl, _, _, _, rfl, wds_nil s, ⟨by decide, by decide⟩, by decide⟩ .nil) 1 rfl O,
    Sl.lit [[_, _, _, _]] h6 rfl (.cons ⟨rfl, _, _, _, _, _, _, _, _, _, rfl, strs_nil s, strs_nil s, e4, by decide⟩ .nil) 1 rfl O⟩
theorem sumD_of {s : World} {b1 b2 : Nat} (h1 : CellsAt s b1 0 [.int .i64 5, .int .i64 0, .int .u32 0, St [], .slice none 0 0, .int .i64 1, .int .i64 0, .int .u32 6, St [], .slice none 0 0]) (h2 : CellsAt s b2 0 [.int .i64 7, .int .i64 10, .int .u32 0, St [], .slice (some ⟨b1, 0, none⟩) 2 2]) : Exs 3 s (some ⟨b2, 0, none⟩) 1 1 [sumD] := by
  have e1 : Exs 2 s (some ⟨b1, 0, none⟩) 2 2 [getX, .mk 1 0 6 [] []] := Sl.lit [[_, _, _, _, _], [_, _, _, _, _]] h1 rfl (.cons (ex_row (exs_nil 1 s) ⟨by decide, by decide⟩ (by decide)) (.cons (ex_row (exs_nil 1 s) ⟨by decide, by decide⟩ (by decide)) .nil)) 2 rfl O
  exact Sl.lit [[_, _, _, _, _]] h2 rfl (.cons (ex_row e1 ⟨by decide, by decide⟩ (by decide)) .nil) 1 rfl O
theorem smallQ_of {s : World} {g c : Nat} {A1 A2 A3 : Option Addr} {n1 c1 n2 c2 n3 c3 : Nat} (h : CellsAt s g 0 [St mainW, .slice A1 n1 c1, .slice A2 n2 c2, .slice A3 n3 c3, St [102], .slice none 0 0, .slice none 0 0, .slice none 0 0]) (h1 : Strs s A1 n1 c1 []) (h2 : Strs s A2 n2 c2 []) (h3 : Stms 5 s A3 n3 c3 smallM.body) (hc : 2 ≤ c) (hc2 : c ≤ 9223372036854775807) : Fncs 5 s (some ⟨g, 0, none⟩) 2 c smallQ.funcs := by
  have := (Sl.lit (sz := 4) (R := FnR 5) (l := smallQ.funcs) [[_, _, _, _], [_, _, _, _]] h rfl (.cons ⟨rfl, _, _, _, _, _, _, _, _, _, rfl, h1, h2, h3, by decide⟩ (.cons ⟨rfl, _, _, _, _, _, _, _, _, _, rfl, strs_nil s, strs_nil s, stms_nil 5 s, by decide⟩ .nil)) 2 rfl O)
  exact ⟨this.1, hc, hc2, this.2.2.2⟩
theorem sm_K : chkF smallP = (0, 0) := by decide +kernel
theorem sm_KQ : chkF smallQ = (0, 0) := by decide +kernel
theorem sm_R : resP smallP 0 [110] = ((3, 0), (0, 0)) := by decide +kernel
theorem sm_C : callsP smallP = [smallM] := if_neg (by rw [sm_K]; decide)
theorem sm_M4 : msP smallP smallM 4 = [] := by
  refine List.eq_nil_iff_forall_not_mem.2 fun i hi => ?_
  obtain ⟨nd, h1, h2⟩ := ((msP_spec smallP smallM 4).2 i).1 hi
  have : ∀ nd ∈ ndSs smallM.body 0, mnI smallP smallM 4 nd = [] := by decide +kernel
  rw [this nd h1] at h2; cases h2
theorem sm_F : (foldR smallP).2 = (0, 0) := by decide +kernel
theorem sm_F1 : (foldR smallP).1.funcs = [⟨mainW, [], [], [.mk 7 [] [sumD] [] []]⟩] := by kernel_rfl
theorem sm_O : (oprF 11 2).1 = 0 ∧ (oprF 11 2).2 = 0 ∧ opP 11 1 2 = 4294967295 := by decide +kernel
theorem sm_Z : (oprF 6 0).1 = 26 ∧ (oprF 6 0).2 = -3 := by decide +kernel
theorem sm_T {q : Prg} (h : TrimR smallQ q) : q = smallP := by
  rcases h with ⟨h1, _⟩ | ⟨_, F, G, ⟨hF, hG, mi, hm, hmi, hj, hg⟩, rfl⟩
  · rw [sm_KQ] at h1; exact absurd rfl h1
  have h0 : mainF smallQ.funcs = 0 := by decide +kernel
  obtain rfl : 0 = mi := by omega
  obtain ⟨a, b, rfl⟩ : ∃ a b, F = [a, b] := by match F, hF with | [a, b], _ => exact ⟨a, b, rfl⟩
  obtain ⟨c, rfl⟩ : ∃ c, G = [c] := by match G, hG with | [c], _ => exact ⟨c, rfl⟩
  have ha : a = true := by simpa using (hj 0).2 (.refl 0)
  have hb : b = false := by
    cases hb : b with
    | false => rfl
    | true =>
      have := (hj 1).1 (by rw [hb]; rfl)
      cases this with
      | step hc _ =>
        obtain ⟨x, hx, hk⟩ := hc
        obtain ⟨nd, h1, h2⟩ := ((msP_spec smallQ x 4).2 _).1 hk
        obtain rfl : smallM = x := Option.some.inj hx
        have : ∀ nd ∈ ndSs smallM.body 0, mnI smallQ smallM 4 nd = [] := by decide +kernel
        rw [this nd h1] at h2; cases h2
  have hc : c = true := by
    have : ∃ nd ∈ ndSs smallM.body 0, (0 : Int) ∈ mnI smallQ smallM 3 nd := by decide +kernel
    simpa using (hg 0).2 ⟨0, by rw [ha]; rfl, smallM, rfl, ((msP_spec smallQ smallM 3).2 _).2 this⟩
  subst ha hb hc
  rfl
theorem fold_at {s : World} {A : Option Addr} {n c : Nat} (h : Fncs 5 s A n c [⟨mainW, [], [], [.mk 7 [] [sumD] [] []]⟩]) : n = 1 ∧ ∃ b off A1 n1 c1 A2 n2 c2 b2 o2 c3, A = some ⟨b, off, none⟩ ∧ CellsAt s b (off + 0 * 4) [St mainW, .slice A1 n1 c1, .slice A2 n2 c2, .slice (some ⟨b2, o2, none⟩) 1 c3] ∧
    ∃ A4 n4 c4 A5 n5 c5 A6 n6 c6, CellsAt s b2 (o2 + 0 * 5) [.int .i64 7, St [], .slice A4 n4 c4, .slice A5 n5 c5, .slice A6 n6 c6] ∧ Exs 4 s A4 n4 c4 [sumD] := by
  have hn : n = 1 := h.1
  subst hn
  obtain ⟨b, off, x, A1, n1, c1, A2, n2, c2, A3, n3, c3, rfl, hx, hc, _, _, hB, _⟩ := Fncs.at_ h (show 0 < 1 by decide)
  obtain rfl := Option.some.inj hx
  have hn3 : n3 = 1 := hB.1
  subst hn3
  obtain ⟨e, b2, o2, y, A4, n4, c4, A5, n5, c5, A6, n6, c6, he, rfl, hy, hc2, hE, _, _, _⟩ := Stms.at_ hB (show 0 < 1 by decide)
  obtain rfl := Option.some.inj hy
  obtain rfl : 4 = e := by omega
  exact ⟨rfl, b, off, A1, n1, c1, A2, n2, c2, b2, o2, c3, rfl, hc, A4, n4, c4, A5, n5, c5, A6, n6, c6, hc2, hE⟩
theorem num9_ac (D : Nat) (L : Hl) (s : World) (n : Int) : AC Tryz.prog D 27 [.int .u32 n] L s fun v L' _ => v = .agg #[.int .i64 1, .int .i64 0, .int .u32 n, St [], .slice none 0 0] ∧ L = L' := by
 refine AC_enter (TT := TT) (fn := Tryz.f27) TT_ok Tryz.func27 V Z Tryz.ntmps27 Z (rs := [.cell 2 61]) Z [(0, _)] Z <| Sr <| JO_allocZ Z [_, _, _, _, _] Z Z ?_
 intro β1 s1 h1
 refine Nt <| Sr <| Zqm Z Z <| JO_q (QE_build [(_, _), (_, _)] [_, _, _, _, _] Z Z Z Z Z Z) Z <| Wt 0 [_, _, _, _, _] Y9 <| Nt <| Zo <| ?_
 refine retQ_mk [_] L (.inr Z) (.agg (us := [_, _, _, _, _]) 0 Z Z Z Z Z (.nil)) Z h1 (fun sR hS2 => ?_)
 exact ⟨rfl, rfl⟩
theorem smallO_ac (D : Nat) (L : Hl) (s : World) : AC Tryz.prog D 25 [] L s fun v L' s' => ∃ M', L' = M' ++ L ∧ ∀ s2, Le D s' s2 → Pub M' s2 → ∃ bg bf, v = .agg #[.slice (some ⟨bg, 0, none⟩) 1 1, .slice (some ⟨bf, 0, none⟩) 1 1] ∧ Glos s2 (some ⟨bg, 0, none⟩) 1 1 smallP.globals ∧ Fncs 5 s2 (some ⟨bf, 0, none⟩) 1 1 smallP.funcs := by
 refine AC_enter (TT := TT) (fn := Tryz.f25) TT_ok Tryz.func25 V Z Tryz.ntmps25 Z (rs := [.cell 0 25]) Z [] Z <| Sr <| JO_allocZ Z [_, _] Z Z ?_
 intro β1 s1 h1
 refine Nt <| Sr <| JO_q (QE_build [(_, _), (_, _)] [_, _, _, _, _] Z Z Z Z Z Z) Z <| Jc Z Z Z (num9_ac D _ _ 2) ?_
 rintro _ _ s2 h2 ⟨rfl, rfl⟩
 refine JO_bs [(_, _), (_, _)] [_, _, _, _, _, _, _, _, _, _] Z Z Z Z Z Z Z Z Z ?_
 intro βa s3 h3 hca
 refine JO_q (QE_build [(_, _), (_, _), (_, _)] [_, _, _, _, _] Z Z Z Z Z Z) Z <| JO_allocZ Z [_, _, _, _, _] Z Z ?_
 intro β4 s4 h4
 refine Wt 0 [_, _, _, _, _] Y9 <| Nt <| Sr <| JO_q (QE_build [(_, _)] [_, _, _, _, _] Z Z Z Z Z Z) Z <| JO_q (QE_ldA 0 [_, _, _, _, _] Z Z Z Z Z) Z <| JO_bs [(_, _), (_, _)] [_, _, _, _, _, _, _, _, _, _] Z Z Z Z Z Z Z Z Z ?_
 intro βb s5 h5 hcb
 refine JO_q (QE_build [(_, _), (_, _), (_, _)] [_, _, _, _, _] Z Z Z Z Z Z) Z <| JO_allocZ Z [_, _, _, _, _] Z Z ?_
 intro β6 s6 h6
 refine Wt 0 [_, _, _, _, _] Y9 <| Nt <| Sr <| JO_q (QE_build [(_, _), (_, _), (_, _)] [_, _, _, _] Z Z Z Z Z Z) Z <| JO_bs [(_, _)] [_, _, _, _] Z Z Z Z Z Z Z Z Z ?_
 intro βc s7 h7 hcc
 refine JO_q (QE_ldA 0 [_, _, _, _, _] Z Z Z Z Z) Z <| JO_bs [(_, _)] [_, _, _, _, _] Z Z Z Z Z Z Z Z Z ?_
 intro βd s8 h8 hcd
 refine JO_q (QE_build [(_, _), (_, _)] [_, _, _, _, _] Z Z Z Z Z Z) Z <| JO_bs [(_, _)] [_, _, _, _, _] Z Z Z Z Z Z Z Z Z ?_
 intro βe s9 h9 hce
 refine JO_q (QE_build [(_, _), (_, _)] [_, _, _, _] Z Z Z Z Z Z) Z <| JO_bs [(_, _)] [_, _, _, _] Z Z Z Z Z Z Z Z Z ?_
 intro βf s10 h10 hcf
 refine JO_q (QE_build [(_, _), (_, _)] [_, _] Z Z Z Z Z Z) Z <| Wt 2 [_, _] Y9 <| Nt <| Zo <| ?_
 refine retQ_mk [_, _, _] _ (.inr Z) (.agg (us := [_, _]) 2 Z Z Z Z Z (.nil)) Z (h1.t h2|>.t h3|>.t h4|>.t h5|>.t h6|>.t h7|>.t h8|>.t h9|>.t h10) (fun sR hS2 => ?_)
 exact ⟨[], rfl, fun s2 hs2 hp => ⟨_, _, rfl, small_of (hca.le (h4.t h5|>.t h6|>.t h7|>.t h8|>.t h9|>.t h10|>.t (hS2.t hs2))) (hcb.le (h6.t h7|>.t h8|>.t h9|>.t h10|>.t (hS2.t hs2))) (hcc.le (h8.t h9|>.t h10|>.t (hS2.t hs2))) (hcd.le (h9.t h10|>.t (hS2.t hs2))) (hce.le (h10.t (hS2.t hs2))) (hcf.le ((Lr D).t (hS2.t hs2)))⟩⟩
theorem smallP_ac (D : Nat) (L : Hl) (s : World) : AC Tryz.prog D 25 [] L s fun v L' s' => L = L' ∧ ∃ bg bf, v = .agg #[.slice (some ⟨bg, 0, none⟩) 1 1, .slice (some ⟨bf, 0, none⟩) 1 1] ∧ Glos s' (some ⟨bg, 0, none⟩) 1 1 smallP.globals ∧ Fncs 5 s' (some ⟨bf, 0, none⟩) 1 1 smallP.funcs := AC.pubW (smallO_ac D L s)
theorem checked_ac (D : Nat) (L : Hl) (s : World) (hG : GP s) : AC Tryz.prog D 8 [] L s fun v L' _ => v = .bool true ∧ L = L' := by
 refine AC_enter (TT := TT) (fn := Tryz.f8) TT_ok Tryz.func8 V Z Tryz.ntmps8 Z (rs := [.tmp 0]) Z [] Z <| Sr <| At Z Z <| Sr <| Jc Z Z Z (smallP_ac D _ _) ?_
 rintro _ _ s1 h1 ⟨rfl, bg1, bf1, rfl, hg1, hf1⟩
 refine Jc Z Z Z (resolve_ac D _ _ (hG.le h1) 5 smallP _ _ _ _ _ _ (hg1.le (Lr D)) (hf1.le (Lr D)) 0 [110]) ?_
 rintro _ _ s2 h2 ⟨rfl, rfl⟩
 refine Zqm Z Z <| Zqx Z Z Z <| Zqx Z Z Z <| JO_allocZ Z [_, _] Z Z ?_
 intro β3 s3 h3
 refine JO_allocZ Z [_, _] Z Z ?_
 intro β4 s4 h4
 refine Wt 1 [_, _] Y9 <| Wt 0 [_, _] Y9 <| Nt <| Sr <| Jc Z Z Z (smallP_ac D _ _) ?_
 rintro _ _ s5 h5 ⟨rfl, bg2, bf2, rfl, hg2, hf2⟩
 refine Jc Z Z Z (calls_ac D _ _ (hG.le (h1.t h2|>.t h3|>.t h4|>.t h5)) 5 smallP _ _ _ _ _ _ (hg2.le (Lr D)) (hf2.le (Lr D))) ?_
 rintro _ _ s6 h6 ⟨rfl, Ac, nc, cc, rfl, hCl⟩
 rw [sm_C] at hCl
 have hnc : nc = 1 := hCl.1
 subst hnc
 obtain ⟨bq, oq, xq, Aq, nq, cq, rfl, hxq, hcq, hIq⟩ := ClsR.at_ hCl (show 0 < 1 by decide)
 obtain rfl := Option.some.inj hxq
 rw [sm_M4] at hIq
 have hnq : nq = 0 := hIq.1
 subst hnq
 refine Zqm Z Z <| Zqx Z Z Z <| Zqx Z Z Z <| JO_allocZ Z [_, _] Z Z ?_
 intro β7 s7 h7
 refine Zqa Z Z <| Wt 0 [_, _] Y9 <| Nt <| Sr <| Jc Z Z Z (smallP_ac D _ _) ?_
 rintro _ _ s8 h8 ⟨rfl, bg3, bf3, rfl, hg3, hf3⟩
 refine JO_q (QE_field Z Z Z Z Z Z Z Z Z) Z <| Jc Z Z Z (smallP_ac D _ _) ?_
 rintro _ _ s9 h9 ⟨rfl, bg4, bf4, rfl, hg4, hf4⟩
 obtain ⟨b4, off4, x4, B1, m1, d1, B2, m2, d2, B3, m3, d3, hA4, hx4, hc4, hp4, hl4, hb4, _⟩ := Fncs.at_ hf4 (show 0 < 1 by decide)
 cases hA4
 obtain rfl := Option.some.inj hx4
 refine JO_q (QE_field Z Z Z Z Z Z Z Z Z) Z <| JO_q (QE_build [(_, _)] [_, _, _, _] Z Z Z Z Z Z) Z <| JO_bs [(_, _)] [_, _, _, _] Z Z Z Z Z Z Z Z Z ?_
 intro βs s10 h10 hcs
 refine JO_appN (sz := 4) Z Z Z Z Z Z (hc4.le h10) Z (Row.of_cells (hcs.le (Lr D)) Z Z) (by decide) ⟨by decide +kernel, by decide⟩ Z ?_
 intro βv cv s11 h11 hcv hv1 hv2
 refine JO_q (QE_build [(_, _), (_, _)] [_, _] Z Z Z Z Z Z) Z <| Jc Z Z Z (trim_ac D _ _ (hG.le (h1.t h2|>.t h3|>.t h4|>.t h5|>.t h6|>.t h7|>.t h8|>.t h9|>.t h10|>.t h11)) 5 smallQ _ _ _ _ _ _ (hg3.le (h9.t h10|>.t h11)) (smallQ_of (hcv.le (Lr D)) (hp4.le (h10.t h11)) (hl4.le (h10.t h11)) (hb4.le (h10.t h11)) hv1 hv2)) ?_
 rintro _ _ s12 h12 ⟨rfl, qt, hTq, Dg, kg, jg, Df, kf, jf, rfl, hgt, hft⟩
 obtain rfl := sm_T hTq
 refine Zqm Z Z <| Zqx Z Z Z <| Zqx Z Z Z <| JO_allocZ Z [_, _] Z Z ?_
 intro β13 s13 h13
 refine JO_allocZ Z [_, _] Z Z ?_
 intro β14 s14 h14
 refine Wt 1 [_, _] Y9 <| Wt 0 [_, _] Y9 <| Nt <| Sr <| Jc Z Z Z (smallP_ac D _ _) ?_
 rintro _ _ s15 h15 ⟨rfl, bg5, bf5, rfl, hg5, hf5⟩
 refine Jc Z Z Z (fold_ac D _ _ (hG.le (h1.t h2|>.t h3|>.t h4|>.t h5|>.t h6|>.t h7|>.t h8|>.t h9|>.t h10|>.t h11|>.t h12|>.t h13|>.t h14|>.t h15)) 5 smallP _ _ _ _ _ _ (hg5.le (Lr D)) (hf5.le (Lr D))) ?_
 rintro _ _ s16 h16 ⟨rfl, Eg, ug, wg, Ef, uf, wf, rfl, hgo, hfo⟩
 rw [sm_F1] at hfo
 obtain ⟨rfl, bo, oo, C1, r1, e1, C2, r2, e2, bo2, oo2, e3, rfl, hco, C4, r4, e4, C5, r5, e5, C6, r6, e6, hco2, hxo⟩ := fold_at hfo
 refine Zqm Z Z <| Zqx Z Z Z <| Zqx Z Z Z <| JO_allocZ Z [_, _] Z Z ?_
 intro β17 s17 h17
 refine JO_allocZ Z [_, _] Z Z ?_
 intro β18 s18 h18
 refine Wt 1 [_, _] Y9 <| Wt 0 [_, _] Y9 <| Nt <| Sr <| Jc Z Z Z (operate_ac D _ _ 11 1 2 ⟨by decide, by decide⟩ ⟨by decide, by decide⟩) ?_
 rintro _ _ s19 h19 ⟨rfl, rfl⟩
 refine Zqm Z Z <| Zqx Z Z Z <| Zqx Z Z Z <| JO_allocZ Z [_, _] Z Z ?_
 intro β20 s20 h20
 refine Zqa Z Z <| Wt 0 [_, _] Y9 <| Nt <| Sr <| Jc Z Z Z (operate_ac D _ _ 6 1 0 ⟨by decide, by decide⟩ ⟨by decide, by decide⟩) ?_
 rintro _ _ s21 h21 ⟨rfl, rfl⟩
 refine Zqm Z Z <| Zqx Z Z Z <| Zqx Z Z Z <| JO_allocZ Z [_, _] Z Z ?_
 intro β22 s22 h22
 refine Zqa Z Z <| Wt 0 [_, _] Y9 <| Nt <| Zs <| Sr <| W0 Y5 <| JO_q (Wd 7 Y5) Z <| JO_q (QE_cast (v' := .bool false) (QE_ne Z Z) (bF (by rw [sm_R]))) Z <| Zqm Z Z <| Zg Z Z <| W0 Y5 <| Zg Z Z <| JO_q (Wd 6 Y5) Z <| Zg Z Z <| JO_q (QE_cast (v' := .bool false) (QE_ne Z Z) (bF (by rw [sm_K]))) Z <| ZqF Z Z Z <| Zqm Z Z <| Zg Z Z <| W0 Y5 <| Zg Z Z <| Wl 4 Y6 <| Zg Z Z <| JO_q (QE_cast (v' := .bool false) (QE_ne Z Z) (bF (by rw [sm_KQ]))) Z ?_
 refine ZqF Z Z Z <| Zqm Z Z <| Zg Z Z <| W0 Y5 <| Zg Z Z <| Wl 2 Y6 <| Zg Z Z <| JO_q (QE_cast (v' := .bool false) (QE_ne Z Z) (bF (by rw [sm_F]))) Z <| ZqF Z Z Z <| Zqm Z Z <| Zg Z Z <| W0 Y5 <| Zg Z Z <| Wl 1 Y6 <| Zg Z Z <| JO_q (QE_cast (v' := .bool false) (QE_ne Z Z) (bF (by exact sm_O.1))) Z <| ZqF Z Z Z <| Zqm Z Z <| Zg Z Z <| Zqm Z Z <| Zg Z Z <| Ws Y4 <| Zg Z Z <| JO_q (QE_cast (v' := .bool false) (QE_ne Z Z) (bF (by rfl))) Z ?_
 refine ZqF Z Z Z <| Zqm Z Z <| Zg Z Z <| Wb Y5 <| Zg Z Z <| Wl 3 Y6 <| Zg Z Z <| Ws Y4 <| Zg Z Z <| JO_q (QE_cast (v' := .bool false) (QE_ne Z Z) (bF (by rfl))) Z <| ZqF Z Z Z <| Zqm Z Z <| Zg Z Z <| Wb Y5 <| Zg Z Z <| Wl 3 Y6 <| Zg Z Z <| JO_q (QE_iaN (j := 0) Z Z Z Z Z Z (by decide)) Z <| Zg Z Z <| JO_q (QE_fa Z Z Z Z) Z <| Zg Z Z <| JO_q (QE_ldsR 3 Z Z Z (hco.le (h17.t h18|>.t h19|>.t h20|>.t h21|>.t h22)) Z) Z <| Zg Z Z <| Ws Y4 <| Zg Z Z <| JO_q (QE_cast (v' := .bool false) (QE_ne Z Z) (bF (by rfl))) Z ?_
 refine ZqF Z Z Z <| Nt <| Zz Z <| Zk <| Zt <| Sr <| JO_q (QE_build [(_, _)] [_, _, _, _, _] Z Z Z Z Z Z) Z <| Jc Z Z Z (num9_ac D _ _ 6) ?_
 rintro _ _ s23 h23 ⟨rfl, rfl⟩
 refine JO_bs [(_, _), (_, _)] [_, _, _, _, _, _, _, _, _, _] Z Z Z Z Z Z Z Z Z ?_
 intro βg s24 h24 hcg
 refine JO_q (QE_build [(_, _), (_, _), (_, _)] [_, _, _, _, _] Z Z Z Z Z Z) Z <| JO_allocZ Z [_, _, _, _, _] Z Z ?_
 intro β25 s25 h25
 refine Wt 0 [_, _, _, _, _] Y9 <| Nt <| Zs <| JC_draw drawsMixed 44 Z _ (fun _ h => h) ?_
 intro s26 h26
 refine JA_1 0 V <| Jb Z trivial Z Z Z (smallP_ac D _ _) ?_
 rintro _ _ s27 h27 ⟨rfl, bg6, bf6, rfl, hg6, hf6⟩
 refine ⟨fun _ _ h => h, ?_⟩
 refine JA_1 1 V <| Jb Z trivial Z Z Z (program_ac D _ _ (hG.le (h1.t h2|>.t h3|>.t h4|>.t h5|>.t h6|>.t h7|>.t h8|>.t h9|>.t h10|>.t h11|>.t h12|>.t h13|>.t h14|>.t h15|>.t h16|>.t h17|>.t h18|>.t h19|>.t h20|>.t h21|>.t h22|>.t h23|>.t h24|>.t h25|>.t h26|>.t h27)) 5 smallP _ _ _ _ _ _ (hg6.le (Lr D)) (hf6.le (Lr D))) ?_
 rintro _ _ s28 h28 ⟨rfl, rfl⟩
 refine ⟨fun _ _ h => h, ?_⟩
 refine za 2 Z (QE_field Z Z Z Z Z Z Z Z Z) Z <| za 3 Z (QE_cast (v' := .bool true) (QE_eq Z Z) (bT (by rw [sm_K]))) Z <| za 4 Z (QE_mv Z) Z <| zg 5 Z ⟨_, Z, Z⟩ (QE_ldA 9 [_, _] Z Z Z Z Z) Z <| zg 6 Z ⟨_, Z, Z⟩ (QE_build [(_, _)] [_, _] Z Z Z Z Z Z) Z <| zg 7 Z ⟨_, Z, Z⟩ (QE_cast (v' := .bool true) (QE_aeq Z Z (eqMean _ _ _ _)) (bT ⟨by rw [sm_R], by rw [sm_R]⟩)) Z <| za 8 Z (QE_pickT Z Z) Z <| za 9 Z (QE_mv Z) Z <| zg 10 Z ⟨_, Z, Z⟩ (QE_mv Z) Z <| zg 11 Z ⟨_, Z, Z⟩ (QE_iaN (j := 0) Z Z Z Z Z Z (by decide)) Z ?_
 refine zg 12 Z ⟨_, Z, Z⟩ (QE_ldsR0 Z Z Z (hcq.le (h7.t h8|>.t h9|>.t h10|>.t h11|>.t h12|>.t h13|>.t h14|>.t h15|>.t h16|>.t h17|>.t h18|>.t h19|>.t h20|>.t h21|>.t h22|>.t h23|>.t h24|>.t h25|>.t h26)) Z) Z <| zg 13 Z ⟨_, Z, Z⟩ (QE_lenS Z Z Z) Z <| zg 14 Z ⟨_, Z, Z⟩ (QE_cast (v' := .bool true) (QE_eq Z Z) (bT (by rfl))) Z <| za 15 Z (QE_pickT Z Z) Z <| za 16 Z (QE_mv Z) Z <| zg 17 Z ⟨_, Z, Z⟩ (QE_ldA 6 [_, _] Z Z Z Z Z) Z <| JA_1 18 V <| Jb Z ⟨_, Z, Z⟩ Z Z Z (smallP_ac D _ _) ?_
 rintro _ _ s29 h29 ⟨rfl, bg7, bf7, rfl, hg7, hf7⟩
 refine ⟨fun _ _ h => h, ?_⟩
 refine JA_1 19 V <| Jb Z ⟨_, Z, Z⟩ Z Z Z (sameP_ac D _ _ 5 smallP _ _ _ _ _ _ (hgt.le (h13.t h14|>.t h15|>.t h16|>.t h17|>.t h18|>.t h19|>.t h20|>.t h21|>.t h22|>.t h23|>.t h24|>.t h25|>.t h26|>.t h27|>.t h28|>.t h29)) (hft.le (h13.t h14|>.t h15|>.t h16|>.t h17|>.t h18|>.t h19|>.t h20|>.t h21|>.t h22|>.t h23|>.t h24|>.t h25|>.t h26|>.t h27|>.t h28|>.t h29)) 5 _ _ _ _ _ _ (hg7.le (Lr D)) (hf7.le (Lr D))) ?_
 rintro _ _ s30 h30 ⟨rfl, rfl⟩
 refine ⟨fun _ _ h => h, ?_⟩
 refine za 20 Z (QE_pickT Z Z) Z <| za 21 Z (QE_mv Z) Z <| zg 22 Z ⟨_, Z, Z⟩ (We Y4) Z <| zg 23 Z ⟨_, Z, Z⟩ (Wd 4 Y5) Z <| zg 24 Z ⟨_, Z, Z⟩ (QE_iaN (j := 0) Z Z Z Z Z Z (by decide)) Z <| zg 25 Z ⟨_, Z, Z⟩ (QE_fa Z Z Z Z) Z <| zg 26 Z ⟨_, Z, Z⟩ (QE_ldsR 3 Z Z Z (hco.le (h17.t h18|>.t h19|>.t h20|>.t h21|>.t h22|>.t h23|>.t h24|>.t h25|>.t h26)) Z) Z <| zg 27 Z ⟨_, Z, Z⟩ (QE_iaN (j := 0) Z Z Z Z Z Z (by decide)) Z <| zg 28 Z ⟨_, Z, Z⟩ (QE_fa Z Z Z Z) Z ?_
 refine zg 29 Z ⟨_, Z, Z⟩ (QE_ldsR 2 Z Z Z (hco2.le (h17.t h18|>.t h19|>.t h20|>.t h21|>.t h22|>.t h23|>.t h24|>.t h25|>.t h26)) Z) Z <| zg 30 Z ⟨_, Z, Z⟩ (QE_ldA 0 [_, _, _, _, _] Z Z Z Z Z) Z <| JA_1 31 V <| JB_bs Z ⟨_, Z, Z⟩ [(_, _)] [_, _, _, _, _] Z Z Z Z Z Z Z Z Z ?_
 intro βh s31 h31 hch
 refine JA_1 32 V <| Jb Z ⟨_, Z, Z⟩ Z Z Z (sameX_ac D 4 _ _ 3 _ _ _ _ _ _ [sumD] (hxo.le (h17.t h18|>.t h19|>.t h20|>.t h21|>.t h22|>.t h23|>.t h24|>.t h25|>.t h26|>.t h27|>.t h28|>.t h29|>.t h30|>.t h31)) (sumD_of (hcg.le (h25.t h26|>.t h27|>.t h28|>.t h29|>.t h30|>.t h31)) (hch.le (Lr D)))) ?_
 rintro _ _ s32 h32 ⟨rfl, rfl⟩
 refine ⟨fun _ _ h => h, ?_⟩
 refine za 33 Z (QE_pickT Z Z) Z <| za 34 Z (QE_mv Z) Z <| zg 35 Z ⟨_, Z, Z⟩ (QE_mv Z) Z <| zg 36 Z ⟨_, Z, Z⟩ (QE_cast (v' := .bool true) (QE_eq Z Z) (bT (by rw [if_pos sm_O.1]; exact sm_O.2.2))) Z <| za 37 Z (QE_pickT Z Z) Z <| za 38 Z (QE_mv Z) Z <| zg 39 Z ⟨_, Z, Z⟩ (QE_ldA 1 [_, _] Z Z Z Z Z) Z <| JA_1 40 V <| Jb Z ⟨_, Z, Z⟩ Z Z Z (at_ac D _ _ _ _) ?_
 rintro _ _ s33 h33 ⟨rfl, rfl⟩
 refine ⟨fun _ _ h => h, ?_⟩
 refine zg 41 Z ⟨_, Z, Z⟩ (QE_cast (v' := .bool true) (QE_aeq Z Z (eqFault _ _ _ _)) (bT sm_Z)) Z <| za 42 Z (QE_pickT Z Z) Z <| za 43 Z (QE_as Z) Z <| JA_done V <| Zt <| Zo <| ?_
 refine retQ_mk [_, _, _, _, _, _, _, _, _, _] L (.inr Z) (.tmp Z (.nil)) Z (h1.t h2|>.t h3|>.t h4|>.t h5|>.t h6|>.t h7|>.t h8|>.t h9|>.t h10|>.t h11|>.t h12|>.t h13|>.t h14|>.t h15|>.t h16|>.t h17|>.t h18|>.t h19|>.t h20|>.t h21|>.t h22|>.t h23|>.t h24|>.t h25|>.t h26|>.t h27|>.t h28|>.t h29|>.t h30|>.t h31|>.t h32|>.t h33) (fun sR hS2 => ?_)
 exact ⟨rfl, rfl⟩
def usR (p : Prg) (x : Fnc) (kd : Int) (r : RNd) : List Int := if r.u = 5 then [] else if (meanP p x r.name).1.1 = kd then [(meanP p x r.name).1.2] else []
theorem usR_nd {p : Prg} {x : Fnc} {kd : Int} {nd : Nd} (h : okN nd) : (ndR nd).flatMap (usR p x kd) = mnI p x kd nd := by
  have one : ∀ (r : RNd), r.u ≠ 5 → nd.use.1 = r.name → nd.use.2.1 ≠ 0 → ([r].flatMap (usR p x kd)) = mnI p x kd nd := fun r h1 h2 h3 => by
    rw [List.flatMap_cons, List.flatMap_nil, List.append_nil, usR, if_neg h1, mnI, if_neg h3, h2]
  have none : nd.use.2.1 = 0 → [] = mnI p x kd nd := fun h => by rw [mnI, if_pos h]
  cases nd with
  | ex y lp =>
    by_cases h1 : 2 ≤ y.kind ∧ y.kind ≤ 4
    · rw [ndR, if_pos h1]
      refine one _ (by simp only; omega) ?_ ?_ <;>
        (have h2 : y.kind = 2 ∨ y.kind = 3 ∨ y.kind = 4 := by omega
         rcases h2 with h2 | h2 | h2 <;> simp [Nd.use, useE, h2])
    · rw [ndR, if_neg h1]
      exact none (by rw [Nd.use, useE, if_neg O, if_neg O, if_neg O])
  | st y lp =>
    have hk : y.kind ≤ 10 := h
    by_cases h1 : y.kind = 1
    · rw [ndR, if_pos h1]; exact one _ (by simp) (by simp [Nd.use, useS, h1]) (by simp [Nd.use, useS, h1])
    by_cases h2 : y.kind = 2
    · rw [ndR, if_neg h1, if_pos h2]; exact one _ (by simp) (by simp [Nd.use, useS, h2]) (by simp [Nd.use, useS, h2])
    by_cases h5 : y.kind = 5
    · rw [ndR, if_neg h1, if_neg h2, if_pos h5]; exact one _ (by simp) (by simp [Nd.use, useS, h5]) (by simp [Nd.use, useS, h5])
    have hu : (Nd.st y lp).use.2.1 = 0 := by rw [Nd.use, useS, if_neg h1, if_neg h2, if_neg h5]
    by_cases h8 : 8 < y.kind
    · rw [ndR, if_neg h1, if_neg h2, if_neg h5, if_pos h8, ← none hu]; rfl
    · rw [ndR, if_neg h1, if_neg h2, if_neg h5, if_neg h8]; exact none hu
theorem us_eq {p : Prg} {x : Fnc} {kd : Int} : ∀ {l : List Nd}, (∀ nd ∈ l, okN nd) → (l.flatMap ndR).flatMap (usR p x kd) = l.flatMap (mnI p x kd)
  | [], _ => rfl
  | n :: r, h => by
    rw [List.flatMap_cons, List.flatMap_append, List.flatMap_cons, usR_nd (h n (List.mem_cons_self ..)), us_eq fun nd hn => h nd (List.mem_cons_of_mem _ hn)]
def nOf (p : Prg) (kd : Int) : Nat := if kd = 4 then p.funcs.length else p.globals.length
def usB (p : Prg) (x : Fnc) (kd : Int) : List Bool := markAll (List.replicate (nOf p kd) false) ((ndSs x.body 0).flatMap (mnI p x kd))
theorem usB_len (p : Prg) (x : Fnc) (kd : Int) : (usB p x kd).length = nOf p kd := by rw [usB, markAll_len]; simp
theorem mean_idx {p : Prg} {x : Fnc} {nm : Str} {kd : Int} (hk : kd = 3 ∨ kd = 4) (h : (meanP p x nm).1.1 = kd) : ∃ j : Nat, (meanP p x nm).1.2 = (j : Int) ∧ j < nOf p kd := by
  cases h2 : (meanP p x nm).2 with
  | false => rw [mean_zero h2] at h; simp only at h; omega
  | true =>
    rcases mean_kind h2 with h3 | ⟨h3, k, h4, h5⟩ | ⟨h3, k, h4, h5⟩
    · omega
    · exact ⟨k, h4, by rw [nOf, if_neg O]; exact h5⟩
    · exact ⟨k, h4, by rw [nOf, if_pos O]; exact h5⟩
theorem usB_mem {p : Prg} {x : Fnc} {kd : Int} (hk : kd = 3 ∨ kd = 4) {k : Nat} : (usB p x kd)[k]? = some true ↔ (k : Int) ∈ msP p x kd := by
  rw [usB, markAll_mem, (msP_spec p x kd).2, List.mem_flatMap]
  · constructor
    · rintro (h | h)
      · exact h
      · exact absurd h rep_false
    · exact .inl
  · intro i hi
    obtain ⟨nd, _, h1⟩ := List.mem_flatMap.1 hi
    obtain ⟨_, h2⟩ := mnI_mem h1
    obtain ⟨j, h3, h4⟩ := mean_idx hk (show (meanP p x nd.use.1).1.1 = kd by rw [h2])
    exact ⟨j, by rw [← h3, h2], by simpa using h4⟩
def Bls (s : World) (A : Option Addr) (n c : Nat) (l : List Bool) : Prop := Sl 1 (fun _ b cs => cs = [Value.bool b]) s A n c l
theorem Bls.le {D : Nat} {s s' : World} {A : Option Addr} {n c : Nat} {l : List Bool} (h : Bls s A n c l) (hl : Le D s s') : Bls s' A n c l := Sl.le (fun _ _ h => h) h hl
theorem Bls.at_ {s : World} {A : Option Addr} {n c k : Nat} {l : List Bool} (h : Bls s A n c l) (hk : k < n) : ∃ b off x, A = some ⟨b, off, none⟩ ∧ l[k]? = some x ∧ CellsAt s b (off + k) [.bool x] := by
  have hl : k < l.length := by rw [← h.1]; exact hk
  obtain ⟨b, off, cs, h1, h2, _, rfl⟩ := h.2.2.2 k l[k] (List.getElem?_eq_getElem hl)
  exact ⟨b, off, l[k], h1, List.getElem?_eq_getElem hl, by simpa using h2⟩
theorem bvs_flat (l : List Bool) : (l.map fun x => [Value.bool x]).flatten = bvs l := by
  induction l with
  | nil => rfl
  | cons x r ih => show [Value.bool x] ++ _ = _; rw [ih]; rfl
theorem bls_of {s : World} {b n : Nat} {l : List Bool} (h : CellsAt s b 0 (bvs l)) (hl : l.length ≤ 1000) (hn : n = l.length) : Bls s (some ⟨b, 0, none⟩) n n l :=
  Sl.lit (l.map fun x => [Value.bool x]) h (bvs_flat l) (all2_mapI (fun x => [Value.bool x]) l fun x _ => ⟨rfl, rfl⟩) n hn O
theorem usesO_ac (D : Nat) (L : Hl) (s : World) (d : Nat) (p : Prg) (Ag Af : Option Addr) (ng cg nf cf : Nat) (hGl : Glos s Ag ng cg p.globals) (hFn : Fncs d s Af nf cf p.funcs) (hV : PV p) (f : Nat) (x : Fnc) (hx0 : p.funcs[f]? = some x) (kd : Int) (hkd : kd = 3 ∨ kd = 4) : AC Tryz.prog D 15 [.agg #[.slice Ag ng cg, .slice Af nf cf], .int .i64 (f : Int), .int .i64 kd] L s fun v L' s' => ∃ M', L' = M' ++ L ∧ ∀ s2, Le D s' s2 → Pub M' s2 → ∃ A' n' c', v = .slice A' n' c' ∧ Bls s2 A' n' c' (usB p x kd) := by
 have hn1 := hGl.1
 have hn2 := hFn.1
 have hU : prU p := ⟨hGl.u, hFn.u⟩
 have hfl := (List.getElem?_eq_some_iff.1 hx0).1
 have hfn : f < nf := by omega
 have hV1 := hV.1
 have hV2 := hV.2.1
 obtain ⟨b, off, x9, B1, m1, d1, B2, m2, d2, B3, m3, d3, hAf, hx9, hcx, hpx, hlx, hbx, hnl⟩ := Fncs.at_ hFn hfn
 obtain rfl : x = x9 := Option.some.inj (hx0.symm.trans hx9)
 subst hAf
 obtain ⟨hi1, hi2, hi3, hi4, hi5, hi6⟩ := hV.2.2.2.1 x (List.mem_of_getElem? hx0)
 have hno : nOf p kd ≤ 64 := by rw [nOf]; split <;> omega
 refine AC_enter (TT := TT) (fn := Tryz.f15) TT_ok Tryz.func15 V Z Tryz.ntmps15 Z (rs := [.tmp 6]) Z [(0, _), (1, _), (2, _)] Z <| Sr <| JO_boxA Z Z ?_
 intro β1 s1 h1
 refine At Z Z <| Sr <| W0 Y5 <| Wl 0 Y6 <| Ws Y4 <| At Z Z <| ?_
 refine JC_cutG (γ := Unit) (fun _ => [(7, .int .i64 ((nOf p kd : Nat) : Int))]) [_] Z (fun g => L) (fun g tw => True) (fun _ _ _ h hl => h) ?_ ?_
 ·
  refine Sr <| Zqm Z Z <| Zqeq Z Z Z <| Nt <| ?_
  refine JC_ifD Z (fun c3 => ?_) (fun c3 => ?_)
  ·
   refine Zr <| Wb Y5 <| Wl 0 Y6 <| Ws Y4 <| Zqa Z Z <| Zn <| ?_
   refine thenQ_n (MidG.mk () [] (Lr D) (.cons (congrArg (fun i : Int => some (Value.int .i64 i)) (by rw [nOf]; split <;> omega)) (.nil _)) So (List.Perm.refl _) trivial)
  refine Zk ?_
  refine thenQ_n (MidG.mk () [] (Lr D) (.cons (congrArg (fun i : Int => some (Value.int .i64 i)) (by rw [nOf]; split <;> omega)) (.nil _)) So (List.Perm.refl _) trivial)
 intro g s2 h2 I2
 simp only [c9, n9]
 refine Sr <| Zqm Z Z <| JO_mk Z Z Z Z Z (by simp [ti4]; omega) O Z ?_
 intro βo s4 h4
 rw [rep_b]
 refine At Z Z <| Sr <| Wb Y5 <| Wl 1 Y6 <| Zqm Z Z <| JO_q (QE_iaN Z Z Z Z Z Z hfn) Z <| JO_q (QE_fa Z Z Z Z) Z <| JO_q (QE_ldsR 3 Z Z Z (hcx.le (h1.t h2|>.t h4)) Z) Z <| Jc Z Z Z (rns D d _ _ B3 m3 d3 x.body 0 1 (hbx.le (h1.t h2|>.t h4)) hi5 O O) ?_
 rintro _ _ s5 h5 ⟨rfl, Ar, nr, cr, rfl, hRs⟩
 have hnr := hRs.1
 have hnr2 := hRs.2.1
 have hnr3 := hRs.2.2.1
 refine At Z Z <| Zs <| Sr <| At Z Z <| Zp <| JC_loop (γ := Nat × List Bool) (fun g => [(1, _), (2, _), (3, _), (6, _), (8, _), (9, _), (10, .int .i64 (g.1 : Int))]) (fun g => (βo, cb (bvs g.2) 4) :: _ :: L) (fun g tw => Le D s5 tw ∧ (g.1 ≤ nr ∧ g.2 = markAll (List.replicate (nOf p kd) false) (((rss x.body 0).take g.1).flatMap (usR p x kd)))) (fun g => nr - g.1) (fun _ _ _ h hl => ⟨h.1.trans hl, h.2⟩) (0, List.replicate (nOf p kd) false) (.cons Z (.cons Z (.cons Z (.cons Z (.cons Z (.cons Z (.cons Z (.nil _)))))))) Z ⟨Le.refl _, ⟨Nat.zero_le _, Z⟩⟩ ?_
 intro g s6 I6
 obtain ⟨k, Gk⟩ := g
 obtain ⟨hk0, hGk⟩ := I6.2
 simp only at hk0 hGk
 dsimp only
 have hGl2 : Gk.length = nOf p kd := by rw [hGk, markAll_len]; simp
 refine Zs <| Sr <| Zqm Z Z <| Zqm Z Z <| Ws Y4 <| Zqlt Z Z Z <| Nt <| ?_
 refine JC_ifD Z (fun c7 => ?_) (fun c7 => ?_)
 ·
  have hk : k < nr := by omega
  obtain ⟨b3, off3, r, rfl, hr, hcr⟩ := Rns.at_ (hRs.le I6.1) hk
  have hru := rss_u (List.mem_of_getElem? hr)
  refine Zk <| Zt <| Zs <| Zp <| Sr <| Zqm Z Z <| Zqm Z Z <| JO_q (QE_iaN Z Z Z Z Z Z hk) Z <| JO_q (QE_fa Z Z Z Z) Z <| JO_q (QE_ldsR 1 Z Z Z (hcr.le (Lr D)) Z) Z <| JO_q (QE_cast (v' := .bool (!decide (r.u = 5))) (QE_sne Z Z) (congrArg (fun b => Value.bool (!b)) (decide_eq_decide.2 (useW_leave hru)))) Z <| Nt <| ?_
  refine JC_ifN Z (fun c8 => ?_) (fun c8 => ?_)
  ·
   have g5 := c8
   refine Zs <| JC_draw drawsMixed 10 Z _ (fun _ h => h) ?_
   intro s9 h9
   refine za 0 Z (QE_ldA 1 [_, _] Z Z Z Z Z) Z <| za 1 Z (QE_mv Z) Z <| za 2 Z (QE_mv Z) Z <| za 3 Z (QE_mv Z) Z <| za 4 Z (QE_iaN Z Z Z Z Z Z hk) Z <| za 5 Z (QE_fa0 Z Z Z Z) Z <| za 6 Z (QE_ldsR0 Z Z Z (hcr.le h9) Z) Z ?_
   refine JA_2 7 8 V ?_ ?_
   ·
    refine Jb Z trivial Z Z Z (meanOf_ac D _ _ d p Ag _ ng cg nf cf (hGl.le (h1.t h2|>.t h4|>.t h5|>.t I6.1|>.t h9)) (hFn.le (h1.t h2|>.t h4|>.t h5|>.t I6.1|>.t h9)) f x hx0 r.name) ?_
    rintro _ _ s10 h10 ⟨rfl, rfl⟩
    refine ⟨fun _ _ h => h, ?_⟩
    refine JA_1 8 V <| JB_alloc Z trivial Z [_, _] Z Z ?_
    intro β11 s11 h11
    refine JA_1 9 V <| Wu Z trivial 0 [_, _] Y9 (fun _ hx => sub_mem (sbY (sbY (sbE _))) hx) <| JA_done V <| Zt <| Sr <| W0 Y5 <| Wl 0 Y6 <| Zqm Z Z <| Zqeq Z Z Z <| Nt <| ?_
    refine JC_ifD Z (fun c12 => ?_) (fun c12 => ?_)
    ·
     have g52 := c12
     obtain ⟨j, hj, hjn⟩ := mean_idx hkd g52
     have hus : usR p x kd r = [(j : Int)] := by rw [usR, if_neg (by simpa using g5), if_pos g52, hj]
     rw [hj]
     have hjG : j < Gk.length := by omega
     refine Zr <| Zqm Z Z <| Wb Y5 <| Wl 0 Y6 <| JO_q (QE_ia1 Z Z Z Z Z Z hjn) Z <| JO_st 1 (bvs (Gk.set j true)) Z Z Z Z Z (ble_b hjG) Z (spl_b hjG true) Z <| Zn <| Zb <| Zt <| Zr <| Zqm Z Z <| Zqadd Z Z Z (w64 O O) <| Zqa Z Z <| Zn <| ?_
     refine thenQ_n ⟨(k + 1, Gk.set j true), [_], kp, Z, ⟨(I6.1.t h9|>.t h10|>.t h11), ⟨by simp only; omega, by simp only; rw [take_snocE hr, List.flatMap_append, List.flatMap_cons, List.flatMap_nil, List.append_nil, hus, markAll_snoc, hGk]⟩⟩, (by simp only; omega)⟩
    have hus : usR p x kd r = [] := by rw [usR, if_neg (by simpa using g5), if_neg c12]
    refine Zk <| Zb <| Zt <| Zr <| Zqm Z Z <| Zqadd Z Z Z (w64 O O) <| Zqa Z Z <| Zn <| ?_
    refine thenQ_n ⟨(k + 1, Gk), [_], kp, Z, ⟨(I6.1.t h9|>.t h10|>.t h11), ⟨by simp only; omega, by simp only; rw [take_snocE hr, List.flatMap_append, List.flatMap_cons, List.flatMap_nil, List.append_nil, hus, List.append_nil, hGk]⟩⟩, (by simp only; omega)⟩
   refine JB_alloc Z trivial Z [_, _] Z Z ?_
   intro β14 s14 h14
   refine JA_1 7 V <| Jb Z trivial Z Z Z (meanOf_ac D _ _ d p Ag _ ng cg nf cf (hGl.le (h1.t h2|>.t h4|>.t h5|>.t I6.1|>.t h9|>.t h14)) (hFn.le (h1.t h2|>.t h4|>.t h5|>.t I6.1|>.t h9|>.t h14)) f x hx0 r.name) ?_
   rintro _ _ s15 h15 ⟨rfl, rfl⟩
   refine ⟨fun _ _ h => h, ?_⟩
   refine JA_1 9 V <| Wu Z trivial 0 [_, _] Y9 (fun _ hx => sub_mem (sbY (sbY (sbE _))) hx) <| JA_done V <| Zt <| Sr <| W0 Y5 <| Wl 0 Y6 <| Zqm Z Z <| Zqeq Z Z Z <| Nt <| ?_
   refine JC_ifD Z (fun c16 => ?_) (fun c16 => ?_)
   ·
    have g52 := c16
    obtain ⟨j, hj, hjn⟩ := mean_idx hkd g52
    have hus : usR p x kd r = [(j : Int)] := by rw [usR, if_neg (by simpa using g5), if_pos g52, hj]
    rw [hj]
    have hjG : j < Gk.length := by omega
    refine Zr <| Zqm Z Z <| Wb Y5 <| Wl 0 Y6 <| JO_q (QE_ia1 Z Z Z Z Z Z hjn) Z <| JO_st 1 (bvs (Gk.set j true)) Z Z Z Z Z (ble_b hjG) Z (spl_b hjG true) Z <| Zn <| Zb <| Zt <| Zr <| Zqm Z Z <| Zqadd Z Z Z (w64 O O) <| Zqa Z Z <| Zn <| ?_
    refine thenQ_n ⟨(k + 1, Gk.set j true), [_], kp, Z, ⟨(I6.1.t h9|>.t h14|>.t h15), ⟨by simp only; omega, by simp only; rw [take_snocE hr, List.flatMap_append, List.flatMap_cons, List.flatMap_nil, List.append_nil, hus, markAll_snoc, hGk]⟩⟩, (by simp only; omega)⟩
   have hus : usR p x kd r = [] := by rw [usR, if_neg (by simpa using g5), if_neg c16]
   refine Zk <| Zb <| Zt <| Zr <| Zqm Z Z <| Zqadd Z Z Z (w64 O O) <| Zqa Z Z <| Zn <| ?_
   refine thenQ_n ⟨(k + 1, Gk), [_], kp, Z, ⟨(I6.1.t h9|>.t h14|>.t h15), ⟨by simp only; omega, by simp only; rw [take_snocE hr, List.flatMap_append, List.flatMap_cons, List.flatMap_nil, List.append_nil, hus, List.append_nil, hGk]⟩⟩, (by simp only; omega)⟩
  have hus : usR p x kd r = [] := if_pos (by simpa using c8)
  refine Zk <| Zb <| Zt <| Zr <| Zqm Z Z <| Zqadd Z Z Z (w64 O O) <| Zqa Z Z <| Zn <| ?_
  refine thenQ_n ⟨(k + 1, Gk), [], kp, Z, ⟨I6.1, ⟨by simp only; omega, by simp only; rw [take_snocE hr, List.flatMap_append, List.flatMap_cons, List.flatMap_nil, List.append_nil, hus, List.append_nil, hGk]⟩⟩, (by simp only; omega)⟩
 have hGE : Gk = usB p x kd := by rw [hGk, List.take_of_length_le O, usB, rss, us_eq (okSs x.body 0 1 hi5)]
 refine Zl <| Zv <| Zv <| Zd <| Zt <| Zs <| JC_front 1 <| Zr <| Zqm Z Z <| At Z Z <| Zo <| ?_
 refine retQ_mk [_] _ (.inr Z) (.tmp Z (.nil)) Z (h1.t h2|>.t h4|>.t h5|>.t I6.1) (fun sR hS2 => ?_)
 exact ⟨[_], rfl, fun s2 hs2 hp => ⟨_, _, _, rfl, bls_of (hGE ▸ hp _ _ _ (List.mem_cons_self ..)) (by rw [usB_len]; omega) (usB_len ..).symm⟩⟩
theorem uses_ac (D : Nat) (L : Hl) (s : World) (d : Nat) (p : Prg) (Ag Af : Option Addr) (ng cg nf cf : Nat) (hGl : Glos s Ag ng cg p.globals) (hFn : Fncs d s Af nf cf p.funcs) (hV : PV p) (f : Nat) (x : Fnc) (hx0 : p.funcs[f]? = some x) (kd : Int) (hkd : kd = 3 ∨ kd = 4) : AC Tryz.prog D 15 [.agg #[.slice Ag ng cg, .slice Af nf cf], .int .i64 (f : Int), .int .i64 kd] L s fun v L' s' => L = L' ∧ ∃ A' n' c', v = .slice A' n' c' ∧ Bls s' A' n' c' (usB p x kd) := AC.pubW (usesO_ac D L s d p Ag Af ng cg nf cf hGl hFn hV f x hx0 kd hkd)
end Go.Proofs.YtacajpepkfinoaaGreatDoor
