/- A part of the proof of the card in the last text. -/
import Derived.RangeFuncRecord
import Derived.RangeFuncLeaves
import Derived.RecoverIn
import Derived.IntWalk
import Derived.Test.YtdpoipifjknhkaaGreatDoorT03
section
namespace Go.Abs
open Go.RowKit
inductive AExit where
  | normal
  | exit (id : Nat)
  | ret
  | pan (v : AV)
def Env.put (d : Option Nat) (v : AV) (e : Env) : Env :=
  match d with
  | none => e
  | some t => (t, v) :: e
section
variable (P : Program) (Φ : World → Prop)
def aops : List AOper → Env → AHeap → (Env → AHeap → Prop) → (Env → AV → AHeap → Prop) → Prop
  | [], e, h, N, _ => N e h
  | o :: os, e, h, N, X =>
    match o.gd with
    | none => aop P Φ e h o.op (fun v h' => aops os (Env.put o.dst v e) h' N X) (X e)
    | some (t, b) => match e.get t with
      | .bool c => match b with
        | true => bif c then aop P Φ e h o.op (fun v h' => aops os (Env.put o.dst v e) h' N X) (X e) else aops os (Env.put o.dst undefA e) h N X
        | false => bif c then aops os (Env.put o.dst undefA e) h N X else aop P Φ e h o.op (fun v h' => aops os (Env.put o.dst v e) h' N X) (X e)
      | .tup [] => aops os (Env.put o.dst undefA e) h N X
      | _ => False
structure SEnt (n0 : Nat) (e : Env) (h : AHeap) (e' : Env) (h' : AHeap) : Prop where
  len : n0 ≤ h.length → n0 ≤ h'.length
  ent : ∀ g w a, Rel Φ g h w → EnvR g h.length w e a → ∃ g', Rel Φ g' h' w ∧ EnvR g' h'.length w e' a ∧ Ext n0 g w g' w
def Into (n0 : Nat) (I : Env → AHeap → Prop) (e : Env) (h : AHeap) : Prop := ∃ e' h', SEnt Φ n0 e h e' h' ∧ I e' h'
structure LoopP (n0 : Nat) (B : (AExit → Env → AHeap → Prop) → Env → AHeap → Prop) (Q : AExit → Env → AHeap → Prop) (e : Env) (h : AHeap) : Prop where
  inv : ∃ I : Nat → Env → AHeap → Prop, (∃ m, Into Φ n0 (I m) e h) ∧ ∀ m e' h', I m e' h' → B (fun r e'' h'' => match r with
    | .normal => ∃ m', m' < m ∧ Into Φ n0 (I m') e'' h''
    | r => Q r e'' h'') e' h'
def rangeQ (Q : AExit → Env → AHeap → Prop) (e : Env) (r : Nat) : AEnd → AHeap → Prop
  | .ret _, h' => ∃ st pend X, h'[r]? = some (.loop st pend X) ∧ st ≠ .busy ∧ match pend with
    | none => Q .normal e (h'.set r .dead)
    | some .ret => Q .ret e (h'.set r .dead)
    | some (.exit id) => Q (.exit id) e (h'.set r .dead)
    | some _ => False
  | .pan _, _ => False
def rangeX (ps : List Nat) (N : Nat) (fz : List Nat) (aa ab : ACode) (e : Env) : LInfo :=
  ⟨N, ps, fun a b => (∃ t, comp P N fz a t = some aa) ∧ (∃ t, comp P N fz b t = some ab) ∧ aa.flat = true ∧ ab.flat = true ∧ ∀ t ∈ ps, t < N, e⟩
def awp (n0 : Nat) : ACode → (AExit → Env → AHeap → Prop) → Env → AHeap → Prop
  | .skip, Q, e, h => Q .normal e h
  | .region ops keep, Q, e, h => aops P Φ ops e h (fun e' h' => Q .normal (e'.keep keep) h') (fun e' v h' => Q (.pan v) e' h')
  | .draw ds keep, Q, e, h => adraw P Φ ds e [] h [] (fun e' h' => Q .normal (e'.keep keep) h')
  | .seq x y, Q, e, h => awp n0 x (fun r e' h' => match r with
    | .normal => awp n0 y Q e' h'
    | r => Q r e' h') e h
  | .cond c x y, Q, e, h => match c.ev e with
    | .bool t => bif t then awp n0 x Q e h else awp n0 y Q e h
    | _ => False
  | .block id x, Q, e, h => awp n0 x (fun r e' h' => match r with
    | .exit i => bif i == id then Q .normal e' h' else Q (.exit i) e' h'
    | r => Q r e' h') e h
  | .loop x, Q, e, h => LoopP Φ n0 (awp n0 x) Q e h
  | .range f ps N fz aa ab, Q, e, h => match f.ev e with
    | .fn fid a b => S P Φ fid (a ++ [.yld h.length] ++ b) (h ++ [.loop .ready none (rangeX P ps N fz aa ab e)]) (rangeQ Q e h.length)
    | _ => False
  | .dfr _ _ _ _, _, _, _ => False
  | .exit id, Q, e, h => Q (.exit id) e h
  | .ret, Q, e, h => Q .ret e h
end
def XR (g : Gh) (n : Nat) (w : World) : AExit → Exit → Prop
  | .normal, .normal => True
  | .exit i, .exit j => i = j
  | .ret, .ret => True
  | .pan v, .panic c => ∃ u, c = [{ v := u, recovered := false }] ∧ VR g n w v u
  | _, _ => False
theorem exists_min {p : Nat → Prop} (h : ∃ m, p m) : ∃ m, p m ∧ ∀ k, k < m → ¬ p k := by
  obtain ⟨m, hm⟩ := h
  induction m using Nat.strongRecOn with
  | _ m ih =>
    by_cases hk : ∃ k, k < m ∧ p k
    · obtain ⟨k, h1, h2⟩ := hk; exact ih k h1 h2
    · exact ⟨m, hm, fun k h1 h2 => hk ⟨k, h1, h2⟩⟩
theorem stepR_scope {P : Program} {b : Frame} {a : Act} {k : List Item} {cs : List Frame} {w : World} {c : Code} : step P (lone (b.atR a (.code (.scope c) :: k)) cs w) = .next (lone (b.atR a (.code c :: .inScope c :: k)) cs w) :=
  step_lone_go (by simp [stepG, stepG.exec, Frame.atR])
theorem stepR_inScope {P : Program} {b : Frame} {a : Act} {k : List Item} {cs : List Frame} {w : World} {c : Code} : step P (lone (b.atR a (.inScope c :: k)) cs w) = .next (lone (b.atR a k) cs w) :=
  step_lone_go (by simp [stepG, stepG.exec, Frame.atR])
theorem wpIn_scope {F : Fence} {n : Nat} {P : Program} {c : Code} {Q : Exit → Act → World → Prop} {a : Act} {w : World} (h : c.wpIn F n P (Exit.noGoto Q) a w) : (Code.scope c).wpIn F n P Q a w := by
  intro b k cs hro hb hr
  have h0 : (lone (b.atR a (.code (.scope c) :: k)) cs w).fenced P F := fenced_calm hb hr rfl
  obtain ⟨e, a₁, w₁, hq, harr⟩ := h b (.inScope c :: k) cs hro hb hr
  have hx : ∀ id, exitTo id (.inScope c :: k) = exitTo id k := fun id => by simp [exitTo]
  cases e with
  | normal => exact ⟨.normal, a₁, w₁, hq, .head h0 stepR_scope (StepsIn.trans harr (.one (fenced_calm hb hr rfl) stepR_inScope))⟩
  | exit id => exact ⟨.exit id, a₁, w₁, hq, fun k' hk => .head h0 stepR_scope (harr.1 k' (by rw [hx]; exact hk)), fun hr' hk => let ⟨k₁, h1, h2⟩ := harr.2 hr' (by rw [hx]; exact hk); ⟨k₁, h1, .head h0 stepR_scope h2⟩⟩
  | goto l => exact hq.elim
  | ret => exact ⟨_, a₁, w₁, hq, .of_steps (.one h0 stepR_scope) harr⟩
  | panic ch => exact ⟨_, a₁, w₁, hq, .of_steps (.one h0 stepR_scope) harr⟩
  | outgrown => exact ⟨_, a₁, w₁, hq, .of_steps (.one h0 stepR_scope) harr⟩
theorem wpIn_mono' {F : Fence} {n : Nat} {P : Program} {c : Code} {Q Q' : Exit → Act → World → Prop} {a : Act} {w : World} (h : c.wpIn F n P Q a w) (hq : ∀ e a w, Q e a w → Q' e a w) : c.wpIn F n P Q' a w :=
  fun b k cs h1 h2 h3 => let ⟨e, a', w', q, arr⟩ := h b k cs h1 h2 h3; ⟨e, a', w', hq _ _ _ q, arr⟩
theorem wpIn_loop_num {F : Fence} {n : Nat} {P : Program} {c : Code} {Q : Exit → Act → World → Prop} (I : Nat → Act → World → Prop) {m : Nat} {a : Act} {w : World} (h0 : I m a w)
    (round : ∀ m a w, I m a w → c.wpIn F n P (Exit.then (fun a' w' => ∃ m', m' < m ∧ I m' a' w') Q) a w) : (Code.loop c).wpIn F n P Q a w := by
  classical
  refine wpIn_loop (fun a w => ∃ m, I m a w) (fun a w => if h : ∃ m, I m a w then Classical.choose (exists_min h) else 0) ⟨m, h0⟩ fun a w hI => ?_
  have hs := Classical.choose_spec (exists_min hI)
  refine wpIn_mono' (round _ a w hs.1) fun e a' w' q => ?_
  cases e with
  | normal =>
    obtain ⟨m', h1, h2⟩ := q
    refine ⟨⟨m', h2⟩, ?_⟩
    have hI' : ∃ m, I m a' w' := ⟨m', h2⟩
    rw [dif_pos hI', dif_pos hI]
    have := (Classical.choose_spec (exists_min hI')).2 m'
    exact Nat.lt_of_le_of_lt (Nat.le_of_not_lt fun hlt => this hlt h2) h1
  | _ => exact q
section
variable {P : Program} {Φ : World → Prop} {ρ : Option Nat} {N n0 : Nat} {fz : List Nat}
def PostR (Φ : World → Prop) (N n0 : Nat) (D : DInfo) (g0 : Gh) (w0 : World) (Q : AExit → Env → AHeap → Prop) (x : Exit) (a : Act) (w : World) : Prop :=
  ∃ r e h g, Q r e h ∧ StR Φ N n0 D g0 w0 e h g a w ∧ XR g h.length w r x
theorem wanted_none {o : Oper} {y : Nat → Option Bool} (h : o.guard = none) : Region.wanted o y = true := by simp [Region.wanted, h]
theorem StR.drew {D : DInfo} {g0 g : Gh} {w0 w : World} {e : Env} {h : AHeap} {a : Act} (S : StR Φ N n0 D g0 w0 e h g a w) : StR Φ N n0 D g0 w0 e h g a w.drew := by
  obtain ⟨R, X⟩ := S.rel.beside (Below.refl _ w).drew
  exact ⟨R, S.env.ext X (Nat.le_refl _), S.ext.trans X S.len, S.len, S.size, S.defs.ext X.dfr⟩
theorem aops_sound {D : DInfo} {g0 : Gh} {w0 : World} {Q : Exit → Act → World → Prop} {ops : Array Oper} (N' : Env → AHeap → Prop) (X' : Env → AV → AHeap → Prop) {tl : List Nat}
    (hN : ∀ e h g a w, N' e h → StR Φ N n0 D g0 w0 e h g a w → wpOpsIn (Fw ρ) 0 P ops Q tl a w)
    (hX : ∀ e v h g a w u, X' e v h → StR Φ N n0 D g0 w0 e h g a w → VR g h.length w v u → Q (.panic [{ v := u, recovered := false }]) a w) :
    ∀ (l : List Oper) (al : List AOper) (k : Nat), (∀ j, j < l.length → l[j]? = ops[k + j]?) → compOpers P N fz ops l = some al → ∀ e h g a w, aops P Φ al e h N' X' → StR Φ N n0 D g0 w0 e h g a w →
      wpOpsIn (Fw ρ) 0 P ops Q (List.range' k l.length ++ tl) a w
  | [], al, k, _, hc, e, h, g, a, w, hA, S => by
    simp [compOpers] at hc; subst hc
    exact hN e h g a w hA S
  | o :: l, al, k, hl, hc, e, h, g, a, w, hA, S => by
    simp only [compOpers] at hc
    split at hc
    · rename_i ao al' hco hcl
      cases hc
      have h0 : ops[k]? = some o := by simpa using (hl 0 (by simp)).symm
      have hl' : ∀ j, j < l.length → l[j]? = ops[k + 1 + j]? := fun j hj => by have := hl (j + 1) (by simpa using hj); simpa [Nat.add_assoc, Nat.add_comm 1 j] using this
      have ih := aops_sound N' X' hN hX l al' (k + 1) hl' hcl
      unfold compOper at hco
      split at hco
      · cases hco
      · rename_i op hop
        split at hco
        · rename_i hdst
          have hdst' : ∀ d, o.dst = some d → d < N := by intro d hd; rw [hd] at hdst; simpa [dstOk] using hdst
          have step : ∀ v h' g' w' u, aops P Φ al' (Env.put o.dst v e) h' N' X' → Rel Φ g' h' w' → VR g' h'.length w' v u → Ext h.length g w g' w' → h.length ≤ h'.length → wpOpsIn (Fw ρ) 0 P ops Q (List.range' (k + 1) l.length ++ tl) (a.put o.dst u) w' := by
            intro v h' g' w' u hk R' hv hE hle
            refine ih _ h' g' _ w' hk ⟨R', ?_, S.ext.trans hE S.len, Nat.le_trans S.len hle, by rw [put_size]; exact S.size, by rw [put_defers]; exact S.defs.ext hE.dfr⟩
            have E' := S.env.ext hE hle
            cases hd : o.dst with
            | none => exact E'
            | some d => exact E'.put (by rw [S.size]; exact hdst' d hd) hv
          have pan : ∀ v h' g' w' u, X' e v h' → Rel Φ g' h' w' → VR g' h'.length w' v u → Ext h.length g w g' w' → h.length ≤ h'.length → Q (.panic [{ v := u, recovered := false }]) a w' := by
            intro v h' g' w' u hx R' hv hE hle
            exact hX e v h' g' a w' u hx ⟨R', S.env.ext hE hle, S.ext.trans hE S.len, Nat.le_trans S.len hle, S.size, S.defs.ext hE.dfr⟩ hv
          have run : aop P Φ e h op (fun v h' => aops P Φ al' (Env.put o.dst v e) h' N' X') (X' e) → o.wpIn (Fw ρ) 0 P a w (wpOpsIn (Fw ρ) 0 P ops Q (List.range' (k + 1) l.length ++ tl)) Q := by
            intro hA
            refine ⟨fun f _ => trivial, ?_⟩
            rw [Oper.semAt_eq _ _ _ (compOpA_noDefer hop)]
            exact aopA_sound hop S.rel S.env hA _ _ step pan
          have skip : aops P Φ al' (Env.put o.dst undefA e) h N' X' → wpOpsIn (Fw ρ) 0 P ops Q (List.range' (k + 1) l.length ++ tl) (a.put o.dst undef) w := fun hA =>
            step undefA h g w undef hA S.rel .undef (Ext.refl _ _ _) (Nat.le_refl _)
          simp only [List.length_cons, List.range'_succ, List.cons_append, wpOpsIn, h0]
          split at hco
          · rename_i hg
            cases hco
            simp only [aops] at hA
            rw [if_pos (wanted_none hg)]
            exact run hA
          · rename_i j b hg
            split at hco
            · rename_i t ht
              split at hco
              · rename_i htN
                cases hco
                have hy : yielded ops a.tmps j = match a.tmps[t]? with | some (.bool b) => some b | _ => none := by simp only [yielded, ht]; rfl
                have hE := S.env t
                rw [Array.getD_eq_getD_getElem?] at hE
                have htl : t < a.tmps.size := by rw [S.size]; exact htN
                have hte : a.tmps[t]? = some a.tmps[t] := by simp [htl]
                rw [hte] at hE hy
                simp only [Option.getD_some] at hE
                simp only [aops] at hA
                split at hA
                · rename_i c hc
                  rw [hc] at hE
                  have hcv : a.tmps[t] = .bool c := by generalize a.tmps[t] = q at hE; cases hE; rfl
                  rw [hcv] at hy
                  have hw : Region.wanted o (yielded ops a.tmps) = (c == b) := by
                    simp only [Region.wanted, hg, hy]
                    cases c <;> cases b <;> rfl
                  rw [hw]
                  cases b <;> cases c <;> simp only [cond_true, cond_false] at hA <;> split <;> rename_i hh <;> first
                    | exact run hA
                    | exact ⟨fun f _ => trivial, skip hA⟩
                    | exact absurd hh (by decide)
                    | exact absurd rfl hh
                · rename_i hc
                  rw [hc] at hE
                  have hcv : a.tmps[t] = .tuple #[] := by
                    generalize a.tmps[t] = q at hE
                    cases hE with
                    | tup _ vs h1 h2 => have : vs = [] := by simpa using h1.symm
                                        subst this; rfl
                  rw [hcv] at hy
                  have hw : Region.wanted o (yielded ops a.tmps) = false := by
                    simp only [Region.wanted, hg, hy]; rfl
                  rw [hw, if_neg (by simp)]
                  exact ⟨fun f _ => trivial, skip hA⟩
                · exact hA.elim
              · cases hco
            · cases hco
        · cases hco
    · cases hc
theorem comp_dfr {x y : Code} {l : List AOper} {t : Nat} {keep : Option (List Nat)} {z ac : ACode} (h : comp P N fz (.seq x y) (.dfr l t keep z) = some ac) :
    ∃ id ops l' t' al az, x = .region id ops false ∧ splitDefer ops.toList = some (l', t') ∧ compOpers P N fz ops l' = some al ∧ comp P N fz y z = some az ∧ t' < N ∧ ac = .dfr al t' keep az := by
  cases x with
  | region id ops d =>
    cases d with
    | true => simp [comp] at h
    | false =>
      simp only [comp] at h
      split at h
      · rename_i l' t' h1
        split at h
        · rename_i al az h2 h3
          split at h
          · rename_i h4
            cases h
            exact ⟨id, ops, l', t', al, az, rfl, h1, h2, h3, h4, rfl⟩
          · cases h
        · cases h
      · cases h
  | _ => simp [comp] at h
theorem awp_sound {D : DInfo} : ∀ {c : Code} {t ac : ACode}, comp P N fz c t = some ac → (ac.flat = true ∨ (ρ = none ∧ ∀ b ms, D.K ms → D.K (b :: ms))) → ∀ (Q : AExit → Env → AHeap → Prop) (e : Env) (h : AHeap) (g0 g : Gh) (w0 w : World) (a : Act),
    awp P Φ n0 ac Q e h → StR Φ N n0 D g0 w0 e h g a w → c.wpIn (Fw ρ) 0 P (PostR Φ N n0 D g0 w0 Q) a w
  | c, t, ac, hc => by
    induction c generalizing t ac with
    | skip =>
      cases t <;> simp only [comp] at hc <;> try (cases hc; done)
      cases hc
      intro hfl Q e h g0 g w0 w a hA S
      exact wpIn_skip ⟨.normal, e, h, g, hA, S, trivial⟩
    | region id ops draw =>
      cases draw with
      | true =>
        cases t <;> simp only [comp] at hc <;> try (cases hc; done)
        rename_i t keep
        split at hc
        · rename_i al hal
          split at hc
          · rename_i hok
            cases hc
            simp only [Bool.and_eq_true, beq_iff_eq] at hok
            obtain ⟨⟨hm, hlen⟩, hok⟩ := hok
            have hlen2 : (withFlags al t).length = al.length := by simp [withFlags, hlen]
            have hget2 : ∀ (k : Nat) (d : DOp), (withFlags al t)[k]? = some d → al[k]? = some d.op := by
              intro k d hk
              simp only [withFlags, List.getElem?_zipWith] at hk
              split at hk
              · rename_i h1 h2; cases hk; exact h1
              · cases hk
            intro hfl Q e h g0 g w0 w a hA S
            refine wpIn_region_any hm ?_
            simp only [awp] at hA
            have S' : StR Φ N n0 D g0 w0 e h g a { w with drawn := w.drawn + 1 } := S.drew
            obtain ⟨V, B, H, h1, h2, h3⟩ := adraw_trace (ds := withFlags al t) (e0 := e) (withFlags al t) 0 (by simp) (fun _ => undefA) (fun _ => true) (fun _ => h) [] [] (fun k d hk => by omega) (fun k d hk => by omega) (fun j hj => by cases Nat.le_zero.1 hj; simp) hA
            have hsz : ops.size = al.length := by have := (compOpers_get hal).1; simpa using this
            simp only [Nat.zero_add] at h2 h3
            have hn : ∀ (g : Gh) (a : Act) (w : World), StR Φ N n0 D g0 w0 (envK (withFlags al t) e V (withFlags al t).length) (H (withFlags al t).length) g a w → PostR Φ N n0 D g0 w0 Q .normal a w :=
              fun g a w S => ⟨.normal, _, _, g, h3, ⟨S.rel, S.env.keep keep, S.ext, S.len, S.size, S.defs⟩, trivial⟩
            have hnone : ∀ k, lsd (Array.replicate ops.size false) k = false := fun k => by
              simp only [lsd, Array.getD_eq_getD_getElem?, Array.getElem?_replicate]; split <;> rfl
            refine draw_sound hal hlen2 hget2 hok h2 hn ops.size (Array.replicate ops.size false) g a _ (by simp) (by simp [List.count_replicate]) (fun k l _ hk => by rw [hnone] at hk; cases hk) ?_
            refine S'.env_of (fun _ => ?_) ?_
            · have : ∀ n, envL (withFlags al t) e V (lsd (Array.replicate ops.size false)) n = e := by
                intro n; induction n with
                | zero => rfl
                | succ n ih => simp only [envL, hnone]; simpa using ih
              rw [this]
            · have : ∀ n, mL (withFlags al t) (lsd (Array.replicate ops.size false)) n = 0 := by
                intro n; induction n with
                | zero => rfl
                | succ n ih => simp only [mL, hnone]; simpa using ih
              rw [this]; exact h1
          · cases hc
        · cases hc
      | false =>
        cases t <;> simp only [comp] at hc <;> try (cases hc; done)
        rename_i ops' keep
        simp only [Option.map_eq_some_iff] at hc
        obtain ⟨al, hal, rfl⟩ := hc
        intro hfl Q e h g0 g w0 w a hA S
        refine wpIn_region ?_
        have := aops_sound (P := P) (Φ := Φ) (ρ := ρ) (N := N) (n0 := n0) (D := D) (g0 := g0) (w0 := w0) (Q := PostR Φ N n0 D g0 w0 Q) (ops := ops) _ _ (tl := [])
          (fun e h g a w hq S => ⟨.normal, e.keep keep, h, g, hq, ⟨S.rel, S.env.keep keep, S.ext, S.len, S.size, S.defs⟩, trivial⟩)
          (fun e v h g a w u hq S hv => ⟨.pan v, e, h, g, hq, S, u, rfl, hv⟩) ops.toList al 0 (fun j _ => by simp) hal e h g a w hA S
        rw [List.range_eq_range', ← Array.length_toList]
        rw [List.append_nil] at this
        exact this
    | seq x y ihx ihy =>
      by_cases hd : ∃ l t' keep z, t = .dfr l t' keep z
      · obtain ⟨l, t', keep, z, rfl⟩ := hd
        obtain ⟨_, _, _, _, _, _, _, _, _, _, _, rfl⟩ := comp_dfr hc
        intro hfl Q e h g0 g w0 w a hA S
        exact hA.elim
      cases t <;> (first | exact absurd ⟨_, _, _, _, rfl⟩ hd | simp only [comp] at hc) <;> try (cases hc; done)
      split at hc
      · rename_i h1 h2
        cases hc
        intro hfl Q e h g0 g w0 w a hA S
        refine wpIn_seq (wpIn_mono' (ihx _ _ h1 (hfl.imp_left fun h => by simp only [ACode.flat, Bool.and_eq_true] at h; exact h.1) _ _ _ _ _ _ _ _ hA S) ?_)
        rintro q a' w' ⟨r, e', h', g', hq, S', hx⟩
        cases r <;> cases q <;> simp only [XR] at hx <;> try (cases hx; done)
        · exact ihy _ _ h2 (hfl.imp_left fun h => by simp only [ACode.flat, Bool.and_eq_true] at h; exact h.2) _ _ _ _ _ _ _ _ hq S'
        · exact ⟨_, e', h', g', hq, S', hx⟩
        · exact ⟨_, e', h', g', hq, S', trivial⟩
        · exact ⟨_, e', h', g', hq, S', hx⟩
      · cases hc
    | cond c x y ihx ihy =>
      cases t <;> simp only [comp] at hc <;> try (cases hc; done)
      split at hc
      · rename_i c' x' y' hc' h1 h2
        cases hc
        intro hfl Q e h g0 g w0 w a hA S
        simp only [awp] at hA
        have V := compX_sound hc' S.env
        split at hA
        · rename_i tt htt
          rw [htt] at V
          have hcv : a.eval c = .bool tt := by generalize a.eval c = q at V; cases V; rfl
          exact wpIn_cond_split hcv (fun ht => ihx _ _ h1 (hfl.imp_left fun h => by simp only [ACode.flat, Bool.and_eq_true] at h; exact h.1) _ _ _ _ _ _ _ _ (by subst ht; exact hA) S) (fun ht => ihy _ _ h2 (hfl.imp_left fun h => by simp only [ACode.flat, Bool.and_eq_true] at h; exact h.2) _ _ _ _ _ _ _ _ (by subst ht; exact hA) S)
        · exact hA.elim
      · cases hc
    | block id x ih =>
      cases t <;> simp only [comp] at hc <;> try (cases hc; done)
      simp only [Option.map_eq_some_iff] at hc
      obtain ⟨x', h1, rfl⟩ := hc
      intro hfl Q e h g0 g w0 w a hA S
      refine wpIn_block (wpIn_mono' (ih _ _ h1 (hfl.imp_left fun h => by simpa only [ACode.flat] using h) _ _ _ _ _ _ _ _ hA S) ?_)
      rintro q a' w' ⟨r, e', h', g', hq, S', hx⟩
      cases r <;> cases q <;> simp only [XR] at hx <;> try (cases hx; done)
      · exact ⟨_, e', h', g', hq, S', trivial⟩
      · rename_i i j
        subst hx
        simp only [Exit.inBlock]
        by_cases hi : i = id
        · subst hi
          simp only [BEq.rfl, cond_true] at hq
          rw [if_pos rfl]
          exact ⟨_, e', h', g', hq, S', trivial⟩
        · have : (i == id) = false := by simpa using hi
          simp only [this, cond_false] at hq
          rw [if_neg hi]
          exact ⟨_, e', h', g', hq, S', rfl⟩
      · exact ⟨_, e', h', g', hq, S', trivial⟩
      · exact ⟨_, e', h', g', hq, S', hx⟩
    | loop x ih =>
      cases t <;> simp only [comp] at hc <;> try (cases hc; done)
      simp only [Option.map_eq_some_iff] at hc
      obtain ⟨x', h1, rfl⟩ := hc
      intro hfl Q e h g0 g w0 w a hA S
      obtain ⟨I, ⟨m, e1, h1', hS, hI⟩, hr⟩ := hA.inv
      have into : ∀ {e h e1 h1} {g : Gh} {a : Act} {w : World}, SEnt Φ n0 e h e1 h1 → StR Φ N n0 D g0 w0 e h g a w → ∃ g1, StR Φ N n0 D g0 w0 e1 h1 g1 a w := by
        intro e h e1 h1 g a w hS S
        obtain ⟨g1, R1, E1, X1⟩ := hS.2 g w a S.rel S.env
        exact ⟨g1, R1, E1, S.ext.trans X1 (Nat.le_refl _), hS.1 S.len, S.size, S.defs.ext X1.dfr⟩
      obtain ⟨g1, S1⟩ := into hS S
      refine wpIn_loop_num (fun m a w => ∃ e h g, I m e h ∧ StR Φ N n0 D g0 w0 e h g a w) ⟨e1, h1', g1, hI, S1⟩ ?_
      rintro m a w ⟨e, h, g, hI, S⟩
      refine wpIn_mono' (ih _ _ h1 (hfl.imp_left fun h => by simpa only [ACode.flat] using h) _ _ _ _ _ _ _ _ (hr m e h hI) S) ?_
      rintro q a' w' ⟨r, e', h', g', hq, S', hx⟩
      cases r <;> cases q <;> simp only [XR] at hx <;> try (cases hx; done)
      · obtain ⟨m', hm, e2, h2, hS2, hI2⟩ := hq
        obtain ⟨g2, S2⟩ := into hS2 S'
        exact ⟨m', hm, e2, h2, g2, hI2, S2⟩
      · exact ⟨_, e', h', g', hq, S', hx⟩
      · exact ⟨_, e', h', g', hq, S', trivial⟩
      · exact ⟨_, e', h', g', hq, S', hx⟩
    | rangeFunc f ps assign body iha ihb =>
      cases t <;> simp only [comp] at hc <;> try (cases hc; done)
      split at hc
      · rename_i fx aa ab h1 h2 h3
        split at hc
        · rename_i hok
          cases hc
          simp only [Bool.and_eq_true, List.all_eq_true, decide_eq_true_eq] at hok
          intro hfl Q e h g0 g w0 w a hA S
          obtain ⟨hρ, hK⟩ : ρ = none ∧ ∀ b ms, D.K ms → D.K (b :: ms) := by
            rcases hfl with hh | hh
            · simp [ACode.flat] at hh
            · exact hh
          subst hρ
          simp only [awp] at hA
          have U := compX_sound h1 S.env
          generalize fx.ev e = bv at hA U
          generalize hxe : a.eval f = xu at U
          split at hA
          · rename_i fid fs cs
            cases U with
            | fn _ _ _ vs us k1 k2 k3 k4 =>
              obtain ⟨⟨fn', hf', hn', hb'⟩, hS⟩ := hA
              refine wpIn_rangeFunc fun fnn hfn => ?_
              obtain ⟨rec, hrec⟩ : ∃ rec : Loop, rec = { state := .ready, pending := none, fn := fnn, tmps := a.tmps, params := ps, assign, body, defers := w.heap.size } := ⟨_, rfl⟩
              have hBa : Below w.heap.size w (w.alloc (.deferred (some []))) := (Below.refl _ w).alloc (Nat.le_refl _) _
              obtain ⟨Ra, Ea⟩ := S.rel.beside hBa
              have hda : (w.alloc (.deferred (some []))).heap[w.heap.size]? = some (.deferred (some [])) := Go.heap_alloc_new _ _
              obtain ⟨Rb, Eb⟩ := Ra.redfr (fun x => g.dfr x ∨ x = w.heap.size) (fun x hx => by
                rcases hx with hx | hx
                · exact Ra.dfrv x hx
                · subst hx; exact hda)
              have Eg : Ext h.length g w { g with dfr := fun x => g.dfr x ∨ x = w.heap.size } (w.alloc (.deferred (some []))) :=
                ⟨fun _ _ => rfl, fun _ _ => rfl, fun _ _ => rfl, fun _ _ h => h, fun b o hi => Ea.cell b o hi, rfl, rfl, Ea.size, fun _ h => .inl h⟩
              have EvB := S.env.ext Eg (Nat.le_refl _)
              obtain ⟨Rc, Ec⟩ := Rb.alloc (.loop rec) (.loop .ready none (rangeX P ps.toList N fz aa ab e)) 0 0 (fun hE => by
                refine ⟨by rw [Gh.bind_base, Gh.bind_loc]; exact Rb.base, fnn, w.heap.size, a.tmps, ps, assign, body, ?_, S.size, rfl, ⟨⟨_, h2⟩, ⟨_, h3⟩, hok.1.1, hok.1.2, hok.2⟩, fun t => (EvB t).ext hE (by omega)⟩
                rw [Gh.bind_loc, hrec]; exact Go.heap_alloc_new _ _)
              have EcT := Eg.trans Ec (Nat.le_refl _)
              have hsa : (w.alloc (.deferred (some []))).heap.size = w.heap.size + 1 := by simp
              refine ⟨w.heap.size + 1, [{ target := .collected w.heap.size, args := #[] }], (w.alloc (.deferred (some []))).alloc (.loop rec), { target := .fn (.func fid) us.toArray, args := vs.toArray ++ #[Value.func (.yield (w.heap.size + 1)) #[] #[]] }, (w.alloc (.deferred (some []))).alloc (.loop rec), fid,
                (vs ++ [Value.func (.yield (w.heap.size + 1)) #[] #[]] ++ us).toArray, (w.alloc (.deferred (some []))).alloc (.loop rec), ?_, ?_, fun _ _ => trivial, ?_, (fun h => by cases h), ?_⟩
              · rw [hrec]; exact run_enterLoop_outer _ _ _ _ _
              · simp only [resolve, Go.rangeCall, hxe, Deferred.ofValue]
                simp
                rfl
              · simp only [invoke, callFunc, Sem.run_bind, Sem.run_pure, Result.andThen_ok, run_program, hf', hn', hb', Bool.false_eq_true, if_false]
                simp
              · have VY : VR (({ g with dfr := fun x => g.dfr x ∨ x = w.heap.size } : Gh).bind h.length (w.alloc (.deferred (some []))).heap.size 0 0) (h ++ [AB.loop .ready none (rangeX P ps.toList N fz aa ab e)]).length ((w.alloc (.deferred (some []))).alloc (.loop rec)) (.yld h.length) (.func (.yield (w.heap.size + 1)) #[] #[]) := by
                  have := VR.yld (g := ({ g with dfr := fun x => g.dfr x ∨ x = w.heap.size } : Gh).bind h.length (w.alloc (.deferred (some []))).heap.size 0 0) (n := (h ++ [AB.loop .ready none (rangeX P ps.toList N fz aa ab e)]).length) (w := (w.alloc (.deferred (some []))).alloc (.loop rec)) h.length (by simp)
                  have hl : (({ g with dfr := fun x => g.dfr x ∨ x = w.heap.size } : Gh).bind h.length (w.alloc (.deferred (some []))).heap.size 0 0).loc h.length = w.heap.size + 1 := by rw [Gh.bind_loc, hsa]
                  rw [hl] at this
                  exact this
                have hle : h.length ≤ (h ++ [AB.loop .ready none (rangeX P ps.toList N fz aa ab e)]).length := by simp
                have VS : VRs (({ g with dfr := fun x => g.dfr x ∨ x = w.heap.size } : Gh).bind h.length (w.alloc (.deferred (some []))).heap.size 0 0) (h ++ [AB.loop .ready none (rangeX P ps.toList N fz aa ab e)]).length ((w.alloc (.deferred (some []))).alloc (.loop rec)) (fs ++ [.yld h.length] ++ cs) (vs ++ [Value.func (.yield (w.heap.size + 1)) #[] #[]] ++ us) :=
                  VRs.append (VRs.append (VRs.ext ⟨k1, k3⟩ EcT hle) (VRs.cons VY VRs.nil)) (VRs.ext ⟨k2, k4⟩ EcT hle)
                refine callsIn_fw ((hS _ _ _ Rc VS).mono ?_)
                rintro en w3 ⟨g3, h3', r3, hq, R3, hE3, hx3, hl3⟩
                cases r3 with
                | pan v => exact hq.elim
                | ret v =>
                  cases en with
                  | panicked c => exact hE3.elim
                  | outgrown => exact hE3.elim
                  | returned u =>
                    obtain ⟨st, pend, X, hr3, hst, hm⟩ := hq
                    have hloc : g3.loc h.length = w.heap.size + 1 := by
                      rw [hx3.loc h.length (by simp), Gh.bind_loc, hsa]
                    obtain ⟨_, fn3, d3, tmps3, ps3, as3, bo3, hobj, _⟩ := R3.blk _ _ hr3
                    rw [hloc] at hobj
                    have hlt : w.heap.size + 1 < w3.heap.size := (Array.getElem?_eq_some_iff.1 hobj).1
                    obtain ⟨R4, E4⟩ := R3.update hr3 rfl (w' := w3.putObj (w.heap.size + 1) (.loop { state := .exhausted, pending := pend, fn := fn3, tmps := tmps3, params := ps3, assign := as3, body := bo3, defers := d3 })) (b' := .dead)
                      (fun k hk => World.putObj_heap_other (by rw [hloc] at hk; exact hk)) (by simp) rfl rfl rfl (fun _ => trivial)
                    have hh3 : h.length ≤ h3'.length := Nat.le_trans hle hl3
                    have ET := EcT.trans (hx3.trans E4 (by simpa using hl3)) hle
                    refine ⟨pend, _, run_endLoop hobj hst, ?_⟩
                    obtain ⟨ms, hms, hmd, hnd, hKm⟩ := S.defs
                    have S4 : StR Φ N n0 D g0 w0 e (h3'.set h.length .dead) g3 { a with defers := [{ target := .collected w.heap.size, args := #[] }] ++ a.defers } (w3.putObj (w.heap.size + 1) (.loop { state := .exhausted, pending := pend, fn := fn3, tmps := tmps3, params := ps3, assign := as3, body := bo3, defers := d3 })) := by
                      refine ⟨R4, ?_, S.ext.trans ET S.len, by rw [List.length_set]; exact Nat.le_trans S.len hh3, S.size, ⟨w.heap.size :: ms, by simp [hms], ?_, ?_, hK _ _ hKm⟩⟩
                      · rw [List.length_set]; exact S.env.ext ET hh3
                      · intro b hb
                        rcases List.mem_cons.1 hb with rfl | hb
                        · exact ⟨hx3.dfr _ (.inr rfl), S.ext.size⟩
                        · exact ⟨hx3.dfr _ (.inl (hmd b hb).1), (hmd b hb).2⟩
                      · refine List.nodup_cons.2 ⟨fun hm => ?_, hnd⟩
                        have := (Array.getElem?_eq_some_iff.1 (S.rel.dfrv _ (hmd _ hm).1)).1
                        omega
                    split at hm
                    · exact ⟨.normal, e, _, g3, hm, S4, trivial⟩
                    · exact wpIn_ret ⟨.ret, e, _, g3, hm, S4, trivial⟩
                    · exact wpIn_exit ⟨.exit _, e, _, g3, hm, S4, rfl⟩
                    · exact hm.elim
          · exact hA.elim
        · cases hc
      · cases hc
    | exit id =>
      cases t <;> simp only [comp] at hc <;> try (cases hc; done)
      cases hc
      intro hfl Q e h g0 g w0 w a hA S
      exact wpIn_exit ⟨.exit id, e, h, g, hA, S, rfl⟩
    | scope x ih =>
      have hc' : comp P N fz x t = some ac := by cases t <;> simpa only [comp] using hc
      intro hfl Q e h g0 g w0 w a hA S
      refine wpIn_scope (wpIn_mono' (ih _ _ hc' hfl _ _ _ _ _ _ _ _ hA S) ?_)
      rintro q a' w' ⟨r, e', h', g', hq, S', hx⟩
      cases r <;> cases q <;> simp only [XR] at hx <;> try (cases hx; done)
      · exact ⟨_, e', h', g', hq, S', trivial⟩
      · exact ⟨_, e', h', g', hq, S', hx⟩
      · exact ⟨_, e', h', g', hq, S', trivial⟩
      · exact ⟨_, e', h', g', hq, S', hx⟩
    | label l =>
      cases t <;> simp only [comp] at hc <;> try (cases hc; done)
      cases hc
      intro hfl Q e h g0 g w0 w a hA S
      exact wpIn_label ⟨.normal, e, h, g, hA, S, trivial⟩
    | goto l => cases t <;> simp [comp] at hc
    | ret =>
      cases t <;> simp only [comp] at hc <;> try (cases hc; done)
      cases hc
      intro hfl Q e h g0 g w0 w a hA S
      exact wpIn_ret ⟨.ret, e, h, g, hA, S, trivial⟩
    | refuse s => cases t <;> simp [comp] at hc
end
end Go.Abs
end
section
namespace Go.Abs
open Go.RowKit
section
variable {P : Program} {Φ : World → Prop} {g : Gh} {h : AHeap} {w : World}
inductive ARes where
  | tmp (t : Nat)
  | cell (t : Nat) (sz : Option Nat)
def compRes (P : Program) : List ResultVar → Option (List ARes)
  | [] => some []
  | .tmp t :: rs => (compRes P rs).map (.tmp t :: ·)
  | .cell t ty :: rs => match aggSize P ty, compRes P rs with
    | some sz, some l => some (.cell t sz :: l)
    | _, _ => none
def aresOne (e : Env) (h : AHeap) : ARes → Option AV
  | .tmp t => some (e.get t)
  | .cell t sz => match e.get t with
    | .ptr r i o => match h[r]? with
      | some (.cells _ _ _ els) => match els[i]? with
        | some v => v.part o sz
        | none => none
      | _ => none
    | _ => none
def aresAll (e : Env) (h : AHeap) : List ARes → Option (List AV)
  | [] => some []
  | r :: rs => match aresOne e h r, aresAll e h rs with
    | some a, some asx => some (a :: asx)
    | _, _ => none
def ares (e : Env) (h : AHeap) (rs : List ARes) : Option AV :=
  match aresAll e h rs with
  | some [a] => some a
  | some asx => some (.tup asx)
  | none => none
def bodyQ (Φ : World → Prop) (rs : List ARes) (n0 : Nat) (Q : AEnd → AHeap → Prop) : AExit → Env → AHeap → Prop
  | .normal, e, h | .ret, e, h => match ares e h rs with
    | some v => ∃ v' h', FEnt Φ n0 v h v' h' ∧ Q (.ret v') h'
    | none => False
  | .pan v, _, h => ∃ v' h', FEnt Φ n0 v h v' h' ∧ Q (.pan v') h'
  | .exit _, _, _ => False
def argEnv : List AV → Nat → Env
  | [], _ => []
  | a :: asx, i => (i, a) :: argEnv asx (i + 1)
theorem argEnv_ok {n : Nat} {u : Array Value} : ∀ {asx : List AV} {vs : List Value} {k : Nat}, VRs g n w asx vs → (∀ i v, vs[i]? = some v → u[k + i]? = some v) → ∀ t, VR g n w ((argEnv asx k).get t) (u.getD t undef)
  | [], vs, k, V, hu, t => .any _
  | a :: asx, vs, k, V, hu, t => by
    obtain ⟨v, us, rfl, hv, hs⟩ := V.cons_inv
    simp only [argEnv, Env.get]
    cases hb : Nat.beq t k with
    | true =>
      have := Nat.eq_of_beq_eq_true hb
      subst this
      have := hu 0 v rfl
      simp only [Nat.add_zero] at this
      simp [Array.getD_eq_getD_getElem?, this, hv]
    | false => exact argEnv_ok hs (fun i x hx => by have := hu (i + 1) x (by simpa using hx); rw [show k + 1 + i = k + (i + 1) by omega]; exact this) t
def resOne (tmps : Array Value) : ResultVar → Sem Value
  | .tmp t => pure (tmps.getD t undef)
  | .cell a t => do loadVar t (← asAddr (tmps.getD a undef))
theorem aresOne_sound (R : Rel Φ g h w) {e : Env} {a : Act} (E : EnvR g h.length w e a) {rv : ResultVar} {rs : List ResultVar} {l : List ARes} (hc : compRes P (rv :: rs) = some l) : ∃ r l', l = r :: l' ∧ compRes P rs = some l' ∧
    ∀ v, aresOne e h r = some v → ∃ u, (resOne a.tmps rv).run P w = .ok u w ∧ VR g h.length w v u := by
  cases rv with
  | tmp t =>
    simp only [compRes, Option.map_eq_some_iff] at hc
    obtain ⟨l', h1, rfl⟩ := hc
    refine ⟨_, l', rfl, h1, fun v hv => ?_⟩
    simp [aresOne] at hv; subst hv
    exact ⟨_, rfl, E t⟩
  | cell t ty =>
    simp only [compRes] at hc
    split at hc
    · rename_i sz l' h1 h2
      cases hc
      refine ⟨_, l', rfl, h2, fun v hv => ?_⟩
      simp only [aresOne] at hv
      have V := E t
      split at hv
      · rename_i r i o heq
        rw [heq] at V
        split at hv
        · rename_i gr T ez els hr
          split at hv
          · rename_i x hx
            obtain ⟨u, hu, hv'⟩ := R.load_own (P := P) h1 hr hx hv
            obtain ⟨q, hq⟩ : ∃ q, a.tmps.getD t undef = q := ⟨_, rfl⟩
            rw [hq] at V
            cases V
            exact ⟨u, by simp only [resOne, hq, asAddr, Sem.run_bind, Sem.run_pure, Result.andThen_ok, hu], hv'⟩
          · cases hv
        · cases hv
      · cases hv
    · cases hc
theorem aresAll_sound (R : Rel Φ g h w) {e : Env} {a : Act} (E : EnvR g h.length w e a) : ∀ {rvs : List ResultVar} {l : List ARes}, compRes P rvs = some l → ∀ {vs : List AV}, aresAll e h l = some vs →
    ∃ us, (rvs.mapM (resOne a.tmps)).run P w = .ok us w ∧ VRs g h.length w vs us
  | [], l, hc, vs, hv => by
    simp [compRes] at hc; subst hc
    simp [aresAll] at hv; subst hv
    exact ⟨[], rfl, .nil⟩
  | rv :: rvs, l, hc, vs, hv => by
    obtain ⟨r, l', rfl, h1, h2⟩ := aresOne_sound R E hc
    simp only [aresAll] at hv
    split at hv
    · rename_i x xs hx hxs
      cases hv
      obtain ⟨u, hu, hvu⟩ := h2 x hx
      obtain ⟨us, hus, hvs⟩ := aresAll_sound R E h1 hxs
      refine ⟨u :: us, ?_, hvs.cons hvu⟩
      simp only [List.mapM_cons, Sem.run_bind, hu, Result.andThen_ok, hus, Sem.run_pure]
    · cases hv
theorem ares_sound (R : Rel Φ g h w) {e : Env} {a : Act} (E : EnvR g h.length w e a) {fn : Func} {l : List ARes} (hc : compRes P fn.results.toList = some l) {v : AV} (hv : ares e h l = some v) :
    ∃ u, (results fn a.tmps).run P w = .ok u w ∧ VR g h.length w v u := by
  unfold ares at hv
  have key : ∀ vs, aresAll e h l = some vs → ∃ us, (results fn a.tmps).run P w = .ok (if h : us.toArray.size = 1 then us.toArray[0] else .tuple us.toArray) w ∧ VRs g h.length w vs us := by
    intro vs hvs
    obtain ⟨us, h1, h2⟩ := aresAll_sound R E hc hvs
    refine ⟨us, ?_, h2⟩
    have e1 : results fn a.tmps = (do let vs ← fn.results.mapM (resOne a.tmps); pure (if h : vs.size = 1 then vs[0] else .tuple vs)) := rfl
    rw [e1, Sem.run_bind, Array.mapM_eq_mapM_toList, Sem.run_map, h1]
    rfl
  split at hv
  · rename_i x hx
    cases hv
    obtain ⟨us, h1, h2⟩ := key _ hx
    obtain ⟨u, us', rfl, hu, hr⟩ := h2.cons_inv
    have := hr.nil_inv
    subst this
    exact ⟨u, by rw [h1]; rfl, hu⟩
  · rename_i vs hne hx
    cases hv
    obtain ⟨us, h1, h2⟩ := key _ hx
    have hl : us.length ≠ 1 := by
      intro h1'
      rw [← h2.1] at h1'
      obtain ⟨y, rfl⟩ := List.length_eq_one_iff.1 h1'
      exact hne y rfl
    exact ⟨.tuple us.toArray, by rw [h1]; simp [hl], .tup vs us h2.1 h2.2⟩
  · cases hv
theorem marks_out {fn : Func} {tmps : Array Value} {RR : Ending → World → Prop} {u : FrameMode} (hu : u ≠ .run) {F : Fence} {n : Nat} : ∀ (ms : List Nat) (w : World), Rel Φ g h w → ms.Nodup →
    (∀ b ∈ ms, w.heap[b]? = some (.deferred (some [])) ∧ g.base ≤ b ∧ ¬ g.dfr b) →
    (∀ w', Rel Φ g h w' → Ext h.length g w g w' → LeavesIn F n P fn tmps RR [] u w') →
    LeavesInM F n P fn tmps RR (ms.map (fun b => ({ target := .collected b, args := #[] } : Deferred))) u w
  | [], w, R, _, _, hk => hk w R (Ext.refl _ _ _)
  | b :: ms, w, R, hnd, hb, hk => by
    obtain ⟨h1, h2, h3⟩ := hb b List.mem_cons_self
    have hlt : b < w.heap.size := (Array.getElem?_eq_some_iff.1 h1).1
    obtain ⟨R', E'⟩ := R.other (b := b) (w' := w.putObj b (.deferred none)) (fun k hk => World.putObj_heap_other hk) (by simp [World.putObj]) rfl rfl rfl h2 h1 h3
    refine ⟨hu, .inl ⟨b, _, rfl, run_takeDeferred h1, ?_⟩⟩
    refine marks_out hu ms _ R' (List.nodup_cons.1 hnd).2 (fun c hc => ?_) (fun w' R2 E2 => hk w' R2 (E'.trans E2 (Nat.le_refl _)))
    obtain ⟨k1, k2, k3⟩ := hb c (List.mem_cons_of_mem _ hc)
    have hcb : c ≠ b := fun e => (List.nodup_cons.1 hnd).1 (e ▸ hc)
    exact ⟨(World.putObj_heap_other hcb).trans k1, k2, k3⟩
theorem S_of_awp {f : FuncId} {fn : Func} {c : Code} {fz : List Nat} {t ac : ACode} {rs : List ARes} {args : List AV} {h0 : AHeap} {Q : AEnd → AHeap → Prop} (hf : P.funcs[f]? = some fn) (hn : (fn.name == "runtime.NumGoroutine") = false) (hb : fn.body = some c)
    (hc : comp P fn.ntmps fz c t = some ac) (hr : compRes P fn.results.toList = some rs) (hl : args.length ≤ fn.ntmps)
    (hw : HLow h0.length h0 → awp P Φ h0.length ac (bodyQ Φ rs h0.length Q) (argEnv args 0) h0) : S P Φ f args h0 Q := by
  refine ⟨⟨fn, hf, hn, by rw [hb]; rfl⟩, fun g w vs R V => ?_⟩
  have hsz : vs.length = args.length := V.1.symm
  have hA := hw R.low
  have hstart : StR Φ fn.ntmps h0.length (DInfo.open []) g w (argEnv args 0) h0 g { tmps := vs.toArray ++ Array.replicate (fn.ntmps - vs.toArray.size) undef, defers := [] } w :=
    ⟨R, argEnv_ok V (fun i v hv => by
      have hi : i < vs.length := (List.getElem?_eq_some_iff.1 hv).1
      rw [Nat.zero_add, Array.getElem?_append_left (by simpa using hi)]; simpa using hv), Ext.refl _ _ _, Nat.le_refl _, by simp; omega, ⟨[], rfl, by simp, by simp, trivial⟩⟩
  have hwp := awp_sound (ρ := none) hc (.inr ⟨rfl, fun _ _ _ => trivial⟩) _ _ _ _ _ _ _ _ hA hstart
  refine callsIn_wide.1 (callsIn_of_wp_marks (F := Fence.wide) (n := 0) hf hb trivial (wpIn_mono' hwp ?_) rfl)
  rintro q a w' ⟨r, e, h, g', hq, S, hx⟩
  obtain ⟨ms, hms, hmd, hnd, _⟩ := S.defs
  have hms : a.defers = ms.map (fun b => ({ target := .collected b, args := #[] } : Deferred)) := by simpa [DInfo.open] using hms
  have hold : ∀ x, g.dfr x → w'.heap[x]? = some (.deferred (some [])) := fun x hx => S.rel.dfrv x (S.ext.dfr x hx)
  obtain ⟨RD, ED⟩ := S.rel.redfr g.dfr hold
  have out : ∀ (u : FrameMode), u ≠ .run → (∀ w2, Rel Φ { g' with dfr := g.dfr } h w2 → Ext0 h.length g' w' { g' with dfr := g.dfr } w2 → Ext h0.length g w { g' with dfr := g.dfr } w2 →
      LeavesIn Fence.wide 0 P fn a.tmps (fun e w'' => ∃ g'' h' r, Q r h' ∧ Rel Φ g'' h' w'' ∧ EndR g'' h'.length w'' r e ∧ Ext h0.length g w g'' w'' ∧ h0.length ≤ h'.length) [] u w2) →
      LeavesInM Fence.wide 0 P fn a.tmps (fun e w'' => ∃ g'' h' r, Q r h' ∧ Rel Φ g'' h' w'' ∧ EndR g'' h'.length w'' r e ∧ Ext h0.length g w g'' w'' ∧ h0.length ≤ h'.length) a.defers u w' := by
    intro u hu hk
    rw [hms]
    refine marks_out hu ms w' RD hnd (fun b hb => ⟨S.rel.dfrv b (hmd b hb).1, ?_, fun hgb => ?_⟩) fun w2 R2 E2 => hk w2 R2 ?_ ?_
    · show g'.base ≤ b
      rw [S.ext.base]; exact Nat.le_trans R.base (hmd b hb).2
    · have := (Array.getElem?_eq_some_iff.1 (R.dfrv b hgb)).1
      have := (hmd b hb).2
      omega
    · exact ⟨fun r hr => (E2.loc r hr).trans (ED.loc r hr), fun r hr => (E2.esz r hr).trans (ED.esz r hr), fun r hr => (E2.cpn r hr).trans (ED.cpn r hr), fun b o hi => E2.imm b o (ED.imm b o hi), fun b o hi => (E2.cell b o (ED.imm b o hi)).trans (ED.cell b o hi), rfl, rfl, Nat.le_trans ED.size E2.size⟩
    · exact ⟨fun r hr => (E2.loc r (Nat.lt_of_lt_of_le hr S.len)).trans (S.ext.loc r hr), fun r hr => (E2.esz r (Nat.lt_of_lt_of_le hr S.len)).trans (S.ext.esz r hr), fun r hr => (E2.cpn r (Nat.lt_of_lt_of_le hr S.len)).trans (S.ext.cpn r hr),
        fun b o hi => S.ext.imm b o hi, fun b o hi => (E2.cell b o (S.ext.imm b o hi)).trans (S.ext.cell b o hi), S.ext.base, S.ext.w0, Nat.le_trans S.ext.size E2.size, fun _ h => h⟩
  have fin : ∀ w2 v u, Rel Φ { g' with dfr := g.dfr } h w2 → Ext h0.length g w { g' with dfr := g.dfr } w2 → (∃ v' h', FEnt Φ h0.length v h v' h' ∧ Q (.ret v') h') → VR { g' with dfr := g.dfr } h.length w2 v u →
      ∃ g'' h' r, Q r h' ∧ Rel Φ g'' h' w2 ∧ EndR g'' h'.length w2 r (.returned u) ∧ Ext h0.length g w g'' w2 ∧ h0.length ≤ h'.length := by
    rintro w2 v u R2 E2 ⟨v', h', hF, hQ⟩ hv
    obtain ⟨g2, R3, V3, E3⟩ := hF.2 _ w2 u R2 hv
    exact ⟨g2, h', .ret v', hQ, R3, V3, E2.trans E3 (Nat.le_refl _), hF.1 S.len⟩
  cases r <;> cases q <;> simp only [XR] at hx <;> try (cases hx; done)
  · simp only [bodyQ] at hq
    split at hq
    · rename_i v hv
      refine out .returning (by simp) fun w2 R2 E0 E2 => ?_
      have Env2 : EnvR { g' with dfr := g.dfr } h.length w2 e a := fun t => (S.env t).ext0 E0 (Nat.le_refl _)
      obtain ⟨u, hu, hvu⟩ := ares_sound R2 Env2 hr hv
      exact ⟨u, hu, fin w2 v u R2 E2 hq hvu⟩
    · exact hq.elim
  · exact hq.elim
  · simp only [bodyQ] at hq
    split at hq
    · rename_i v hv
      refine out .returning (by simp) fun w2 R2 E0 E2 => ?_
      have Env2 : EnvR { g' with dfr := g.dfr } h.length w2 e a := fun t => (S.env t).ext0 E0 (Nat.le_refl _)
      obtain ⟨u, hu, hvu⟩ := ares_sound R2 Env2 hr hv
      exact ⟨u, hu, fin w2 v u R2 E2 hq hvu⟩
    · exact hq.elim
  · obtain ⟨u, rfl, hv⟩ := hx
    obtain ⟨v', h', hF, hQ⟩ := hq
    refine out (.panicking [{ v := u, recovered := false }]) (by simp) fun w2 R2 E0 E2 => ?_
    obtain ⟨g2, R3, V3, E3⟩ := hF.2 _ w2 u R2 (hv.ext0 E0 (Nat.le_refl _))
    exact ⟨g2, h', .pan v', hQ, R3, ⟨u, rfl, V3⟩, E2.trans E3 (Nat.le_refl _), hF.1 S.len⟩
theorem Rel.setLoop (R : Rel Φ g h w) {r : Nat} {st : LoopState} {pend : Option Code} {X : LInfo} (hr : h[r]? = some (.loop st pend X)) :
    ∃ rec : Loop, w.heap[g.loc r]? = some (.loop rec) ∧ rec.state = st ∧ rec.pending = pend ∧ rec.tmps.size = X.N ∧ rec.params.toList = X.ps ∧ X.codes rec.assign rec.body ∧ (∀ t, VR g h.length w (X.e.get t) (rec.tmps.getD t undef)) ∧
      ∀ st' pend', Rel Φ g (h.set r (.loop st' pend' X)) (w.putObj (g.loc r) (.loop { rec with state := st', pending := pend' })) ∧ Ext h.length g w g (w.putObj (g.loc r) (.loop { rec with state := st', pending := pend' })) := by
  obtain ⟨hb, fn, d, tmps, ps, assign, body, hobj, h1, h2, h3, h4⟩ := R.blk _ _ hr
  have hlt : g.loc r < w.heap.size := (Array.getElem?_eq_some_iff.1 hobj).1
  refine ⟨_, hobj, rfl, rfl, h1, h2, h3, h4, fun st' pend' => ?_⟩
  refine R.update hr rfl (fun k hk => World.putObj_heap_other hk) (by simp) rfl rfl rfl fun hE => ?_
  exact ⟨hb, fn, d, tmps, ps, assign, body, World.putObj_heap_same hlt, h1, h2, h3, fun t => (h4 t).ext hE (Nat.le_refl _)⟩
def putArgs : List Nat → List AV → Env → Env
  | t :: ts, a :: asx, e => putArgs ts asx ((t, a) :: e)
  | _, _, e => e
theorem putArgs_env {n : Nat} : ∀ {ps : List Nat} {asx : List AV} {vs : List Value} {e : Env} {tmps : Array Value} {ds : List Deferred}, VRs g n w asx vs → (∀ t ∈ ps, t < tmps.size) → EnvR g n w e { tmps := tmps, defers := ds } →
    EnvR g n w (putArgs ps asx e) { tmps := (ps.zip vs).foldl (fun tmps (p : Nat × Value) => tmps.setIfInBounds p.1 p.2) tmps, defers := ds } ∧ ((ps.zip vs).foldl (fun tmps (p : Nat × Value) => tmps.setIfInBounds p.1 p.2) tmps).size = tmps.size
  | [], asx, vs, e, tmps, ds, _, _, E => by cases asx <;> exact ⟨E, rfl⟩
  | t :: ps, [], vs, e, tmps, ds, V, _, E => by rw [V.nil_inv]; exact ⟨E, rfl⟩
  | t :: ps, a :: asx, vs, e, tmps, ds, V, hp, E => by
    obtain ⟨v, us, rfl, hv, hvs⟩ := V.cons_inv
    have E' := E.put (d := t) (hp t List.mem_cons_self) hv
    have := putArgs_env (ps := ps) (asx := asx) (vs := us) (e := (t, a) :: e) (tmps := tmps.setIfInBounds t v) (ds := ds) hvs (fun s hs => by simpa using hp s (List.mem_cons_of_mem _ hs)) E'
    exact ⟨this.1, by simpa using this.2⟩
def roundQ (QY : AEnd → AHeap → Prop) (r : Nat) (X : LInfo) : AExit → Env → AHeap → Prop
  | .normal, _, h' => h'[r]? = some (.loop .busy none X) ∧ QY (.ret (.bool true)) (h'.set r (.loop .ready none X))
  | .ret, _, h' => h'[r]? = some (.loop .busy none X) ∧ QY (.ret (.bool false)) (h'.set r (.loop .done (some .ret) X))
  | .exit id, _, h' => h'[r]? = some (.loop .busy none X) ∧ QY (.ret (.bool false)) (h'.set r (.loop .done (some (.exit id)) X))
  | .pan _, _, _ => False
theorem YS_of_awp {r N : Nat} {ps fz : List Nat} {aa ab : ACode} {e : Env} {args : List AV} {QY : AEnd → AHeap → Prop} (hr : h[r]? = some (.loop .ready none (rangeX P ps N fz aa ab e))) (hl : ps.length = args.length)
    (hw : HLow h.length h → awp P Φ h.length aa (fun x e1 h1 => match x with
      | .normal => h1[r]? = some (.loop .ready none (rangeX P ps N fz aa ab e)) ∧ awp P Φ h.length ab (roundQ QY r (rangeX P ps N fz aa ab e)) e1 (h1.set r (.loop .busy none (rangeX P ps N fz aa ab e)))
      | _ => False) (putArgs ps args e) h) : YS P Φ r args h QY := by
  refine ⟨fun ρ g w vs R V => ?_⟩
  have hrl := R.lt hr
  obtain ⟨rec, hobj, hst, hpe, hN, hps, ⟨⟨ta, hca⟩, ⟨tb, hcb⟩, hfa, hfb, hlt⟩, henv, _⟩ := R.setLoop hr
  have hps : rec.params.toList = ps := hps
  have hN : rec.tmps.size = N := hN
  have hpsz : vs.toArray.size = rec.params.size := by
    have h1 : rec.params.size = ps.length := by rw [← hps, Array.length_toList]
    rw [h1, hl, V.1]; try simp
  have hy := run_yield (P := P) hobj hpsz
  refine ⟨rec.fn, _, rec.assign, rec.body, hy, ?_⟩
  refine roundIn_of_wpIn (F := Fw ρ) trivial ?_
  have hfold : (rec.params.zip vs.toArray).foldl (fun tmps (t, a) => tmps.setIfInBounds t a) rec.tmps = (ps.zip vs).foldl (fun tmps (p : Nat × Value) => tmps.setIfInBounds p.1 p.2) rec.tmps := by
    rw [← Array.foldl_toList, Array.toList_zip, hps]
  have hE := putArgs_env (g := g) (w := w) (n := h.length) (ps := ps) (asx := args) (vs := vs) (e := e) (tmps := rec.tmps) (ds := []) V (fun t ht => by rw [hN]; exact hlt t ht) henv
  rw [hfold]
  have hstart : StR Φ N h.length (DInfo.open []) g w (putArgs ps args e) h g { tmps := (ps.zip vs).foldl (fun tmps (p : Nat × Value) => tmps.setIfInBounds p.1 p.2) rec.tmps, defers := [] } w :=
    ⟨R, hE.1, Ext.refl _ _ _, Nat.le_refl _, hE.2.trans hN, ⟨[], rfl, by simp, by simp, trivial⟩⟩
  refine wpIn_mono' (awp_sound (ρ := some (g.loc r)) hca (.inl hfa) _ _ _ _ _ _ _ _ (hw R.low) hstart) ?_
  rintro x a1 w1 ⟨x1, e1, h1, g1, hq, S1, hx⟩
  cases x1 <;> cases x <;> simp only [XR] at hx <;> try (cases hx; done)
  · obtain ⟨hr1, hbody⟩ := hq
    obtain ⟨rec1, hobj1, hst1, hpe1, hN1, hps1, ⟨_, ⟨tb1, hcb1⟩, _, _, _⟩, _, hset1⟩ := S1.rel.setLoop hr1
    have hloc1 : g1.loc r = g.loc r := S1.ext.loc r hrl
    obtain ⟨R2, E2⟩ := hset1 .busy none
    rw [hloc1] at hobj1 R2 E2
    have hrec : ({ rec1 with state := .busy } : Loop) = { rec1 with state := .busy, pending := none } := by
      cases rec1; simp only at hpe1; subst hpe1; rfl
    rw [← hrec] at R2 E2
    refine ⟨_, run_beginRound hobj1 hst1, ?_⟩
    have hlen1 : (h1.set r (.loop .busy none (rangeX P ps N fz aa ab e))).length = h1.length := List.length_set
    have S2 : StR Φ N h.length (DInfo.open []) g w e1 (h1.set r (.loop .busy none (rangeX P ps N fz aa ab e))) g1 a1 (w1.putObj (g.loc r) (.loop { rec1 with state := .busy })) :=
      ⟨R2, by rw [hlen1]; exact S1.env.ext E2 (Nat.le_refl _), S1.ext.trans E2 S1.len, by rw [hlen1]; exact S1.len, S1.size, S1.defs.ext E2.dfr⟩
    refine wpIn_mono' (awp_sound (ρ := some (g.loc r)) hcb (.inl hfb) _ _ _ _ _ _ _ _ hbody S2) ?_
    rintro y a3 w3 ⟨x3, e3, h3, g3, hq3, S3, hx3⟩
    have hloc3 : g3.loc r = g.loc r := S3.ext.loc r hrl
    have fin : ∀ jump, h3[r]? = some (.loop .busy none (rangeX P ps N fz aa ab e)) → QY (.ret (.bool jump.isNone)) (h3.set r (.loop (if jump.isNone then .ready else .done) jump (rangeX P ps N fz aa ab e))) →
        ∃ v w', (Instr.endRound (g.loc r) jump).run P w3 = .ok v w' ∧ ∃ g' h' res, QY res h' ∧ Rel Φ g' h' w' ∧ EndR g' h'.length w' res (.returned v) ∧ Ext h.length g w g' w' ∧ h.length ≤ h'.length := by
      intro jump hr3 hQ
      obtain ⟨rec3, hobj3, hst3, hpe3, _, _, _, _, hset3⟩ := S3.rel.setLoop hr3
      obtain ⟨R4, E4⟩ := hset3 (if jump.isNone then .ready else .done) jump
      rw [hloc3] at hobj3 R4 E4
      exact ⟨_, _, run_endRound jump hobj3, g3, _, _, hQ, R4, .bool _, S3.ext.trans E4 S3.len, by rw [List.length_set]; exact S3.len⟩
    cases x3 <;> cases y <;> simp only [XR] at hx3 <;> try (cases hx3; done)
    · exact fin none hq3.1 hq3.2
    · subst hx3; exact fin (some (.exit _)) hq3.1 hq3.2
    · exact fin (some .ret) hq3.1 hq3.2
    · exact hq3.elim
  · exact hq.elim
  · exact hq.elim
  · exact hq.elim
end
end Go.Abs
end
section
namespace Go.Abs
open Go.RowKit
section
variable {P : Program} {Φ : World → Prop} {fz : List Nat} {N n0 : Nat}
def awpT (P : Program) (Φ : World → Prop) (n0 : Nat) : ACode → (Option AV → AExit → Env → AHeap → Prop) → Env → AHeap → Prop
  | .seq x y, Q, e, h => awp P Φ n0 x (fun r e' h' => match r with
    | .normal => awpT P Φ n0 y Q e' h'
    | r => Q none r e' h') e h
  | .dfr ops t keep z, Q, e, h => aops P Φ ops e h (fun e' h' => (∃ f asx bs, e'.get t = .fn f asx bs) ∧ awp P Φ h'.length z (Q (some (e'.get t))) (e'.keep keep) h') (fun e' v h' => Q none (.pan v) e' h')
  | ac, Q, e, h => awp P Φ n0 ac (Q none) e h
def DR (g : Gh) (n : Nat) (w : World) : Option AV → List Deferred → Prop
  | none, D => D = []
  | some v, D => ∃ f asx bs vs us, v = .fn f asx bs ∧ VRs g n w asx vs ∧ VRs g n w bs us ∧ D = [{ target := .fn (.func f) us.toArray, args := vs.toArray }]
theorem DR.ext {g g' : Gh} {n n' : Nat} {w w' : World} {d : Option AV} {D : List Deferred} (h : DR g n w d D) (k : Ext n g w g' w') (hn : n ≤ n') : DR g' n' w' d D := by
  cases d with
  | none => exact h
  | some v => obtain ⟨f, asx, bs, vs, us, h1, h2, h3, h4⟩ := h; exact ⟨f, asx, bs, vs, us, h1, h2.ext k hn, h3.ext k hn, h4⟩
def flatT : ACode → Bool
  | .seq x y => x.flat && flatT y
  | _ => true
theorem StR.weaken {ds : List Deferred} {g0 g : Gh} {w0 w : World} {e : Env} {h : AHeap} {a : Act} (S : StR Φ N n0 (DInfo.flat ds) g0 w0 e h g a w) : StR Φ N n0 (DInfo.open ds) g0 w0 e h g a w := by
  obtain ⟨ms, h1, h2, h3, _⟩ := S.defs
  exact ⟨S.rel, S.env, S.ext, S.len, S.size, ms, h1, h2, h3, trivial⟩
def PostT (Φ : World → Prop) (N n0 : Nat) (g0 : Gh) (w0 : World) (Q : Option AV → AExit → Env → AHeap → Prop) (x : Exit) (a : Act) (w : World) : Prop :=
  ∃ d D n1 g1 w1 r e h g, Q d r e h ∧ StR Φ N n1 (DInfo.open D) g1 w1 e h g a w ∧ n0 ≤ n1 ∧ Ext n0 g0 w0 g1 w1 ∧ DR g h.length w d D ∧ XR g h.length w r x
theorem PostT.of {g0 : Gh} {w0 : World} {Q : Option AV → AExit → Env → AHeap → Prop} {x : Exit} {a : Act} {w : World} (h : PostR Φ N n0 (DInfo.open []) g0 w0 (Q none) x a w) : PostT Φ N n0 g0 w0 Q x a w := by
  obtain ⟨r, e, h', g, hq, S, hx⟩ := h
  exact ⟨none, [], n0, g0, w0, r, e, h', g, hq, S, Nat.le_refl _, Ext.refl _ _ _, rfl, hx⟩
theorem awpT_plain {c : Code} {t ac : ACode} (hc : comp P N fz c t = some ac) {Q : Option AV → AExit → Env → AHeap → Prop} {e : Env} {h : AHeap} {g0 g : Gh} {w0 w : World} {a : Act}
    (hA : awp P Φ n0 ac (Q none) e h) (S : StR Φ N n0 (DInfo.flat []) g0 w0 e h g a w) : c.wpIn (Fw none) 0 P (PostT Φ N n0 g0 w0 Q) a w :=
  wpIn_mono' (awp_sound (ρ := none) hc (.inr ⟨rfl, fun _ _ _ => trivial⟩) _ _ _ _ _ _ _ _ hA S.weaken) fun _ _ _ q => PostT.of q
theorem splitDefer_spec {ops : List Oper} {l : List Oper} {t : Nat} (h : splitDefer ops = some (l, t)) : ∃ o c, ops = l ++ [o] ∧ o.op = .defer c ∧ o.guard = none ∧ o.dst = none ∧ c.callee = .value (.tmp t) ∧ c.args.toList = [] := by
  unfold splitDefer at h
  split at h
  · rename_i o ho
    split at h
    · rename_i c h1 h2 h3
      split at h
      · rename_i t' h4 h5
        cases h
        refine ⟨o, c, ?_, h1, h2, h3, h4, h5⟩
        have hne : ops ≠ [] := by intro hh; subst hh; simp at ho
        rw [List.getLast?_eq_some_getLast hne] at ho
        cases ho
        exact (List.dropLast_concat_getLast hne).symm
      · cases h
    · cases h
  · cases h
theorem awpT_sound : ∀ {c : Code} {t ac : ACode}, comp P N fz c t = some ac → flatT ac = true → ∀ (Q : Option AV → AExit → Env → AHeap → Prop) (e : Env) (h : AHeap) (g0 g : Gh) (w0 w : World) (a : Act),
    awpT P Φ n0 ac Q e h → StR Φ N n0 (DInfo.flat []) g0 w0 e h g a w → c.wpIn (Fw none) 0 P (PostT Φ N n0 g0 w0 Q) a w
  | c, t, ac, hc => by
    induction c generalizing t ac with
    | seq x y ihx ihy =>
      by_cases hd : ∃ l t' keep z, t = .dfr l t' keep z
      · obtain ⟨l, t', keep, z, rfl⟩ := hd
        obtain ⟨id, ops, l1, t1, al, az, rfl, hsp, hal, hz, htN, rfl⟩ := comp_dfr hc
        intro _ Q e h g0 g w0 w a hA S
        obtain ⟨o, cc, hops, ho, hgd, hds, hcal, hargs⟩ := splitDefer_spec hsp
        have hsz : ops.size = l1.length + 1 := by rw [← Array.length_toList, hops]; simp
        have hlast : ops[l1.length]? = some o := by rw [← Array.getElem?_toList, hops]; simp
        refine wpIn_seq (wpIn_region ?_)
        have hrange : List.range ops.size = List.range' 0 l1.length ++ [l1.length] := by rw [hsz, List.range_succ, List.range_eq_range']
        rw [hrange]
        simp only [awpT] at hA
        refine aops_sound (P := P) (Φ := Φ) (ρ := none) (N := N) (n0 := n0) (fz := fz) (D := DInfo.flat []) (g0 := g0) (w0 := w0) (ops := ops) _ _ (tl := [l1.length]) ?_ ?_ l1 al 0 ?_ hal e h g a w hA S
        · intro e1 h1 g1 a1 w1 hN1 S1
          obtain ⟨⟨f, asx, bs, hfn⟩, hz1⟩ := hN1
          have hv := S1.env t1
          rw [hfn] at hv
          obtain ⟨vs, us, hval, hvs, hus⟩ : ∃ vs us, a1.tmps.getD t1 undef = .func (.func f) vs.toArray us.toArray ∧ VRs g1 h1.length w1 asx vs ∧ VRs g1 h1.length w1 bs us := by
            generalize a1.tmps.getD t1 undef = q at hv
            cases hv with
            | fn _ _ _ vs us k1 k2 k3 k4 => exact ⟨vs, us, rfl, ⟨k1, k3⟩, ⟨k2, k4⟩⟩
          have hargs' : cc.args = #[] := by rw [← Array.toList_inj]; simpa using hargs
          have hrun : (execOp a1.eval o).run P w1 = .ok (.defer { target := .fn (.func f) us.toArray, args := vs.toArray }) w1 := by
            have hev : a1.eval (.tmp t1) = .func (.func f) vs.toArray us.toArray := hval
            simp only [execOp, ho, resolve, hcal, hev, hargs', Deferred.ofValue, Sem.run_bind, Sem.run_pure, Result.andThen_ok]
            simp
          simp only [wpOpsIn, hlast]
          rw [if_pos (wanted_none hgd)]
          refine ⟨fun _ _ => trivial, ?_⟩
          show o.uponIn (Fw none) 0 P a1 _ _ ((o.semAt none a1.eval).run P w1)
          rw [Oper.semAt_none, hrun]
          obtain ⟨ms, hms, _, _, hK⟩ := S1.defs
          have hK : ms = [] := hK
          subst hK
          have hdef : a1.defers = [] := by simpa [DInfo.flat] using hms
          simp only [Oper.uponIn, hds, Act.put, wpOpsIn, Exit.then, hdef]
          have S2 : StR Φ N h1.length (DInfo.open [{ target := .fn (.func f) us.toArray, args := vs.toArray }]) g1 w1 (e1.keep keep) h1 g1 { a1 with defers := [{ target := .fn (.func f) us.toArray, args := vs.toArray }] } w1 :=
            ⟨S1.rel, S1.env.keep keep, Ext.refl _ _ _, Nat.le_refl _, S1.size, [], rfl, by simp, by simp, trivial⟩
          refine wpIn_mono' (awp_sound (ρ := none) hz (.inr ⟨rfl, fun _ _ _ => trivial⟩) _ _ _ _ _ _ _ _ hz1 S2) ?_
          rintro q a3 w3 ⟨r, e3, h3, g3, hq, S3, hx⟩
          exact ⟨some (e1.get t1), _, h1.length, g1, w1, r, e3, h3, g3, hq, S3, S1.len, S1.ext, (show DR g1 h1.length w1 (some (e1.get t1)) _ from ⟨f, asx, bs, vs, us, hfn, hvs, hus, rfl⟩).ext S3.ext S3.len, hx⟩
        · intro e1 v h1 g1 a1 w1 u hX S1 hv
          exact ⟨none, [], n0, g0, w0, .pan v, e1, h1, g1, hX, S1.weaken, Nat.le_refl _, Ext.refl _ _ _, rfl, u, rfl, hv⟩
        · intro j hj
          rw [Nat.zero_add, ← Array.getElem?_toList, hops, List.getElem?_append_left hj]
      cases t <;> (first | exact absurd ⟨_, _, _, _, rfl⟩ hd | simp only [comp] at hc) <;> try (cases hc; done)
      split at hc
      · rename_i h1 h2
        cases hc
        intro hfl Q e h g0 g w0 w a hA S
        simp only [flatT, Bool.and_eq_true] at hfl
        simp only [awpT] at hA
        refine wpIn_seq (wpIn_mono' (awp_sound (ρ := none) h1 (.inl hfl.1) _ _ _ _ _ _ _ _ hA S) ?_)
        rintro q a' w' ⟨r, e', h', g', hq, S', hx⟩
        cases r <;> cases q <;> simp only [XR] at hx <;> try (cases hx; done)
        · exact ihy _ _ h2 hfl.2 _ _ _ _ _ _ _ _ hq S'
        · exact PostT.of ⟨_, e', h', g', hq, S'.weaken, hx⟩
        · exact PostT.of ⟨_, e', h', g', hq, S'.weaken, trivial⟩
        · exact PostT.of ⟨_, e', h', g', hq, S'.weaken, hx⟩
      · cases hc
    | scope x ih =>
      have hc' : comp P N fz x t = some ac := by cases t <;> simpa only [comp] using hc
      intro hfl Q e h g0 g w0 w a hA S
      refine wpIn_scope (wpIn_mono' (ih _ _ hc' hfl _ _ _ _ _ _ _ _ hA S) ?_)
      rintro q a' w' ⟨d, D, n1, g1, w1, r, e', h', g', hq, S', h1, h2, h3, hx⟩
      cases r <;> cases q <;> simp only [XR] at hx <;> try (cases hx; done)
      · exact ⟨_, _, _, _, _, _, _, _, _, hq, S', h1, h2, h3, trivial⟩
      · exact ⟨_, _, _, _, _, _, _, _, _, hq, S', h1, h2, h3, hx⟩
      · exact ⟨_, _, _, _, _, _, _, _, _, hq, S', h1, h2, h3, trivial⟩
      · exact ⟨_, _, _, _, _, _, _, _, _, hq, S', h1, h2, h3, hx⟩
    | region id ops d =>
      intro _ Q e h g0 g w0 w a hA S
      refine awpT_plain hc ?_ S
      cases d <;> cases t <;> simp only [comp] at hc <;> try (cases hc; done)
      · obtain ⟨al, _, rfl⟩ := Option.map_eq_some_iff.1 hc; exact hA
      · split at hc
        · split at hc
          · cases hc; exact hA
          · cases hc
        · cases hc
    | cond c x y _ _ =>
      intro _ Q e h g0 g w0 w a hA S
      refine awpT_plain hc ?_ S
      cases t <;> simp only [comp] at hc <;> try (cases hc; done)
      split at hc
      · cases hc; exact hA
      · cases hc
    | block id x _ =>
      intro _ Q e h g0 g w0 w a hA S
      refine awpT_plain hc ?_ S
      cases t <;> simp only [comp] at hc <;> try (cases hc; done)
      obtain ⟨al, _, rfl⟩ := Option.map_eq_some_iff.1 hc; exact hA
    | loop x _ =>
      intro _ Q e h g0 g w0 w a hA S
      refine awpT_plain hc ?_ S
      cases t <;> simp only [comp] at hc <;> try (cases hc; done)
      obtain ⟨al, _, rfl⟩ := Option.map_eq_some_iff.1 hc; exact hA
    | rangeFunc f ps x y _ _ =>
      intro _ Q e h g0 g w0 w a hA S
      refine awpT_plain hc ?_ S
      cases t <;> simp only [comp] at hc <;> try (cases hc; done)
      split at hc
      · split at hc
        · cases hc; exact hA
        · cases hc
      · cases hc
    | skip =>
      intro _ Q e h g0 g w0 w a hA S
      refine awpT_plain hc ?_ S
      cases t <;> simp only [comp] at hc <;> try (cases hc; done)
      cases hc; exact hA
    | exit id =>
      intro _ Q e h g0 g w0 w a hA S
      refine awpT_plain hc ?_ S
      cases t <;> simp only [comp] at hc <;> try (cases hc; done)
      cases hc; exact hA
    | label id =>
      intro _ Q e h g0 g w0 w a hA S
      refine awpT_plain hc ?_ S
      cases t <;> simp only [comp] at hc <;> try (cases hc; done)
      cases hc; exact hA
    | ret =>
      intro _ Q e h g0 g w0 w a hA S
      refine awpT_plain hc ?_ S
      cases t <;> simp only [comp] at hc <;> try (cases hc; done)
      cases hc; exact hA
    | goto l => cases t <;> simp [comp] at hc
    | refuse s => cases t <;> simp [comp] at hc
end
end Go.Abs
end
section
namespace Go.Abs
open Go.RowKit
section
variable {P : Program} {Φ : World → Prop} {fz : List Nat} {N n0 : Nat} {g : Gh} {h : AHeap} {w : World}
def ModeR (g : Gh) (n : Nat) (w : World) : Option AV → FrameMode → Prop
  | none, u => u = .returning
  | some v, u => ∃ x, u = .panicking [{ v := x, recovered := false }] ∧ VR g n w v x
def modeOut (rec : Bool) : FrameMode → FrameMode
  | .panicking ({ v, recovered := false, goexit := false } :: older) => bif rec then .panicking ({ v, recovered := true } :: older) else .panicking ({ v, recovered := false, goexit := false } :: older)
  | m => m
def recV : Option AV → AV
  | none => .nili
  | some v => v
structure SD (P : Program) (Φ : World → Prop) (f : FuncId) (args : List AV) (h : AHeap) (pan : Option AV) (Q : Bool → AEnd → AHeap → Prop) : Prop where
  ent : Enters P f
  run : ∀ g w vs u, Rel Φ g h w → VRs g h.length w args vs → ModeR g h.length w pan u → CallsDIn Fence.wide 0 P f vs.toArray u w fun e u' w' =>
    ∃ g' h' rec r, Q rec r h' ∧ Rel Φ g' h' w' ∧ EndR g' h'.length w' r e ∧ Ext h.length g w g' w' ∧ h.length ≤ h'.length ∧ u' = modeOut rec u
theorem SD.mono {f : FuncId} {args : List AV} {h : AHeap} {pan : Option AV} {Q Q' : Bool → AEnd → AHeap → Prop} (hs : SD P Φ f args h pan Q) (hq : ∀ b e h', Q b e h' → Q' b e h') : SD P Φ f args h pan Q' :=
  ⟨hs.ent, fun g w vs u R V M => (hs.run g w vs u R V M).mono fun _ _ _ ⟨g', h', b, r, q, rest⟩ => ⟨g', h', b, r, hq _ _ _ q, rest⟩⟩
theorem SD_of_recover {f : FuncId} {fn : Func} {id : Nat} {ops : Array Oper} {c : Code} {t : Nat} {o : Oper} {ats : Array TypeId} {tm ac : ACode} {rs : List ARes} {args : List AV} {h0 : AHeap} {pan : Option AV} {Q : Bool → AEnd → AHeap → Prop}
    (hf : P.funcs[f]? = some fn) (hn : (fn.name == "runtime.NumGoroutine") = false) (hb : fn.body = some (.seq (.region id ops false) c)) (hops : ops = #[o]) (ho : o.op = .call { callee := .builtin .recover, args := #[], argTypes := ats }) (hgd : o.guard = none) (hd : o.dst = some t) (ht : t < fn.ntmps)
    (hc : comp P fn.ntmps fz c tm = some ac) (hfl : ac.flat = true) (hr : compRes P fn.results.toList = some rs) (hl : args.length ≤ fn.ntmps)
    (hw : HLow h0.length h0 → awp P Φ h0.length ac (bodyQ Φ rs h0.length (Q pan.isSome)) ((t, recV pan) :: argEnv args 0) h0) : SD P Φ f args h0 pan Q := by
  refine ⟨⟨fn, hf, hn, by rw [hb]; rfl⟩, fun g w vs u R V M => ?_⟩
  have hsz : vs.length = args.length := V.1.symm
  refine callsDIn_of_wpSIn hf hb trivial fun c₀ cs hc0 => ?_
  have hE0 : EnvR g h0.length w (argEnv args 0) { tmps := vs.toArray ++ Array.replicate (fn.ntmps - vs.toArray.size) undef, defers := [] } := argEnv_ok V (fun i v hv => by
      have hi : i < vs.length := (List.getElem?_eq_some_iff.1 hv).1
      rw [Nat.zero_add, Array.getElem?_append_left (by simpa using hi)]; simpa using hv)
  have hsize : (vs.toArray ++ Array.replicate (fn.ntmps - vs.toArray.size) undef).size = fn.ntmps := by simp; omega
  obtain ⟨x, cs', hx, hrec, hcs⟩ : ∃ x cs', VR g h0.length w (recV pan) x ∧ (match recoverD (c₀ :: cs) with | some (v, cs2) => v = x ∧ cs2 = cs' | none => x = .nilIface ∧ cs' = c₀ :: cs) ∧ cs' = { c₀ with mode := modeOut pan.isSome u } :: cs := by
    cases pan with
    | none =>
      have hu : u = .returning := M
      subst hu
      refine ⟨.nilIface, c₀ :: cs, .nili, ?_, ?_⟩
      · simp [recoverD, hc0]
      · show c₀ :: cs = { c₀ with mode := .returning } :: cs
        rw [← hc0]
    | some v =>
      obtain ⟨x, hu, hv⟩ := M
      subst hu
      refine ⟨x, { c₀ with mode := .panicking [{ v := x, recovered := true }] } :: cs, hv, ?_, rfl⟩
      simp [recoverD, hc0]
  refine wpSIn_seq (wpSIn_region ?_)
  subst hops
  have hrun : ∀ ρ, (execOp ρ o).run P w = .ok .recover w := fun ρ => by
    simp [execOp, ho, go_sem]
  have hnext : wpOpsSIn Fence.wide 0 P #[o] (Exit.thenS (c.wpSIn Fence.wide 0 P (bodyPostS P fn c₀ cs fun e u' w' => ∃ g' h' rec r, Q rec r h' ∧ Rel Φ g' h' w' ∧ EndR g' h'.length w' r e ∧ Ext h0.length g w g' w' ∧ h0.length ≤ h'.length ∧ u' = modeOut rec u))
      (bodyPostS P fn c₀ cs fun e u' w' => ∃ g' h' rec r, Q rec r h' ∧ Rel Φ g' h' w' ∧ EndR g' h'.length w' r e ∧ Ext h0.length g w g' w' ∧ h0.length ≤ h'.length ∧ u' = modeOut rec u)) []
      (({ tmps := vs.toArray ++ Array.replicate (fn.ntmps - vs.toArray.size) undef, defers := [] } : Act).put o.dst x) cs' w := by
    simp only [wpOpsSIn, Exit.thenS]
    refine wpSIn_of_wpIn rfl ?_
    have hstart : StR Φ fn.ntmps h0.length (DInfo.flat []) g w ((t, recV pan) :: argEnv args 0) h0 g (({ tmps := vs.toArray ++ Array.replicate (fn.ntmps - vs.toArray.size) undef, defers := [] } : Act).put o.dst x) w := by
      rw [hd]
      exact ⟨R, hE0.put (by rw [hsize]; exact ht) hx, Ext.refl _ _ _, Nat.le_refl _, by rw [put_size]; exact hsize, [], rfl, by simp, by simp, rfl⟩
    refine wpIn_mono' (awp_sound (ρ := none) hc (.inl hfl) _ _ _ _ _ _ _ _ (hw R.low) hstart) ?_
    rintro q a w' ⟨r, e, h, g', hq, S, hxr⟩
    obtain ⟨ms, hms, _, _, hK⟩ := S.defs
    have hK : ms = [] := hK
    subst hK
    have hdef : a.defers = [] := by simpa [DInfo.flat] using hms
    have fin : ∀ v y, (∃ v' h', FEnt Φ h0.length v h v' h' ∧ Q pan.isSome (.ret v') h') → VR g' h.length w' v y → ∃ g'' h' rec r, Q rec r h' ∧ Rel Φ g'' h' w' ∧ EndR g'' h'.length w' r (.returned y) ∧ Ext h0.length g w g'' w' ∧ h0.length ≤ h'.length ∧ modeOut pan.isSome u = modeOut rec u := by
      rintro v y ⟨v', h', hF, hQ⟩ hv
      obtain ⟨g2, R2, V2, E2⟩ := hF.2 g' w' y S.rel hv
      exact ⟨g2, h', _, .ret v', hQ, R2, V2, S.ext.trans E2 (Nat.le_refl _), hF.1 S.len, rfl⟩
    cases r <;> cases q <;> simp only [XR] at hxr <;> try (cases hxr; done)
    · simp only [bodyQ] at hq
      split at hq
      · rename_i v hv
        obtain ⟨y, hy, hvy⟩ := ares_sound S.rel S.env hr hv
        exact ⟨hdef, _, hcs, y, hy, fin v y hq hvy⟩
      · exact hq.elim
    · exact hq.elim
    · simp only [bodyQ] at hq
      split at hq
      · rename_i v hv
        obtain ⟨y, hy, hvy⟩ := ares_sound S.rel S.env hr hv
        exact ⟨hdef, _, hcs, y, hy, fin v y hq hvy⟩
      · exact hq.elim
    · obtain ⟨y, rfl, hv⟩ := hxr
      obtain ⟨v', h', hF, hQ⟩ := hq
      obtain ⟨g2, R2, V2, E2⟩ := hF.2 g' w' y S.rel hv
      exact ⟨hdef, _, hcs, g2, h', _, .pan v', hQ, R2, ⟨y, rfl, V2⟩, S.ext.trans E2 (Nat.le_refl _), hF.1 S.len, rfl⟩
  show wpOpsSIn Fence.wide 0 P #[o] _ [0] _ _ w
  simp only [wpOpsSIn, List.getElem?_toArray]
  refine ⟨fun _ _ => trivial, ?_⟩
  rw [if_pos (wanted_none hgd), hrun]
  simp only
  split at hrec
  · rename_i v cs2 he
    obtain ⟨rfl, rfl⟩ := hrec
    rw [he]
    exact hnext
  · rename_i he
    obtain ⟨rfl, rfl⟩ := hrec
    rw [he]
    exact hnext
theorem marks_outT {fn : Func} {tmps : Array Value} {RR : Ending → World → Prop} {u : FrameMode} (hu : u ≠ .run) {F : Fence} {n : Nat} {tail : List Deferred} : ∀ (ms : List Nat) (w : World), Rel Φ g h w → ms.Nodup →
    (∀ b ∈ ms, w.heap[b]? = some (.deferred (some [])) ∧ g.base ≤ b ∧ ¬ g.dfr b) →
    (∀ w', Rel Φ g h w' → Ext h.length g w g w' → LeavesInM F n P fn tmps RR tail u w') →
    LeavesInM F n P fn tmps RR (ms.map (fun b => ({ target := .collected b, args := #[] } : Deferred)) ++ tail) u w
  | [], w, R, _, _, hk => hk w R (Ext.refl _ _ _)
  | b :: ms, w, R, hnd, hb, hk => by
    obtain ⟨h1, h2, h3⟩ := hb b List.mem_cons_self
    obtain ⟨R', E'⟩ := R.other (b := b) (w' := w.putObj b (.deferred none)) (fun k hk => World.putObj_heap_other hk) (by simp [World.putObj]) rfl rfl rfl h2 h1 h3
    refine ⟨hu, .inl ⟨b, _, rfl, run_takeDeferred h1, ?_⟩⟩
    refine marks_outT hu ms _ R' (List.nodup_cons.1 hnd).2 (fun c hc => ?_) (fun w' R2 E2 => hk w' R2 (E'.trans E2 (Nat.le_refl _)))
    obtain ⟨k1, k2, k3⟩ := hb c (List.mem_cons_of_mem _ hc)
    have hcb : c ≠ b := fun e => (List.nodup_cons.1 hnd).1 (e ▸ hc)
    exact ⟨(World.putObj_heap_other hcb).trans k1, k2, k3⟩
def OutR (g : Gh) (n : Nat) (w : World) : AExit → FrameMode → Prop
  | .normal, u | .ret, u => u = .returning
  | .pan v, u => ∃ x, u = .panicking [{ v := x, recovered := false }] ∧ VR g n w v x
  | .exit _, _ => False
theorem leaves_done {fn : Func} {rs : List ARes} (hr : compRes P fn.results.toList = some rs) {n0 : Nat} {g0 : Gh} {w0 : World} {e : Env} {a : Act} {r : AExit} {Q : AEnd → AHeap → Prop} {u : FrameMode}
    (R : Rel Φ g h w) (E : EnvR g h.length w e a) (X : Ext n0 g0 w0 g w) (hl : n0 ≤ h.length) (hq : bodyQ Φ rs n0 Q r e h)
    (hu : OutR g h.length w r u) :
    LeavesIn Fence.wide 0 P fn a.tmps (fun e w'' => ∃ g'' h' r, Q r h' ∧ Rel Φ g'' h' w'' ∧ EndR g'' h'.length w'' r e ∧ Ext n0 g0 w0 g'' w'' ∧ n0 ≤ h'.length) [] u w := by
  have fin : ∀ v y, (∃ v' h', FEnt Φ n0 v h v' h' ∧ Q (.ret v') h') → VR g h.length w v y → ∃ g'' h' r, Q r h' ∧ Rel Φ g'' h' w ∧ EndR g'' h'.length w r (.returned y) ∧ Ext n0 g0 w0 g'' w ∧ n0 ≤ h'.length := by
    rintro v y ⟨v', h', hF, hQ⟩ hv
    obtain ⟨g2, R2, V2, E2⟩ := hF.2 g w y R hv
    exact ⟨g2, h', .ret v', hQ, R2, V2, X.trans E2 (Nat.le_refl _), hF.1 hl⟩
  cases r with
  | normal =>
    have hu : u = .returning := hu
    subst hu
    simp only [bodyQ] at hq
    split at hq
    · rename_i v hv
      obtain ⟨y, hy, hvy⟩ := ares_sound R E hr hv
      exact ⟨y, hy, fin v y hq hvy⟩
    · exact hq.elim
  | ret =>
    have hu : u = .returning := hu
    subst hu
    simp only [bodyQ] at hq
    split at hq
    · rename_i v hv
      obtain ⟨y, hy, hvy⟩ := ares_sound R E hr hv
      exact ⟨y, hy, fin v y hq hvy⟩
    · exact hq.elim
  | exit id => exact hu.elim
  | pan v =>
    obtain ⟨x, rfl, hv⟩ := hu
    obtain ⟨v', h', hF, hQ⟩ := hq
    obtain ⟨g2, R2, V2, E2⟩ := hF.2 g w x R hv
    exact ⟨g2, h', .pan v', hQ, R2, ⟨x, rfl, V2⟩, X.trans E2 (Nat.le_refl _), hF.1 hl⟩
def bodyT (P : Program) (Φ : World → Prop) (rs : List ARes) (n0 : Nat) (Q : AEnd → AHeap → Prop) : Option AV → AExit → Env → AHeap → Prop
  | none, r, e, h => bodyQ Φ rs n0 Q r e h
  | some (.fn f asx bs), .normal, e, h | some (.fn f asx bs), .ret, e, h => SD P Φ f (asx ++ bs) h none fun _ r h' => match r with
    | .ret _ => bodyQ Φ rs n0 Q .ret e h'
    | .pan v => bodyQ Φ rs n0 Q (.pan v) e h'
  | some (.fn f asx bs), .pan v, e, h => SD P Φ f (asx ++ bs) h (some v) fun rec r h' => match r with
    | .ret _ => bif rec then bodyQ Φ rs n0 Q .ret e h' else bodyQ Φ rs n0 Q (.pan v) e h'
    | .pan _ => False
  | _, _, _, _ => False
theorem S_of_awpT {f : FuncId} {fn : Func} {c : Code} {fz : List Nat} {t ac : ACode} {rs : List ARes} {args : List AV} {h0 : AHeap} {Q : AEnd → AHeap → Prop} (hf : P.funcs[f]? = some fn) (hn : (fn.name == "runtime.NumGoroutine") = false) (hb : fn.body = some c)
    (hc : comp P fn.ntmps fz c t = some ac) (hT : flatT ac = true) (hr : compRes P fn.results.toList = some rs) (hl : args.length ≤ fn.ntmps)
    (hw : HLow h0.length h0 → awpT P Φ h0.length ac (bodyT P Φ rs h0.length Q) (argEnv args 0) h0) : S P Φ f args h0 Q := by
  refine ⟨⟨fn, hf, hn, by rw [hb]; rfl⟩, fun g w vs R V => ?_⟩
  have hsz : vs.length = args.length := V.1.symm
  have hA := hw R.low
  have hstart : StR Φ fn.ntmps h0.length (DInfo.flat []) g w (argEnv args 0) h0 g { tmps := vs.toArray ++ Array.replicate (fn.ntmps - vs.toArray.size) undef, defers := [] } w :=
    ⟨R, argEnv_ok V (fun i v hv => by
      have hi : i < vs.length := (List.getElem?_eq_some_iff.1 hv).1
      rw [Nat.zero_add, Array.getElem?_append_left (by simpa using hi)]; simpa using hv), Ext.refl _ _ _, Nat.le_refl _, by simp; omega, [], rfl, by simp, by simp, rfl⟩
  have hwp := awpT_sound hc hT _ _ _ _ _ _ _ _ hA hstart
  refine callsIn_wide.1 (callsIn_of_wp_marks (F := Fence.wide) (n := 0) hf hb trivial (wpIn_mono' hwp ?_) rfl)
  rintro q a w' ⟨d, D, n1, g1, w1, r, e, h, g', hq, S, hn1, X1, hD, hx⟩
  have X0 : Ext h0.length g w g' w' := X1.trans S.ext hn1
  have hl0 : h0.length ≤ h.length := Nat.le_trans hn1 S.len
  obtain ⟨ms, hms, hmd, hnd, _⟩ := S.defs
  have hms : a.defers = ms.map (fun b => ({ target := .collected b, args := #[] } : Deferred)) ++ D := hms
  have hold : ∀ x, g.dfr x → w'.heap[x]? = some (.deferred (some [])) := fun x hx => S.rel.dfrv x (X0.dfr x hx)
  obtain ⟨RD, ED⟩ := S.rel.redfr g.dfr hold
  have XD : Ext h0.length g w { g' with dfr := g.dfr } w' :=
    ⟨fun r hr => X0.loc r hr, fun r hr => X0.esz r hr, fun r hr => X0.cpn r hr, fun b o hi => X0.imm b o hi, fun b o hi => X0.cell b o hi, X0.base, X0.w0, X0.size, fun _ h => h⟩
  have out : ∀ (u : FrameMode), u ≠ .run → (∀ w2, Rel Φ { g' with dfr := g.dfr } h w2 → Ext h.length { g' with dfr := g.dfr } w' { g' with dfr := g.dfr } w2 →
      LeavesInM Fence.wide 0 P fn a.tmps (fun e w'' => ∃ g'' h' r, Q r h' ∧ Rel Φ g'' h' w'' ∧ EndR g'' h'.length w'' r e ∧ Ext h0.length g w g'' w'' ∧ h0.length ≤ h'.length) D u w2) →
      LeavesInM Fence.wide 0 P fn a.tmps (fun e w'' => ∃ g'' h' r, Q r h' ∧ Rel Φ g'' h' w'' ∧ EndR g'' h'.length w'' r e ∧ Ext h0.length g w g'' w'' ∧ h0.length ≤ h'.length) a.defers u w' := by
    intro u hu hk
    rw [hms]
    refine marks_outT hu ms w' RD hnd (fun b hb => ⟨S.rel.dfrv b (hmd b hb).1, ?_, fun hgb => ?_⟩) hk
    · show g'.base ≤ b
      rw [X0.base]
      have := R.base; have := X1.size; have := (hmd b hb).2
      omega
    · have := (Array.getElem?_eq_some_iff.1 (R.dfrv b hgb)).1
      have := (hmd b hb).2; have := X1.size
      omega
  have EvD : EnvR { g' with dfr := g.dfr } h.length w' e a := fun t => (S.env t).ext0 ED (Nat.le_refl _)
  have go : ∀ (u : FrameMode), u ≠ .run → OutR g' h.length w' r u →
      LeavesInM Fence.wide 0 P fn a.tmps (fun e w'' => ∃ g'' h' r, Q r h' ∧ Rel Φ g'' h' w'' ∧ EndR g'' h'.length w'' r e ∧ Ext h0.length g w g'' w'' ∧ h0.length ≤ h'.length) a.defers u w' := by
    intro u hu hm
    refine out u hu fun w2 R2 E2 => ?_
    have Ev2 := EvD.ext E2 (Nat.le_refl _)
    have X2 := XD.trans E2 hl0
    have vr2 : ∀ v x, VR g' h.length w' v x → VR { g' with dfr := g.dfr } h.length w2 v x := fun v x hv => (hv.ext0 ED (Nat.le_refl _)).ext E2 (Nat.le_refl _)
    cases d with
    | none =>
      have hD : D = [] := hD
      subst hD
      refine leaves_done hr R2 Ev2 X2 hl0 hq ?_
      cases r with
      | pan v => obtain ⟨x, h1, h2⟩ := hm; exact ⟨x, h1, vr2 v x h2⟩
      | _ => exact hm
    | some dv =>
      obtain ⟨fd, asx, bs, us, cs, rfl, hus, hcs, rfl⟩ := hD
      have run : ∀ (pan : Option AV) (QD : Bool → AEnd → AHeap → Prop), SD P Φ fd (asx ++ bs) h pan QD → ModeR { g' with dfr := g.dfr } h.length w2 pan u →
          (∀ g4 h4 w4 rec r4 en, QD rec r4 h4 → Rel Φ g4 h4 w4 → EndR g4 h4.length w4 r4 en → Ext h.length { g' with dfr := g.dfr } w2 g4 w4 → h.length ≤ h4.length →
            (match en with
              | .returned _ => LeavesIn Fence.wide 0 P fn a.tmps (fun e w'' => ∃ g'' h' r, Q r h' ∧ Rel Φ g'' h' w'' ∧ EndR g'' h'.length w'' r e ∧ Ext h0.length g w g'' w'' ∧ h0.length ≤ h'.length) [] (settle (modeOut rec u)) w4
              | .panicked chain => LeavesIn Fence.wide 0 P fn a.tmps (fun e w'' => ∃ g'' h' r, Q r h' ∧ Rel Φ g'' h' w'' ∧ EndR g'' h'.length w'' r e ∧ Ext h0.length g w g'' w'' ∧ h0.length ≤ h'.length) [] (raised (modeOut rec u) chain) w4
              | .outgrown => True)) →
          LeavesInM Fence.wide 0 P fn a.tmps (fun e w'' => ∃ g'' h' r, Q r h' ∧ Rel Φ g'' h' w'' ∧ EndR g'' h'.length w'' r e ∧ Ext h0.length g w g'' w'' ∧ h0.length ≤ h'.length) [{ target := .fn (.func fd) cs.toArray, args := us.toArray }] u w2 := by
        intro pan QD hS hM hk
        obtain ⟨⟨fn', hf', hn', hb'⟩, hrun⟩ := hS
        have VA : VRs { g' with dfr := g.dfr } h.length w2 (asx ++ bs) (us ++ cs) := VRs.append ⟨hus.1, fun i a v ha hv => vr2 a v (hus.2 i a v ha hv)⟩ ⟨hcs.1, fun i a v ha hv => vr2 a v (hcs.2 i a v ha hv)⟩
        refine ⟨hu, .inr ⟨(fun h => by cases h), .func fd, cs.toArray, fd, (us ++ cs).toArray, rfl, ?_, fun _ _ => trivial, ?_⟩⟩
        · simp only [invoke, callFunc, Sem.run_bind, Sem.run_pure, Result.andThen_ok, run_program, hf', hn', hb', Bool.false_eq_true, if_false]
          simp
        · refine (hrun _ w2 _ u R2 VA hM).mono ?_
          rintro en u' w4 ⟨g4, h4, rec, r4, hQ4, R4, hE4, X4, hl4, rfl⟩
          have := hk g4 h4 w4 rec r4 en hQ4 R4 hE4 X4 hl4
          cases en with
          | returned _ => exact this
          | panicked _ => exact this
          | outgrown => cases r4 <;> exact hE4.elim
      have fin4 : ∀ {g4 : Gh} {h4 : AHeap} {w4 : World} {r' : AExit} {u4 : FrameMode}, Rel Φ g4 h4 w4 → Ext h.length { g' with dfr := g.dfr } w2 g4 w4 → h.length ≤ h4.length → bodyQ Φ rs h0.length Q r' e h4 →
          OutR g4 h4.length w4 r' u4 →
          LeavesIn Fence.wide 0 P fn a.tmps (fun e w'' => ∃ g'' h' r, Q r h' ∧ Rel Φ g'' h' w'' ∧ EndR g'' h'.length w'' r e ∧ Ext h0.length g w g'' w'' ∧ h0.length ≤ h'.length) [] u4 w4 :=
        fun R4 X4 hl4 hb hm => leaves_done hr R4 (Ev2.ext X4 hl4) (X2.trans X4 hl0) (Nat.le_trans hl0 hl4) hb hm
      have normal : u = .returning → SD P Φ fd (asx ++ bs) h none (fun _ r h' => match r with
          | .ret _ => bodyQ Φ rs h0.length Q .ret e h'
          | .pan v => bodyQ Φ rs h0.length Q (.pan v) e h') → LeavesInM Fence.wide 0 P fn a.tmps (fun e w'' => ∃ g'' h' r, Q r h' ∧ Rel Φ g'' h' w'' ∧ EndR g'' h'.length w'' r e ∧ Ext h0.length g w g'' w'' ∧ h0.length ≤ h'.length) [{ target := .fn (.func fd) cs.toArray, args := us.toArray }] u w2 := by
        intro hu1 hS
        subst hu1
        refine run none _ hS rfl fun g4 h4 w4 rec r4 en hQ4 R4 hE4 X4 hl4 => ?_
        cases r4 with
        | ret v =>
          cases en with
          | returned y => exact fin4 (r' := .ret) R4 X4 hl4 hQ4 rfl
          | panicked _ => exact hE4.elim
          | outgrown => exact hE4.elim
        | pan v =>
          cases en with
          | returned y => exact hE4.elim
          | panicked ch => obtain ⟨y, rfl, hv⟩ := hE4; exact fin4 (r' := .pan v) R4 X4 hl4 hQ4 ⟨y, rfl, hv⟩
          | outgrown => exact hE4.elim
      cases r with
      | normal => exact normal hm hq
      | ret => exact normal hm hq
      | exit id => exact hm.elim
      | pan v =>
        obtain ⟨x, rfl, hv⟩ := hm
        refine run (some v) _ hq ⟨x, rfl, vr2 v x hv⟩ fun g4 h4 w4 rec r4 en hQ4 R4 hE4 X4 hl4 => ?_
        cases r4 with
        | pan _ => exact hQ4.elim
        | ret v4 =>
          cases en with
          | panicked _ => exact hE4.elim
          | outgrown => exact hE4.elim
          | returned y =>
            cases rec with
            | true => exact fin4 (r' := .ret) R4 X4 hl4 hQ4 rfl
            | false => exact fin4 (r' := .pan v) R4 X4 hl4 hQ4 ⟨x, rfl, (vr2 v x hv).ext X4 hl4⟩
  cases r <;> cases q <;> simp only [XR] at hx <;> try (cases hx; done)
  · exact go .returning (by simp) rfl
  · cases d with
    | none => exact hq.elim
    | some dv => obtain ⟨fd, asx, bs, us, cs, rfl, _⟩ := hD; exact hq.elim
  · exact go .returning (by simp) rfl
  · obtain ⟨x, rfl, hv⟩ := hx
    exact go (.panicking [{ v := x, recovered := false }]) (by simp) ⟨x, rfl, hv⟩
end
end Go.Abs
end
section
namespace Go.Abs
def opUses (o : Oper) : List Nat := o.op.operands.toList.filterMap fun | .tmp t => some t | _ => none
def insertN (t : Nat) : List Nat → List Nat
  | [] => [t]
  | s :: l => if t < s then t :: s :: l else if t = s then s :: l else s :: insertN t l
def unionN (a b : List Nat) : List Nat := a.foldr insertN b
def liveOps : List Oper → List Nat → List Nat
  | [], l => l
  | o :: os, l => unionN (opUses o) ((liveOps os l).filter fun t => match o.dst with | some d => t != d | none => true)
def resTmps (rs : List ResultVar) : List Nat := rs.foldr (fun r l => insertN (match r with | .tmp t => t | .cell t _ => t) l) []
def isX : Op → Bool
  | .store .. | .alloc .. | .box .. | .buildSlice .. | .makeMap .. | .mapUpdate .. | .insert .. => true
  | .call { callee := .builtin .append, .. } => true
  | _ => false
def maxN : List Nat → Nat
  | [] => 0
  | a :: l => Nat.max a (maxN l)
def flagsOf (fz : List Nat) (ops : Array Oper) : List DOp :=
  let bef := clAll (afs ops) []
  let n := ops.size
  let xs := ops.toList.map fun o => isX o.op && !isFz fz o.dst
  let isx := fun i => xs.getD i false
  let cnt := fun k => (xs.take k).countP id
  (List.range n).map fun j =>
    { op := default, x := isx j,
      back := maxN ((List.range j).map fun i => if isx i && !(bef.getD j 0).testBit i then cnt j - cnt i else 0),
      late := (List.range n).any fun k => (j < k) && isx k && !(bef.getD k 0).testBit j }
def liveC (fz : List Nat) (lr : List Nat) : Code → List Nat → List (Nat × List Nat) → List Nat × ACode
  | .skip, ln, _ => (ln, .skip)
  | .region _ ops false, ln, _ => (liveOps ops.toList ln, .region [] (some ln))
  | .region _ ops true, ln, _ => (liveOps ops.toList ln, .draw (flagsOf fz ops) (some ln))
  | .seq (.region _ ops false) b, ln, le =>
    let (lb, tb) := liveC fz lr b ln le
    match splitDefer ops.toList with
    | some (l, t) => (liveOps l (insertN t (unionN lr lb)), .dfr [] t (some (unionN lr lb)) tb)
    | none => (liveOps ops.toList lb, .seq (.region [] (some lb)) tb)
  | .seq a b, ln, le =>
    let (lb, tb) := liveC fz lr b ln le
    let (la, ta) := liveC fz lr a lb le
    (la, .seq ta tb)
  | .cond c a b, ln, le =>
    let (la, ta) := liveC fz lr a ln le
    let (lb, tb) := liveC fz lr b ln le
    (unionN (match c with | .tmp t => [t] | _ => []) (unionN la lb), .cond (.tmp 0) ta tb)
  | .block id a, ln, le =>
    let (la, ta) := liveC fz lr a ln ((id, ln) :: le)
    (la, .block id ta)
  | .loop a, ln, le =>
    let _ := ln
    let l1 := (liveC fz lr a [] le).1
    let l2 := (liveC fz lr a l1 le).1
    let l3 := unionN l1 l2
    let (l4, ta) := liveC fz lr a l3 le
    (unionN l3 l4, .loop ta)
  | .rangeFunc g _ a b, ln, le =>
    let (lb, tb) := liveC fz [] b [] []
    let (la, ta) := liveC fz [] a lb []
    (unionN (match g with | .tmp t => [t] | _ => []) (unionN la (unionN lr (le.foldr (fun p l => unionN p.2 l) ln))), .range (.tmp 0) [] 0 [] ta tb)
  | .exit id, _, le => (((le.find? (·.1 == id)).map (·.2)).getD [], .exit id)
  | .scope a, ln, le => liveC fz lr a ln le
  | .label _, ln, _ => (ln, .skip)
  | .goto _, ln, _ => (ln, .skip)
  | .ret, _, _ => (lr, .ret)
  | .refuse _, ln, _ => (ln, .skip)
def tmplOf (fz : List Nat) (fn : Func) : ACode := (liveC fz (resTmps fn.results.toList) (fn.body.getD .skip) (resTmps fn.results.toList) []).2
def compF (P : Program) (fz : List Nat) (fn : Func) : Option ACode := comp P fn.ntmps fz (fn.body.getD .skip) (tmplOf fz fn)
theorem S_of_code {P : Program} {Φ : World → Prop} {f : FuncId} {fn : Func} {fz : List Nat} {ac : ACode} {rs : List ARes} {args : List AV} {h0 : AHeap} {Q : AEnd → AHeap → Prop} (hf : P.funcs[f]? = some fn) (hn : (fn.name == "runtime.NumGoroutine") = false) (hb : fn.body.isSome = true)
    (hc : compF P fz fn = some ac) (hr : compRes P fn.results.toList = some rs) (hl : args.length ≤ fn.ntmps)
    (hw : HLow h0.length h0 → awp P Φ h0.length ac (bodyQ Φ rs h0.length Q) (argEnv args 0) h0) : S P Φ f args h0 Q := by
  obtain ⟨c, hc'⟩ := Option.isSome_iff_exists.1 hb
  unfold compF at hc
  rw [hc'] at hc
  exact S_of_awp hf hn hc' hc hr hl hw
theorem S_of_codeT {P : Program} {Φ : World → Prop} {f : FuncId} {fn : Func} {fz : List Nat} {ac : ACode} {rs : List ARes} {args : List AV} {h0 : AHeap} {Q : AEnd → AHeap → Prop} (hf : P.funcs[f]? = some fn) (hn : (fn.name == "runtime.NumGoroutine") = false) (hb : fn.body.isSome = true)
    (hc : compF P fz fn = some ac) (hT : flatT ac = true) (hr : compRes P fn.results.toList = some rs) (hl : args.length ≤ fn.ntmps)
    (hw : HLow h0.length h0 → awpT P Φ h0.length ac (bodyT P Φ rs h0.length Q) (argEnv args 0) h0) : S P Φ f args h0 Q := by
  obtain ⟨c, hc'⟩ := Option.isSome_iff_exists.1 hb
  unfold compF at hc
  rw [hc'] at hc
  exact S_of_awpT hf hn hc' hc hT hr hl hw
def recTmp (fn : Func) : Option Nat :=
  match fn.body with
  | some (.seq (.region _ ops false) _) => match ops.toList with
    | [o] => match o.op, o.guard, o.dst with
      | .call { callee := .builtin .recover, args, .. }, none, some t => if args.size = 0 ∧ t < fn.ntmps then some t else none
      | _, _, _ => none
    | _ => none
  | _ => none
def compR (P : Program) (fz : List Nat) (fn : Func) : Option ACode :=
  match fn.body with
  | some (.seq (.region _ _ false) c) => comp P fn.ntmps fz c (liveC fz (resTmps fn.results.toList) c (resTmps fn.results.toList) []).2
  | _ => none
theorem SD_of_code {P : Program} {Φ : World → Prop} {f : FuncId} {fn : Func} {fz : List Nat} {t : Nat} {ac : ACode} {rs : List ARes} {args : List AV} {h0 : AHeap} {pan : Option AV} {Q : Bool → AEnd → AHeap → Prop} (hf : P.funcs[f]? = some fn) (hn : (fn.name == "runtime.NumGoroutine") = false)
    (ht : recTmp fn = some t) (hc : compR P fz fn = some ac) (hfl : ac.flat = true) (hr : compRes P fn.results.toList = some rs) (hl : args.length ≤ fn.ntmps)
    (hw : HLow h0.length h0 → awp P Φ h0.length ac (bodyQ Φ rs h0.length (Q pan.isSome)) ((t, recV pan) :: argEnv args 0) h0) : SD P Φ f args h0 pan Q := by
  unfold recTmp at ht
  split at ht
  · rename_i id ops c hb
    split at ht
    · rename_i o ho
      split at ht
      · rename_i asx ats t' h1 h2 h3
        split at ht
        · rename_i h4
          cases ht
          have hops : ops = #[o] := by rw [← Array.toList_inj]; simpa using ho
          have has : asx = #[] := by simpa using h4.1
          subst has
          unfold compR at hc
          rw [hb] at hc
          exact SD_of_recover hf hn hb hops h1 h2 h3 h4.2 hc hfl hr hl hw
        · cases ht
      · cases ht
    · cases ht
  · cases ht
end Go.Abs
end
section
namespace Go.Abs
theorem ret_of {Q : AEnd → AHeap → Prop} {h : AHeap} {v v' : AV} (hQ : Q (.ret v) h) (e : v' = v) : Q (.ret v') h := e ▸ hQ
theorem SEnt.refl {Φ : World → Prop} {n0 : Nat} {e : Env} {h : AHeap} : SEnt Φ n0 e h e h := ⟨id, fun g _ _ R E => ⟨g, R, E, Ext.refl _ _ _⟩⟩
def LI {α : Type} (C : α → Prop) (E : α → Env) (H : α → AHeap) (μ : α → Nat) : Nat → Env → AHeap → Prop := fun m e h => ∃ a, C a ∧ μ a = m ∧ e = E a ∧ h = H a
theorem LI.next {α : Type} {C : α → Prop} {E : α → Env} {H : α → AHeap} {μ : α → Nat} {Φ : World → Prop} {n0 m : Nat} {e : Env} {h : AHeap} (a : α) (hc : C a) (hm : μ a < m) (he : e = E a) (hh : h = H a) :
    ∃ m', m' < m ∧ Into Φ n0 (LI C E H μ m') e h := ⟨μ a, hm, e, h, SEnt.refl, a, hc, rfl, he, hh⟩
theorem LI.next' {α : Type} {C : α → Prop} {E : α → Env} {H : α → AHeap} {μ : α → Nat} {Φ : World → Prop} {n0 m : Nat} {e : Env} {h : AHeap} (a : α) (hc : C a) (hm : μ a < m) (hs : SEnt Φ n0 e h (E a) (H a)) :
    ∃ m', m' < m ∧ Into Φ n0 (LI C E H μ m') e h := ⟨μ a, hm, _, _, hs, a, hc, rfl, rfl, rfl⟩
theorem LoopP.of {Φ : World → Prop} {n0 : Nat} {B : (AExit → Env → AHeap → Prop) → Env → AHeap → Prop} {Q : AExit → Env → AHeap → Prop} {e : Env} {h : AHeap} {α : Type} (C : α → Prop) (E : α → Env) (H : α → AHeap) (μ : α → Nat) (a0 : α) (h0 : C a0) (he : e = E a0) (hh : h = H a0)
    (step : ∀ a, C a → B (fun r e'' h'' => match r with
      | .normal => ∃ m', m' < μ a ∧ Into Φ n0 (LI C E H μ m') e'' h''
      | r => Q r e'' h'') (E a) (H a)) : LoopP Φ n0 B Q e h :=
  ⟨LI C E H μ, ⟨μ a0, e, h, SEnt.refl, a0, h0, rfl, he, hh⟩, by rintro m e' h' ⟨a, hc, rfl, rfl, rfl⟩; exact step a hc⟩
theorem LoopP.of' {Φ : World → Prop} {n0 : Nat} {B : (AExit → Env → AHeap → Prop) → Env → AHeap → Prop} {Q : AExit → Env → AHeap → Prop} {e : Env} {h : AHeap} {α : Type} (C : α → Prop) (E : α → Env) (H : α → AHeap) (μ : α → Nat) (a0 : α) (h0 : C a0) (hs : SEnt Φ n0 e h (E a0) (H a0))
    (step : ∀ a, C a → B (fun r e'' h'' => match r with
      | .normal => ∃ m', m' < μ a ∧ Into Φ n0 (LI C E H μ m') e'' h''
      | r => Q r e'' h'') (E a) (H a)) : LoopP Φ n0 B Q e h :=
  ⟨LI C E H μ, ⟨μ a0, _, _, hs, a0, h0, rfl, rfl, rfl⟩, by rintro m e' h' ⟨a, hc, rfl, rfl, rfl⟩; exact step a hc⟩
theorem wrap_i64 {n : Int} (h1 : -9223372036854775808 ≤ n) (h2 : n ≤ 9223372036854775807) : IntKind.i64.wrap n = n := Go.IntWalk.i64_in n ⟨h1, h2⟩
theorem wrap_u8 {n : Int} (h1 : 0 ≤ n) (h2 : n ≤ 255) : IntKind.u8.wrap n = n := Go.IntWalk.u8_in n ⟨h1, h2⟩
end Go.Abs
end
section
namespace Go.Abs
open Go.RowKit
variable {Φ : World → Prop}
theorem S_lib {P : Program} {f : FuncId} {args : List AV} {h : AHeap} {v : AV} {Q : AEnd → AHeap → Prop} (ent : Enters P f)
    (H : ∀ g w vs, Rel Φ g h w → VRs g h.length w args vs → Calls P f vs.toArray w fun e w' => Below w.heap.size w w' ∧ ∃ u, e = .returned u ∧ ∀ g' w2, VR g' h.length w2 v u) (hQ : Q (.ret v) h) : S P Φ f args h Q := by
  refine ⟨ent, fun g w vs R V => (H g w vs R V).mono ?_⟩
  rintro e w' ⟨hb, u, rfl, hv⟩
  obtain ⟨R', E'⟩ := R.beside hb
  exact ⟨g, h, .ret v, hQ, R', hv _ _, E', Nat.le_refl _⟩
theorem VRs.one {g : Gh} {n : Nat} {w : World} {a : AV} {vs : List Value} (V : VRs g n w [a] vs) : ∃ u, vs = [u] ∧ VR g n w a u := by
  obtain ⟨u, us, rfl, hu, V⟩ := V.cons_inv
  rw [V.nil_inv]
  exact ⟨u, rfl, hu⟩
theorem VRs.two {g : Gh} {n : Nat} {w : World} {a b : AV} {vs : List Value} (V : VRs g n w [a, b] vs) : ∃ u v, vs = [u, v] ∧ VR g n w a u ∧ VR g n w b v := by
  obtain ⟨u, us, rfl, hu, V⟩ := V.cons_inv
  obtain ⟨v, rfl, hv⟩ := VRs.one V
  exact ⟨u, v, rfl, hu, hv⟩
theorem VR.str_inv {g : Gh} {n : Nat} {w : World} {l : List UInt8} {v : Value} (V : VR g n w (.str l) v) : v = .string ⟨l.toArray⟩ := by cases V; rfl
theorem VR.int_inv {g : Gh} {n : Nat} {w : World} {k : IntKind} {i : Int} {v : Value} (V : VR g n w (.int k i) v) : v = .int k i := by cases V; rfl
theorem VR.bool_inv {g : Gh} {n : Nat} {w : World} {b : Bool} {v : Value} (V : VR g n w (.bool b) v) : v = .bool b := by cases V; rfl
end Go.Abs
end
