/- A part of the proof of the card in the last text. -/
import Derived.Test.YtdpoipifjknhkaaGreatDoorT06
import Derived.Test.YtdpoipifjknhkaaGreatDoorT07
section
namespace Go.Abs
open Go.RowKit
inductive FC where
  | plain (N : Nat) (rs : List ARes) (ac : ACode)
  | dfr (N : Nat) (rs : List ARes) (ac : ACode)
  | rcv (N : Nat) (t : Nat) (rs : List ARes) (ac : ACode)
def FCOk (P : Program) (Φ : World → Prop) (f : FuncId) : FC → Prop
  | .plain N rs ac => ∀ (args : List AV) (h0 : AHeap) (Q : AEnd → AHeap → Prop), args.length ≤ N → (HLow h0.length h0 → awp P Φ h0.length ac (bodyQ Φ rs h0.length Q) (argEnv args 0) h0) → S P Φ f args h0 Q
  | .dfr N rs ac => ∀ (args : List AV) (h0 : AHeap) (Q : AEnd → AHeap → Prop), args.length ≤ N → (HLow h0.length h0 → awpT P Φ h0.length ac (bodyT P Φ rs h0.length Q) (argEnv args 0) h0) → S P Φ f args h0 Q
  | .rcv N t rs ac => ∀ (args : List AV) (h0 : AHeap) (pan : Option AV) (Q : Bool → AEnd → AHeap → Prop), args.length ≤ N → (HLow h0.length h0 → awp P Φ h0.length ac (bodyQ Φ rs h0.length (Q pan.isSome)) ((t, recV pan) :: argEnv args 0) h0) → SD P Φ f args h0 pan Q
def vresOne (e : Env) (H : CH) : ARes → Option AV
  | .tmp t => some (e.get t)
  | .cell t sz => match e.get t with
    | .ptr r i o => match H.els r with
      | some els => match nth els i with
        | some v => v.part o sz
        | none => none
      | none => none
    | _ => none
def vresAll (e : Env) (H : CH) : List ARes → Option (List AV)
  | [] => some []
  | r :: rs => match vresOne e H r, vresAll e H rs with
    | some a, some asx => some (a :: asx)
    | _, _ => none
def vres (e : Env) (H : CH) (rs : List ARes) : Option AV := (vresAll e H rs).map tupOf
section
variable {P : Program} {Φ : World → Prop}
theorem vresOne_sound {e : Env} {H : CH} (hw : H.wf) {r : ARes} {v : AV} (h : vresOne e H r = some v) : aresOne e (H.heap P) r = some v := by
  cases r with
  | tmp t => exact h
  | cell t sz =>
    simp only [vresOne] at h
    split at h
    · rename_i r i o hx
      split at h
      · rename_i els he
        obtain ⟨gr, T, sz', _, hg⟩ := CH.els_spec (P := P) hw he
        split at h
        · rename_i v' hv
          rw [nth_eq] at hv
          simp only [aresOne, hx, hg, hv]; exact h
        · cases h
      · cases h
    · cases h
theorem vresAll_sound {e : Env} {H : CH} (hw : H.wf) : ∀ {rs : List ARes} {l : List AV}, vresAll e H rs = some l → aresAll e (H.heap P) rs = some l
  | [], _, h => h
  | r :: rs, l, h => by
    simp only [vresAll] at h
    split at h
    · rename_i a asx h1 h2
      cases h
      simp only [aresAll, vresOne_sound hw h1, vresAll_sound hw h2]
    · cases h
theorem vres_sound {e : Env} {H : CH} (hw : H.wf) {rs : List ARes} {v : AV} (h : vres e H rs = some v) : ares e (H.heap P) rs = some v := by
  unfold vres at h
  obtain ⟨l, hl, rfl⟩ := Option.map_eq_some_iff.1 h
  rw [ares_eq, vresAll_sound hw hl]; rfl
end
theorem bodyQ_n {Φ : World → Prop} {rs : List ARes} {n0 : Nat} {Q : AEnd → AHeap → Prop} {e : Env} {h : AHeap} {v : AV} (hv : ares e h rs = some v) (hq : Q (.ret v) h) : bodyQ Φ rs n0 Q .normal e h := by
  show (match ares e h rs with
    | some v => ∃ v' h', FEnt Φ n0 v h v' h' ∧ Q (.ret v') h'
    | none => False)
  rw [hv]; exact ⟨_, _, FEnt.refl _ _ _, hq⟩
theorem bodyQ_r {Φ : World → Prop} {rs : List ARes} {n0 : Nat} {Q : AEnd → AHeap → Prop} {e : Env} {h : AHeap} {v : AV} (hv : ares e h rs = some v) (hq : Q (.ret v) h) : bodyQ Φ rs n0 Q .ret e h := bodyQ_n hv hq
def vend (rs : List ARes) : XOut → Out
  | .done (.pan v) _ H => .pan v H
  | .done (.exit _) _ _ => .no
  | .done _ e H => match vres e H rs with
    | some v => .ok v H
    | none => .no
  | .no => .no
inductive TOut where
  | done (d : Option (FuncId × List AV)) (r : AExit) (e : Env) (H : CH)
  | no
section
variable (pc : FuncId → List AV → CH → Option AV) (call : FuncId → List AV → CH → Out) (yld : Nat → List AV → CH → Out) (fuel : Nat)
def vcodeT : ACode → Env → CH → TOut
  | .seq x y, e, H => match vcode pc call yld fuel x e H with
    | .done .normal e' H' => vcodeT y e' H'
    | .done r e' H' => .done none r e' H'
    | .no => .no
  | .dfr ops t keep z, e, H => match vops pc call yld ops e H with
    | .ok e' H' => match e'.get t with
      | .fn f asx bs => match vcode pc call yld fuel z (e'.keep keep) H' with
        | .done r e2 H2 => .done (some (f, asx ++ bs)) r e2 H2
        | .no => .no
      | _ => .no
    | .pan v e' H' => .done none (.pan v) e' H'
    | .no => .no
  | _, _, _ => .no
def vendT (dcall : FuncId → List AV → Option AV → CH → Out) (rs : List ARes) : TOut → Out
  | .no => .no
  | .done none r e H => vend rs (.done r e H)
  | .done (some (f, l)) r e H => match r with
    | .exit _ => .no
    | .pan v => (match dcall f l (some v) H with
      | .ok _ H' => vend rs (.done .ret e H')
      | _ => .no)
    | _ => (match dcall f l none H with
      | .ok _ H' => vend rs (.done .ret e H')
      | .pan v H' => .pan v H'
      | .no => .no)
end
def abEq : AB → AB → Bool
  | .dead, .dead => true
  | .cells g T n l, .cells g' T' n' l' => (g == g') && Nat.beq T T' && Nat.beq n n' && all2 (avEq 40) l l'
  | .map l, .map l' => all2 (fun p q => avEq 40 p.1 q.1 && avEq 40 p.2 q.2) l l'
  | _, _ => false
theorem abEq_eq {a b : AB} (h : abEq a b = true) : a = b := by
  unfold abEq at h
  split at h
  · rfl
  · rename_i g T n l g' T' n' l'
    simp only [Bool.and_eq_true, beq_iff_eq] at h
    obtain ⟨⟨⟨rfl, h2⟩, h3⟩, h4⟩ := h
    have e2 : T = T' := Nat.eq_of_beq_eq_true h2
    rw [e2, beqT h3, all2_eq (avEq_eq 40) h4]
  · rename_i l l'
    rw [all2_eq (fun a b h => by
      simp only [Bool.and_eq_true] at h
      exact Prod.ext (avEq_eq _ _ _ h.1) (avEq_eq _ _ _ h.2)) h]
  · cases h
def cbEq : CB → CB → Bool
  | .b x, .b y => abEq x y
  | _, _ => false
theorem cbEq_eq : ∀ (a b : CB), cbEq a b = true → a = b
  | .b x, .b y, h => by rw [abEq_eq h]
  | .b _, .loop .., h => by cases h
  | .loop .., .b _, h => by cases h
  | .loop .., .loop .., h => by cases h
theorem heap_grown {P : Program} {H H' : CH} {k : Nat} (h : H'.l.drop k = H.l) : ∃ x, H'.heap P = H.heap P ++ x := by
  refine ⟨((H'.l.take k).map (CB.toAB P)).reverse, ?_⟩
  unfold CH.heap
  rw [← List.reverse_append, ← List.map_append, ← h, List.take_append_drop]
theorem S_here {P : Program} {Φ : World → Prop} {f : FuncId} {args : List AV} {h x : AHeap} {v : AV} {k : Nat} (hs : S P Φ f args h fun r h' => r = .ret v ∧ h' = h ++ x) (hp : plainV k v = true) : S P Φ f args h fun r h' => r = .ret v ∧ h' = h := by
  refine ⟨hs.ent, fun g w vs R V => (hs.run g w vs R V).mono ?_⟩
  rintro e w' ⟨g1, h1, r, ⟨rfl, rfl⟩, R1, E1, X1, _⟩
  refine ⟨g1, h, .ret v, ⟨rfl, rfl⟩, R1.drop R.low, ?_, X1, Nat.le_refl _⟩
  cases e with
  | returned u => exact VR.plain E1 ⟨k, hp⟩
  | panicked c => exact E1.elim
  | outgrown => exact E1.elim
inductive Rq where
  | call (f : FuncId) (args : List AV)
  | yld (r : Nat) (args : List AV)
  | dcall (f : FuncId) (args : List AV) (pan : Option AV)
section
variable (ext : FuncId → List AV → CH → Option Out) (pu : FuncId → List AV → Option AV) (fresh : FuncId → List AV → Bool) (tbl : FuncId → Option FC) (fuel : Nat)
def vpc (call : FuncId → List AV → CH → Out) (f : FuncId) (args : List AV) (H : CH) : Option AV :=
  match pu f args with
  | some v => some v
  | none => bif fresh f args then (bif args.all (closedV 40) then (match call f args ⟨0, []⟩ with
    | .ok v _ => bif plainV 40 v then some v else none
    | _ => none) else (match call f args H with
    | .ok v H' => bif plainV 40 v && Nat.ble H.n H'.n && all2 cbEq (H'.l.drop (H'.n - H.n)) H.l then some v else none
    | _ => none)) else none
def vyld (pc : FuncId → List AV → CH → Option AV) (call : FuncId → List AV → CH → Out) (yld : Nat → List AV → CH → Out) (r : Nat) (args : List AV) (H : CH) : Out :=
  match H.get r with
  | some (.loop .ready none ps N fz aa ab e) => bif Nat.beq ps.length args.length then (match vcode pc call yld fuel aa (putArgs ps args e) H with
    | .done .normal e1 H1 => (match H1.get r with
      | some (.loop .ready none _ _ _ _ _ _) => (match vcode pc call yld fuel ab e1 (H1.set r (.loop .busy none ps N fz aa ab e)) with
        | .done x e2 H2 => (match H2.get r with
          | some (.loop .busy none _ _ _ _ _ _) => (match x with
            | .normal => .ok (.bool true) (H2.set r (.loop .ready none ps N fz aa ab e))
            | .ret => .ok (.bool false) (H2.set r (.loop .done (some .ret) ps N fz aa ab e))
            | .exit id => .ok (.bool false) (H2.set r (.loop .done (some (.exit id)) ps N fz aa ab e))
            | .pan _ => .no)
          | _ => .no)
        | .no => .no)
      | _ => .no)
    | _ => .no) else .no
  | _ => .no
def run : Nat → Rq → CH → Out
  | 0, _, _ => .no
  | n + 1, .call f args, H => match ext f args H with
    | some o => o
    | none => match tbl f with
      | some (.plain N rs ac) => bif Nat.ble args.length N then vend rs (vcode (vpc pu fresh fun f a H => run n (.call f a) H) (fun f a H => run n (.call f a) H) (fun r a H => run n (.yld r a) H) fuel ac (argEnv args 0) H) else .no
      | some (.dfr N rs ac) => bif Nat.ble args.length N then vendT (fun f a p H => run n (.dcall f a p) H) rs (vcodeT (vpc pu fresh fun f a H => run n (.call f a) H) (fun f a H => run n (.call f a) H) (fun r a H => run n (.yld r a) H) fuel ac (argEnv args 0) H) else .no
      | _ => .no
  | n + 1, .yld r args, H => vyld fuel (vpc pu fresh fun f a H => run n (.call f a) H) (fun f a H => run n (.call f a) H) (fun r a H => run n (.yld r a) H) r args H
  | n + 1, .dcall f args pan, H => match tbl f with
    | some (.rcv N t rs ac) => bif Nat.ble args.length N then vend rs (vcode (vpc pu fresh fun f a H => run n (.call f a) H) (fun f a H => run n (.call f a) H) (fun r a H => run n (.yld r a) H) fuel ac ((t, recV pan) :: argEnv args 0) H) else .no
    | _ => .no
end
section
variable {P : Program} {Φ : World → Prop} {ext : FuncId → List AV → CH → Option Out} {pu : FuncId → List AV → Option AV} {fresh : FuncId → List AV → Bool} {tbl : FuncId → Option FC} {fuel : Nat}
def DOut (P : Program) (Φ : World → Prop) (f : FuncId) (args : List AV) (pan : Option AV) (H : CH) : Out → Prop
  | .ok v H' => H'.wf ∧ Mono H H' ∧ SD P Φ f args (H.heap P) pan fun b r h' => b = pan.isSome ∧ r = .ret v ∧ h' = H'.heap P
  | .pan v H' => H'.wf ∧ Mono H H' ∧ SD P Φ f args (H.heap P) pan fun b r h' => b = pan.isSome ∧ r = .pan v ∧ h' = H'.heap P
  | .no => True
theorem vend_plain {f : FuncId} {N : Nat} {rs : List ARes} {ac : ACode} (hf : FCOk P Φ f (.plain N rs ac)) {args : List AV} {H : CH} (hl : args.length ≤ N) {x : XOut} (hx : XOk P Φ ac (argEnv args 0) H x) : COk P Φ f args H (vend rs x) := by
  have fin : ∀ r e H', (∀ v, r ≠ .pan v) → (∀ i, r ≠ .exit i) → XOk P Φ ac (argEnv args 0) H (.done r e H') → COk P Φ f args H (match vres e H' rs with
    | some v => .ok v H'
    | none => .no) := by
    intro r e H' h1 h2 hx
    cases hv : vres e H' rs with
    | none => trivial
    | some v =>
      refine ⟨hx.1, hx.2.1, hf args _ _ hl fun _ => hx.2.2 _ _ ?_⟩
      have hb : ares e (H'.heap P) rs = some v := vres_sound hx.1 hv
      cases r with
      | pan v => exact absurd rfl (h1 v)
      | exit i => exact absurd rfl (h2 i)
      | normal => exact bodyQ_n hb ⟨rfl, rfl⟩
      | ret => exact bodyQ_r hb ⟨rfl, rfl⟩
  cases x with
  | no => trivial
  | done r e H' =>
    cases r with
    | pan v => exact ⟨hx.1, hx.2.1, hf args _ _ hl fun _ => hx.2.2 _ _ ⟨_, _, FEnt.refl _ _ _, rfl, rfl⟩⟩
    | exit i => trivial
    | normal => exact fin .normal e H' (by simp) (by simp) hx
    | ret => exact fin .ret e H' (by simp) (by simp) hx
theorem vend_rec {f : FuncId} {N t : Nat} {rs : List ARes} {ac : ACode} (hf : FCOk P Φ f (.rcv N t rs ac)) {args : List AV} {pan : Option AV} {H : CH} (hl : args.length ≤ N) {x : XOut} (hx : XOk P Φ ac ((t, recV pan) :: argEnv args 0) H x) : DOut P Φ f args pan H (vend rs x) := by
  have fin : ∀ r e H', (∀ v, r ≠ .pan v) → (∀ i, r ≠ .exit i) → XOk P Φ ac ((t, recV pan) :: argEnv args 0) H (.done r e H') → DOut P Φ f args pan H (match vres e H' rs with
    | some v => .ok v H'
    | none => .no) := by
    intro r e H' h1 h2 hx
    cases hv : vres e H' rs with
    | none => trivial
    | some v =>
      refine ⟨hx.1, hx.2.1, hf args _ _ _ hl fun _ => hx.2.2 _ _ ?_⟩
      have hb : ares e (H'.heap P) rs = some v := vres_sound hx.1 hv
      cases r with
      | pan v => exact absurd rfl (h1 v)
      | exit i => exact absurd rfl (h2 i)
      | normal => exact bodyQ_n hb ⟨rfl, rfl, rfl⟩
      | ret => exact bodyQ_r hb ⟨rfl, rfl, rfl⟩
  cases x with
  | no => trivial
  | done r e H' =>
    cases r with
    | pan v => exact ⟨hx.1, hx.2.1, hf args _ _ _ hl fun _ => hx.2.2 _ _ ⟨_, _, FEnt.refl _ _ _, rfl, rfl, rfl⟩⟩
    | exit i => trivial
    | normal => exact fin .normal e H' (by simp) (by simp) hx
    | ret => exact fin .ret e H' (by simp) (by simp) hx
def dOf : Option (FuncId × List AV) → Option AV → Prop
  | none, d => d = none
  | some (f, l), d => ∃ asx bs, d = some (.fn f asx bs) ∧ l = asx ++ bs
def TOk (P : Program) (Φ : World → Prop) (c : ACode) (e : Env) (H : CH) : TOut → Prop
  | .done d r e' H' => H'.wf ∧ Mono H H' ∧ ∃ d', dOf d d' ∧ ∀ (n0 : Nat) (Q : Option AV → AExit → Env → AHeap → Prop), Q d' r e' (H'.heap P) → awpT P Φ n0 c Q e (H.heap P)
  | .no => True
section
variable {pc : FuncId → List AV → CH → Option AV} {call : FuncId → List AV → CH → Out} {yld : Nat → List AV → CH → Out}
theorem vcodeT_sound (C : Calls3 P Φ pc call yld) : ∀ (c : ACode) (e : Env) (H : CH), H.wf → TOk P Φ c e H (vcodeT pc call yld fuel c e H)
  | .seq x y, e, H, hw => by
    have hx := vcode_sound (fuel := fuel) C x e H hw
    rw [vcodeT]
    revert hx
    cases vcode pc call yld fuel x e H with
    | no => intro _; trivial
    | done r e' H' =>
      cases r with
      | normal =>
        intro hx
        have hy := vcodeT_sound C y e' H' hx.1
        revert hy
        show TOk P Φ y e' H' (vcodeT pc call yld fuel y e' H') → TOk P Φ (.seq x y) e H (vcodeT pc call yld fuel y e' H')
        cases vcodeT pc call yld fuel y e' H' with
        | no => intro _; trivial
        | done d r2 e2 H2 => exact fun ⟨h1, h2, d', h3, h4⟩ => ⟨h1, hx.2.1.trans h2, d', h3, fun n0 Q hq => hx.2.2 _ _ (h4 _ _ hq)⟩
      | exit i => exact fun hx => ⟨hx.1, hx.2.1, none, rfl, fun n0 Q hq => hx.2.2 _ _ hq⟩
      | ret => exact fun hx => ⟨hx.1, hx.2.1, none, rfl, fun n0 Q hq => hx.2.2 _ _ hq⟩
      | pan v => exact fun hx => ⟨hx.1, hx.2.1, none, rfl, fun n0 Q hq => hx.2.2 _ _ hq⟩
  | .dfr ops t keep z, e, H, hw => by
    have ho := vops_sound C ops e H hw
    rw [vcodeT]
    revert ho
    cases vops pc call yld ops e H with
    | no => intro _; trivial
    | pan v e' H' => exact fun ho => ⟨ho.1, ho.2.1, none, rfl, fun n0 Q hq => ho.2.2 _ _ hq⟩
    | ok e' H' =>
      intro ho
      dsimp only
      split
      · rename_i f asx bs hf
        have hz := vcode_sound (fuel := fuel) C z (e'.keep keep) H' ho.1
        revert hz
        cases vcode pc call yld fuel z (e'.keep keep) H' with
        | no => intro _; trivial
        | done r e2 H2 => exact fun hz => ⟨hz.1, ho.2.1.trans hz.2.1, some (.fn f asx bs), ⟨asx, bs, rfl, rfl⟩, fun n0 Q hq => ho.2.2 _ _ ⟨⟨f, asx, bs, hf⟩, hz.2.2 _ _ (by rw [hf]; exact hq)⟩⟩
      · trivial
  | .skip, _, _, _ | .region _ _, _, _, _ | .draw _ _, _, _, _ | .cond _ _ _, _, _, _ | .block _ _, _, _, _ | .loop _, _, _, _ | .range _ _ _ _ _ _, _, _, _ | .exit _, _, _, _ | .ret, _, _, _ => trivial
end
theorem vendT_sound {f : FuncId} {N : Nat} {rs : List ARes} {ac : ACode} (hf : FCOk P Φ f (.dfr N rs ac)) {args : List AV} {H : CH} (hl : args.length ≤ N) {dcall : FuncId → List AV → Option AV → CH → Out} (hd : ∀ f args pan H, H.wf → DOut P Φ f args pan H (dcall f args pan H))
    {x : TOut} (hx : TOk P Φ ac (argEnv args 0) H x) : COk P Φ f args H (vendT dcall rs x) := by
  have fin : ∀ r e H' d', (∀ v, r ≠ .pan v) → (∀ i, r ≠ .exit i) → H'.wf → Mono H H' → (∀ (Q : AEnd → AHeap → Prop), bodyQ Φ rs (H.heap P).length Q r e (H'.heap P) → bodyT P Φ rs (H.heap P).length Q d' r e (H'.heap P)) →
      (∀ (n0 : Nat) (Q : Option AV → AExit → Env → AHeap → Prop), Q d' r e (H'.heap P) → awpT P Φ n0 ac Q (argEnv args 0) (H.heap P)) → COk P Φ f args H (match vres e H' rs with
    | some v => .ok v H'
    | none => .no) := by
    intro r e H' d' h1 h2 hw hm hb hA
    cases hv : vres e H' rs with
    | none => trivial
    | some v =>
      refine ⟨hw, hm, hf args _ _ hl fun _ => hA _ _ (hb _ ?_)⟩
      have hb2 : ares e (H'.heap P) rs = some v := vres_sound hw hv
      cases r with
      | pan v => exact absurd rfl (h1 v)
      | exit i => exact absurd rfl (h2 i)
      | normal => exact bodyQ_n hb2 ⟨rfl, rfl⟩
      | ret => exact bodyQ_r hb2 ⟨rfl, rfl⟩
  cases x with
  | no => trivial
  | done d r e H' =>
    obtain ⟨hw, hm, d', hd', hA⟩ := hx
    cases d with
    | none =>
      have hd' : d' = none := hd'
      subst hd'
      cases r with
      | pan v => exact ⟨hw, hm, hf args _ _ hl fun _ => hA _ _ ⟨_, _, FEnt.refl _ _ _, rfl, rfl⟩⟩
      | exit i => trivial
      | normal => exact fin .normal e H' none (by simp) (by simp) hw hm (fun _ h => h) hA
      | ret => exact fin .ret e H' none (by simp) (by simp) hw hm (fun _ h => h) hA
    | some p =>
      obtain ⟨f', l⟩ := p
      obtain ⟨asx, bs, rfl, rfl⟩ := hd'
      have back : ∀ H2 v', (DOut P Φ f' (asx ++ bs) none H' (.ok v' H2)) → (r = .normal ∨ r = .ret) → COk P Φ f args H (vend rs (.done .ret e H2)) := by
        intro H2 v' h2 hr
        show COk P Φ f args H (match vres e H2 rs with
          | some v => .ok v H2
          | none => .no)
        cases hv : vres e H2 rs with
        | none => trivial
        | some v =>
          refine ⟨h2.1, hm.trans h2.2.1, hf args _ _ hl fun _ => hA _ _ ?_⟩
          have hb : ares e (H2.heap P) rs = some v := vres_sound h2.1 hv
          have hs : SD P Φ f' (asx ++ bs) (H'.heap P) none fun _ r h' => match r with
            | .ret _ => bodyQ Φ rs (H.heap P).length (fun r h' => r = .ret v ∧ h' = H2.heap P) .ret e h'
            | .pan v1 => bodyQ Φ rs (H.heap P).length (fun r h' => r = .ret v ∧ h' = H2.heap P) (.pan v1) e h' := by
            refine h2.2.2.mono ?_
            rintro b r1 h1 ⟨_, rfl, rfl⟩
            exact bodyQ_r hb ⟨rfl, rfl⟩
          rcases hr with rfl | rfl <;> exact hs
      have backP : ∀ H2 v', (DOut P Φ f' (asx ++ bs) none H' (.pan v' H2)) → (r = .normal ∨ r = .ret) → COk P Φ f args H (.pan v' H2) := by
        intro H2 v' h2 hr
        refine ⟨h2.1, hm.trans h2.2.1, hf args _ _ hl fun _ => hA _ _ ?_⟩
        have hs : SD P Φ f' (asx ++ bs) (H'.heap P) none fun _ r h' => match r with
          | .ret _ => bodyQ Φ rs (H.heap P).length (fun r h' => r = .pan v' ∧ h' = H2.heap P) .ret e h'
          | .pan v1 => bodyQ Φ rs (H.heap P).length (fun r h' => r = .pan v' ∧ h' = H2.heap P) (.pan v1) e h' := by
          refine h2.2.2.mono ?_
          rintro b r1 h1 ⟨_, rfl, rfl⟩
          exact ⟨_, _, FEnt.refl _ _ _, rfl, rfl⟩
        rcases hr with rfl | rfl <;> exact hs
      cases r with
      | exit i => trivial
      | normal =>
        have h2 := hd f' (asx ++ bs) none H' hw
        simp only [vendT]
        revert h2
        cases dcall f' (asx ++ bs) none H' with
        | no => intro _; trivial
        | ok v' H2 => exact fun h2 => back H2 v' h2 (.inl rfl)
        | pan v' H2 => exact fun h2 => backP H2 v' h2 (.inl rfl)
      | ret =>
        have h2 := hd f' (asx ++ bs) none H' hw
        simp only [vendT]
        revert h2
        cases dcall f' (asx ++ bs) none H' with
        | no => intro _; trivial
        | ok v' H2 => exact fun h2 => back H2 v' h2 (.inr rfl)
        | pan v' H2 => exact fun h2 => backP H2 v' h2 (.inr rfl)
      | pan v0 =>
        have h2 := hd f' (asx ++ bs) (some v0) H' hw
        simp only [vendT]
        revert h2
        cases dcall f' (asx ++ bs) (some v0) H' with
        | no => intro _; trivial
        | pan v' H2 => intro _; trivial
        | ok v' H2 =>
          intro h2
          show COk P Φ f args H (match vres e H2 rs with
            | some v => .ok v H2
            | none => .no)
          cases hv : vres e H2 rs with
          | none => trivial
          | some v =>
            refine ⟨h2.1, hm.trans h2.2.1, hf args _ _ hl fun _ => hA _ _ ?_⟩
            have hb : ares e (H2.heap P) rs = some v := vres_sound h2.1 hv
            show SD P Φ f' (asx ++ bs) (H'.heap P) (some v0) fun rec r h' => match r with
              | .ret _ => bif rec then bodyQ Φ rs (H.heap P).length (fun r h' => r = .ret v ∧ h' = H2.heap P) .ret e h' else bodyQ Φ rs (H.heap P).length (fun r h' => r = .ret v ∧ h' = H2.heap P) (.pan v0) e h'
              | .pan _ => False
            refine h2.2.2.mono ?_
            rintro b r1 h1 ⟨rfl, rfl, rfl⟩
            show bodyQ Φ rs (H.heap P).length (fun r h' => r = .ret v ∧ h' = H2.heap P) .ret e (H2.heap P)
            exact bodyQ_r hb ⟨rfl, rfl⟩
theorem vyld_sound {pc : FuncId → List AV → CH → Option AV} {call : FuncId → List AV → CH → Out} {yld : Nat → List AV → CH → Out} (C : Calls3 P Φ pc call yld) (r : Nat) (args : List AV) (H : CH) (hw : H.wf) : YOk P Φ r args H (vyld fuel pc call yld r args H) := by
  unfold vyld
  split
  · rename_i ps N fz aa ab e hg
    cases hl : Nat.beq ps.length args.length with
    | false => trivial
    | true =>
      simp only [cond_true]
      have ha := vcode_sound (fuel := fuel) C aa (putArgs ps args e) H hw
      revert ha
      cases vcode pc call yld fuel aa (putArgs ps args e) H with
      | no => intro _; trivial
      | done r1 e1 H1 =>
        cases r1 with
        | exit i => intro _; trivial
        | ret => intro _; trivial
        | pan v => intro _; trivial
        | normal =>
          intro ha
          dsimp only
          split
          · rename_i ps1 N1 fz1 aa1 ab1 e1' hg1
            obtain ⟨rfl, rfl, rfl, rfl, rfl, rfl⟩ := ha.2.1.same hg hg1
            have hr1 := (CH.get_some hg1).1
            have w1 := CH.wf_set ha.1 r (.loop .busy none ps1 N1 fz1 aa1 ab1 e1')
            have hb := vcode_sound (fuel := fuel) C ab1 e1 (H1.set r (.loop .busy none ps1 N1 fz1 aa1 ab1 e1')) w1
            have hbusy : (H1.set r (.loop .busy none ps1 N1 fz1 aa1 ab1 e1')).get r = some (.loop .busy none ps1 N1 fz1 aa1 ab1 e1') := by
              rw [CH.get_set hr1 hr1 ha.1, if_pos rfl]
            revert hb
            cases vcode pc call yld fuel ab1 e1 (H1.set r (.loop .busy none ps1 N1 fz1 aa1 ab1 e1')) with
            | no => intro _; trivial
            | done x e2 H2 =>
              intro hb
              dsimp only
              split
              · rename_i ps2 N2 fz2 aa2 ab2 e2' hg2
                obtain ⟨rfl, rfl, rfl, rfl, rfl, rfl⟩ := hb.2.1.same hbusy hg2
                have hr2 := (CH.get_some hg2).1
                have hg2' := CH.heap_get (P := P) hb.1 hg2
                have M1 := Mono.setL ha.1 hg1 .busy none
                have key : ∀ (b : Bool) (st : LoopState) (pend : Option Code), (∀ Q : AEnd → AHeap → Prop, Q (.ret (.bool b)) ((H2.heap P).set r (.loop st pend (rangeX P ps2 N2 fz2 aa2 ab2 e2'))) → roundQ Q r (rangeX P ps2 N2 fz2 aa2 ab2 e2') x e2 (H2.heap P)) →
                    YOk P Φ r args H (.ok (.bool b) (H2.set r (.loop st pend ps2 N2 fz2 aa2 ab2 e2'))) := by
                  intro b st pend hq
                  refine ⟨CH.wf_set hb.1 _ _, ha.2.1.trans (M1.trans (hb.2.1.trans (Mono.setL hb.1 hg2 st pend))), ?_⟩
                  refine YS_of_awp (CH.heap_get (P := P) hw hg) (beqT hl) fun _ => ha.2.2 _ _ ⟨CH.heap_get (P := P) ha.1 hg1, ?_⟩
                  have hh := hb.2.2 (H.heap P).length (roundQ (fun res h' => res = .ret (.bool b) ∧ h' = (H2.set r (.loop st pend ps2 N2 fz2 aa2 ab2 e2')).heap P) r (rangeX P ps2 N2 fz2 aa2 ab2 e2')) (hq _ ⟨rfl, by rw [CH.heap_set hb.1 hr2]; rfl⟩)
                  rw [CH.heap_set ha.1 hr1] at hh
                  exact hh
                cases x with
                | normal => exact key true .ready none fun Q hq => ⟨hg2', hq⟩
                | ret => exact key false .done (some .ret) fun Q hq => ⟨hg2', hq⟩
                | exit id => exact key false .done (some (.exit id)) fun Q hq => ⟨hg2', hq⟩
                | pan v => trivial
              · trivial
          · trivial
  · trivial
theorem vpc_sound (hΦ : ∀ b w w', Φ w → w.heap.size ≤ b → Below b w w' → Φ w') (hpu : ∀ f args v, pu f args = some v → ∀ h, S P Φ f args h fun r h' => r = .ret v ∧ h' = h) {call : FuncId → List AV → CH → Out} (hc : ∀ f args H, H.wf → COk P Φ f args H (call f args H)) (f : FuncId) (args : List AV) (v : AV)
    (H : CH) (hw : H.wf) (h : vpc pu fresh call f args H = some v) : S P Φ f args (H.heap P) fun r h' => r = .ret v ∧ h' = H.heap P := by
  unfold vpc at h
  split at h
  · rename_i v' hv; cases h; exact hpu f args _ hv _
  · cases hf : fresh f args with
    | false => rw [hf] at h; cases h
    | true =>
      rw [hf] at h
      simp only [cond_true] at h
      cases hcl : args.all (closedV 40) with
      | true =>
        rw [hcl] at h
        simp only [cond_true] at h
        have hk := hc f args ⟨0, []⟩ rfl
        revert hk h
        cases call f args ⟨0, []⟩ with
        | no => intro h; cases h
        | pan v' H' => intro h; cases h
        | ok v' H' =>
          intro h hk
          dsimp only at h
          cases hp : plainV 40 v' with
          | false => rw [hp] at h; cases h
          | true =>
            rw [hp] at h; cases h
            exact S_fresh hΦ (hk.2.2.mono fun r h' e => e.1) hcl hp _
      | false =>
        rw [hcl] at h
        simp only [cond_false] at h
        have hk := hc f args H hw
        revert hk h
        cases call f args H with
        | no => intro h; cases h
        | pan v' H' => intro h; cases h
        | ok v' H' =>
          intro h hk
          dsimp only at h
          cases hq : (plainV 40 v' && Nat.ble H.n H'.n && all2 cbEq (H'.l.drop (H'.n - H.n)) H.l) with
          | false => rw [hq] at h; cases h
          | true =>
            rw [hq] at h; cases h
            simp only [Bool.and_eq_true] at hq
            obtain ⟨⟨hp, _⟩, he⟩ := hq
            obtain ⟨x, hx⟩ := heap_grown (P := P) (all2_eq cbEq_eq he)
            have hs := hk.2.2
            rw [hx] at hs
            exact S_here hs hp
theorem run_sound (hΦ : ∀ b w w', Φ w → w.heap.size ≤ b → Below b w w' → Φ w') (hext : ∀ f args H o, ext f args H = some o → H.wf → COk P Φ f args H o) (hpu : ∀ f args v, pu f args = some v → ∀ h, S P Φ f args h fun r h' => r = .ret v ∧ h' = h)
    (ht : ∀ f c, tbl f = some c → FCOk P Φ f c) : ∀ (n : Nat), (∀ f args H, H.wf → COk P Φ f args H (run ext pu fresh tbl fuel n (.call f args) H)) ∧ (∀ r args H, H.wf → YOk P Φ r args H (run ext pu fresh tbl fuel n (.yld r args) H)) ∧
      (∀ f args pan H, H.wf → DOut P Φ f args pan H (run ext pu fresh tbl fuel n (.dcall f args pan) H))
  | 0 => ⟨fun _ _ _ _ => trivial, fun _ _ _ _ => trivial, fun _ _ _ _ _ => trivial⟩
  | n + 1 => by
    obtain ⟨h1, h2, h3⟩ := run_sound hΦ hext hpu ht n
    have C : Calls3 P Φ (vpc pu fresh fun f a H => run ext pu fresh tbl fuel n (.call f a) H) (fun f a H => run ext pu fresh tbl fuel n (.call f a) H) (fun r a H => run ext pu fresh tbl fuel n (.yld r a) H) :=
      ⟨fun f args v H hw h => vpc_sound hΦ hpu h1 f args v H hw h, h1, h2⟩
    refine ⟨fun f args H hw => ?_, fun r args H hw => ?_, fun f args pan H hw => ?_⟩
    · rw [run]
      cases he : ext f args H with
      | some o => exact hext f args H o he hw
      | none =>
        cases hf : tbl f with
        | none => trivial
        | some c =>
          have hok := ht f c hf
          cases c with
          | plain N rs ac =>
            dsimp only
            cases hl : Nat.ble args.length N with
            | false => trivial
            | true => exact vend_plain hok (Nat.le_of_ble_eq_true hl) (vcode_sound C ac _ H hw)
          | dfr N rs ac =>
            dsimp only
            cases hl : Nat.ble args.length N with
            | false => trivial
            | true => exact vendT_sound hok (Nat.le_of_ble_eq_true hl) h3 (vcodeT_sound C ac _ H hw)
          | rcv N t rs ac => trivial
    · rw [run]; exact vyld_sound C r args H hw
    · rw [run]
      cases hf : tbl f with
      | none => trivial
      | some c =>
        have hok := ht f c hf
        cases c with
        | plain N rs ac => trivial
        | dfr N rs ac => trivial
        | rcv N t rs ac =>
          dsimp only
          cases hl : Nat.ble args.length N with
          | false => trivial
          | true => exact vend_rec hok (Nat.le_of_ble_eq_true hl) (vcode_sound C ac _ H hw)
def Out.isRet (o : Out) (v : AV) : Bool := match o with
  | .ok v' _ => avEq 40 v' v
  | _ => false
theorem S_of_run (hΦ : ∀ b w w', Φ w → w.heap.size ≤ b → Below b w w' → Φ w') (hext : ∀ f args H o, ext f args H = some o → H.wf → COk P Φ f args H o) (hpu : ∀ f args v, pu f args = some v → ∀ h, S P Φ f args h fun r h' => r = .ret v ∧ h' = h)
    (ht : ∀ f c, tbl f = some c → FCOk P Φ f c) (n : Nat) {f : FuncId} {args : List AV} {v : AV} (hr : (run ext pu fresh tbl fuel n (.call f args) ⟨0, []⟩).isRet v = true) (hc : args.all (closedV 40) = true) (hp : plainV 40 v = true) (h : AHeap) : S P Φ f args h fun r h' => r = .ret v ∧ h' = h := by
  have hk := (run_sound (fresh := fresh) (fuel := fuel) hΦ hext hpu ht n).1 f args ⟨0, []⟩ rfl
  revert hk hr
  cases run ext pu fresh tbl fuel n (.call f args) ⟨0, []⟩ with
  | no => intro hr; cases hr
  | pan v' H' => intro hr; cases hr
  | ok v' H' =>
    intro hr hk
    have : v' = v := avEq_eq _ _ _ hr
    subst this
    exact S_fresh hΦ (hk.2.2.mono fun r h' e => e.1) hc hp h
theorem FCOk.of_go {f : FuncId} {N : Nat} {rs : List ARes} {ac : ACode} (h : ∀ {args : List AV} {h0 : AHeap} {Q : AEnd → AHeap → Prop}, args.length ≤ N → (HLow h0.length h0 → Ewp P Φ h0.length ac (ebodyQ Φ rs h0.length Q) (argEnv args 0) h0) → S P Φ f args h0 Q) : FCOk P Φ f (.plain N rs ac) :=
  fun args h0 Q hl hw => h hl fun hlow => ⟨by rw [ewp_eq, ebodyQ_eq]; exact hw hlow⟩
theorem FCOk.of_goT {f : FuncId} {N : Nat} {rs : List ARes} {ac : ACode} (h : ∀ {args : List AV} {h0 : AHeap} {Q : AEnd → AHeap → Prop}, args.length ≤ N → (HLow h0.length h0 → EwpT P Φ h0.length ac (ebodyT P Φ rs h0.length Q) (argEnv args 0) h0) → S P Φ f args h0 Q) : FCOk P Φ f (.dfr N rs ac) :=
  fun args h0 Q hl hw => h hl fun hlow => ⟨by rw [ewpT_eq, ebodyT_eq]; exact hw hlow⟩
theorem FCOk.of_goD {f : FuncId} {N t : Nat} {rs : List ARes} {ac : ACode} (h : ∀ {args : List AV} {h0 : AHeap} {pan : Option AV} {Q : Bool → AEnd → AHeap → Prop}, args.length ≤ N → (HLow h0.length h0 → Ewp P Φ h0.length ac (ebodyQ Φ rs h0.length (Q pan.isSome)) ((t, recV pan) :: argEnv args 0) h0) → SD P Φ f args h0 pan Q) : FCOk P Φ f (.rcv N t rs ac) :=
  fun args h0 pan Q hl hw => h hl fun hlow => ⟨by rw [ewp_eq, ebodyQ_eq]; exact hw hlow⟩
def tblOf : List (Nat × FC) → Nat → Option FC
  | [], _ => none
  | (k, c) :: r, f => bif Nat.beq k f then some c else tblOf r f
theorem tblOf_ok : ∀ {l : List (Nat × FC)}, (∀ p ∈ l, FCOk P Φ p.1 p.2) → ∀ f c, tblOf l f = some c → FCOk P Φ f c
  | [], _, f, c, h => by cases h
  | (k, c') :: r, hl, f, c, h => by
    unfold tblOf at h
    cases hb : Nat.beq k f with
    | true =>
      rw [hb] at h; cases h
      have := beqT hb
      subst this
      exact hl _ List.mem_cons_self
    | false =>
      rw [hb] at h
      exact tblOf_ok (fun p hp => hl p (List.mem_cons_of_mem _ hp)) f c h
end
end Go.Abs
end
section
namespace Go.QZ
open Go Go.Abs Go.Proofs
set_option maxRecDepth 100000
def evL : List (Nat × FC) := [
 (9, .plain 181 [(.tmp 0)] ac9),
 (11, .plain 79 [(.tmp 2), (.tmp 3)] ac11),
 (12, .plain 167 [(.tmp 2)] ac12),
 (13, .dfr 30 [(.cell 2 (some 14)), (.cell 3 none), (.cell 4 none)] ac13),
 (15, .plain 35 [(.cell 2 none), (.cell 3 none), (.cell 4 none)] ac15),
 (22, .plain 12 [(.tmp 4)] ac22),
 (28, .plain 62 [(.tmp 4)] ac28),
 (32, .plain 70 [(.tmp 2)] ac32),
 (34, .plain 10 [(.tmp 2)] ac34),
 (35, .plain 15 [(.tmp 6)] ac35),
 (37, .rcv 17 6 [] ac37),
 (38, .plain 32 [(.cell 2 (some 14))] ac38),
 (39, .plain 8 [(.tmp 2)] ac39),
 (41, .plain 8 [(.tmp 2)] ac41),
 (42, .plain 17 [(.tmp 4)] ac42),
 (48, .plain 82 [(.tmp 4)] ac48),
 (55, .plain 29 [(.tmp 2)] ac55),
 (56, .plain 9 [(.tmp 4)] ac56),
 (59, .plain 15 [(.tmp 4)] ac59),
 (60, .plain 113 [(.tmp 2)] ac60),
 (62, .plain 49 [(.cell 2 (some 14))] ac62),
 (63, .plain 19 [(.tmp 4)] ac63),
 (64, .plain 19 [(.tmp 4)] ac64),
 (65, .plain 26 [] ac65),
 (66, .plain 8 [(.cell 2 (some 5))] ac66),
 (67, .plain 8 [(.tmp 3)] ac67),
 (68, .plain 14 [(.tmp 4)] ac68),
 (69, .plain 149 [] ac69),
 (70, .plain 44 [(.tmp 2), (.tmp 3)] ac70),
 (73, .plain 21 [(.tmp 4), (.tmp 5)] ac73),
 (74, .plain 7 [(.tmp 3)] ac74),
 (75, .plain 8 [(.tmp 3)] ac75),
 (77, .plain 9 [(.tmp 2)] ac77),
 (79, .plain 9 [(.tmp 4)] ac79),
 (82, .plain 72 [(.tmp 2)] ac82),
 (83, .plain 19 [(.tmp 4)] ac83),
 (84, .plain 8 [(.tmp 3)] ac84),
 (87, .plain 8 [(.tmp 3)] ac87),
 (88, .plain 10 [(.tmp 2)] ac88),
 (90, .plain 2 [] ac90),
 (91, .plain 6 [] ac91),
 (92, .plain 5 [(.tmp 2)] ac92),
 (93, .plain 11 [] ac93),
 (94, .plain 10 [] ac94),
 (95, .plain 12 [(.tmp 6)] ac95),
 (96, .plain 16 [] ac96),
 (97, .plain 21 [] ac97),
 (98, .plain 6 [] ac98),
 (99, .plain 42 [(.tmp 4)] ac99),
 (100, .plain 30 [(.cell 8 (some 5))] ac100),
 (101, .plain 8 [(.cell 2 (some 5))] ac101),
 (102, .plain 8 [(.cell 4 (some 5))] ac102),
 (108, .plain 19 [(.tmp 4)] ac108),
 (110, .plain 14 [(.tmp 2)] ac110),
 (111, .plain 39 [(.tmp 2)] ac111),
 (112, .plain 6 [(.tmp 2)] ac112),
 (113, .plain 34 [(.tmp 5)] ac113),
 (114, .plain 9 [(.tmp 4)] ac114),
 (115, .plain 21 [(.tmp 2)] ac115),
 (121, .plain 6 [(.tmp 2)] ac121),
 (123, .plain 49 [(.tmp 6)] ac123),
 (124, .plain 19 [(.tmp 5)] ac124),
 (125, .plain 61 [(.cell 2 (some 5))] ac125),
 (138, .plain 9 [(.tmp 4)] ac138),
 (140, .plain 10 [(.tmp 2)] ac140),
 (146, .plain 19 [(.tmp 4)] ac146)]
theorem evL_ok {Φ : World → Prop} : ∀ p ∈ evL, FCOk Tryz.prog Φ p.1 p.2 := by
 unfold evL
 refine List.forall_mem_cons.2 ⟨FCOk.of_go go9, ?_⟩
 refine List.forall_mem_cons.2 ⟨FCOk.of_go go11, ?_⟩
 refine List.forall_mem_cons.2 ⟨FCOk.of_go go12, ?_⟩
 refine List.forall_mem_cons.2 ⟨FCOk.of_goT goT13, ?_⟩
 refine List.forall_mem_cons.2 ⟨FCOk.of_go go15, ?_⟩
 refine List.forall_mem_cons.2 ⟨FCOk.of_go go22, ?_⟩
 refine List.forall_mem_cons.2 ⟨FCOk.of_go go28, ?_⟩
 refine List.forall_mem_cons.2 ⟨FCOk.of_go go32, ?_⟩
 refine List.forall_mem_cons.2 ⟨FCOk.of_go go34, ?_⟩
 refine List.forall_mem_cons.2 ⟨FCOk.of_go go35, ?_⟩
 refine List.forall_mem_cons.2 ⟨FCOk.of_goD goD37, ?_⟩
 refine List.forall_mem_cons.2 ⟨FCOk.of_go go38, ?_⟩
 refine List.forall_mem_cons.2 ⟨FCOk.of_go go39, ?_⟩
 refine List.forall_mem_cons.2 ⟨FCOk.of_go go41, ?_⟩
 refine List.forall_mem_cons.2 ⟨FCOk.of_go go42, ?_⟩
 refine List.forall_mem_cons.2 ⟨FCOk.of_go go48, ?_⟩
 refine List.forall_mem_cons.2 ⟨FCOk.of_go go55, ?_⟩
 refine List.forall_mem_cons.2 ⟨FCOk.of_go go56, ?_⟩
 refine List.forall_mem_cons.2 ⟨FCOk.of_go go59, ?_⟩
 refine List.forall_mem_cons.2 ⟨FCOk.of_go go60, ?_⟩
 refine List.forall_mem_cons.2 ⟨FCOk.of_go go62, ?_⟩
 refine List.forall_mem_cons.2 ⟨FCOk.of_go go63, ?_⟩
 refine List.forall_mem_cons.2 ⟨FCOk.of_go go64, ?_⟩
 refine List.forall_mem_cons.2 ⟨FCOk.of_go go65, ?_⟩
 refine List.forall_mem_cons.2 ⟨FCOk.of_go go66, ?_⟩
 refine List.forall_mem_cons.2 ⟨FCOk.of_go go67, ?_⟩
 refine List.forall_mem_cons.2 ⟨FCOk.of_go go68, ?_⟩
 refine List.forall_mem_cons.2 ⟨FCOk.of_go go69, ?_⟩
 refine List.forall_mem_cons.2 ⟨FCOk.of_go go70, ?_⟩
 refine List.forall_mem_cons.2 ⟨FCOk.of_go go73, ?_⟩
 refine List.forall_mem_cons.2 ⟨FCOk.of_go go74, ?_⟩
 refine List.forall_mem_cons.2 ⟨FCOk.of_go go75, ?_⟩
 refine List.forall_mem_cons.2 ⟨FCOk.of_go go77, ?_⟩
 refine List.forall_mem_cons.2 ⟨FCOk.of_go go79, ?_⟩
 refine List.forall_mem_cons.2 ⟨FCOk.of_go go82, ?_⟩
 refine List.forall_mem_cons.2 ⟨FCOk.of_go go83, ?_⟩
 refine List.forall_mem_cons.2 ⟨FCOk.of_go go84, ?_⟩
 refine List.forall_mem_cons.2 ⟨FCOk.of_go go87, ?_⟩
 refine List.forall_mem_cons.2 ⟨FCOk.of_go go88, ?_⟩
 refine List.forall_mem_cons.2 ⟨FCOk.of_go go90, ?_⟩
 refine List.forall_mem_cons.2 ⟨FCOk.of_go go91, ?_⟩
 refine List.forall_mem_cons.2 ⟨FCOk.of_go go92, ?_⟩
 refine List.forall_mem_cons.2 ⟨FCOk.of_go go93, ?_⟩
 refine List.forall_mem_cons.2 ⟨FCOk.of_go go94, ?_⟩
 refine List.forall_mem_cons.2 ⟨FCOk.of_go go95, ?_⟩
 refine List.forall_mem_cons.2 ⟨FCOk.of_go go96, ?_⟩
 refine List.forall_mem_cons.2 ⟨FCOk.of_go go97, ?_⟩
 refine List.forall_mem_cons.2 ⟨FCOk.of_go go98, ?_⟩
 refine List.forall_mem_cons.2 ⟨FCOk.of_go go99, ?_⟩
 refine List.forall_mem_cons.2 ⟨FCOk.of_go go100, ?_⟩
 refine List.forall_mem_cons.2 ⟨FCOk.of_go go101, ?_⟩
 refine List.forall_mem_cons.2 ⟨FCOk.of_go go102, ?_⟩
 refine List.forall_mem_cons.2 ⟨FCOk.of_go go108, ?_⟩
 refine List.forall_mem_cons.2 ⟨FCOk.of_go go110, ?_⟩
 refine List.forall_mem_cons.2 ⟨FCOk.of_go go111, ?_⟩
 refine List.forall_mem_cons.2 ⟨FCOk.of_go go112, ?_⟩
 refine List.forall_mem_cons.2 ⟨FCOk.of_go go113, ?_⟩
 refine List.forall_mem_cons.2 ⟨FCOk.of_go go114, ?_⟩
 refine List.forall_mem_cons.2 ⟨FCOk.of_go go115, ?_⟩
 refine List.forall_mem_cons.2 ⟨FCOk.of_go go121, ?_⟩
 refine List.forall_mem_cons.2 ⟨FCOk.of_go go123, ?_⟩
 refine List.forall_mem_cons.2 ⟨FCOk.of_go go124, ?_⟩
 refine List.forall_mem_cons.2 ⟨FCOk.of_go go125, ?_⟩
 refine List.forall_mem_cons.2 ⟨FCOk.of_go go138, ?_⟩
 refine List.forall_mem_cons.2 ⟨FCOk.of_go go140, ?_⟩
 refine List.forall_mem_cons.2 ⟨FCOk.of_go go146, ?_⟩
 exact fun _ h => by cases h
end Go.QZ
end
section
namespace Go.Abs
open Go.RowKit
variable {Φ : World → Prop} {g g' : Gh} {h : AHeap} {w : World}
theorem SEnt.freeze {n0 r s : Nat} {e : Env} {gr gr2 : Bool} {T T2 : TypeId} {esz esz2 : Nat} {els els2 els3 : List AV} (hn : n0 ≤ h.length) (hr : h[r]? = some (.cells gr T esz els)) (hs : h[s]? = some (.cells gr2 T2 esz2 els2)) (hne : r ≠ s)
    (hl : els2.length = els3.length) (hf : ∀ (i : Nat) (x y : AV), els2[i]? = some x → els3[i]? = some y → x.cells.length = y.cells.length ∧ ∀ (k : Nat) (c d : AV), x.cells[k]? = some c → y.cells[k]? = some d → Frz r esz els c d) :
    SEnt Φ n0 e h e ((h.set r .dead).set s (.cells gr2 T2 esz2 els3)) := by
  refine ⟨fun hl => by simpa using hl, fun g w a R E => ?_⟩
  obtain ⟨g', R', E', ks, kp⟩ := R.freeze hr
  have hs' : (h.set r .dead)[s]? = some (.cells gr2 T2 esz2 els2) := by rw [List.getElem?_set_ne hne]; exact hs
  have hsl := R.lt hs
  obtain ⟨k1, k2, k3, k4, cs, k5, k6, k7, k8, f, k9⟩ := R.blk s _ hs
  have R2 : Rel Φ g' ((h.set r .dead).set s (.cells gr2 T2 esz2 els3)) w := by
    have pair : ∀ (i : Nat) (y : AV), els3[i]? = some y → ∃ x, els2[i]? = some x := fun i y hy => by
      have : i < els2.length := by rw [hl]; exact (List.getElem?_eq_some_iff.1 hy).1
      exact ⟨els2[i], by simp [this]⟩
    obtain ⟨l1, l2, l3, l4, cs', l5, l6, l7, l8, f', l9⟩ := R'.blk s _ hs'
    refine ⟨fun t b hb => ?_, fun t u b c hb hc hlb hlc htu => ?_, R'.immv, R'.below, R'.base, R'.ok, R'.dfrv⟩
    · rw [List.length_set]
      by_cases hts : s = t
      · subst hts
        rw [List.getElem?_set_self (by simpa using hsl)] at hb
        cases hb
        have hcs : cs' = cs := by
          have e1 : g'.loc s = g.loc s := E'.loc s hsl
          rw [e1, k5] at l5
          simp only [Option.some.injEq] at l5
          cases l5; rfl
        refine ⟨l1, l2, l3, fun i y hy => ?_, cs', l5, l6, by omega, fun h => by have := l8 h; omega, f, fun i y j d hy hd => ?_⟩
        · obtain ⟨x, hx⟩ := pair i y hy
          have := (hf i x y hx hy).1
          have := l4 i x hx
          omega
        · obtain ⟨x, hx⟩ := pair i y hy
          obtain ⟨p1, p2⟩ := hf i x y hx hy
          have hj : j < x.cells.length := by rw [p1]; exact (List.getElem?_eq_some_iff.1 hd).1
          have hc : x.cells[j]? = some x.cells[j] := by simp [hj]
          obtain ⟨q1, q2, q3⟩ := k9 i x j _ hx hc
          rw [hcs, E'.esz s hsl]
          refine ⟨q1, q2, ?_⟩
          rw [List.length_set]
          exact (p2 j _ d hc hd).vr E' ks kp _ q3
      · rw [List.getElem?_set_ne hts] at hb
        exact R'.blk t b hb
    · have key : ∀ (t : Nat) (b : AB), ((h.set r .dead).set s (.cells gr2 T2 esz2 els3))[t]? = some b → b.live = true → ∃ b', (h.set r .dead)[t]? = some b' ∧ b'.live = true := by
        intro t b hb hl
        by_cases hts : s = t
        · subst hts; exact ⟨_, hs', rfl⟩
        · rw [List.getElem?_set_ne hts] at hb; exact ⟨b, hb, hl⟩
      obtain ⟨b', h1, h2⟩ := key t b hb hlb
      obtain ⟨c', h3, h4⟩ := key u c hc hlc
      exact R'.inj t u b' c' h1 h3 h2 h4 htu
  refine ⟨g', R2, ?_, E'.mono hn⟩
  simp only [List.length_set]
  exact E.ext E' (Nat.le_refl _)
theorem SEnt.trans {n0 : Nat} {e e1 e2 : Env} {h1 h2 : AHeap} (a : SEnt Φ n0 e h e1 h1) (b : SEnt Φ n0 e1 h1 e2 h2) : SEnt Φ n0 e h e2 h2 :=
  ⟨fun hl => b.1 (a.1 hl), fun g w x R E => by
    obtain ⟨g1, R1, E1, X1⟩ := a.2 g w x R E
    obtain ⟨g2, R2, E2, X2⟩ := b.2 g1 w x R1 E1
    exact ⟨g2, R2, E2, X1.trans X2 (Nat.le_refl _)⟩⟩
end Go.Abs
end
