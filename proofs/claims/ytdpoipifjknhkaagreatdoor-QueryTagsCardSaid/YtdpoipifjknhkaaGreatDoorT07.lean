/- A part of the proof of the card in the last text. -/
import Derived.Test.YtdpoipifjknhkaaGreatDoorT05
section
namespace Go.Abs
open Go.RowKit
variable {Φ : World → Prop}
theorem lget_rep {k : Nat} {c : AB} {l : List AB} {K : AB → Prop} (hk : K c) : lget (List.replicate k .dead ++ c :: l) k K := by
  induction k with
  | zero => exact hk
  | succ k ih => exact ih
theorem lput_rep {k : Nat} {b c : AB} {l : List AB} {K : List AB → Prop} (hk : K (List.replicate k .dead ++ b :: l)) : lput (List.replicate k .dead ++ c :: l) k b K := by
  rw [lput_eq]
  have : (List.replicate k AB.dead ++ c :: l).set k b = List.replicate k .dead ++ b :: l := by
    rw [List.set_append_right _ _ (by simp)]; simp
  rw [this]; exact hk
theorem rep_snoc (k : Nat) (l : List AB) : List.replicate k AB.dead ++ .dead :: l = List.replicate (k + 1) .dead ++ l := by
  induction k with
  | zero => rfl
  | succ k ih => simp [List.replicate_succ, ih]
theorem Rel.killAll {g : Gh} {w : World} {H l : AHeap} (R : Rel Φ g (H ++ l) w) : Rel Φ g (H ++ List.replicate l.length .dead) w := by
  suffices h : ∀ (a b : AHeap), Rel Φ g (H ++ (List.replicate b.length .dead ++ a)) w → Rel Φ g (H ++ (List.replicate (b.length + a.length) .dead)) w by
    have := h l [] (by simpa using R)
    simpa using this
  intro a
  induction a with
  | nil => intro b R; simpa using R
  | cons x a ih =>
    intro b R
    have h1 := R.kill (H.length + b.length)
    have e : (H ++ (List.replicate b.length AB.dead ++ x :: a)).set (H.length + b.length) .dead = H ++ (List.replicate (x :: b).length .dead ++ a) := by
      rw [List.set_append_right _ _ (by omega), List.set_append_right _ _ (by simp)]
      simp only [Nat.add_sub_cancel_left, List.length_replicate, Nat.sub_self, List.set_cons_zero, rep_snoc, List.length_cons]
    rw [e] at h1
    have := ih (x :: b) h1
    simpa [Nat.add_comm, Nat.add_left_comm, Nat.add_assoc] using this
theorem VR.same_len {g : Gh} {n m : Nat} {w : World} {a : AV} {v : Value} (h : VR g n w a v) (e : n = m) : VR g m w a v := e ▸ h
theorem S.kill_own {P : Program} {f : FuncId} {args : List AV} {H l : AHeap} {Q : AEnd → AHeap → Prop} {v : AV}
    (hs : S P Φ f args (H ++ l) fun r h' => r = .ret v ∧ ∃ l', h' = H ++ l') (hQ : ∀ n, Q (.ret v) (H ++ List.replicate n .dead)) : S P Φ f args (H ++ l) Q := by
  refine ⟨hs.ent, fun g w vs R V => (hs.run g w vs R V).mono ?_⟩
  rintro e w' ⟨g', h', r, ⟨rfl, l', rfl⟩, R', E', X', L'⟩
  refine ⟨g', H ++ List.replicate l'.length .dead, .ret v, hQ _, R'.killAll, ?_, X', by simpa using L'⟩
  cases e with
  | returned u => exact VR.same_len E' (by simp)
  | panicked c => exact E'.elim
  | outgrown => exact E'.elim
theorem halloc_b1 {H : AHeap} {B b : AB} {k : Nat} {K : Nat → AHeap → Prop} (hk : K (H.length + (k + 1)) (H ++ B :: (List.replicate k .dead ++ [b]))) : halloc (H ++ B :: List.replicate k .dead) b K := by
  refine halloc_of ?_
  simpa using hk
theorem halloc_b2 {H : AHeap} {B b : AB} {k : Nat} {K : Nat → AHeap → Prop} (hk : K (H.length + (k + 1 + 1)) (H ++ B :: (List.replicate (k + 1) .dead ++ [b]))) : halloc (H ++ B :: (List.replicate k .dead ++ [.dead])) b K := by
  refine halloc_of ?_
  have : H ++ B :: (List.replicate k .dead ++ [.dead]) ++ [b] = H ++ B :: (List.replicate (k + 1) .dead ++ [b]) := by
    rw [← rep_snoc]; simp
  rw [this]
  simpa [Nat.add_assoc] using hk
theorem hget_b {H l : AHeap} {B c : AB} {k : Nat} {K : AB → Prop} (hk : K c) : hget (H ++ B :: (List.replicate k .dead ++ c :: l)) (H.length + (k + 1)) K := hget_a (lget_rep (l := l) hk)
theorem hput_b {H l : AHeap} {B b c : AB} {k : Nat} {K : AHeap → Prop} (hk : K (H ++ B :: (List.replicate k .dead ++ b :: l))) : hput (H ++ B :: (List.replicate k .dead ++ c :: l)) (H.length + (k + 1)) b K :=
  hput_a (lput_rep (l := l) (k := k) (b := b) (c := c) (K := fun r => K (H ++ B :: r)) hk)
theorem SEnt.keep {n0 : Nat} {e : Env} {h : AHeap} (l : List Nat) : SEnt Φ n0 e h (e.keep (some l)) h := ⟨id, fun g _ _ R E => ⟨g, R, E.keep _, Ext.refl _ _ _⟩⟩
section
variable {H p l : AHeap} {b c : AB} {j m : Nat}
theorem hget_p {K : AB → Prop} (hk : lget p j K) : hget (H ++ (p ++ l)) (H.length + j) K := by
  obtain ⟨b, hb, hk⟩ := lget_some hk
  have hj := (List.getElem?_eq_some_iff.1 hb).1
  refine hget_of ?_ hk
  rw [List.getElem?_append_right (by omega), List.getElem?_append_left (by omega)]
  simpa using hb
def lputX : List AB → Nat → AB → (List AB → Prop) → Prop
  | _ :: asx, 0, x, K => K (x :: asx)
  | a :: asx, i + 1, x, K => lputX asx i x fun r => K (a :: r)
  | [], _, _, _ => False
theorem lputX_eq : ∀ (l : List AB) (i : Nat) (x : AB) (K : List AB → Prop), lputX l i x K → i < l.length ∧ K (l.set i x)
  | [], _, _, _, h => h.elim
  | _ :: _, 0, _, _, h => ⟨by simp, h⟩
  | _ :: asx, i + 1, x, K, h => by
    obtain ⟨h1, h2⟩ := lputX_eq asx i x _ h
    exact ⟨by simpa using h1, h2⟩
theorem hput_p {K : AHeap → Prop} (hk : lputX p j b fun p' => K (H ++ (p' ++ l))) : hput (H ++ (p ++ l)) (H.length + j) b K := by
  obtain ⟨hj, hk⟩ := lputX_eq _ _ _ _ hk
  refine hput_of ?_
  have e : (H ++ (p ++ l)).set (H.length + j) b = H ++ (p.set j b ++ l) := by
    rw [List.set_append_right _ _ (by omega), List.set_append_left _ _ (by omega)]
    simp
  rw [e]; exact hk
theorem hget_p0 {K : AB → Prop} (hk : lget p 0 K) : hget (H ++ (p ++ l)) H.length K := hget_p (j := 0) hk
theorem hput_p0 {K : AHeap → Prop} (hk : lputX p 0 b fun p' => K (H ++ (p' ++ l))) : hput (H ++ (p ++ l)) H.length b K := hput_p (j := 0) hk
theorem hget_q {K : AB → Prop} (hp : p.length = m) (hj : l[j]? = some c) (hk : K c) : hget (H ++ (p ++ l)) (H.length + (m + j)) K := by
  refine hget_of ?_ hk
  rw [List.getElem?_append_right (by omega), List.getElem?_append_right (by omega)]
  rw [show H.length + (m + j) - H.length - p.length = j by omega]; exact hj
theorem hput_q {K : AHeap → Prop} (hp : p.length = m) (hk : K (H ++ (p ++ l.set j b))) : hput (H ++ (p ++ l)) (H.length + (m + j)) b K := by
  refine hput_of ?_
  have e : (H ++ (p ++ l)).set (H.length + (m + j)) b = H ++ (p ++ l.set j b) := by
    rw [List.set_append_right _ _ (by omega), List.set_append_right _ _ (by omega)]
    rw [show H.length + (m + j) - H.length - p.length = j by omega]
  rw [e]; exact hk
theorem halloc_q {K : Nat → AHeap → Prop} (hp : p.length = m) (hk : K (H.length + (m + l.length)) (H ++ (p ++ (l ++ [b])))) : halloc (H ++ (p ++ l)) b K := by
  refine halloc_of ?_
  rw [List.append_assoc, List.append_assoc]
  have e : (H ++ (p ++ l)).length = H.length + (m + l.length) := by simp [hp]
  rw [e]; exact hk
end
def bytesA (l : List UInt8) : List AV := l.map fun b => .int .u8 b.toNat
@[simp] theorem bytesA_len (l : List UInt8) : (bytesA l).length = l.length := by simp [bytesA]
theorem bytesA_app (a b : List UInt8) : bytesA (a ++ b) = bytesA a ++ bytesA b := by simp [bytesA]
end Go.Abs
end
section
namespace Go.Abs
open Go.RowKit
inductive CB where
  | b (x : AB)
  | loop (st : LoopState) (pend : Option Code) (ps : List Nat) (N : Nat) (fz : List Nat) (aa ab : ACode) (e : Env)
structure CH where
  n : Nat
  l : List CB
def nth {α : Type} : List α → Nat → Option α
  | [], _ => none
  | a :: _, 0 => some a
  | _ :: asx, i + 1 => nth asx i
theorem nth_eq {α : Type} : ∀ (l : List α) (i : Nat), nth l i = l[i]?
  | [], _ => rfl
  | _ :: _, 0 => rfl
  | _ :: asx, i + 1 => by simp only [nth, List.getElem?_cons_succ]; exact nth_eq asx i
def upd {α : Type} : List α → Nat → α → List α
  | [], _, _ => []
  | _ :: asx, 0, x => x :: asx
  | a :: asx, i + 1, x => a :: upd asx i x
theorem upd_eq {α : Type} : ∀ (l : List α) (i : Nat) (x : α), upd l i x = l.set i x
  | [], _, _ => rfl
  | _ :: _, 0, _ => rfl
  | _ :: asx, i + 1, x => by simp only [upd, List.set_cons_succ]; rw [upd_eq asx i x]
def CH.get (H : CH) (r : Nat) : Option CB := bif Nat.blt r H.n then nth H.l (H.n - 1 - r) else none
def CH.set (H : CH) (r : Nat) (c : CB) : CH := ⟨H.n, upd H.l (H.n - 1 - r) c⟩
def CH.add (H : CH) (c : CB) : CH := ⟨H.n + 1, c :: H.l⟩
def CB.toAB (P : Program) : CB → AB
  | .b x => x
  | .loop st pend ps N fz aa ab e => .loop st pend (rangeX P ps N fz aa ab e)
def CH.heap (P : Program) (H : CH) : AHeap := (H.l.map (CB.toAB P)).reverse
def CH.wf (H : CH) : Prop := H.n = H.l.length
section
variable {P : Program} {H : CH}
theorem CH.heap_len (hw : H.wf) : (H.heap P).length = H.n := by
  unfold CH.heap; rw [List.length_reverse, List.length_map]; exact hw.symm
theorem CH.blt {a b : Nat} : Nat.blt a b = decide (a < b) := by
  unfold Nat.blt
  rw [Bool.eq_iff_iff]
  simp [Nat.ble_eq]
  omega
theorem CH.get_some {r : Nat} {c : CB} (h : H.get r = some c) : r < H.n ∧ H.l[H.n - 1 - r]? = some c := by
  unfold CH.get at h
  rw [CH.blt] at h
  by_cases hr : r < H.n
  · simp only [hr, decide_true, cond_true, nth_eq] at h; exact ⟨hr, h⟩
  · simp [hr] at h
theorem CH.heap_get (hw : H.wf) {r : Nat} {c : CB} (h : H.get r = some c) : (H.heap P)[r]? = some (c.toAB P) := by
  obtain ⟨hr, h⟩ := CH.get_some h
  have hw : H.n = H.l.length := hw
  unfold CH.heap
  rw [List.getElem?_reverse (by rw [List.length_map]; omega), List.length_map, ← hw, List.getElem?_map, h]; rfl
theorem CH.heap_set (hw : H.wf) {r : Nat} (hr : r < H.n) (c : CB) : (H.set r c).heap P = (H.heap P).set r (c.toAB P) := by
  have hw : H.n = H.l.length := hw
  unfold CH.heap CH.set
  simp only [upd_eq]
  apply List.ext_getElem?
  intro k
  rcases Nat.lt_or_ge k H.l.length with hk | hk
  · rw [List.getElem?_reverse (by simpa using hk), List.getElem?_set, List.getElem?_reverse (by simpa using hk)]
    simp only [List.length_map, List.length_set, List.length_reverse, List.getElem?_map, List.getElem?_set]
    by_cases hkr : r = k
    · subst hkr
      rw [if_pos (by omega), if_pos (by omega), if_pos rfl, if_pos hk]; rfl
    · rw [if_neg (by omega), if_neg hkr]
  · rw [List.getElem?_eq_none (by simpa using hk), List.getElem?_eq_none (by simpa using hk)]
theorem CH.wf_set (hw : H.wf) (r : Nat) (c : CB) : (H.set r c).wf := by
  unfold CH.wf CH.set; simp only [upd_eq, List.length_set]; exact hw
theorem CH.wf_add (hw : H.wf) (c : CB) : (H.add c).wf := by
  unfold CH.wf CH.add; simp only [List.length_cons]; rw [show H.n = H.l.length from hw]
theorem CH.heap_add (c : CB) : (H.add c).heap P = H.heap P ++ [c.toAB P] := by
  unfold CH.heap CH.add; simp
theorem CH.get_set {r s : Nat} (hr : r < H.n) (hs : s < H.n) (hw : H.wf) (c : CB) : (H.set r c).get s = if r = s then some c else H.get s := by
  have hw : H.n = H.l.length := hw
  unfold CH.get CH.set
  simp only [CH.blt, hs, decide_true, cond_true, nth_eq, upd_eq, List.getElem?_set]
  by_cases h : r = s
  · subst h; rw [if_pos rfl, if_pos rfl, if_pos (by omega)]
  · rw [if_neg h, if_neg (by omega)]
theorem CH.get_add {r : Nat} (hr : r < H.n) (c : CB) : (H.add c).get r = H.get r := by
  unfold CH.get CH.add
  simp only [CH.blt, hr, show r < H.n + 1 by omega, decide_true, cond_true, nth_eq]
  rw [show H.n + 1 - 1 - r = (H.n - 1 - r) + 1 by omega, List.getElem?_cons_succ]
end
structure Mono (H H' : CH) : Prop where
  n : H.n ≤ H'.n
  dead : ∀ r, H.get r = some (.b .dead) → H'.get r = some (.b .dead)
  kp : ∀ r st pend ps N fz aa ab e, H.get r = some (.loop st pend ps N fz aa ab e) → H'.get r = some (.b .dead) ∨ ∃ st' pend', H'.get r = some (.loop st' pend' ps N fz aa ab e)
theorem Mono.refl (H : CH) : Mono H H := ⟨Nat.le_refl _, fun _ h => h, fun _ st pend _ _ _ _ _ _ h => .inr ⟨st, pend, h⟩⟩
theorem Mono.trans {H H1 H2 : CH} (a : Mono H H1) (b : Mono H1 H2) : Mono H H2 :=
  ⟨Nat.le_trans a.n b.n, fun r h => b.dead r (a.dead r h), fun r st pend ps N fz aa ab e h => by
    rcases a.kp r st pend ps N fz aa ab e h with h1 | ⟨st1, pend1, h1⟩
    · exact .inl (b.dead r h1)
    · exact b.kp r _ _ _ _ _ _ _ _ h1⟩
theorem Mono.add (H : CH) (c : CB) : Mono H (H.add c) :=
  ⟨by simp [CH.add], fun r h => by rw [CH.get_add (CH.get_some h).1]; exact h, fun r st pend ps N fz aa ab e h => .inr ⟨st, pend, by rw [CH.get_add (CH.get_some h).1]; exact h⟩⟩
theorem Mono.set {H : CH} (hw : H.wf) {r : Nat} {x : AB} (h : H.get r = some (.b x)) (hx : x ≠ .dead) (y : AB) : Mono H (H.set r (.b y)) :=
  have hr := (CH.get_some h).1
  ⟨Nat.le_refl _, fun s hs => by
    rw [CH.get_set hr (CH.get_some hs).1 hw]
    split
    · rename_i e; subst e; rw [h] at hs; cases hs; exact absurd rfl hx
    · exact hs, fun s st pend ps N fz aa ab e hs => .inr ⟨st, pend, by
    rw [CH.get_set hr (CH.get_some hs).1 hw]
    split
    · rename_i e; subst e; rw [h] at hs; cases hs
    · exact hs⟩⟩
theorem Mono.setL {H : CH} (hw : H.wf) {r : Nat} {st : LoopState} {pend : Option Code} {ps : List Nat} {N : Nat} {fz : List Nat} {aa ab : ACode} {e : Env} (h : H.get r = some (.loop st pend ps N fz aa ab e)) (st' : LoopState) (pend' : Option Code) :
    Mono H (H.set r (.loop st' pend' ps N fz aa ab e)) :=
  have hr := (CH.get_some h).1
  ⟨Nat.le_refl _, fun s hs => by
    rw [CH.get_set hr (CH.get_some hs).1 hw]
    split
    · rename_i e; subst e; rw [h] at hs; cases hs
    · exact hs, fun s st2 pend2 ps2 N2 fz2 aa2 ab2 e2 hs => by
    rw [CH.get_set hr (CH.get_some hs).1 hw]
    split
    · rename_i e; subst e; rw [h] at hs; cases hs; exact .inr ⟨_, _, rfl⟩
    · exact .inr ⟨_, _, hs⟩⟩
theorem Mono.kill {H : CH} (hw : H.wf) {r : Nat} (hr : r < H.n) : Mono H (H.set r (.b .dead)) :=
  ⟨Nat.le_refl _, fun s hs => by
    rw [CH.get_set hr (CH.get_some hs).1 hw]
    split
    · rfl
    · exact hs, fun s st pend ps N fz aa ab e hs => by
    rw [CH.get_set hr (CH.get_some hs).1 hw]
    split
    · exact .inl rfl
    · exact .inr ⟨_, _, hs⟩⟩
theorem Mono.same {H H' : CH} (m : Mono H H') {r : Nat} {st st' : LoopState} {pend pend' : Option Code} {ps ps' : List Nat} {N N' : Nat} {fz fz' : List Nat} {aa ab aa' ab' : ACode} {e e' : Env} (h : H.get r = some (.loop st pend ps N fz aa ab e))
    (h' : H'.get r = some (.loop st' pend' ps' N' fz' aa' ab' e')) : ps' = ps ∧ N' = N ∧ fz' = fz ∧ aa' = aa ∧ ab' = ab ∧ e' = e := by
  rcases m.kp _ _ _ _ _ _ _ _ _ h with h1 | ⟨st1, pend1, h1⟩
  · rw [h1] at h'; cases h'
  · rw [h1] at h'; cases h'; exact ⟨rfl, rfl, rfl, rfl, rfl, rfl⟩
def closedV : Nat → AV → Bool
  | 0, _ => false
  | _ + 1, .bool _ | _ + 1, .int _ _ | _ + 1, .str _ | _ + 1, .nilp | _ + 1, .nils | _ + 1, .nilm | _ + 1, .nilf | _ + 1, .nili => true
  | m + 1, .agg l | m + 1, .tup l => l.all (closedV m)
  | m + 1, .lst _ l => l.all (closedV m)
  | m + 1, .lptr v _ => closedV m v
  | m + 1, .iface _ v => closedV m v
  | m + 1, .fn _ a b => a.all (closedV m) && b.all (closedV m)
  | _, _ => false
def plainV : Nat → AV → Bool
  | 0, _ => false
  | _ + 1, .bool _ | _ + 1, .int _ _ | _ + 1, .str _ | _ + 1, .nilp | _ + 1, .nils | _ + 1, .nilm | _ + 1, .nilf | _ + 1, .nili => true
  | m + 1, .agg l | m + 1, .tup l => l.all (plainV m)
  | m + 1, .iface _ v => plainV m v
  | _, _ => false
theorem closedV_cells {m : Nat} {v : AV} (h : closedV (m + 1) v = true) : ∀ c ∈ v.cells, closedV (m + 1) c = true ∨ closedV m c = true := by
  intro c hc
  cases v with
  | agg l => right; simp only [closedV, List.all_eq_true] at h; exact h c hc
  | _ => left; simp only [AV.cells, List.mem_singleton] at hc; subst hc; exact h
theorem VR.closed {g g' : Gh} {n n' : Nat} {w : World} {a : AV} {v : Value} (hi : ∀ b o, g.imm b o → g'.imm b o) (h : VR g n w a v) : (∃ m, closedV m a = true) → VR g' n' w a v := by
  have key : ∀ {c : AV}, (∃ m, closedV m c = true) → ∀ d ∈ c.cells, ∃ m, closedV m d = true := by
    rintro c ⟨m, hm⟩ d hd
    cases m with
    | zero => simp [closedV] at hm
    | succ m => rcases closedV_cells hm d hd with h | h <;> exact ⟨_, h⟩
  induction h with
  | any v => rintro ⟨m, hm⟩; cases m <;> simp [closedV] at hm
  | bool b => exact fun _ => .bool b
  | int k i => exact fun _ => .int k i
  | str l => exact fun _ => .str l
  | nilp => exact fun _ => .nilp
  | ptr r i o h => rintro ⟨m, hm⟩; cases m <;> simp [closedV] at hm
  | lptr v o b off f h1 h2 ih =>
    rintro ⟨m, hm⟩
    cases m with
    | zero => simp [closedV] at hm
    | succ m => exact .lptr v o b off f (fun j c hj => ⟨hi _ _ (h1 j c hj).1, (h1 j c hj).2⟩) fun j c hj => ih j c hj (key ⟨m, by simpa [closedV] using hm⟩ c (List.mem_of_getElem? hj))
  | sl r i m k c h hm hc hk => rintro ⟨m, hm⟩; cases m <;> simp [closedV] at hm
  | lst sz els b off c f hc h0 h1 h2 ih =>
    rintro ⟨m, hm⟩
    cases m with
    | zero => simp [closedV] at hm
    | succ m =>
      simp only [closedV, List.all_eq_true] at hm
      exact .lst sz els b off c f hc h0 (fun i e j a he ha => ⟨hi _ _ (h1 i e j a he ha).1, (h1 i e j a he ha).2⟩) fun i e j a he ha => ih i e j a he ha (key ⟨m, hm e (List.mem_of_getElem? he)⟩ a (List.mem_of_getElem? ha))
  | lst0 sz p c => exact fun _ => .lst0 sz p c
  | nils => exact fun _ => .nils
  | map r h => rintro ⟨m, hm⟩; cases m <;> simp [closedV] at hm
  | nilm => exact fun _ => .nilm
  | fn f asx cs vs us h1 h2 _ _ ih3 ih4 =>
    rintro ⟨m, hm⟩
    cases m with
    | zero => simp [closedV] at hm
    | succ m =>
      simp only [closedV, Bool.and_eq_true, List.all_eq_true] at hm
      exact .fn f asx cs vs us h1 h2 (fun i a v ha hv => ih3 i a v ha hv ⟨m, hm.1 a (List.mem_of_getElem? ha)⟩) (fun i a v ha hv => ih4 i a v ha hv ⟨m, hm.2 a (List.mem_of_getElem? ha)⟩)
  | yld r h => rintro ⟨m, hm⟩; cases m <;> simp [closedV] at hm
  | nilf => exact fun _ => .nilf
  | iface t a v _ ih => rintro ⟨m, hm⟩; cases m with | zero => simp [closedV] at hm | succ m => exact .iface t a v (ih ⟨m, by simpa [closedV] using hm⟩)
  | nili => exact fun _ => .nili
  | agg asx vs h1 _ h3 ih =>
    rintro ⟨m, hm⟩
    cases m with
    | zero => simp [closedV] at hm
    | succ m => simp only [closedV, List.all_eq_true] at hm; exact .agg asx vs h1 (fun i a v ha hv => ih i a v ha hv ⟨m, hm a (List.mem_of_getElem? ha)⟩) h3
  | tup asx vs h1 _ ih =>
    rintro ⟨m, hm⟩
    cases m with
    | zero => simp [closedV] at hm
    | succ m => simp only [closedV, List.all_eq_true] at hm; exact .tup asx vs h1 (fun i a v ha hv => ih i a v ha hv ⟨m, hm a (List.mem_of_getElem? ha)⟩)
theorem VR.plain {g g' : Gh} {n n' : Nat} {w w' : World} {a : AV} {v : Value} (h : VR g n w a v) : (∃ m, plainV m a = true) → VR g' n' w' a v := by
  induction h with
  | any v => rintro ⟨m, hm⟩; cases m <;> simp [plainV] at hm
  | bool b => exact fun _ => .bool b
  | int k i => exact fun _ => .int k i
  | str l => exact fun _ => .str l
  | nilp => exact fun _ => .nilp
  | ptr r i o h => rintro ⟨m, hm⟩; cases m <;> simp [plainV] at hm
  | lptr v o b off f h1 h2 ih => rintro ⟨m, hm⟩; cases m <;> simp [plainV] at hm
  | sl r i m k c h hm hc hk => rintro ⟨m, hm⟩; cases m <;> simp [plainV] at hm
  | lst sz els b off c f hc h0 h1 h2 ih => rintro ⟨m, hm⟩; cases m <;> simp [plainV] at hm
  | lst0 sz p c => rintro ⟨m, hm⟩; cases m <;> simp [plainV] at hm
  | nils => exact fun _ => .nils
  | map r h => rintro ⟨m, hm⟩; cases m <;> simp [plainV] at hm
  | nilm => exact fun _ => .nilm
  | fn f asx cs vs us h1 h2 _ _ ih3 ih4 => rintro ⟨m, hm⟩; cases m <;> simp [plainV] at hm
  | yld r h => rintro ⟨m, hm⟩; cases m <;> simp [plainV] at hm
  | nilf => exact fun _ => .nilf
  | iface t a v _ ih => rintro ⟨m, hm⟩; cases m with | zero => simp [plainV] at hm | succ m => exact .iface t a v (ih ⟨m, by simpa [plainV] using hm⟩)
  | nili => exact fun _ => .nili
  | agg asx vs h1 _ h3 ih =>
    rintro ⟨m, hm⟩
    cases m with
    | zero => simp [plainV] at hm
    | succ m => simp only [plainV, List.all_eq_true] at hm; exact .agg asx vs h1 (fun i a v ha hv => ih i a v ha hv ⟨m, hm a (List.mem_of_getElem? ha)⟩) h3
  | tup asx vs h1 _ ih =>
    rintro ⟨m, hm⟩
    cases m with
    | zero => simp [plainV] at hm
    | succ m => simp only [plainV, List.all_eq_true] at hm; exact .tup asx vs h1 (fun i a v ha hv => ih i a v ha hv ⟨m, hm a (List.mem_of_getElem? ha)⟩)
theorem S_fresh {P : Program} {Φ : World → Prop} (hΦ : ∀ b w w', Φ w → w.heap.size ≤ b → Below b w w' → Φ w') {f : FuncId} {args : List AV} {v : AV} {k : Nat} (hs : S P Φ f args [] fun r _ => r = .ret v) (hc : args.all (closedV k) = true) (hp : plainV k v = true) (h : AHeap) :
    S P Φ f args h fun r h' => r = .ret v ∧ h' = h := by
  refine ⟨hs.ent, fun g w vs R V => ?_⟩
  have R0 : Rel Φ { g with base := w.heap.size, w0 := w } [] w := by
    refine ⟨fun r b hr => by simp at hr, fun r s b c hr => by simp at hr, R.immv, Below.refl _ _, Nat.le_refl _, ?_, R.dfrv⟩
    exact ⟨hΦ _ _ _ R.ok.1 R.ok.2 R.below, Nat.le_refl _⟩
  have V0 : VRs { g with base := w.heap.size, w0 := w } ([] : AHeap).length w args vs :=
    ⟨V.1, fun i a u ha hu => VR.closed (g := g) (fun _ _ h => h) (V.2 i a u ha hu) ⟨k, List.all_eq_true.1 hc a (List.mem_of_getElem? ha)⟩⟩
  refine (hs.run _ w vs R0 V0).mono ?_
  rintro e w' ⟨g1, h1, r, rfl, R1, E1, X1, _⟩
  have hb : Below w.heap.size w w' := by
    have := R1.below
    rw [X1.base, X1.w0] at this; exact this
  obtain ⟨R2, X2⟩ := R.beside hb
  refine ⟨g, h, .ret v, ⟨rfl, rfl⟩, R2, ?_, X2, Nat.le_refl _⟩
  cases e with
  | returned u => exact VR.plain E1 ⟨k, hp⟩
  | panicked c => exact E1.elim
  | outgrown => exact E1.elim
theorem S.more {P : Program} {Φ Φ' : World → Prop} (hi : ∀ w, Φ' w → Φ w) {f : FuncId} {args : List AV} {h : AHeap} {Q : AEnd → AHeap → Prop} (hs : S P Φ f args h Q) : S P Φ' f args h Q := by
  refine ⟨hs.ent, fun g w vs R V => (hs.run g w vs ⟨R.blk, R.inj, R.immv, R.below, R.base, ⟨hi _ R.ok.1, R.ok.2⟩, R.dfrv⟩ V).mono ?_⟩
  rintro e w' ⟨g', h', r, hq, R', hE, hx, hl⟩
  exact ⟨g', h', r, hq, ⟨R'.blk, R'.inj, R'.immv, R'.below, R'.base, by rw [hx.base, hx.w0]; exact R.ok, R'.dfrv⟩, hE, hx, hl⟩
def intEq : Int → Int → Bool
  | .ofNat a, .ofNat b => Nat.beq a b
  | .negSucc a, .negSucc b => Nat.beq a b
  | _, _ => false
theorem intEq_eq {a b : Int} (h : intEq a b = true) : a = b := by
  cases a <;> cases b <;> simp only [intEq] at h <;> first | (cases h; done) | (rw [Nat.eq_of_beq_eq_true h])
def all2 {α : Type} (p : α → α → Bool) : List α → List α → Bool
  | [], [] => true
  | a :: asx, b :: bs => p a b && all2 p asx bs
  | _, _ => false
theorem all2_eq {α : Type} {p : α → α → Bool} (hp : ∀ a b, p a b = true → a = b) : ∀ {l r : List α}, all2 p l r = true → l = r
  | [], [], _ => rfl
  | a :: asx, b :: bs, h => by
    simp only [all2, Bool.and_eq_true] at h
    rw [hp a b h.1, all2_eq hp h.2]
def avEq : Nat → AV → AV → Bool
  | 0, _, _ => false
  | _ + 1, .bool a, .bool b => a == b
  | _ + 1, .int k a, .int k' b => kEq k k' && intEq a b
  | _ + 1, .str a, .str b => a == b
  | _ + 1, .nilp, .nilp | _ + 1, .nils, .nils | _ + 1, .nilm, .nilm | _ + 1, .nilf, .nilf | _ + 1, .nili, .nili => true
  | _ + 1, .ptr r i o, .ptr r' i' o' => Nat.beq r r' && Nat.beq i i' && Nat.beq o o'
  | m + 1, .lptr v o, .lptr v' o' => avEq m v v' && Nat.beq o o'
  | _ + 1, .sl r i n none, .sl r' i' n' none => Nat.beq r r' && Nat.beq i i' && Nat.beq n n'
  | _ + 1, .sl r i n (some c), .sl r' i' n' (some c') => Nat.beq r r' && Nat.beq i i' && Nat.beq n n' && Nat.beq c c'
  | m + 1, .lst s l, .lst s' l' => Nat.beq s s' && all2 (avEq m) l l'
  | _ + 1, .map r, .map r' => Nat.beq r r'
  | _ + 1, .yld r, .yld r' => Nat.beq r r'
  | m + 1, .fn f a b, .fn f' a' b' => Nat.beq f f' && all2 (avEq m) a a' && all2 (avEq m) b b'
  | m + 1, .iface t v, .iface t' v' => Nat.beq t t' && avEq m v v'
  | m + 1, .agg l, .agg l' => all2 (avEq m) l l'
  | m + 1, .tup l, .tup l' => all2 (avEq m) l l'
  | _ + 1, _, _ => false
theorem avEq_eq : ∀ (m : Nat) (a b : AV), avEq m a b = true → a = b
  | 0, _, _, h => by simp [avEq] at h
  | m + 1, a, b, h => by
    have ih := avEq_eq m
    have il : ∀ {l r : List AV}, all2 (avEq m) l r = true → l = r := all2_eq ih
    have fe : ∀ {x y : FuncId}, Nat.beq x y = true → x = y := fun h => Nat.eq_of_beq_eq_true h
    have te : ∀ {x y : TypeId}, Nat.beq x y = true → x = y := fun h => Nat.eq_of_beq_eq_true h
    have ne : ∀ {x y : Nat}, Nat.beq x y = true → x = y := fun h => Nat.eq_of_beq_eq_true h
    cases a <;> cases b <;> (try simp only [avEq, Bool.and_eq_true, beq_iff_eq, Bool.false_eq_true] at h)
    case sl.sl r i n c r' i' n' c' =>
      cases c <;> cases c' <;> simp only [avEq, Bool.and_eq_true, Bool.false_eq_true] at h
      · rw [ne h.1.1, ne h.1.2, ne h.2]
      · rw [ne h.1.1.1, ne h.1.1.2, ne h.1.2, ne h.2]
    case bool.bool => rw [h]
    case int.int => rw [(kEq_iff _ _).1 h.1, intEq_eq h.2]
    case str.str => rw [h]
    case ptr.ptr => rw [ne h.1.1, ne h.1.2, ne h.2]
    case lptr.lptr => rw [ih _ _ h.1, ne h.2]
    case lst.lst => rw [ne h.1, il h.2]
    case map.map => rw [ne h]
    case fn.fn => rw [fe h.1.1, il h.1.2, il h.2]
    case yld.yld => rw [ne h]
    case iface.iface => rw [te h.1, ih _ _ h.2]
    case agg.agg => rw [il h]
    case tup.tup => rw [il h]
    all_goals rfl
end Go.Abs
end
section
namespace Go.Abs
open Go.RowKit
inductive Out where
  | ok (v : AV) (H : CH)
  | pan (v : AV) (H : CH)
  | no
def ofO (H : CH) : Option AV → Out
  | some v => .ok v H
  | none => .no
def CH.els (H : CH) (r : Nat) : Option (List AV) := match H.get r with
  | some (.b (.cells _ _ _ els)) => some els
  | _ => none
def CH.esz (H : CH) (r : Nat) : Option Nat := match H.get r with
  | some (.b (.cells _ _ sz _)) => some sz
  | _ => none
def CH.ents (H : CH) (r : Nat) : Option (List (AV × AV)) := match H.get r with
  | some (.b (.map l)) => some l
  | _ => none
def intNonneg : Int → Bool
  | .ofNat _ => true
  | .negSucc _ => false
theorem intNonneg_spec {b : Int} (h : intNonneg b = true) : 0 ≤ b := by cases b with | ofNat n => simp | negSucc n => cases h
def vbinI (op : BinOp) (k : IntKind) (a b : Int) : Option AV :=
  match op with
  | .and | .or | .xor | .andNot => some (.int k (bitsI op k a b))
  | .add => some (.int k (k.wrap (a + b)))
  | .sub => some (.int k (k.wrap (a - b)))
  | .mul => some (.int k (k.wrap (a * b)))
  | .quo => bif intEq b 0 then none else some (.int k (k.wrap (a.tdiv b)))
  | .rem => bif intEq b 0 then none else some (.int k (a.tmod b))
  | .eql => some (.bool (a == b))
  | .neq => some (.bool (a != b))
  | .lss => some (.bool (a < b))
  | .leq => some (.bool (a ≤ b))
  | .gtr => some (.bool (a > b))
  | .geq => some (.bool (a ≥ b))
  | _ => none
def vbin (tk : TK) (op : BinOp) (x y : AV) : Option AV :=
  match x, y with
  | .int k a, .int k' b => bif BinOp.isShift op then (bif intNonneg b then some (.int k (shiftI op k a b)) else none) else bif kEq k k' then vbinI op k a b else none
  | .str a, .str b =>
    match op with
    | .add => bif Nat.ble (a.length + b.length) 9223372036854775807 then some (.str (a ++ b)) else none
    | .eql => some (.bool (a == b))
    | .neq => some (.bool (!(a == b)))
    | .lss => some (.bool (Op.bytesLess a b))
    | .leq => some (.bool (Op.bytesLess a b || a == b))
    | .gtr => some (.bool (!(Op.bytesLess a b || a == b)))
    | .geq => some (.bool (!(Op.bytesLess a b)))
    | _ => none
  | .bool a, .bool b =>
    match tk, op with
    | .bool, .eql => some (.bool (a == b))
    | .bool, .neq => some (.bool (!(a == b)))
    | _, _ => none
  | _, _ => none
theorem intEq_refl (b : Int) : intEq b b = true := by cases b <;> simp [intEq, Nat.beq_refl]
theorem vbin_sound {tk : TK} {op : BinOp} {x y v : AV} (h : vbin tk op x y = some v) {K : AV → Prop} (hk : K v) : abin tk op x y K := by
  unfold vbin at h
  split at h
  · rename_i k a k' b
    cases hsh : BinOp.isShift op with
    | true =>
      rw [hsh] at h
      simp only [cond_true] at h
      cases hb : intNonneg b with
      | false => rw [hb] at h; cases h
      | true => rw [hb] at h; cases h; simp only [abin, hsh, cond_true]; exact ⟨intNonneg_spec hb, hk⟩
    | false =>
    rw [hsh] at h
    simp only [cond_false] at h
    cases hkk : kEq k k' with
    | false => rw [hkk] at h; cases h
    | true =>
      rw [hkk] at h
      simp only [cond_true] at h
      have e := (kEq_iff _ _).1 hkk
      subst e
      cases op <;> simp only [vbinI, Option.some.injEq, reduceCtorEq] at h <;> simp only [BinOp.isShift, Bool.true_eq_false] at hsh <;> simp only [abin, BinOp.isShift, cond_false, true_and]
      case quo =>
        cases hb : intEq b 0 with
        | true => rw [hb] at h; cases h
        | false =>
          rw [hb] at h; cases h
          exact ⟨fun e => by subst e; simp [intEq_refl] at hb, hk⟩
      case rem =>
        cases hb : intEq b 0 with
        | true => rw [hb] at h; cases h
        | false =>
          rw [hb] at h; cases h
          exact ⟨fun e => by subst e; simp [intEq_refl] at hb, hk⟩
      all_goals (subst h; exact hk)
  · rename_i a b
    cases op <;> simp only [Option.some.injEq, reduceCtorEq] at h <;> simp only [abin]
    case add =>
      cases hb : Nat.ble (a.length + b.length) 9223372036854775807 with
      | false => rw [hb] at h; cases h
      | true => rw [hb] at h; cases h; exact ⟨Nat.le_of_ble_eq_true hb, hk⟩
    all_goals (subst h; exact hk)
  · rename_i a b
    cases tk <;> cases op <;> simp only [Option.some.injEq, reduceCtorEq] at h <;> simp only [abin] <;> (subst h; exact hk)
  · cases h
def vbinNil (tk : TK) (op : BinOp) (x : AV) : Option AV :=
  match op, x.isNil tk with
  | .eql, some b => some (.bool b)
  | .neq, some b => some (.bool (!b))
  | _, _ => none
theorem vbinNil_sound {tk : TK} {op : BinOp} {x v : AV} (h : vbinNil tk op x = some v) {K : AV → Prop} (hk : K v) : abinNil tk op x K := by
  unfold vbinNil at h
  unfold abinNil
  split at h
  · rename_i b hb; cases h; simp only [hb]; exact hk
  · rename_i b hb; cases h; simp only [hb]; exact hk
  · cases h
def vsrc (H : CH) (esz : Nat) (x : AV) : Option (List AV) :=
  match x with
  | .lst sz els => bif Nat.beq sz esz then some els else none
  | .nils => some []
  | .str l => bif Nat.beq esz 1 then some (l.map fun b => .int .u8 b.toNat) else none
  | .sl r i m _ => match H.get r with
    | some (.b (.cells _ _ sz els)) => bif Nat.beq sz esz && Nat.ble (i + m) els.length then some ((els.drop i).take m) else none
    | _ => none
  | _ => none
def vsliceS (x : AV) (lo hi : Option AV) : Option AV :=
  match x with
  | .str l => match lo, hi with
    | some (.int _ (.ofNat a)), some (.int _ (.ofNat b)) => bif Nat.ble a b && Nat.ble b l.length then some (.str ((l.drop a).take (b - a))) else none
    | some (.int _ (.ofNat a)), none => bif Nat.ble a l.length then some (.str (l.drop a)) else none
    | none, some (.int _ (.ofNat b)) => bif Nat.ble b l.length then some (.str (l.take b)) else none
    | none, none => some (.str l)
    | _, _ => none
  | _ => none
theorem vsliceS_sound {x v : AV} {lo hi : Option AV} (h : vsliceS x lo hi = some v) {K : AV → Prop} (hk : K v) : asliceS x lo hi K := by
  unfold vsliceS at h
  split at h
  · rename_i l
    split at h
    · rename_i k a k' b
      cases hb : (Nat.ble a b && Nat.ble b l.length) with
      | false => rw [hb] at h; cases h
      | true =>
        rw [hb] at h; cases h
        simp only [Bool.and_eq_true, Nat.ble_eq] at hb
        refine ⟨?_, ?_, ?_, ?_⟩
        · simp
        · exact Int.ofNat_le.2 hb.1
        · exact Int.ofNat_le.2 hb.2
        · exact hk
    · rename_i k a
      cases hb : Nat.ble a l.length with
      | false => rw [hb] at h; cases h
      | true => rw [hb] at h; cases h; exact ⟨by simp, Int.ofNat_le.2 (Nat.le_of_ble_eq_true hb), hk⟩
    · rename_i k b
      cases hb : Nat.ble b l.length with
      | false => rw [hb] at h; cases h
      | true => rw [hb] at h; cases h; exact ⟨by simp, Int.ofNat_le.2 (Nat.le_of_ble_eq_true hb), hk⟩
    · cases h; exact hk
    · cases h
  · cases h
def vslice (H : CH) (esz : Nat) (x : AV) (lo hi : Option AV) : Option AV :=
  match x with
  | .lst sz l => bif Nat.beq sz esz then (match lo, hi with
    | some (.int _ (.ofNat a)), some (.int _ (.ofNat b)) => bif Nat.ble a b && Nat.ble b l.length then some (.lst sz ((l.drop a).take (b - a))) else none
    | some (.int _ (.ofNat a)), none => bif Nat.ble a l.length then some (.lst sz (l.drop a)) else none
    | none, some (.int _ (.ofNat b)) => bif Nat.ble b l.length then some (.lst sz (l.take b)) else none
    | none, none => some (.lst sz l)
    | _, _ => none) else none
  | .sl r i m c => match H.esz r with
    | none => none
    | some sz => bif Nat.beq sz esz then (match lo, hi with
      | some (.int _ (.ofNat a)), some (.int _ (.ofNat b)) => bif Nat.ble a b && Nat.ble b m then (bif Nat.beq a b then some (.lst esz []) else some (.sl r (i + a) (b - a) none)) else none
      | some (.int _ (.ofNat a)), none => bif Nat.ble a m then (bif Nat.beq a m then some (.lst esz []) else some (.sl r (i + a) (m - a) none)) else none
      | none, some (.int _ (.ofNat b)) => bif Nat.ble b m then some (.sl r i b none) else none
      | none, none => some (.sl r i m c)
      | _, _ => none) else none
  | .nils => match lo, hi with
    | none, none => some .nils
    | _, _ => none
  | _ => none
section
variable {P : Program} {Φ : World → Prop}
theorem CH.els_spec {H : CH} (hw : H.wf) {r : Nat} {els : List AV} (h : H.els r = some els) : ∃ gr T sz, H.get r = some (.b (.cells gr T sz els)) ∧ (H.heap P)[r]? = some (.cells gr T sz els) := by
  unfold CH.els at h
  split at h
  · rename_i gr T sz els' hg; cases h; exact ⟨gr, T, sz, hg, CH.heap_get hw hg⟩
  · cases h
theorem CH.esz_spec {H : CH} (hw : H.wf) {r sz : Nat} (h : H.esz r = some sz) : eszOf (H.heap P) r = some sz := by
  unfold CH.esz at h
  split at h
  · rename_i gr T sz' els hg; cases h; unfold eszOf; rw [CH.heap_get hw hg]; rfl
  · cases h
theorem CH.ents_spec {H : CH} (hw : H.wf) {r : Nat} {l : List (AV × AV)} (h : H.ents r = some l) : H.get r = some (.b (.map l)) ∧ (H.heap P)[r]? = some (.map l) := by
  unfold CH.ents at h
  split at h
  · rename_i l' hg; cases h; exact ⟨hg, CH.heap_get hw hg⟩
  · cases h
theorem beqT {a b : Nat} (h : Nat.beq a b = true) : a = b := Nat.eq_of_beq_eq_true h
theorem vsrc_sound {H : CH} (hw : H.wf) {esz : Nat} {x : AV} {l : List AV} (h : vsrc H esz x = some l) {K : List AV → Prop} (hk : K l) : srcOf (H.heap P) esz x K := by
  unfold vsrc at h
  split at h
  · rename_i sz els
    cases hb : Nat.beq sz esz with
    | false => rw [hb] at h; cases h
    | true => rw [hb] at h; cases h; exact ⟨beqT hb, hk⟩
  · cases h; exact hk
  · rename_i s
    cases hb : Nat.beq esz 1 with
    | false => rw [hb] at h; cases h
    | true => rw [hb] at h; cases h; exact ⟨beqT hb, hk⟩
  · rename_i r i m c
    split at h
    · rename_i gr T sz els hg
      cases hb : (Nat.beq sz esz && Nat.ble (i + m) els.length) with
      | false => rw [hb] at h; cases h
      | true =>
        rw [hb] at h; cases h
        simp only [Bool.and_eq_true, Nat.ble_eq] at hb
        simp only [srcOf, CH.heap_get hw hg, CB.toAB]
        exact ⟨beqT hb.1, hb.2, hk⟩
    · cases h
  · cases h
theorem vslice_sound {H : CH} (hw : H.wf) {esz : Nat} {x v : AV} {lo hi : Option AV} (h : vslice H esz x lo hi = some v) {K : AV → Prop} (hk : K v) : aslice (H.heap P) esz x lo hi K := by
  unfold vslice at h
  split at h
  · rename_i sz l
    cases hs : Nat.beq sz esz with
    | false => rw [hs] at h; cases h
    | true =>
      rw [hs] at h
      simp only [cond_true] at h
      refine ⟨beqT hs, ?_⟩
      split at h
      · rename_i k a k' b
        cases hb : (Nat.ble a b && Nat.ble b l.length) with
        | false => rw [hb] at h; cases h
        | true =>
          rw [hb] at h; cases h
          simp only [Bool.and_eq_true, Nat.ble_eq] at hb
          exact ⟨by simp, Int.ofNat_le.2 hb.1, Int.ofNat_le.2 hb.2, hk⟩
      · rename_i k a
        cases hb : Nat.ble a l.length with
        | false => rw [hb] at h; cases h
        | true => rw [hb] at h; cases h; exact ⟨by simp, Int.ofNat_le.2 (Nat.le_of_ble_eq_true hb), hk⟩
      · rename_i k b
        cases hb : Nat.ble b l.length with
        | false => rw [hb] at h; cases h
        | true => rw [hb] at h; cases h; exact ⟨by simp, Int.ofNat_le.2 (Nat.le_of_ble_eq_true hb), hk⟩
      · cases h; exact hk
      · cases h
  · rename_i r i m c
    split at h
    · cases h
    · rename_i sz hz
      cases hs : Nat.beq sz esz with
      | false => rw [hs] at h; cases h
      | true =>
        rw [hs] at h
        simp only [cond_true] at h
        have e := beqT hs
        subst e
        refine ⟨CH.esz_spec hw hz, ?_⟩
        split at h
        · rename_i k a k' b
          cases hb : (Nat.ble a b && Nat.ble b m) with
          | false => rw [hb] at h; cases h
          | true =>
            rw [hb] at h
            simp only [cond_true] at h
            simp only [Bool.and_eq_true, Nat.ble_eq] at hb
            refine ⟨by simp, Int.ofNat_le.2 hb.1, Int.ofNat_le.2 hb.2, ?_, ?_⟩
            · intro hab
              have hab : a = b := Int.ofNat.inj hab
              subst hab
              rw [Nat.beq_refl] at h; cases h; exact hk
            · intro hab
              have hab : a < b := Int.ofNat_lt.1 hab
              have : Nat.beq a b = false := by
                cases hq : Nat.beq a b with
                | false => rfl
                | true => have := beqT hq; omega
              rw [this] at h; cases h; exact hk
        · rename_i k a
          cases hb : Nat.ble a m with
          | false => rw [hb] at h; cases h
          | true =>
            rw [hb] at h
            simp only [cond_true] at h
            refine ⟨by simp, Int.ofNat_le.2 (Nat.le_of_ble_eq_true hb), ?_, ?_⟩
            · intro hab
              have hab : a = m := Int.ofNat.inj hab
              subst hab
              rw [Nat.beq_refl] at h; cases h; exact hk
            · intro hab
              have hab : a < m := Int.ofNat_lt.1 hab
              have : Nat.beq a m = false := by
                cases hq : Nat.beq a m with
                | false => rfl
                | true => have := beqT hq; omega
              rw [this] at h; cases h; exact hk
        · rename_i k b
          cases hb : Nat.ble b m with
          | false => rw [hb] at h; cases h
          | true => rw [hb] at h; cases h; exact ⟨by simp, Int.ofNat_le.2 (Nat.le_of_ble_eq_true hb), hk⟩
        · cases h; exact hk
        · cases h
  · split at h
    · cases h; exact hk
    · cases h
  · cases h
end
def vappend (H : CH) (T esz bytes : Nat) (x y : AV) : Out :=
  match vsrc H esz y with
  | none => .no
  | some new => match x with
    | .nils => bif Nat.ble (new.length * bytes) 140737488355328 && Nat.ble new.length 9223372036854775807 then
        (match new with
        | [] => .ok .nils H
        | _ => .ok (.sl H.n 0 new.length none) (H.add (.b (.cells true T esz new)))) else .no
    | .sl r i m none => (match H.get r with
      | some (.b (.cells true T' sz els)) => bif Nat.beq T' T && Nat.beq sz esz && Nat.beq i 0 && Nat.beq m els.length && Nat.ble ((els.length + new.length) * bytes) 140737488355328 && Nat.ble (els.length + new.length) 9223372036854775807 then
          .ok (.sl H.n 0 (els.length + new.length) none) ((H.set r (.b .dead)).add (.b (.cells true T esz (els ++ new)))) else .no
      | _ => .no)
    | .sl r i m (some c) => (match H.get r with
      | some (.b (.cells _ _ sz els)) => bif Nat.beq sz esz && Nat.ble (i + m) els.length && Nat.blt c (m + new.length) && Nat.ble ((m + new.length) * bytes) 140737488355328 && Nat.ble (m + new.length) 9223372036854775807 then
          .ok (.sl H.n 0 (m + new.length) none) (H.add (.b (.cells true T esz ((els.drop i).take m ++ new)))) else .no
      | _ => .no)
    | _ => .no
def OutOk (P : Program) (Φ : World → Prop) (e : Env) (H : CH) (o : AOp) : Out → Prop
  | .ok v H' => H'.wf ∧ Mono H H' ∧ ∀ K X : AV → AHeap → Prop, K v (H'.heap P) → aop P Φ e (H.heap P) o K X
  | .pan v H' => H'.wf ∧ Mono H H' ∧ ∀ K X : AV → AHeap → Prop, X v (H'.heap P) → aop P Φ e (H.heap P) o K X
  | .no => True
def COk (P : Program) (Φ : World → Prop) (f : FuncId) (args : List AV) (H : CH) : Out → Prop
  | .ok v H' => H'.wf ∧ Mono H H' ∧ S P Φ f args (H.heap P) fun r h' => r = .ret v ∧ h' = H'.heap P
  | .pan v H' => H'.wf ∧ Mono H H' ∧ S P Φ f args (H.heap P) fun r h' => r = .pan v ∧ h' = H'.heap P
  | .no => True
def YOk (P : Program) (Φ : World → Prop) (r : Nat) (args : List AV) (H : CH) : Out → Prop
  | .ok v H' => H'.wf ∧ Mono H H' ∧ YS P Φ r args (H.heap P) fun r h' => r = .ret v ∧ h' = H'.heap P
  | .pan v H' => H'.wf ∧ Mono H H' ∧ YS P Φ r args (H.heap P) fun r h' => r = .pan v ∧ h' = H'.heap P
  | .no => True
def vcall (pc : FuncId → List AV → CH → Option AV) (call : FuncId → List AV → CH → Out) (f : FuncId) (args : List AV) (H : CH) : Out :=
  match pc f args H with
  | some v => .ok v H
  | none => call f args H
section
variable (pc : FuncId → List AV → CH → Option AV) (call : FuncId → List AV → CH → Out) (yld : Nat → List AV → CH → Out)
def vop (e : Env) (H : CH) (o : AOp) : Out :=
  match o with
  | .mov x => .ok (x.ev e) H
  | .pick c a b => match c.ev e with
    | .bool t => .ok (bif t then a.ev e else b.ev e) H
    | _ => .no
  | .alloc T n z => .ok (.ptr H.n 0 0) (H.add (.b (.cells false T n [z])))
  | .box T n x => bif (x.ev e).sto && Nat.beq (x.ev e).cells.length n then .ok (.ptr H.n 0 0) (H.add (.b (.cells false T n [x.ev e]))) else .no
  | .load sz x => match x.ev e with
    | .lptr v o => ofO H (v.part o sz)
    | .ptr r i o => match H.els r with
      | some els => match nth els i with
        | some v => ofO H (v.part o sz)
        | none => .no
      | none => .no
    | _ => .no
  | .store n x y => match x.ev e with
    | .ptr r i o => match H.get r with
      | some (.b (.cells gr T sz els)) => match nth els i with
        | some v => bif (y.ev e).sto && Nat.beq (y.ev e).cells.length n && Nat.ble (o + n) v.cells.length then .ok undefA (H.set r (.b (.cells gr T sz (upd els i (v.setCells o (y.ev e).cells))))) else .no
        | none => .no
      | _ => .no
    | _ => .no
  | .nilchk x => match x.ev e with
    | .ptr r i o => .ok (.ptr r i o) H
    | .lptr v o => .ok (.lptr v o) H
    | .fn f a b => .ok (.fn f a b) H
    | .iface t v => .ok (.iface t v) H
    | _ => .no
  | .bin tk op x y => match y with
    | .val v => match v.isNil tk with
      | some true => ofO H (vbinNil tk op (x.ev e))
      | _ => ofO H (vbin tk op (x.ev e) v)
    | .tmp t => ofO H (vbin tk op (x.ev e) (e.get t))
  | .aggeq neg tks x y => match x.ev e, y.ev e with
    | .agg asx, .agg bs => (match cellsEq tks asx bs with
      | some t => .ok (.bool (bif neg then !t else t)) H
      | none => .no)
    | _, _ => .no
  | .un op x => match op, x.ev e with
    | .not, .bool b => .ok (.bool (!b)) H
    | .neg, .int k n => .ok (.int k (k.wrap (0 - n))) H
    | _, _ => .no
  | .conv k x => match x.ev e with
    | .int _ n => .ok (.int k (k.wrap n)) H
    | _ => .no
  | .same x => match x.ev e with
    | .str l => .ok (.str l) H
    | _ => .no
  | .mkiface t x => .ok (.iface t (x.ev e)) H
  | .mkfn f a b => .ok (.fn f (a.map (AX.ev e)) (b.map (AX.ev e))) H
  | .mkmap => .ok (.map H.n) (H.add (.b (.map [])))
  | .slcS x lo hi => ofO H (vsliceS (x.ev e) (lo.map (AX.ev e)) (hi.map (AX.ev e)))
  | .slc esz x lo hi => ofO H (vslice H esz (x.ev e) (lo.map (AX.ev e)) (hi.map (AX.ev e)))
  | .fieldAddr off x => match x.ev e with
    | .ptr r i o => .ok (.ptr r i (o + off)) H
    | .lptr v o => .ok (.lptr v (o + off)) H
    | _ => .no
  | .field off sz x => match x.ev e with
    | .agg cs => ofO H ((AV.agg cs).part off sz)
    | _ => .no
  | .elemAddr esz x i => match x.ev e, i.ev e with
    | .lst sz els, .int _ (.ofNat n) => bif Nat.beq sz esz then (match nth els n with
      | some v => .ok (.lptr v 0) H
      | none => .no) else .no
    | .sl r j m _, .int _ (.ofNat n) => match H.esz r with
      | some sz => bif Nat.beq sz esz && Nat.blt n m then .ok (.ptr r (j + n) 0) H else .no
      | none => .no
    | _, _ => .no
  | .cellAddr len esz x i => match x.ev e, i.ev e with
    | .ptr r j o, .int _ (.ofNat n) => bif Nat.blt n len then .ok (.ptr r j (o + n * esz)) H else .no
    | .lptr v o, .int _ (.ofNat n) => bif Nat.blt n len then .ok (.lptr v (o + n * esz)) H else .no
    | _, _ => .no
  | .byteAt x i => match x.ev e, i.ev e with
    | .str l, .int _ (.ofNat n) => match nth l n with
      | some b => .ok (.int .u8 b.toNat) H
      | none => .no
    | _, _ => .no
  | .arrAt len esz sz x i => match x.ev e, i.ev e with
    | .agg cs, .int _ (.ofNat n) => bif Nat.blt n len then ofO H ((AV.agg cs).part (n * esz) sz) else .no
    | _, _ => .no
  | .lookup tk ok z m k => match m.ev e with
    | .map r => match H.ents r with
      | some ents => bif AV.isKey tk (k.ev e) then (match mfind ents (k.ev e) 0 with
        | some (some (_, v)) => .ok (bif ok then .tup [v, .bool true] else v) H
        | some none => .ok (bif ok then .tup [z, .bool false] else z) H
        | none => .no) else .no
      | none => .no
    | _ => .no
  | .build z parts => match afill z (parts.map fun p => (p.1, p.2.1, p.2.2.ev e)) with
    | some cells => .ok (.agg cells) H
    | none => .no
  | .bslice T esz els => bif (els.map (AX.ev e)).all fun x => x.sto && Nat.beq x.cells.length esz then .ok (.sl H.n 0 els.length (some els.length)) (H.add (.b (.cells false T esz (els.map (AX.ev e))))) else .no
  | .fslice esz els => bif (els.map (AX.ev e)).all fun x => x.sto && Nat.beq x.cells.length esz then .ok (.lst esz (els.map (AX.ev e))) H else .no
  | .fbox n x => bif (x.ev e).sto && Nat.beq (x.ev e).cells.length n then .ok (.lptr (x.ev e) 0) H else .no
  | .mapup tk m k v => match m.ev e with
    | .map r => match H.ents r with
      | some ents => bif AV.isKey tk (k.ev e) && (v.ev e).sto then (match mput ents (k.ev e) (v.ev e) with
        | some ents' => .ok undefA (H.set r (.b (.map ents')))
        | none => .no) else .no
      | none => .no
    | _ => .no
  | .tassert t z ok x => match x.ev e with
    | .iface t' v => bif Nat.beq t' t then .ok (bif ok then .tup [v, .bool true] else v) H else bif ok then .ok (.tup [z, .bool false]) H else .no
    | .nili => bif ok then .ok (.tup [z, .bool false]) H else .no
    | _ => .no
  | .callF f args => vcall pc call f (args.map (AX.ev e)) H
  | .callV x args => match x.ev e with
    | .fn f a b => vcall pc call f (a ++ args.map (AX.ev e) ++ b) H
    | .yld r => yld r (args.map (AX.ev e)) H
    | _ => .no
  | .append T esz bytes x y => vappend H T esz bytes (x.ev e) (y.ev e)
  | .len tk x => match tk, x.ev e with
    | .str, .str l => .ok (.int .i64 (Int.ofNat l.length)) H
    | .slice, .lst _ l => .ok (.int .i64 (Int.ofNat l.length)) H
    | .slice, .nils => .ok (.int .i64 0) H
    | .slice, .sl _ _ m _ => .ok (.int .i64 (Int.ofNat m)) H
    | .map, .map r => match H.ents r with
      | some ents => .ok (.int .i64 (Int.ofNat ents.length)) H
      | none => .no
    | .map, .nilm => .ok (.int .i64 0) H
    | _, _ => .no
  | .alen n => .ok (.int .i64 (Int.ofNat n)) H
  | .extract x i => match x.ev e with
    | .tup vs => ofO H (nth vs i)
    | _ => .no
  | .panic x => match x.ev e with
    | .iface t v => .pan (.iface t v) H
    | _ => .no
end
section
variable {P : Program} {Φ : World → Prop} {pc : FuncId → List AV → CH → Option AV} {call : FuncId → List AV → CH → Out} {yld : Nat → List AV → CH → Out} {e : Env} {H : CH}
theorem ok_here {o : AOp} {v : AV} (hw : H.wf) (hk : ∀ K X : AV → AHeap → Prop, K v (H.heap P) → aop P Φ e (H.heap P) o K X) : OutOk P Φ e H o (.ok v H) := ⟨hw, Mono.refl _, hk⟩
theorem ok_new {o : AOp} {v : AV} {b : AB} (hw : H.wf) (hk : ∀ K X : AV → AHeap → Prop, K v (H.heap P ++ [b]) → aop P Φ e (H.heap P) o K X) : OutOk P Φ e H o (.ok v (H.add (.b b))) :=
  ⟨CH.wf_add hw _, Mono.add _ _, fun K X h => hk K X (by rw [CH.heap_add] at h; exact h)⟩
theorem ok_set {o : AOp} {v : AV} {r : Nat} {b b' : AB} (hw : H.wf) (hr : H.get r = some (.b b)) (hb : b ≠ .dead) (hk : ∀ K X : AV → AHeap → Prop, K v ((H.heap P).set r b') → aop P Φ e (H.heap P) o K X) : OutOk P Φ e H o (.ok v (H.set r (.b b'))) :=
  ⟨CH.wf_set hw _ _, Mono.set hw hr hb _, fun K X h => hk K X (by rw [CH.heap_set hw (CH.get_some hr).1] at h; exact h)⟩
theorem ok_ofO {o : AOp} {x : Option AV} (hw : H.wf) (hk : ∀ v, x = some v → ∀ K X : AV → AHeap → Prop, K v (H.heap P) → aop P Φ e (H.heap P) o K X) : OutOk P Φ e H o (ofO H x) := by
  cases x with
  | none => trivial
  | some v => exact ok_here hw (hk v rfl)
theorem bif_ok {c : Bool} {o : AOp} {x : Out} (h : c = true → OutOk P Φ e H o x) : OutOk P Φ e H o (bif c then x else .no) := by
  cases c with
  | false => trivial
  | true => exact h rfl
theorem ofNat_nonneg (n : Nat) : (0 : Int) ≤ Int.ofNat n := by simp
theorem vappend_sound (hw : H.wf) (T esz bytes : Nat) (x y : AX) : OutOk P Φ e H (.append T esz bytes x y) (vappend H T esz bytes (x.ev e) (y.ev e)) := by
  unfold vappend
  split
  · trivial
  · rename_i new hnew
    have src : ∀ {K : List AV → Prop}, K new → srcOf (H.heap P) esz (y.ev e) K := fun hk => vsrc_sound hw hnew hk
    generalize hx : x.ev e = xv
    split
    · refine bif_ok fun hb => ?_
      simp only [Bool.and_eq_true, Nat.ble_eq] at hb
      split
      · refine ok_here hw fun K X hk => ?_
        simp only [aop, aappend, hx]
        exact src ⟨hb.1, hb.2, hk⟩
      · rename_i hne
        refine ok_new hw fun K X hk => ?_
        simp only [aop, aappend, hx]
        refine src ⟨hb.1, hb.2, ?_⟩
        cases new with
        | nil => exact absurd rfl hne
        | cons a asx => rw [CH.heap_len hw]; exact hk
    · rename_i r i m
      split
      · rename_i T' sz els hg
        refine bif_ok fun hb => ?_
        simp only [Bool.and_eq_true, Nat.ble_eq] at hb
        obtain ⟨⟨⟨⟨⟨h1, h2⟩, h3⟩, h4⟩, h5⟩, h6⟩ := hb
        have hr := (CH.get_some hg).1
        refine ⟨CH.wf_add (CH.wf_set hw _ _) _, (Mono.kill hw hr).trans (Mono.add _ _), fun K X hk => ?_⟩
        simp only [aop, aappend, hx]
        rw [CH.heap_add, CH.heap_set hw hr] at hk
        refine src ?_
        simp only [CH.heap_get hw hg, CB.toAB, CH.heap_len hw]
        exact ⟨beqT h1, beqT h2, beqT h3, beqT h4, h5, h6, hk⟩
      · trivial
    · rename_i r i m c
      split
      · rename_i gr T' sz els hg
        refine bif_ok fun hb => ?_
        simp only [Bool.and_eq_true, Nat.ble_eq, CH.blt, decide_eq_true_eq] at hb
        obtain ⟨⟨⟨⟨h1, h2⟩, h3⟩, h4⟩, h5⟩ := hb
        refine ok_new hw fun K X hk => ?_
        simp only [aop, aappend, hx]
        refine src ?_
        simp only [CH.heap_get hw hg, CB.toAB, CH.heap_len hw]
        cases gr <;> exact ⟨beqT h1, h2, h3, h4, h5, hk⟩
      · trivial
    · trivial
theorem vcall_sound (hpc : ∀ f args v (H : CH), H.wf → pc f args H = some v → S P Φ f args (H.heap P) fun r h' => r = .ret v ∧ h' = H.heap P) (hc : ∀ f args H, H.wf → COk P Φ f args H (call f args H)) (hw : H.wf) (f : FuncId) (args : List AV) : COk P Φ f args H (vcall pc call f args H) := by
  unfold vcall
  split
  · rename_i v hv; exact ⟨hw, Mono.refl _, hpc f args v H hw hv⟩
  · exact hc f args H hw
theorem out_of_call {o : AOp} {f : FuncId} {args : List AV} {out : Out} (h : COk P Φ f args H out)
    (ho : ∀ K X : AV → AHeap → Prop, S P Φ f args (H.heap P) (fun r h' => match r with | .ret v => K v h' | .pan v => X v h') → aop P Φ e (H.heap P) o K X) : OutOk P Φ e H o out := by
  cases out with
  | no => trivial
  | ok v H' => exact ⟨h.1, h.2.1, fun K X hk => ho K X (h.2.2.mono fun r h' ⟨e1, e2⟩ => by subst e1; subst e2; exact hk)⟩
  | pan v H' => exact ⟨h.1, h.2.1, fun K X hk => ho K X (h.2.2.mono fun r h' ⟨e1, e2⟩ => by subst e1; subst e2; exact hk)⟩
theorem out_of_yld {o : AOp} {r : Nat} {args : List AV} {out : Out} (h : YOk P Φ r args H out)
    (ho : ∀ K X : AV → AHeap → Prop, YS P Φ r args (H.heap P) (fun r h' => match r with | .ret v => K v h' | .pan v => X v h') → aop P Φ e (H.heap P) o K X) : OutOk P Φ e H o out := by
  cases out with
  | no => trivial
  | ok v H' => exact ⟨h.1, h.2.1, fun K X hk => ho K X (h.2.2.mono fun r h' ⟨e1, e2⟩ => by subst e1; subst e2; exact hk)⟩
  | pan v H' => exact ⟨h.1, h.2.1, fun K X hk => ho K X (h.2.2.mono fun r h' ⟨e1, e2⟩ => by subst e1; subst e2; exact hk)⟩
theorem all_sto {l : List AV} {n : Nat} (h : (l.all fun x => x.sto && Nat.beq x.cells.length n) = true) : ∀ x ∈ l, x.sto = true ∧ x.cells.length = n := by
  intro x hx
  have := List.all_eq_true.1 h x hx
  simp only [Bool.and_eq_true] at this
  exact ⟨this.1, beqT this.2⟩
theorem vop_sound (hpc : ∀ f args v (H : CH), H.wf → pc f args H = some v → S P Φ f args (H.heap P) fun r h' => r = .ret v ∧ h' = H.heap P) (hc : ∀ f args H, H.wf → COk P Φ f args H (call f args H)) (hy : ∀ r args H, H.wf → YOk P Φ r args H (yld r args H)) (hw : H.wf) (o : AOp) :
    OutOk P Φ e H o (vop pc call yld e H o) := by
  cases o with
  | mov x => exact ok_here hw fun K X hk => hk
  | pick c a b =>
    simp only [vop]
    split
    · rename_i t ht; exact ok_here hw fun K X hk => by simp only [aop, ht]; exact hk
    · trivial
  | alloc T n z => exact ok_new hw fun K X hk => by simp only [aop, CH.heap_len hw]; exact hk
  | box T n x =>
    simp only [vop]
    refine bif_ok fun hb => ok_new hw fun K X hk => ?_
    simp only [Bool.and_eq_true] at hb
    simp only [aop, CH.heap_len hw]
    exact ⟨hb.1, beqT hb.2, hk⟩
  | load sz x =>
    simp only [vop]
    split
    · rename_i v o hx
      exact ok_ofO hw fun y hy K X hk => by simp only [aop, hx, hy]; exact hk
    · rename_i r i o hx
      split
      · rename_i els hels
        obtain ⟨gr, T, sz', _, hg⟩ := CH.els_spec (P := P) hw hels
        split
        · rename_i v hv
          rw [nth_eq] at hv
          exact ok_ofO hw fun y hy K X hk => by simp only [aop, hx, hg, hv, hy]; exact hk
        · trivial
      · trivial
    · trivial
  | store n x y =>
    simp only [vop]
    split
    · rename_i r i o hx
      split
      · rename_i gr T sz els hg
        split
        · rename_i v hv
          rw [nth_eq] at hv
          refine bif_ok fun hb => ok_set hw hg (by simp) fun K X hk => ?_
          simp only [Bool.and_eq_true, Nat.ble_eq] at hb
          have hg' := CH.heap_get (P := P) hw hg
          simp only [CB.toAB] at hg'
          simp only [aop, hx, hg', hv]
          rw [upd_eq] at hk
          exact ⟨hb.1.1, beqT hb.1.2, hb.2, hk⟩
        · trivial
      · trivial
    · trivial
  | nilchk x =>
    simp only [vop]
    split <;> first
      | trivial
      | (rename_i hx; exact ok_here hw fun K X hk => by simp only [aop, hx]; exact hk)
  | bin tk op x y =>
    cases y with
    | val v =>
      simp only [vop]
      split
      · rename_i hn
        exact ok_ofO hw fun y hy K X hk => by simp only [aop, hn]; exact vbinNil_sound hy hk
      · rename_i hn
        refine ok_ofO hw fun y hy K X hk => ?_
        simp only [aop]
        exact vbin_sound hy hk
    | tmp t => exact ok_ofO hw fun y hy K X hk => by simp only [aop]; exact vbin_sound hy hk
  | aggeq neg tks x y =>
    simp only [vop]
    split
    · rename_i asx bs hx hy
      split
      · rename_i t ht
        exact ok_here hw fun K X hk => by simp only [aop, hx, hy, ht]; exact hk
      · trivial
    · trivial
  | un op x =>
    simp only [vop]
    split <;> first
      | trivial
      | (rename_i hx; exact ok_here hw fun K X hk => by simp only [aop, hx]; exact hk)
  | conv k x =>
    simp only [vop]
    split <;> first
      | trivial
      | (rename_i hx; exact ok_here hw fun K X hk => by simp only [aop, hx]; exact hk)
  | same x =>
    simp only [vop]
    split <;> first
      | trivial
      | (rename_i hx; exact ok_here hw fun K X hk => by simp only [aop, hx]; exact hk)
  | mkiface t x => exact ok_here hw fun K X hk => hk
  | mkfn f a b => exact ok_here hw fun K X hk => hk
  | mkmap => exact ok_new hw fun K X hk => by simp only [aop, CH.heap_len hw]; exact hk
  | slcS x lo hi => exact ok_ofO hw fun y hy K X hk => by simp only [aop]; exact vsliceS_sound hy hk
  | slc esz x lo hi => exact ok_ofO hw fun y hy K X hk => by simp only [aop]; exact vslice_sound hw hy hk
  | fieldAddr off x =>
    simp only [vop]
    split <;> first
      | trivial
      | (rename_i hx; exact ok_here hw fun K X hk => by simp only [aop, hx]; exact hk)
  | field off sz x =>
    simp only [vop]
    split
    · rename_i cs hx
      exact ok_ofO hw fun y hy K X hk => by simp only [aop, hx, hy]; exact hk
    · trivial
  | elemAddr esz x i =>
    simp only [vop]
    split
    · rename_i sz els k n hx hi
      refine bif_ok fun hb => ?_
      split
      · rename_i v hv
        rw [nth_eq] at hv
        refine ok_here hw fun K X hk => ?_
        simp only [aop, hx, hi]
        refine ⟨beqT hb, ofNat_nonneg _, ?_⟩
        show match els[n]? with | some v => K (.lptr v 0) (H.heap P) | none => False
        rw [hv]; exact hk
      · trivial
    · rename_i r j m c k n hx hi
      split
      · rename_i sz hz
        refine bif_ok fun hb => ok_here hw fun K X hk => ?_
        simp only [Bool.and_eq_true, CH.blt, decide_eq_true_eq] at hb
        simp only [aop, hx, hi]
        exact ⟨by rw [CH.esz_spec hw hz, beqT hb.1], ofNat_nonneg _, Int.ofNat_lt.2 hb.2, hk⟩
      · trivial
    · trivial
  | cellAddr len esz x i =>
    simp only [vop]
    split
    · rename_i r j o k n hx hi
      refine bif_ok fun hb => ok_here hw fun K X hk => ?_
      simp only [CH.blt, decide_eq_true_eq] at hb
      simp only [aop, hx, hi]
      exact ⟨ofNat_nonneg _, Int.ofNat_lt.2 hb, hk⟩
    · rename_i v o k n hx hi
      refine bif_ok fun hb => ok_here hw fun K X hk => ?_
      simp only [CH.blt, decide_eq_true_eq] at hb
      simp only [aop, hx, hi]
      exact ⟨ofNat_nonneg _, Int.ofNat_lt.2 hb, hk⟩
    · trivial
  | byteAt x i =>
    simp only [vop]
    split
    · rename_i l k n hx hi
      split
      · rename_i b hb
        rw [nth_eq] at hb
        refine ok_here hw fun K X hk => ?_
        simp only [aop, hx, hi]
        refine ⟨ofNat_nonneg _, ?_⟩
        show match l[n]? with | some b => K (.int .u8 b.toNat) (H.heap P) | none => False
        rw [hb]; exact hk
      · trivial
    · trivial
  | arrAt len esz sz x i =>
    simp only [vop]
    split
    · rename_i cs k n hx hi
      refine bif_ok fun hb => ok_ofO hw fun y hy K X hk => ?_
      simp only [CH.blt, decide_eq_true_eq] at hb
      simp only [aop, hx, hi]
      refine ⟨ofNat_nonneg _, Int.ofNat_lt.2 hb, ?_⟩
      show match (AV.agg cs).part (n * esz) sz with | some y => K y (H.heap P) | none => False
      rw [hy]; exact hk
    · trivial
  | lookup tk ok z m k =>
    simp only [vop]
    split
    · rename_i r hm
      split
      · rename_i ents he
        have hg := (CH.ents_spec (P := P) hw he).2
        refine bif_ok fun hb => ?_
        split
        · rename_i j v hf
          refine ok_here hw fun K X hk => ?_
          simp only [aop, hm, hg, hf]
          refine ⟨hb, ?_⟩
          cases ok <;> exact hk
        · rename_i hf
          refine ok_here hw fun K X hk => ?_
          simp only [aop, hm, hg, hf]
          refine ⟨hb, ?_⟩
          cases ok <;> exact hk
        · trivial
      · trivial
    · trivial
  | build z parts =>
    simp only [vop]
    split
    · rename_i cells hf
      exact ok_here hw fun K X hk => by simp only [aop, hf]; exact hk
    · trivial
  | bslice T esz els =>
    simp only [vop]
    refine bif_ok fun hb => ok_new hw fun K X hk => ?_
    simp only [aop, CH.heap_len hw]
    exact ⟨all_sto hb, hk⟩
  | fslice esz els =>
    simp only [vop]
    refine bif_ok fun hb => ok_here hw fun K X hk => ?_
    simp only [aop]
    exact ⟨all_sto hb, hk⟩
  | fbox n x =>
    simp only [vop]
    refine bif_ok fun hb => ok_here hw fun K X hk => ?_
    simp only [Bool.and_eq_true] at hb
    simp only [aop]
    exact ⟨hb.1, beqT hb.2, hk⟩
  | mapup tk m k v =>
    simp only [vop]
    split
    · rename_i r hm
      split
      · rename_i ents he
        obtain ⟨hg, hg'⟩ := CH.ents_spec (P := P) hw he
        refine bif_ok fun hb => ?_
        simp only [Bool.and_eq_true] at hb
        split
        · rename_i ents' hp
          refine ok_set hw hg (by simp) fun K X hk => ?_
          simp only [aop, hm, hg', hp]
          exact ⟨hb.1, hb.2, hk⟩
        · trivial
      · trivial
    · trivial
  | tassert t z ok x =>
    simp only [vop]
    split
    · rename_i t' v hx
      cases hb : Nat.beq t' t with
      | true =>
        have e1 : t' = t := Nat.eq_of_beq_eq_true hb
        refine ok_here hw fun K X hk => ?_
        simp only [aop, hx, e1, if_true]
        cases ok <;> exact hk
      | false =>
        have e1 : ¬ t' = t := fun h => by subst h; rw [Nat.beq_refl] at hb; cases hb
        simp only [cond_false]
        refine bif_ok fun hb2 => ok_here hw fun K X hk => ?_
        simp only [aop, hx, e1, if_false]
        exact ⟨hb2, hk⟩
    · rename_i hx
      refine bif_ok fun hb2 => ok_here hw fun K X hk => ?_
      simp only [aop, hx]
      exact ⟨hb2, hk⟩
    · trivial
  | callF f args =>
    simp only [vop]
    exact out_of_call (vcall_sound hpc hc hw f _) fun K X h => h
  | callV x args =>
    simp only [vop]
    split
    · rename_i f a b hx
      exact out_of_call (vcall_sound hpc hc hw f _) fun K X h => by simp only [aop, hx]; exact h
    · rename_i r hx
      exact out_of_yld (hy r _ H hw) fun K X h => by simp only [aop, hx]; exact h
    · trivial
  | append T esz bytes x y => exact vappend_sound hw T esz bytes x y
  | len tk x =>
    simp only [vop]
    split <;> first
      | trivial
      | (rename_i r hx
         split
         · rename_i ents he
           have hg := (CH.ents_spec (P := P) hw he).2
           exact ok_here hw fun K X hk => by simp only [aop, hx, hg]; exact hk
         · trivial)
      | (rename_i hx; exact ok_here hw fun K X hk => by simp only [aop, hx]; exact hk)
  | alen n => exact ok_here hw fun K X hk => hk
  | extract x i =>
    simp only [vop]
    split
    · rename_i vs hx
      refine ok_ofO hw fun y hy K X hk => ?_
      rw [nth_eq] at hy
      simp only [aop, hx, hy]; exact hk
    · trivial
  | panic x =>
    simp only [vop]
    split
    · rename_i t v hx
      exact ⟨hw, Mono.refl _, fun K X hk => by simp only [aop, hx]; exact hk⟩
    · trivial
end
end Go.Abs
end
section
namespace Go.Abs
open Go.RowKit
inductive OOut where
  | ok (e : Env) (H : CH)
  | pan (v : AV) (e : Env) (H : CH)
  | no
inductive XOut where
  | done (r : AExit) (e : Env) (H : CH)
  | no
def AOp.still : AOp → Bool
  | .mov _ | .pick .. | .load .. | .nilchk _ | .bin .. | .aggeq .. | .un .. | .conv .. | .same _ | .mkiface .. | .mkfn .. | .slcS .. | .slc .. | .fieldAddr .. | .field .. | .elemAddr .. | .cellAddr .. | .byteAt .. | .arrAt .. | .lookup .. | .build .. | .fslice .. | .fbox .. | .tassert .. | .len .. | .alen _ | .extract .. => true
  | _ => false
section
variable (pc : FuncId → List AV → CH → Option AV) (call : FuncId → List AV → CH → Out) (yld : Nat → List AV → CH → Out)
def vops : List AOper → Env → CH → OOut
  | [], e, H => .ok e H
  | o :: os, e, H =>
    match o.gd with
    | none => (match vop pc call yld e H o.op with
      | .ok v H' => vops os (Env.put o.dst v e) H'
      | .pan v H' => .pan v e H'
      | .no => .no)
    | some (t, b) => match e.get t with
      | .bool c => bif c == b then (match vop pc call yld e H o.op with
          | .ok v H' => vops os (Env.put o.dst v e) H'
          | .pan v H' => .pan v e H'
          | .no => .no) else vops os (Env.put o.dst undefA e) H
      | .tup [] => vops os (Env.put o.dst undefA e) H
      | _ => .no
def vpure (e : Env) (H : CH) (o : AOp) : Option AV :=
  match o with
  | .callF f args => pc f (args.map (AX.ev e)) H
  | .callV x args => match x.ev e with
    | .fn f a b => pc f (a ++ args.map (AX.ev e) ++ b) H
    | _ => none
  | o => bif o.still then (match vop pc call yld e H o with
    | .ok v _ => some v
    | _ => none) else none
def isV (o : Option AV) (v : AV) : Bool := match o with
  | some v' => avEq 40 v' v
  | none => false
def vdraw : List DOp → Env → List CH → CH → List (CH → Bool) → OOut
  | [], e, _, H, _ => .ok e H
  | o :: os, e, hist, H, pd =>
    match wantA e o.op.gd with
    | none => .no
    | some false => vdraw os (putE o.op.dst undefA e) (bif o.x then H :: hist else hist) H pd
    | some true => bif o.x then (match vop pc call yld e H o.op.op with
        | .ok v H' => bif pd.all fun p => p H' then vdraw os (putE o.op.dst v e) (H :: hist) H' pd else .no
        | _ => .no)
      else (match vpure pc call yld e H o.op.op with
        | some v => bif (hist.take o.back).all fun hh => isV (vpure pc call yld e hh o.op.op) v then vdraw os (putE o.op.dst v e) hist H (bif o.late then (fun H' => isV (vpure pc call yld e H' o.op.op) v) :: pd else pd) else .no
        | none => .no)
end
def viter (B : Env → CH → XOut) : Nat → Env → CH → XOut
  | 0, _, _ => .no
  | n + 1, e, H => match B e H with
    | .done .normal e' H' => viter B n e' H'
    | r => r
section
variable (pc : FuncId → List AV → CH → Option AV) (call : FuncId → List AV → CH → Out) (yld : Nat → List AV → CH → Out) (fuel : Nat)
def vrange (e : Env) (r : Nat) : Out → XOut
  | .ok _ H' => match H'.get r with
    | some (.loop st pend _ _ _ _ _ _) => match st with
      | .busy => .no
      | _ => match pend with
        | none => .done .normal e (H'.set r (.b .dead))
        | some .ret => .done .ret e (H'.set r (.b .dead))
        | some (.exit id) => .done (.exit id) e (H'.set r (.b .dead))
        | some _ => .no
    | _ => .no
  | _ => .no
def vcode : ACode → Env → CH → XOut
  | .skip, e, H => .done .normal e H
  | .region ops keep, e, H => match vops pc call yld ops e H with
    | .ok e' H' => .done .normal (e'.keep keep) H'
    | .pan v e' H' => .done (.pan v) e' H'
    | .no => .no
  | .draw ds keep, e, H => match vdraw pc call yld ds e [] H [] with
    | .ok e' H' => .done .normal (e'.keep keep) H'
    | _ => .no
  | .seq x y, e, H => match vcode x e H with
    | .done .normal e' H' => vcode y e' H'
    | r => r
  | .cond c x y, e, H => match c.ev e with
    | .bool t => bif t then vcode x e H else vcode y e H
    | _ => .no
  | .block id x, e, H => match vcode x e H with
    | .done (.exit i) e' H' => bif i == id then .done .normal e' H' else .done (.exit i) e' H'
    | r => r
  | .loop x, e, H => viter (vcode x) fuel e H
  | .range f ps N fz aa ab, e, H => match f.ev e with
    | .fn fid a b => vrange e H.n (call fid (a ++ [.yld H.n] ++ b) (H.add (.loop .ready none ps N fz aa ab e)))
    | _ => .no
  | .dfr _ _ _ _, _, _ => .no
  | .exit id, e, H => .done (.exit id) e H
  | .ret, e, H => .done .ret e H
end
section
variable {P : Program} {Φ : World → Prop} {pc : FuncId → List AV → CH → Option AV} {call : FuncId → List AV → CH → Out} {yld : Nat → List AV → CH → Out} {e : Env} {H : CH} {fuel : Nat}
def OOk (P : Program) (Φ : World → Prop) (l : List AOper) (e : Env) (H : CH) : OOut → Prop
  | .ok e' H' => H'.wf ∧ Mono H H' ∧ ∀ N X, N e' (H'.heap P) → aops P Φ l e (H.heap P) N X
  | .pan v e' H' => H'.wf ∧ Mono H H' ∧ ∀ N X, X e' v (H'.heap P) → aops P Φ l e (H.heap P) N X
  | .no => True
structure Calls3 (P : Program) (Φ : World → Prop) (pc : FuncId → List AV → CH → Option AV) (call : FuncId → List AV → CH → Out) (yld : Nat → List AV → CH → Out) : Prop where
  pc : ∀ f args v (H : CH), H.wf → pc f args H = some v → S P Φ f args (H.heap P) fun r h' => r = .ret v ∧ h' = H.heap P
  call : ∀ f args H, H.wf → COk P Φ f args H (call f args H)
  yld : ∀ r args H, H.wf → YOk P Φ r args H (yld r args H)
theorem vops_sound (C : Calls3 P Φ pc call yld) : ∀ (l : List AOper) (e : Env) (H : CH), H.wf → OOk P Φ l e H (vops pc call yld l e H)
  | [], e, H, hw => ⟨hw, Mono.refl _, fun _ _ h => h⟩
  | o :: os, e, H, hw => by
    have run : (∀ N X, aop P Φ e (H.heap P) o.op (fun v h' => aops P Φ os (Env.put o.dst v e) h' N X) (X e) → aops P Φ (o :: os) e (H.heap P) N X) → OOk P Φ (o :: os) e H (match vop pc call yld e H o.op with
      | .ok v H' => vops pc call yld os (Env.put o.dst v e) H'
      | .pan v H' => .pan v e H'
      | .no => .no) := by
      intro hA
      have ho := vop_sound (e := e) C.pc C.call C.yld hw o.op
      revert ho
      cases vop pc call yld e H o.op with
      | no => intro _; trivial
      | pan v H' => exact fun ho => ⟨ho.1, ho.2.1, fun N X hx => hA N X (ho.2.2 _ _ hx)⟩
      | ok v H' =>
        intro ho
        have hr := vops_sound C os (Env.put o.dst v e) H' ho.1
        revert hr
        show OOk P Φ os (Env.put o.dst v e) H' (vops pc call yld os (Env.put o.dst v e) H') → OOk P Φ (o :: os) e H (vops pc call yld os (Env.put o.dst v e) H')
        cases vops pc call yld os (Env.put o.dst v e) H' with
        | no => intro _; trivial
        | ok e' H'' => exact fun hr => ⟨hr.1, ho.2.1.trans hr.2.1, fun N X hn => hA N X (ho.2.2 _ _ (hr.2.2 N X hn))⟩
        | pan v' e' H'' => exact fun hr => ⟨hr.1, ho.2.1.trans hr.2.1, fun N X hn => hA N X (ho.2.2 _ _ (hr.2.2 N X hn))⟩
    have skip : (∀ N X, aops P Φ os (Env.put o.dst undefA e) (H.heap P) N X → aops P Φ (o :: os) e (H.heap P) N X) → OOk P Φ (o :: os) e H (vops pc call yld os (Env.put o.dst undefA e) H) := by
      intro hA
      have hr := vops_sound C os (Env.put o.dst undefA e) H hw
      revert hr
      cases vops pc call yld os (Env.put o.dst undefA e) H with
      | no => intro _; trivial
      | ok e' H'' => exact fun hr => ⟨hr.1, hr.2.1, fun N X hn => hA N X (hr.2.2 N X hn)⟩
      | pan v' e' H'' => exact fun hr => ⟨hr.1, hr.2.1, fun N X hn => hA N X (hr.2.2 N X hn)⟩
    rw [vops]
    cases hg : o.gd with
    | none => exact run fun N X h => by rw [aops, hg]; exact h
    | some p =>
      obtain ⟨t, b⟩ := p
      dsimp only
      split
      · rename_i c hc
        cases hcb : (c == b) with
        | true =>
          have : c = b := by simpa using hcb
          subst this
          exact run fun N X h => by rw [aops, hg]; simp only [hc]; cases c <;> exact h
        | false =>
          refine skip fun N X h => ?_
          rw [aops, hg]; simp only [hc]
          cases c <;> cases b <;> first | (simp at hcb; done) | exact h
      · rename_i hc
        exact skip fun N X h => by rw [aops, hg]; simp only [hc]; exact h
      · trivial
theorem still_heap {o : AOp} (hs : o.still = true) {v : AV} {H' : CH} (h : vop pc call yld e H o = .ok v H') : H' = H := by
  have ofo : ∀ {x : Option AV}, ofO H x = .ok v H' → H' = H := by
    intro x hx; cases x with
    | none => cases hx
    | some y => cases hx; rfl
  have bf : ∀ {c : Bool} {x : Out}, (bif c then x else .no) = .ok v H' → x = .ok v H' := by
    intro c x hx; cases c with
    | false => cases hx
    | true => exact hx
  cases o <;> simp only [AOp.still, Bool.false_eq_true] at hs <;> simp only [vop] at h
  case tassert t z ok x =>
    split at h
    · rename_i t' v' _
      cases hb : Nat.beq t' t with
      | true => rw [hb] at h; cases h; rfl
      | false => rw [hb] at h; have h := bf h; cases h; rfl
    · have h := bf h; cases h; rfl
    · cases h
  all_goals (repeat' (first | (cases h; done) | (cases h; rfl) | (with_reducible exact ofo h) | (with_reducible replace h := bf h) | split at h))
theorem vpure_sound (C : Calls3 P Φ pc call yld) (hw : H.wf) {o : AOp} {v : AV} (h : vpure pc call yld e H o = some v) : PureAt P Φ e (H.heap P) o v := by
  have still : ∀ o : AOp, o.still = true → (match vop pc call yld e H o with | .ok v _ => some v | _ => none) = some v → PureAt P Φ e (H.heap P) o v := by
    intro o hs h
    have ho := vop_sound (e := e) C.pc C.call C.yld hw o
    revert h ho
    cases hv : vop pc call yld e H o with
    | no => intro h; cases h
    | pan v H' => intro h; cases h
    | ok v' H' =>
      intro h ho
      cases h
      have := still_heap hs hv
      subst this
      exact ho.2.2 _ _ ⟨rfl, rfl⟩
  unfold vpure at h
  split at h
  · rename_i f args
    exact (C.pc _ _ _ _ hw h).mono fun r h' ⟨e1, e2⟩ => by subst e1; exact ⟨rfl, e2⟩
  · rename_i x args
    split at h
    · rename_i f a b hx
      simp only [PureAt, aop, hx]
      exact (C.pc _ _ _ _ hw h).mono fun r h' ⟨e1, e2⟩ => by subst e1; exact ⟨rfl, e2⟩
    · cases h
  · cases hs : o.still with
    | false => rw [hs] at h; cases h
    | true => rw [hs] at h; exact still o hs h
theorem isV_spec {o : Option AV} {v : AV} (h : isV o v = true) : o = some v := by
  cases o with
  | none => cases h
  | some v' => rw [avEq_eq _ _ _ h]
inductive PdR (P : Program) : List (CH → Bool) → List (AHeap → Prop) → Prop
  | nil : PdR P [] []
  | cons {p : CH → Bool} {q : AHeap → Prop} {ps : List (CH → Bool)} {qs : List (AHeap → Prop)} (h : ∀ H, H.wf → p H = true → q (H.heap P)) (hs : PdR P ps qs) : PdR P (p :: ps) (q :: qs)
theorem PdR.all {ps : List (CH → Bool)} {qs : List (AHeap → Prop)} (h : PdR P ps qs) {H : CH} (hw : H.wf) (ha : (ps.all fun p => p H) = true) : ∀ q ∈ qs, q (H.heap P) := by
  induction h with
  | nil => simp
  | cons h _ ih =>
    simp only [List.all_cons, Bool.and_eq_true] at ha
    intro q hq
    rcases List.mem_cons.1 hq with rfl | hq
    · exact h H hw ha.1
    · exact ih ha.2 q hq
def DOk (P : Program) (Φ : World → Prop) (l : List DOp) (e : Env) (hist : List CH) (H : CH) (qs : List (AHeap → Prop)) : OOut → Prop
  | .ok e' H' => H'.wf ∧ Mono H H' ∧ ∀ N, N e' (H'.heap P) → adraw P Φ l e (hist.map (CH.heap P)) (H.heap P) qs N
  | _ => True
theorem vdraw_sound (C : Calls3 P Φ pc call yld) : ∀ (l : List DOp) (e : Env) (hist : List CH) (H : CH) (pd : List (CH → Bool)) (qs : List (AHeap → Prop)), H.wf → (∀ hh ∈ hist, hh.wf) → PdR P pd qs → DOk P Φ l e hist H qs (vdraw pc call yld l e hist H pd)
  | [], e, hist, H, pd, qs, hw, _, _ => ⟨hw, Mono.refl _, fun _ h => h⟩
  | o :: os, e, hist, H, pd, qs, hw, hh, hp => by
    have hhc : ∀ hx ∈ (bif o.x then H :: hist else hist), hx.wf := by
      intro hx hm
      cases hox : o.x with
      | false => rw [hox] at hm; exact hh hx hm
      | true => rw [hox] at hm; rcases List.mem_cons.1 hm with rfl | hm <;> first | exact hw | exact hh hx hm
    have skip : (∀ N, adraw P Φ os (putE o.op.dst undefA e) ((bif o.x then H :: hist else hist).map (CH.heap P)) (H.heap P) qs N → adraw P Φ (o :: os) e (hist.map (CH.heap P)) (H.heap P) qs N) →
        DOk P Φ (o :: os) e hist H qs (vdraw pc call yld os (putE o.op.dst undefA e) (bif o.x then H :: hist else hist) H pd) := by
      intro hA
      have hr := vdraw_sound C os (putE o.op.dst undefA e) (bif o.x then H :: hist else hist) H pd qs hw hhc hp
      revert hr
      cases vdraw pc call yld os (putE o.op.dst undefA e) (bif o.x then H :: hist else hist) H pd with
      | no => intro _; trivial
      | pan v' e' H'' => intro _; trivial
      | ok e' H'' => exact fun hr => ⟨hr.1, hr.2.1, fun N hn => hA N (hr.2.2 N hn)⟩
    have run : (∀ N, (bif o.x then ∃ v h', aop P Φ e (H.heap P) o.op.op (fun v' h'' => v' = v ∧ h'' = h') (fun _ _ => False) ∧ (∀ p ∈ qs, p h') ∧ adraw P Φ os (putE o.op.dst v e) (H.heap P :: hist.map (CH.heap P)) h' qs N
          else ∃ v, PureAt P Φ e (H.heap P) o.op.op v ∧ (∀ hh ∈ (hist.map (CH.heap P)).take o.back, PureAt P Φ e hh o.op.op v) ∧
            adraw P Φ os (putE o.op.dst v e) (hist.map (CH.heap P)) (H.heap P) (bif o.late then (fun h => PureAt P Φ e h o.op.op v) :: qs else qs) N) → adraw P Φ (o :: os) e (hist.map (CH.heap P)) (H.heap P) qs N) →
        DOk P Φ (o :: os) e hist H qs (bif o.x then (match vop pc call yld e H o.op.op with
          | .ok v H' => bif pd.all fun p => p H' then vdraw pc call yld os (putE o.op.dst v e) (H :: hist) H' pd else .no
          | _ => .no)
        else (match vpure pc call yld e H o.op.op with
          | some v => bif (hist.take o.back).all fun hh => isV (vpure pc call yld e hh o.op.op) v then vdraw pc call yld os (putE o.op.dst v e) hist H (bif o.late then (fun H' => isV (vpure pc call yld e H' o.op.op) v) :: pd else pd) else .no
          | none => .no)) := by
      intro hA
      cases hox : o.x with
      | true =>
        simp only [cond_true]
        simp only [hox, cond_true] at hA
        have ho := vop_sound (e := e) C.pc C.call C.yld hw o.op.op
        revert ho
        cases vop pc call yld e H o.op.op with
        | no => intro _; trivial
        | pan v H' => intro _; trivial
        | ok v H' =>
          intro ho
          dsimp only
          cases ha : (pd.all fun p => p H') with
          | false => trivial
          | true =>
            simp only [cond_true]
            have hr := vdraw_sound C os (putE o.op.dst v e) (H :: hist) H' pd qs ho.1 (fun hx hm => by rcases List.mem_cons.1 hm with rfl | hm <;> first | exact hw | exact hh hx hm) hp
            revert hr
            cases vdraw pc call yld os (putE o.op.dst v e) (H :: hist) H' pd with
            | no => intro _; trivial
            | pan v' e' H'' => intro _; trivial
            | ok e' H'' => exact fun hr => ⟨hr.1, ho.2.1.trans hr.2.1, fun N hn => hA N ⟨v, H'.heap P, ho.2.2 _ _ ⟨rfl, rfl⟩, hp.all ho.1 ha, hr.2.2 N hn⟩⟩
      | false =>
        simp only [cond_false]
        simp only [hox, cond_false] at hA
        cases hv : vpure pc call yld e H o.op.op with
        | none => trivial
        | some v =>
          dsimp only
          cases ha : ((hist.take o.back).all fun hh => isV (vpure pc call yld e hh o.op.op) v) with
          | false => trivial
          | true =>
            simp only [cond_true]
            have hall : ∀ hx ∈ (hist.map (CH.heap P)).take o.back, PureAt P Φ e hx o.op.op v := by
              intro hx hm
              rw [← List.map_take] at hm
              obtain ⟨H1, hm1, rfl⟩ := List.mem_map.1 hm
              exact vpure_sound C (hh H1 (List.mem_of_mem_take hm1)) (isV_spec (List.all_eq_true.1 ha H1 hm1))
            have hp2 : PdR P (bif o.late then (fun H' => isV (vpure pc call yld e H' o.op.op) v) :: pd else pd) (bif o.late then (fun h => PureAt P Φ e h o.op.op v) :: qs else qs) := by
              cases o.late with
              | false => exact hp
              | true => exact .cons (fun H1 hw1 h1 => vpure_sound C hw1 (isV_spec h1)) hp
            have hr := vdraw_sound C os (putE o.op.dst v e) hist H _ _ hw hh hp2
            revert hr
            cases vdraw pc call yld os (putE o.op.dst v e) hist H (bif o.late then (fun H' => isV (vpure pc call yld e H' o.op.op) v) :: pd else pd) with
            | no => intro _; trivial
            | pan v' e' H'' => intro _; trivial
            | ok e' H'' => exact fun hr => ⟨hr.1, hr.2.1, fun N hn => hA N ⟨v, vpure_sound C hw hv, hall, hr.2.2 N hn⟩⟩
    rw [vdraw]
    cases hwant : wantA e o.op.gd with
    | none => trivial
    | some b =>
      cases b with
      | true =>
        refine run fun N h => ?_
        rw [adraw]
        cases hg : o.op.gd with
        | none => exact h
        | some p =>
          obtain ⟨t, b⟩ := p
          rw [hg] at hwant
          simp only [wantA] at hwant
          dsimp only
          generalize e.get t = q at hwant ⊢
          split at hwant
          · rename_i c
            simp only [Option.some.injEq, beq_iff_eq] at hwant
            subst hwant
            cases c <;> exact h
          · cases hwant
          · cases hwant
      | false =>
        refine skip fun N h => ?_
        have h2 : adraw P Φ os (putE o.op.dst undefA e) (bif o.x then H.heap P :: hist.map (CH.heap P) else hist.map (CH.heap P)) (H.heap P) qs N := by
          cases hox : o.x <;> rw [hox] at h <;> exact h
        rw [adraw]
        cases hg : o.op.gd with
        | none => rw [hg] at hwant; cases hwant
        | some p =>
          obtain ⟨t, b⟩ := p
          rw [hg] at hwant
          simp only [wantA] at hwant
          dsimp only
          generalize e.get t = q at hwant ⊢
          split at hwant
          · rename_i c
            simp only [Option.some.injEq] at hwant
            cases c <;> cases b <;> first | (simp at hwant; done) | exact h2
          · exact h2
          · cases hwant
def XOk (P : Program) (Φ : World → Prop) (c : ACode) (e : Env) (H : CH) : XOut → Prop
  | .done r e' H' => H'.wf ∧ Mono H H' ∧ ∀ (n0 : Nat) (Q : AExit → Env → AHeap → Prop), Q r e' (H'.heap P) → awp P Φ n0 c Q e (H.heap P)
  | .no => True
theorem viter_mono {B : Env → CH → XOut} {c : ACode} (hB : ∀ e H, H.wf → XOk P Φ c e H (B e H)) : ∀ (n : Nat) (e : Env) (H : CH) (r : AExit) (e' : Env) (H' : CH), H.wf → viter B n e H = .done r e' H' → H'.wf ∧ Mono H H'
  | 0, _, _, _, _, _, _, h => by cases h
  | n + 1, e, H, r, e', H', hw, h => by
    have hb := hB e H hw
    unfold viter at h
    split at h
    · rename_i e1 H1 h1
      rw [h1] at hb
      obtain ⟨a, b⟩ := viter_mono hB n e1 H1 r e' H' hb.1 h
      exact ⟨a, hb.2.1.trans b⟩
    · rw [h] at hb
      exact ⟨hb.1, hb.2.1⟩
theorem vcode_sound (C : Calls3 P Φ pc call yld) : ∀ (c : ACode) (e : Env) (H : CH), H.wf → XOk P Φ c e H (vcode pc call yld fuel c e H)
  | .skip, e, H, hw => ⟨hw, Mono.refl _, fun _ _ h => h⟩
  | .region ops keep, e, H, hw => by
    have hr := vops_sound C ops e H hw
    rw [vcode]
    revert hr
    cases vops pc call yld ops e H with
    | no => intro _; trivial
    | ok e' H' => exact fun hr => ⟨hr.1, hr.2.1, fun n0 Q hq => hr.2.2 _ _ hq⟩
    | pan v e' H' => exact fun hr => ⟨hr.1, hr.2.1, fun n0 Q hq => hr.2.2 _ _ hq⟩
  | .draw ds keep, e, H, hw => by
    have hr := vdraw_sound C ds e [] H [] [] hw (by simp) .nil
    rw [vcode]
    revert hr
    cases vdraw pc call yld ds e [] H [] with
    | no => intro _; trivial
    | ok e' H' => exact fun hr => ⟨hr.1, hr.2.1, fun n0 Q hq => hr.2.2 _ hq⟩
    | pan v e' H' => intro _; trivial
  | .seq x y, e, H, hw => by
    have hx := vcode_sound C x e H hw
    rw [vcode]
    revert hx
    cases vcode pc call yld fuel x e H with
    | no => intro _; trivial
    | done r e' H' =>
      cases r with
      | normal =>
        intro hx
        have hy := vcode_sound C y e' H' hx.1
        revert hy
        show XOk P Φ y e' H' (vcode pc call yld fuel y e' H') → XOk P Φ (.seq x y) e H (vcode pc call yld fuel y e' H')
        cases vcode pc call yld fuel y e' H' with
        | no => intro _; trivial
        | done r2 e2 H2 => exact fun hy => ⟨hy.1, hx.2.1.trans hy.2.1, fun n0 Q hq => hx.2.2 _ _ (hy.2.2 _ _ hq)⟩
      | exit i => exact fun hx => ⟨hx.1, hx.2.1, fun n0 Q hq => hx.2.2 _ _ hq⟩
      | ret => exact fun hx => ⟨hx.1, hx.2.1, fun n0 Q hq => hx.2.2 _ _ hq⟩
      | pan v => exact fun hx => ⟨hx.1, hx.2.1, fun n0 Q hq => hx.2.2 _ _ hq⟩
  | .cond c x y, e, H, hw => by
    rw [vcode]
    split
    · rename_i t ht
      cases t with
      | true =>
        have hx := vcode_sound C x e H hw
        revert hx
        simp only [cond_true]
        cases vcode pc call yld fuel x e H with
        | no => intro _; trivial
        | done r e' H' => exact fun hx => ⟨hx.1, hx.2.1, fun n0 Q hq => by simp only [awp, ht, cond_true]; exact hx.2.2 _ _ hq⟩
      | false =>
        have hx := vcode_sound C y e H hw
        revert hx
        simp only [cond_false]
        cases vcode pc call yld fuel y e H with
        | no => intro _; trivial
        | done r e' H' => exact fun hx => ⟨hx.1, hx.2.1, fun n0 Q hq => by simp only [awp, ht, cond_false]; exact hx.2.2 _ _ hq⟩
    · trivial
  | .block id x, e, H, hw => by
    have hx := vcode_sound C x e H hw
    rw [vcode]
    revert hx
    cases vcode pc call yld fuel x e H with
    | no => intro _; trivial
    | done r e' H' =>
      cases r with
      | normal => exact fun hx => ⟨hx.1, hx.2.1, fun n0 Q hq => hx.2.2 _ _ hq⟩
      | exit i =>
        intro hx
        dsimp only
        cases hi : (i == id) with
        | true => exact ⟨hx.1, hx.2.1, fun n0 Q hq => hx.2.2 _ _ (by simp only [hi, cond_true]; exact hq)⟩
        | false => exact ⟨hx.1, hx.2.1, fun n0 Q hq => hx.2.2 _ _ (by simp only [hi, cond_false]; exact hq)⟩
      | ret => exact fun hx => ⟨hx.1, hx.2.1, fun n0 Q hq => hx.2.2 _ _ hq⟩
      | pan v => exact fun hx => ⟨hx.1, hx.2.1, fun n0 Q hq => hx.2.2 _ _ hq⟩
  | .loop x, e, H, hw => by
    have hB := fun e H hw => vcode_sound C x e H hw
    rw [vcode]
    cases hv : viter (vcode pc call yld fuel x) fuel e H with
    | no => trivial
    | done r e1 H1 =>
      obtain ⟨w1, m1⟩ := viter_mono hB fuel e H r e1 H1 hw hv
      refine ⟨w1, m1, fun n0 Q hq => ?_⟩
      simp only [awp]
      refine ⟨fun m e' h' => ∃ H', H'.wf ∧ h' = H'.heap P ∧ viter (vcode pc call yld fuel x) m e' H' = .done r e1 H1, ⟨fuel, e, _, SEnt.refl, H, hw, rfl, hv⟩, ?_⟩
      rintro m e' h' ⟨H', w', rfl, hm⟩
      cases m with
      | zero => cases hm
      | succ m =>
        have hb := hB e' H' w'
        unfold viter at hm
        split at hm
        · rename_i e2 H2 h2
          rw [h2] at hb
          exact hb.2.2 _ _ ⟨m, Nat.lt_succ_self m, e2, _, SEnt.refl, H2, hb.1, rfl, hm⟩
        · rename_i hne
          rw [hm] at hb
          refine hb.2.2 _ _ ?_
          cases r with
          | normal => exact absurd hm (hne _ _)
          | exit i => exact hq
          | ret => exact hq
          | pan v => exact hq
  | .range f ps N fz aa ab, e, H, hw => by
    rw [vcode]
    split
    · rename_i fid a b hf
      have hc := C.call fid (a ++ [.yld H.n] ++ b) (H.add (.loop .ready none ps N fz aa ab e)) (CH.wf_add hw _)
      revert hc
      cases call fid (a ++ [.yld H.n] ++ b) (H.add (.loop .ready none ps N fz aa ab e)) with
      | no => intro _; trivial
      | pan v H' => intro _; trivial
      | ok v H' =>
        intro hc
        unfold vrange
        dsimp only
        split
        · rename_i st pend ps' N' fz' aa' ab' e' hg
          have key : ∀ x, (st ≠ .busy) → (∀ (Q : AExit → Env → AHeap → Prop), Q x e ((H'.heap P).set H.n .dead) → rangeQ Q e H.n (.ret v) (H'.heap P)) → XOk P Φ (.range f ps N fz aa ab) e H (.done x e (H'.set H.n (.b .dead))) := by
            intro x hst hx
            have hr := (CH.get_some hg).1
            refine ⟨CH.wf_set hc.1 _ _, (Mono.add _ _).trans (hc.2.1.trans (Mono.kill hc.1 hr)), fun n0 Q hq => ?_⟩
            rw [CH.heap_set hc.1 hr] at hq
            simp only [awp, hf]
            have hs := hc.2.2
            rw [CH.heap_add] at hs
            rw [CH.heap_len hw]
            refine hs.mono fun r h'' hh => ?_
            obtain ⟨rfl, rfl⟩ := hh
            exact hx Q hq
          have hgh := CH.heap_get (P := P) hc.1 hg
          split
          · trivial
          · rename_i hst
            have hst' : st ≠ .busy := by intro h; subst h; exact hst rfl
            split
            · exact key .normal hst' fun Q hq => ⟨st, _, _, hgh, hst', hq⟩
            · exact key .ret hst' fun Q hq => ⟨st, _, _, hgh, hst', hq⟩
            · exact key (.exit _) hst' fun Q hq => ⟨st, _, _, hgh, hst', hq⟩
            · trivial
        · trivial
    · trivial
  | .dfr _ _ _ _, e, H, hw => trivial
  | .exit id, e, H, hw => ⟨hw, Mono.refl _, fun _ _ h => h⟩
  | .ret, e, H, hw => ⟨hw, Mono.refl _, fun _ _ h => h⟩
end
end Go.Abs
end
