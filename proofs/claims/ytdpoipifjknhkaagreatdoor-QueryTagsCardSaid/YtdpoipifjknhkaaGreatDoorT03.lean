/- A part of the proof of the card in the last text. -/
import Derived.OrdersIn
import Derived.Test.YtdpoipifjknhkaaGreatDoorT02
section
namespace Go.Abs
open Go.RowKit
section
variable {P : Program} {Φ : World → Prop} {ρ : Option Nat} {g : Gh} {h : AHeap} {w : World} {e : Env} {a : Act} {K X : AV → AHeap → Prop} {o : Oper}
theorem own_alen {args : Array Operand} {argTypes : Array TypeId} {x : Operand} {t : TypeId} (ho : o.op = .call { callee := .builtin .len, args, argTypes }) (ha : args.toList = [x]) (hat : argTypes.toList = [t]) {n : Nat}
    (ht : (∃ q, P.underlying t = some (.array n q)) ∨ ∃ t' q, P.underlying t = some (.pointer t') ∧ P.underlying t' = some (.array n q)) (R : Rel Φ g h w) (hA : aop P Φ e h (.alen n) K X) : Owes P Φ ρ g h w a o K X := by
  have hexec : ∀ v w', (Builtin.len_ #[t] o.type #[a.eval x]).run P w = .ok v w' → (execOp a.eval o).run P w = .ok (.value v) w' := by
    intro v w' hv
    have e1 : args = #[x] := Array.ext' ha
    have e2 : argTypes = #[t] := Array.ext' hat
    simp [execOp, ho, resolve, invoke, builtin, e1, e2, hv]
  refine owes_pure R (hexec (goInt n) w ?_) hA (.int _ _)
  rcases ht with ⟨q, ht⟩ | ⟨t', q, ht, ht'⟩
  · simp only [Builtin.len_, List.getElem?_toArray, List.getElem?_cons_zero, Sem.run_bind, run_underlying ht, Result.andThen_ok, Sem.run_pure]
  · simp only [Builtin.len_, List.getElem?_toArray, List.getElem?_cons_zero, Sem.run_bind, run_underlying ht, run_underlying ht', Result.andThen_ok, Sem.run_pure]
theorem aop_sound {ao : AOp} (hc : compOp P o.op = some ao) (R : Rel Φ g h w) (E : EnvR g h.length w e a) (hA : aop P Φ e h ao K X) : Owes P Φ ρ g h w a o K X := by
  cases ho : o.op with
  | move x =>
    rw [ho] at hc; simp only [compOp, Option.map_eq_some_iff] at hc
    obtain ⟨b, hb, rfl⟩ := hc
    exact own_mov (.inl ho) hb R E hA
  | assign x =>
    rw [ho] at hc; simp only [compOp, Option.map_eq_some_iff] at hc
    obtain ⟨b, hb, rfl⟩ := hc
    exact own_mov (.inr ho) hb R E hA
  | pick c x y =>
    rw [ho] at hc; simp only [compOp] at hc
    split at hc
    · rename_i h1 h2 h3; cases hc; exact own_pick ho h1 h2 h3 R E hA
    · cases hc
  | alloc t =>
    rw [ho] at hc; simp only [compOp, Option.map_eq_some_iff] at hc
    obtain ⟨z, hz, rfl⟩ := hc
    exact own_alloc ho hz R hA
  | box t x =>
    rw [ho] at hc; simp only [compOp] at hc
    split at hc
    · rename_i h1 h2; cases hc; exact own_box ho h2 R E hA
    · cases hc
  | build t parts => exact own_build ho hc R E hA
  | buildSlice t len parts =>
    rw [ho] at hc; simp only [compOp] at hc
    split at hc
    · rename_i elem ht
      split at hc
      · rename_i n z els h1 h2 h3
        split at hc
        · rename_i h4; cases hc; exact own_bslice ho ht h1 h2 h3 h4.1 h4.2.1 h4.2.2 R E hA
        · cases hc
      · cases hc
    · cases hc
  | insert t m k v =>
    rw [ho] at hc; simp only [compOp] at hc
    split at hc
    · rename_i key el ht h1 h2 h3
      split at hc
      · rename_i d hd
        split at hc
        · rename_i hk; cases hc; exact own_mapup (.inr ho) ht hd hk h1 h2 h3 R E hA
        · cases hc
      · cases hc
    · cases hc
  | load t x =>
    rw [ho] at hc; simp only [compOp] at hc
    split at hc
    · rename_i h1 h2; cases hc; exact own_load ho h1 h2 R E hA
    · cases hc
  | store t x y =>
    rw [ho] at hc; simp only [compOp] at hc
    split at hc
    · rename_i h1 h2 h3; cases hc; exact own_store ho h1 h2 h3 R E hA
    · cases hc
  | ready g => rw [ho] at hc; simp [compOp] at hc
  | waits g => rw [ho] at hc; simp [compOp] at hc
  | nilCheck x =>
    rw [ho] at hc; simp only [compOp, Option.map_eq_some_iff] at hc
    obtain ⟨b, hb, rfl⟩ := hc
    exact own_nilchk ho hb R E hA
  | binOp op t x y yt =>
    rw [ho] at hc; simp only [compOp] at hc
    split at hc
    · rename_i h1 h2 h3
      split at hc
      · rename_i tks hf
        split at hc
        · cases hc; exact own_aggeq ho h1 hf rfl h2 h3 R E hA
        · cases hc; exact own_aggeq ho h1 hf rfl h2 h3 R E hA
        · cases hc
      · cases hc
    · rename_i h1 h2 h3; cases hc; exact own_bin ho h1 h2 h3 R E hA
    · cases hc
  | unOp op t x =>
    rw [ho] at hc; simp only [compOp, Option.map_eq_some_iff] at hc
    obtain ⟨b, hb, rfl⟩ := hc
    exact own_un ho hb R E hA
  | convert s t x =>
    rw [ho] at hc; simp only [compOp] at hc
    split at hc
    · rename_i h1 h2 h3; cases hc; exact own_conv ho h1 h2 h3 R E hA
    · rename_i h1 h2 h3; cases hc; exact own_same ho h1 h2 h3 R E hA
    · cases hc
  | sliceToArrayPointer t x => rw [ho] at hc; simp [compOp] at hc
  | makeInterface t x =>
    rw [ho] at hc; simp only [compOp] at hc
    split at hc
    · cases hc
    · rename_i hne _ h1 h2; cases hc; exact own_mkiface ho h1 (fun ms hm => by subst hm; first | exact hne _ h1 | exact (hne _ _ h1) | simp_all) h2 R E hA
    · cases hc
  | makeFunc fn fs cs =>
    rw [ho] at hc
    cases fn <;> simp only [compOp] at hc
    case func f =>
      split at hc
      · rename_i h1 h2; cases hc; exact own_mkfn ho h1 h2 R E hA
      · cases hc
    all_goals cases hc
  | makeMap t r =>
    rw [ho] at hc
    cases r with
    | none => simp only [compOp] at hc; cases hc; exact own_mkmap ho R hA
    | some r => simp [compOp] at hc
  | makeChan t s => rw [ho] at hc; simp [compOp] at hc
  | makeSlice t l c => rw [ho] at hc; simp [compOp] at hc
  | slice t x lo hi mx =>
    rw [ho] at hc
    cases mx with
    | some m => simp [compOp] at hc
    | none =>
      simp only [compOp] at hc
      split at hc
      · rename_i h1 h2 h3 h4; cases hc; exact own_slcS ho h1 h2 h3 h4 R E hA
      · rename_i h1 h2 h3 h4
        simp only [Option.map_eq_some_iff] at hc
        obtain ⟨n, hn, rfl⟩ := hc
        exact own_slc ho h1 hn h2 h3 h4 R E hA
      · cases hc
  | fieldAddr s x f =>
    rw [ho] at hc; simp only [compOp] at hc
    split at hc
    · rename_i h1 h2
      split at hc
      · rename_i h3
        split at hc
        · rename_i h4; cases hc; exact own_fieldAddr ho h1 h3 h4 h2 R E hA
        · cases hc
      · cases hc
    · cases hc
  | field s x f =>
    rw [ho] at hc; simp only [compOp] at hc
    split at hc
    · rename_i h1 h2
      split at hc
      · rename_i h3
        split at hc
        · rename_i h4; cases hc; exact own_field ho h1 h3 h4 h2 R E hA
        · cases hc
      · cases hc
    · cases hc
  | indexAddr t x i =>
    rw [ho] at hc; simp only [compOp] at hc
    split at hc
    · rename_i h1 h2 h3
      simp only [Option.map_eq_some_iff] at hc
      obtain ⟨n, hn, rfl⟩ := hc
      exact own_elemAddr ho h1 hn h2 h3 R E hA
    · rename_i h1 h2 h3
      split at hc
      · rename_i h4; cases hc; exact own_cellAddr ho h1 h4 h2 h3 R E hA
      · cases hc
    · cases hc
  | index t x i =>
    rw [ho] at hc; simp only [compOp] at hc
    split at hc
    · rename_i h1 h2 h3; cases hc; exact own_byteAt ho h1 h2 h3 R E hA
    · rename_i h1 h2 h3
      split at hc
      · rename_i h4 h5; cases hc; exact own_arrAt ho h1 h4 h5 h2 h3 R E hA
      · cases hc
    · cases hc
  | lookup t m k ok =>
    rw [ho] at hc; simp only [compOp] at hc
    split at hc
    · rename_i h1 h2 h3
      split at hc
      · rename_i h4 h5
        split at hc
        · rename_i h6; cases hc; exact own_lookup ho h1 h4 h6 h5 h2 h3 R E hA
        · cases hc
      · cases hc
    · cases hc
  | mapUpdate t m k v =>
    rw [ho] at hc; simp only [compOp] at hc
    split at hc
    · rename_i key el ht h1 h2 h3
      split at hc
      · rename_i d hd
        split at hc
        · rename_i hk; cases hc; exact own_mapup (.inl ho) ht hd hk h1 h2 h3 R E hA
        · cases hc
      · cases hc
    · cases hc
  | mapEntry t m k => rw [ho] at hc; simp [compOp] at hc
  | entryStore t m s v => rw [ho] at hc; simp [compOp] at hc
  | range t x => rw [ho] at hc; simp [compOp] at hc
  | next i s => rw [ho] at hc; simp [compOp] at hc
  | entry i => rw [ho] at hc; simp [compOp] at hc
  | typeAssert x xt t ok =>
    rw [ho] at hc; simp only [compOp] at hc
    split at hc
    · cases hc
    · rename_i hne _ _ h1 h2 h3; cases hc; exact own_tassert ho h1 (fun ms hm => by subst hm; first | exact hne _ h1 | exact (hne _ _ h1) | simp_all) h3 h2 R E hA
    · cases hc
  | extract x i =>
    rw [ho] at hc; simp only [compOp, Option.map_eq_some_iff] at hc
    obtain ⟨b, hb, rfl⟩ := hc
    exact own_extract ho hb R E hA
  | call c =>
    obtain ⟨callee, args, argTypes⟩ := c
    rw [ho] at hc
    cases callee with
    | value x =>
      cases x with
      | func f =>
        simp only [compOp] at hc
        split at hc
        · simp only [Option.map_eq_some_iff] at hc
          obtain ⟨asx, has, rfl⟩ := hc
          exact own_callF ho has R E hA
        · cases hc
      | tmp t =>
        simp only [compOp] at hc
        split at hc
        · rename_i h1 h2; cases hc; exact own_callV ho h1 h2 R E hA
        · cases hc
      | const v =>
        simp only [compOp] at hc
        split at hc
        · rename_i h1 h2; cases hc; exact own_callV ho h1 h2 R E hA
        · cases hc
      | global gl =>
        simp only [compOp] at hc
        split at hc
        · rename_i h1 h2; cases hc; exact own_callV ho h1 h2 R E hA
        · cases hc
    | invoke r m => simp [compOp] at hc
    | builtin b =>
      cases b <;> try (simp [compOp] at hc; done)
      case append =>
        simp only [compOp] at hc
        split at hc
        · rename_i h1 h2
          split at hc
          · rename_i h3 h4 h5 h6
            split at hc
            · rename_i h7 h8
              split at hc
              · rename_i h9; cases hc; exact own_append ho h1 h2 h3 h4 h9.1 h7 h8 h9.2 h5 h6 R E hA
              · cases hc
            · cases hc
          · cases hc
        · cases hc
      case len =>
        simp only [compOp] at hc
        split at hc
        · rename_i h1 h2
          split at hc
          · rename_i h3 h4; cases hc; exact own_len ho h1 h2 h3 (.inl rfl) rfl h4 R E hA
          · rename_i h3 h4; cases hc; exact own_len ho h1 h2 h3 (.inr (.inl ⟨_, rfl⟩)) rfl h4 R E hA
          · rename_i h3 h4; cases hc; exact own_len ho h1 h2 h3 (.inr (.inr ⟨_, _, rfl⟩)) rfl h4 R E hA
          · rename_i h3 h4; cases hc; exact own_alen ho h1 h2 (.inl ⟨_, h3⟩) R hA
          · rename_i h3 h4
            split at hc
            · rename_i h5; cases hc; exact own_alen ho h1 h2 (.inr ⟨_, _, h3, h5⟩) R hA
            · cases hc
          · cases hc
        · cases hc
  | go c => rw [ho] at hc; simp [compOp] at hc
  | defer c => rw [ho] at hc; simp [compOp] at hc
  | panic x =>
    rw [ho] at hc; simp only [compOp, Option.map_eq_some_iff] at hc
    obtain ⟨b, hb, rfl⟩ := hc
    exact own_panic ho hb R E hA
  | send c x => rw [ho] at hc; simp [compOp] at hc
  | recv t c ok => rw [ho] at hc; simp [compOp] at hc
  | select cs b => rw [ho] at hc; simp [compOp] at hc
end
end Go.Abs
end
section
namespace Go.Abs
open Go.RowKit
inductive Low (n : Nat) : AV → Prop
  | any : Low n .any
  | bool (b : Bool) : Low n (.bool b)
  | int (k : IntKind) (i : Int) : Low n (.int k i)
  | str (l : List UInt8) : Low n (.str l)
  | nilp : Low n .nilp
  | ptr (r i o : Nat) (h : r < n) : Low n (.ptr r i o)
  | lptr (v : AV) (o : Nat) (h : ∀ c ∈ v.cells, Low n c) : Low n (.lptr v o)
  | sl (r i m : Nat) (c : Option Nat) (h : r < n) : Low n (.sl r i m c)
  | lst (sz : Nat) (els : List AV) (h : ∀ e ∈ els, ∀ c ∈ e.cells, Low n c) : Low n (.lst sz els)
  | nils : Low n .nils
  | map (r : Nat) (h : r < n) : Low n (.map r)
  | nilm : Low n .nilm
  | fn (f : FuncId) (asx cs : List AV) (h1 : ∀ a ∈ asx, Low n a) (h2 : ∀ a ∈ cs, Low n a) : Low n (.fn f asx cs)
  | yld (r : Nat) (h : r < n) : Low n (.yld r)
  | nilf : Low n .nilf
  | iface (t : TypeId) (a : AV) (h : Low n a) : Low n (.iface t a)
  | nili : Low n .nili
  | agg (asx : List AV) (h : ∀ a ∈ asx, Low n a) : Low n (.agg asx)
  | tup (asx : List AV) (h : ∀ a ∈ asx, Low n a) : Low n (.tup asx)
theorem mem_get {α : Type} {l : List α} {a : α} (h : a ∈ l) : ∃ i : Nat, l[i]? = some a := by
  obtain ⟨i, hi, rfl⟩ := List.getElem_of_mem h
  exact ⟨i, List.getElem?_eq_getElem hi⟩
theorem pair_get {asx : List AV} {vs : List Value} (h : asx.length = vs.length) {a : AV} (ha : a ∈ asx) : ∃ (i : Nat) (v : Value), asx[i]? = some a ∧ vs[i]? = some v := by
  obtain ⟨i, hi⟩ := mem_get ha
  have hl : i < vs.length := by rw [← h]; exact (List.getElem?_eq_some_iff.1 hi).1
  exact ⟨i, _, hi, List.getElem?_eq_getElem hl⟩
theorem VR.low {g : Gh} {n : Nat} {w : World} {a : AV} {v : Value} (h : VR g n w a v) : Low n a := by
  induction h with
  | any v => exact .any
  | bool b => exact .bool b
  | int k i => exact .int k i
  | str l => exact .str l
  | nilp => exact .nilp
  | ptr r i o h => exact .ptr r i o h
  | lptr v o b off f h1 h2 ih => exact .lptr v o fun c hc => by obtain ⟨j, hj⟩ := mem_get hc; exact ih j c hj
  | sl r i m k c h hm hc hk => exact .sl r i m k h
  | lst sz els b off c f hc h0 h1 h2 ih => exact .lst sz els fun e he c hc => by obtain ⟨i, hi⟩ := mem_get he; obtain ⟨j, hj⟩ := mem_get hc; exact ih i e j c hi hj
  | lst0 sz p c => exact .lst sz [] fun e he => by cases he
  | nils => exact .nils
  | map r h => exact .map r h
  | nilm => exact .nilm
  | fn f asx cs vs us h1 h2 _ _ ih3 ih4 => exact .fn f asx cs (fun a ha => by obtain ⟨i, v, h3, h4⟩ := pair_get h1 ha; exact ih3 i a v h3 h4) (fun a ha => by obtain ⟨i, v, h3, h4⟩ := pair_get h2 ha; exact ih4 i a v h3 h4)
  | yld r h => exact .yld r h
  | nilf => exact .nilf
  | iface t a v _ ih => exact .iface t a ih
  | nili => exact .nili
  | agg asx vs h1 _ h3 ih => exact .agg asx fun a ha => by obtain ⟨i, v, h3, h4⟩ := pair_get h1 ha; exact ih i a v h3 h4
  | tup asx vs h1 _ ih => exact .tup asx fun a ha => by obtain ⟨i, v, h3, h4⟩ := pair_get h1 ha; exact ih i a v h3 h4
theorem VR.to_low {g : Gh} {n m : Nat} {w : World} {a : AV} {v : Value} (h : VR g n w a v) : Low m a → VR g m w a v := by
  induction h with
  | any v => exact fun _ => .any v
  | bool b => exact fun _ => .bool b
  | int k i => exact fun _ => .int k i
  | str l => exact fun _ => .str l
  | nilp => exact fun _ => .nilp
  | ptr r i o h => intro hl; cases hl with | ptr _ _ _ h => exact .ptr r i o h
  | lptr v o b off f h1 h2 ih => intro hl; cases hl with | lptr _ _ h => exact .lptr v o b off f h1 fun j c hj => ih j c hj (h c (List.mem_of_getElem? hj))
  | sl r i m k c h hm hc hk => intro hl; cases hl with | sl _ _ _ _ h => exact .sl r i m k c h hm hc hk
  | lst sz els b off c f hc h0 h1 h2 ih => intro hl; cases hl with | lst _ _ h => exact .lst sz els b off c f hc h0 h1 fun i e j a hi hj => ih i e j a hi hj (h e (List.mem_of_getElem? hi) a (List.mem_of_getElem? hj))
  | lst0 sz p c => exact fun _ => .lst0 sz p c
  | nils => exact fun _ => .nils
  | map r h => intro hl; cases hl with | map _ h => exact .map r h
  | nilm => exact fun _ => .nilm
  | fn f asx cs vs us h1 h2 _ _ ih3 ih4 => intro hl; cases hl with | fn _ _ _ k1 k2 => exact .fn f asx cs vs us h1 h2 (fun i a v ha hv => ih3 i a v ha hv (k1 a (List.mem_of_getElem? ha))) (fun i a v ha hv => ih4 i a v ha hv (k2 a (List.mem_of_getElem? ha)))
  | yld r h => intro hl; cases hl with | yld _ h => exact .yld r h
  | nilf => exact fun _ => .nilf
  | iface t a v _ ih => intro hl; cases hl with | iface _ _ h => exact .iface t a v (ih h)
  | nili => exact fun _ => .nili
  | agg asx vs h1 _ h3 ih => intro hl; cases hl with | agg _ h => exact .agg asx vs h1 (fun i a v ha hv => ih i a v ha hv (h a (List.mem_of_getElem? ha))) h3
  | tup asx vs h1 _ ih => intro hl; cases hl with | tup _ h => exact .tup asx vs h1 (fun i a v ha hv => ih i a v ha hv (h a (List.mem_of_getElem? ha)))
def ABLow (n : Nat) : AB → Prop
  | .dead => True
  | .cells _ _ _ els => ∀ e ∈ els, ∀ c ∈ e.cells, Low n c
  | .map ents => ∀ p ∈ ents, Low n p.1 ∧ Low n p.2
  | .loop _ _ X => ∀ t, Low n (X.e.get t)
def HLow (n : Nat) (h : AHeap) : Prop := ∀ b ∈ h, ABLow n b
section
variable {P : Program} {Φ : World → Prop} {g : Gh} {h : AHeap} {w : World}
theorem BR.low {n r : Nat} {b : AB} (hb : BR g n w r b) : ABLow n b := by
  cases b with
  | dead => trivial
  | cells gr T esz els =>
    obtain ⟨_, _, _, _, cs, _, _, _, _, f, h7⟩ := hb
    intro e he c hc
    obtain ⟨i, hi⟩ := mem_get he
    obtain ⟨j, hj⟩ := mem_get hc
    exact (h7 i e j c hi hj).2.2.low
  | map ents =>
    obtain ⟨_, es, clock, _, _, h4⟩ := hb
    intro p hp
    obtain ⟨i, hi⟩ := mem_get hp
    obtain ⟨e, _, h6, h7⟩ := h4 i p.1 p.2 hi
    exact ⟨h6.low, h7.low⟩
  | loop st pend X =>
    obtain ⟨_, fn, d, tmps, ps, assign, body, _, _, _, _, h6⟩ := hb
    exact fun t => (h6 t).low
theorem Rel.low (R : Rel Φ g h w) : HLow h.length h := fun b hb => by
  obtain ⟨r, hr⟩ := mem_get hb
  exact (R.blk r b hr).low
theorem BR.to_low {n m r : Nat} {b : AB} (hb : BR g n w r b) (hl : ABLow m b) : BR g m w r b := by
  cases b with
  | dead => trivial
  | cells gr T esz els =>
    obtain ⟨h1, h1', h2, h3, cs, h4, h5, h6, h6', f, h7⟩ := hb
    exact ⟨h1, h1', h2, h3, cs, h4, h5, h6, h6', f, fun i e j a he ha => ⟨(h7 i e j a he ha).1, (h7 i e j a he ha).2.1, (h7 i e j a he ha).2.2.to_low (hl e (List.mem_of_getElem? he) a (List.mem_of_getElem? ha))⟩⟩
  | map ents =>
    obtain ⟨h1, es, clock, h2, h3, h4⟩ := hb
    refine ⟨h1, es, clock, h2, h3, fun i a v h5 => ?_⟩
    obtain ⟨e, h6, h7, h8⟩ := h4 i a v h5
    have := hl (a, v) (List.mem_of_getElem? h5)
    exact ⟨e, h6, h7.to_low this.1, h8.to_low this.2⟩
  | loop st pend X =>
    obtain ⟨h1, fn, d, tmps, ps, assign, body, h2, h3, h4, h5, h6⟩ := hb
    exact ⟨h1, fn, d, tmps, ps, assign, body, h2, h3, h4, h5, fun t => (h6 t).to_low (hl t)⟩
theorem Rel.drop {h1 h2 : AHeap} (R : Rel Φ g (h1 ++ h2) w) (hl : HLow h1.length h1) : Rel Φ g h1 w := by
  have get : ∀ (r : Nat) (b : AB), h1[r]? = some b → (h1 ++ h2)[r]? = some b := fun r b hr => by rw [List.getElem?_append_left (List.getElem?_eq_some_iff.1 hr).1]; exact hr
  exact ⟨fun r b hr => (R.blk r b (get r b hr)).to_low (hl b (List.mem_of_getElem? hr)), fun r s b c hr hs => R.inj r s b c (get r b hr) (get s c hs), R.immv, R.below, R.base, R.ok, R.dfrv⟩
theorem Rel.freeze (R : Rel Φ g h w) {r : Nat} {gr : Bool} {T : TypeId} {esz : Nat} {els : List AV} (hr : h[r]? = some (.cells gr T esz els)) :
    ∃ g', Rel Φ g' (h.set r .dead) w ∧ Ext h.length g w g' w ∧ (∀ i m c u, i + m ≤ els.length → VR g h.length w (.sl r i m c) u → VR g' h.length w (.lst esz ((els.drop i).take m)) u) ∧
      (∀ i e u, els[i]? = some e → VR g h.length w (.ptr r i 0) u → VR g' h.length w (.lptr e 0) u) := by
  obtain ⟨hb1, hb1', hb2, hb3, cs, hb, hsz, hcap, hgr, f, hf⟩ := R.blk r _ hr
  subst hb1'
  have hrl := R.lt hr
  let g' : Gh := { g with imm := fun b o => g.imm b o ∨ (b = g.loc r ∧ o < els.length * g.esz r) }
  have hE : Ext h.length g w g' w := ⟨fun _ _ => rfl, fun _ _ => rfl, fun _ _ => rfl, fun _ _ h => .inl h, fun _ _ _ => rfl, rfl, rfl, Nat.le_refl _, fun _ h => h⟩
  have hle : els.length * g.esz r ≤ cs.size := by rw [hsz]; exact Nat.mul_le_mul_right _ hcap
  refine ⟨g', ⟨fun s c hc => ?_, (R.kill r).inj, fun b o hi => ?_, R.below, R.base, R.ok, R.dfrv⟩, hE, fun i m c u him V => ?_, fun i e u he V => ?_⟩
  · rw [List.length_set]
    by_cases hlc : c.live = true
    · have hsr : r ≠ s := by
        intro hsr; subst hsr
        rw [List.getElem?_set_self hrl] at hc
        cases hc; cases hlc
      rw [List.getElem?_set_ne hsr] at hc
      refine (R.blk s c hc).ext hE (Nat.le_refl _) (R.lt hc) rfl fun o hi => ?_
      rcases hi with hi | ⟨hi, _⟩
      · exact R.notimm hc hlc o hi
      · exact R.inj s r c _ hc hr hlc rfl (Ne.symm hsr) hi
    · cases c <;> simp [AB.live] at hlc; trivial
  · rcases hi with hi | ⟨rfl, hi⟩
    · exact R.immv b o hi
    · have : o < cs.size := by omega
      exact ⟨cs[o], by rw [cell_of_heap hb]; simp [this]⟩
  · cases V with
    | sl _ _ _ _ cc hrl' hm hc hk =>
      have hlen : ((els.drop i).take m).length = m := by simp; omega
      have hsub : ∀ (j : Nat) (x : AV), ((els.drop i).take m)[j]? = some x → els[i + j]? = some x := by
        intro j x hx
        have hj : j < m := by rw [← hlen]; exact (List.getElem?_eq_some_iff.1 hx).1
        rw [List.getElem?_take_of_lt hj, List.getElem?_drop] at hx
        exact hx
      have := VR.lst (g := g') (n := h.length) (w := w) (g.esz r) ((els.drop i).take m) (g.loc r) (i * g.esz r) cc (fun j k => f (i + j) k) (by omega) (fun j x hx => hb3 _ _ (hsub j x hx))
        (fun j x k c hx hc => by
          obtain ⟨k1, k2, k3⟩ := hf _ _ k c (hsub j x hx) hc
          have e1 : i * g.esz r + j * g.esz r + k = (i + j) * g.esz r + k := by rw [Nat.add_mul]
          rw [e1]
          refine ⟨.inr ⟨rfl, ?_⟩, by rw [cell_of_heap hb]; exact k1, k2⟩
          have h1 : i + j < els.length := (List.getElem?_eq_some_iff.1 (hsub j x hx)).1
          have h2 : k < g.esz r := by rw [← hb3 _ _ (hsub j x hx)]; exact (List.getElem?_eq_some_iff.1 hc).1
          have h3 := Nat.mul_le_mul_right (g.esz r) h1
          rw [Nat.succ_mul] at h3
          omega)
        (fun j x k c hx hc => (hf _ _ k c (hsub j x hx) hc).2.2.ext hE (Nat.le_refl _))
      rw [hlen] at this
      exact this
  · cases V with
    | ptr _ _ _ hrl' =>
      have := VR.lptr (g := g') (n := h.length) (w := w) e 0 (g.loc r) (i * g.esz r) (f i)
        (fun k c hc => by
          obtain ⟨k1, k2, k3⟩ := hf _ _ k c he hc
          refine ⟨.inr ⟨rfl, ?_⟩, by rw [cell_of_heap hb]; exact k1, k2⟩
          have h1 : i < els.length := (List.getElem?_eq_some_iff.1 he).1
          have h2 : k < g.esz r := by rw [← hb3 _ _ he]; exact (List.getElem?_eq_some_iff.1 hc).1
          have h3 := Nat.mul_le_mul_right (g.esz r) h1
          rw [Nat.succ_mul] at h3
          omega)
        (fun k c hc => (hf _ _ k c he hc).2.2.ext hE (Nat.le_refl _))
      exact this
structure FEnt (Φ : World → Prop) (n0 : Nat) (v : AV) (h : AHeap) (v' : AV) (h' : AHeap) : Prop where
  len : n0 ≤ h.length → n0 ≤ h'.length
  ent : ∀ g w u, Rel Φ g h w → VR g h.length w v u → ∃ g', Rel Φ g' h' w ∧ VR g' h'.length w v' u ∧ Ext n0 g w g' w
theorem FEnt.refl (n0 : Nat) (v : AV) (h : AHeap) : FEnt Φ n0 v h v h := ⟨id, fun g _ _ R V => ⟨g, R, V, Ext.refl _ _ _⟩⟩
theorem FEnt.trans {n0 : Nat} {v v1 v2 : AV} {h h1 h2 : AHeap} (a : FEnt Φ n0 v h v1 h1) (b : FEnt Φ n0 v1 h1 v2 h2) : FEnt Φ n0 v h v2 h2 :=
  ⟨fun hl => b.1 (a.1 hl), fun g w u R V => by
    obtain ⟨g1, R1, V1, E1⟩ := a.2 g w u R V
    obtain ⟨g2, R2, V2, E2⟩ := b.2 g1 w u R1 V1
    exact ⟨g2, R2, V2, E1.trans E2 (Nat.le_refl _)⟩⟩
theorem FEnt.drop {n0 : Nat} {v : AV} {h1 h2 : AHeap} (hn : n0 ≤ h1.length) (hl : HLow h1.length h1) (hv : Low h1.length v) : FEnt Φ n0 v (h1 ++ h2) v h1 :=
  ⟨fun _ => hn, fun g _ _ R V => ⟨g, R.drop hl, V.to_low hv, Ext.refl _ _ _⟩⟩
inductive Frz (r : Nat) (esz : Nat) (els : List AV) : AV → AV → Prop
  | refl (a : AV) : Frz r esz els a a
  | sl (i m : Nat) (c : Option Nat) (h : i + m ≤ els.length) : Frz r esz els (.sl r i m c) (.lst esz ((els.drop i).take m))
  | ptr (i : Nat) (e : AV) (h : els[i]? = some e) : Frz r esz els (.ptr r i 0) (.lptr e 0)
  | agg (asx bs : List AV) (hl : asx.length = bs.length) (h : ∀ (i : Nat) (a b : AV), asx[i]? = some a → bs[i]? = some b → Frz r esz els a b) : Frz r esz els (.agg asx) (.agg bs)
  | tup (asx bs : List AV) (hl : asx.length = bs.length) (h : ∀ (i : Nat) (a b : AV), asx[i]? = some a → bs[i]? = some b → Frz r esz els a b) : Frz r esz els (.tup asx) (.tup bs)
  | iface (t : TypeId) (a b : AV) (h : Frz r esz els a b) : Frz r esz els (.iface t a) (.iface t b)
  | fn (f : FuncId) (asx bs cs ds : List AV) (hl : asx.length = bs.length) (hl' : cs.length = ds.length) (h : ∀ (i : Nat) (a b : AV), asx[i]? = some a → bs[i]? = some b → Frz r esz els a b)
      (h' : ∀ (i : Nat) (a b : AV), cs[i]? = some a → ds[i]? = some b → Frz r esz els a b) : Frz r esz els (.fn f asx cs) (.fn f bs ds)
theorem Frz.vr {r esz : Nat} {els : List AV} {g g' : Gh} {n : Nat} (hE : Ext n g w g' w) (hs : ∀ i m c u, i + m ≤ els.length → VR g n w (.sl r i m c) u → VR g' n w (.lst esz ((els.drop i).take m)) u)
    (hp : ∀ i e u, els[i]? = some e → VR g n w (.ptr r i 0) u → VR g' n w (.lptr e 0) u) {a b : AV} (h : Frz r esz els a b) : ∀ u, VR g n w a u → VR g' n w b u := by
  induction h with
  | refl a => exact fun u V => V.ext hE (Nat.le_refl _)
  | sl i m c h => exact fun u V => hs i m c u h V
  | ptr i e h => exact fun u V => hp i e u h V
  | agg asx bs hl h ih =>
    intro u V
    cases V with
    | agg _ vs h1 h2 h3 =>
      refine .agg bs vs (hl.symm.trans h1) (fun i b v hb hv => ?_) (by assumption)
      have hi : i < asx.length := by rw [hl]; exact (List.getElem?_eq_some_iff.1 hb).1
      have ha := List.getElem?_eq_getElem hi
      exact ih i _ b ha hb v (by first | exact h2 i _ v ha hv | exact h3 i _ v ha hv)
  | tup asx bs hl h ih =>
    intro u V
    cases V with
    | tup _ vs h1 h2 =>
      refine .tup bs vs (hl.symm.trans h1) (fun i b v hb hv => ?_)
      have hi : i < asx.length := by rw [hl]; exact (List.getElem?_eq_some_iff.1 hb).1
      have ha := List.getElem?_eq_getElem hi
      exact ih i _ b ha hb v (h2 i _ v ha hv)
  | iface t a b h ih =>
    intro u V
    cases V with
    | iface _ _ v hv => exact .iface t b v (ih v hv)
  | fn f asx bs cs ds hl hl' h h' ih ih' =>
    intro u V
    cases V with
    | fn _ _ _ vs us h1 h2 h3 h4 =>
      refine .fn f bs ds vs us (hl.symm.trans h1) (hl'.symm.trans h2) (fun i b v hb hv => ?_) (fun i b v hb hv => ?_)
      · have hi : i < asx.length := by rw [hl]; exact (List.getElem?_eq_some_iff.1 hb).1
        have ha := List.getElem?_eq_getElem hi
        exact ih i _ b ha hb v (h3 i _ v ha hv)
      · have hi : i < cs.length := by rw [hl']; exact (List.getElem?_eq_some_iff.1 hb).1
        have ha := List.getElem?_eq_getElem hi
        exact ih' i _ b ha hb v (h4 i _ v ha hv)
theorem FEnt.freeze {n0 : Nat} {v v' : AV} {h : AHeap} {r : Nat} {gr : Bool} {T : TypeId} {esz : Nat} {els : List AV} (hr : h[r]? = some (.cells gr T esz els)) (hn : n0 ≤ h.length) (hf : Frz r esz els v v') : FEnt Φ n0 v h v' (h.set r .dead) :=
  ⟨fun hl => by simpa using hl, fun g w u R V => by
    obtain ⟨g', R', E', hs, hp⟩ := R.freeze hr
    refine ⟨g', R', ?_, E'.mono hn⟩
    rw [List.length_set]
    exact hf.vr E' hs hp u V⟩
end
section
variable {P : Program} {Φ : World → Prop} {ρ : Option Nat} {g : Gh} {h : AHeap} {w : World} {e : Env} {a : Act} {K X : AV → AHeap → Prop} {o : Oper}
theorem owes_fent {v1 v : AV} {h1 h' : AHeap} (hO : Owes P Φ ρ g h w a o (fun v h => v = v1 ∧ h = h1) X) (F : FEnt Φ h.length v1 h1 v h') (hk : K v h') (hl1 : h.length ≤ h1.length) : Owes P Φ ρ g h w a o K X := by
  intro next Q hK hX
  refine hO next Q (fun v2 h2 g' w' u hk2 R' V' E' hl => ?_) hX
  obtain ⟨rfl, rfl⟩ := hk2
  obtain ⟨g2, R2, V2, E2⟩ := F.2 g' w' u R' V'
  exact hK v h' g2 w' u hk R2 V2 (E'.trans E2 (Nat.le_refl _)) (F.1 hl1)
theorem Low.cells {n : Nat} {v : AV} (h : Low n v) : ∀ c ∈ v.cells, Low n c := by
  cases h with
  | agg asx h => exact h
  | _ => intro c hc; simp only [AV.cells, List.mem_singleton] at hc; subst hc; constructor <;> assumption
theorem frozen_at_end {T : TypeId} {esz : Nat} {els : List AV} (R : Rel Φ g h w) {v v' : AV} (hf : Frz h.length esz els v v') (hlow : Low h.length v') : FEnt Φ h.length v (h ++ [.cells false T esz els]) v' h := by
  have h1 := FEnt.freeze (Φ := Φ) (n0 := h.length) (v := v) (v' := v') (h := h ++ [.cells false T esz els]) (r := h.length) (gr := false) (T := T) (esz := esz) (els := els) (by simp) (by simp) hf
  have h2 : (h ++ [AB.cells false T esz els]).set h.length .dead = h ++ [.dead] := by simp [List.set_append]
  rw [h2] at h1
  exact h1.trans (FEnt.drop (Nat.le_refl _) R.low hlow)
theorem evs_low {xs : List AX} {vs : List Value} (V : VRs g h.length w (xs.map (AX.ev e)) vs) : ∀ x ∈ xs.map (AX.ev e), Low h.length x := by
  intro x hx
  obtain ⟨i, v, h1, h2⟩ := pair_get V.1 hx
  exact (V.2 i x v h1 h2).low
theorem aopF_sound {ao : AOp} (hc : compOpF P o.op = some ao) (R : Rel Φ g h w) (E : EnvR g h.length w e a) (hA : aop P Φ e h ao K X) : Owes P Φ ρ g h w a o K X := by
  cases ho : o.op with
  | box t x =>
    rw [ho] at hc; simp only [compOpF] at hc
    split at hc
    · rename_i n b h1 h2
      cases hc
      obtain ⟨hs, hn, hk⟩ := hA
      have hB : aop P Φ e h (.box t n b) (fun v h' => v = .ptr h.length 0 0 ∧ h' = h ++ [.cells false t n [b.ev e]]) X := ⟨hs, hn, rfl, rfl⟩
      refine owes_fent (own_box ho h2 R E hB) ?_ hk (by simp)
      exact frozen_at_end R (.ptr 0 _ rfl) (.lptr _ _ (compX_sound h2 E).low.cells)
    · cases hc
  | buildSlice t len parts =>
    rw [ho] at hc; simp only [compOpF] at hc
    split at hc
    · rename_i elem ht
      split at hc
      · rename_i n z els h1 h2 h3
        split at hc
        · rename_i h4
          cases hc
          obtain ⟨hs, hk⟩ := hA
          have hB : aop P Φ e h (.bslice elem n els) (fun v h' => v = .sl h.length 0 els.length (some els.length) ∧ h' = h ++ [.cells false elem n (els.map (AX.ev e))]) X := ⟨hs, rfl, rfl⟩
          refine owes_fent (own_bslice ho ht h1 h2 h3 h4.1 h4.2.1 h4.2.2 R E hB) ?_ hk (by simp)
          have hf := Frz.sl (r := h.length) (esz := n) (els := els.map (AX.ev e)) 0 els.length (some els.length) (by simp)
          have he : ((els.map (AX.ev e)).drop 0).take els.length = els.map (AX.ev e) := by rw [List.drop_zero, List.take_of_length_le (by simp)]
          rw [he] at hf
          exact frozen_at_end R hf (.lst _ _ fun x hx => (evs_low (inOrder_sound E h3).1 x hx).cells)
        · cases hc
      · cases hc
    · cases hc
  | _ => rw [ho] at hc; cases hc
theorem aopA_sound {b : Bool} {ao : AOp} (hc : compOpA P b o.op = some ao) (R : Rel Φ g h w) (E : EnvR g h.length w e a) (hA : aop P Φ e h ao K X) : Owes P Φ ρ g h w a o K X := by
  cases b with
  | true => exact aopF_sound hc R E hA
  | false => exact aop_sound hc R E hA
theorem compOpA_noDefer {b : Bool} {o : Op} {ao : AOp} (hc : compOpA P b o = some ao) : ∀ c, o ≠ .defer c := by
  intro c h; subst h
  cases b <;> simp [compOpA, compOpF, compOp] at hc
end
end Go.Abs
end
section
namespace Go.Abs
open Go.RowKit
theorem AX.ev_congr {e e' : Env} {x : AX} (h : ∀ t ∈ x.us, e.get t = e'.get t) : x.ev e = x.ev e' := by
  cases x with
  | tmp t => exact h t (by simp [AX.us])
  | val v => rfl
theorem AX.evs_congr {e e' : Env} {l : List AX} (h : ∀ t ∈ AX.uss l, e.get t = e'.get t) : l.map (AX.ev e) = l.map (AX.ev e') :=
  List.map_congr_left fun x hx => AX.ev_congr fun t ht => h t (List.mem_flatMap.2 ⟨x, hx, ht⟩)
theorem AX.evo_congr {e e' : Env} {l : Option AX} (h : ∀ t ∈ AX.uso l, e.get t = e'.get t) : l.map (AX.ev e) = l.map (AX.ev e') := by
  cases l with
  | none => rfl
  | some x => simp only [Option.map_some]; rw [AX.ev_congr h]
section
variable {P : Program} {Φ : World → Prop}
theorem aop_congr {e e' : Env} {h : AHeap} {op : AOp} {K X : AV → AHeap → Prop} (hu : ∀ t ∈ op.us, e.get t = e'.get t) (hA : aop P Φ e h op K X) : aop P Φ e' h op K X := by
  have l1 : ∀ {a b : List Nat}, (∀ t ∈ a ++ b, e.get t = e'.get t) → (∀ t ∈ a, e.get t = e'.get t) ∧ (∀ t ∈ b, e.get t = e'.get t) := fun h => ⟨fun t ht => h t (by simp [ht]), fun t ht => h t (by simp [ht])⟩
  cases op <;> simp only [AOp.us] at hu <;> simp only [aop] at hA ⊢
  case pick c a b => obtain ⟨h1, h2⟩ := l1 hu; obtain ⟨h3, h4⟩ := l1 h2; rw [← AX.ev_congr h1, ← AX.ev_congr h3, ← AX.ev_congr h4]; exact hA
  case mapup tk a b c => obtain ⟨h1, h2⟩ := l1 hu; obtain ⟨h3, h4⟩ := l1 h2; rw [← AX.ev_congr h1, ← AX.ev_congr h3, ← AX.ev_congr h4]; exact hA
  case alloc => exact hA
  case mkmap => exact hA
  case alen => exact hA
  case build z ps =>
    have : (ps.map fun p => (p.1, p.2.1, p.2.2.ev e)) = (ps.map fun p => (p.1, p.2.1, p.2.2.ev e')) := List.map_congr_left fun p hp => by
      rw [AX.ev_congr (e := e) (e' := e') fun t ht => hu t (List.mem_flatMap.2 ⟨p, hp, ht⟩)]
    rw [← this]; exact hA
  case bslice => rw [← AX.evs_congr hu]; exact hA
  case fslice => rw [← AX.evs_congr hu]; exact hA
  case callF => rw [← AX.evs_congr hu]; exact hA
  case mkfn => obtain ⟨h1, h2⟩ := l1 hu; rw [← AX.evs_congr h1, ← AX.evs_congr h2]; exact hA
  case callV => obtain ⟨h1, h2⟩ := l1 hu; rw [← AX.ev_congr h1, ← AX.evs_congr h2]; exact hA
  case slcS => obtain ⟨h1, h2⟩ := l1 hu; obtain ⟨h3, h4⟩ := l1 h2; rw [← AX.ev_congr h1, ← AX.evo_congr h3, ← AX.evo_congr h4]; exact hA
  case slc => obtain ⟨h1, h2⟩ := l1 hu; obtain ⟨h3, h4⟩ := l1 h2; rw [← AX.ev_congr h1, ← AX.evo_congr h3, ← AX.evo_congr h4]; exact hA
  case bin tk op x y =>
    obtain ⟨h1, h2⟩ := l1 hu
    rw [← AX.ev_congr h1]
    cases y with
    | val v => exact hA
    | tmp t => simp only [AX.us, List.mem_singleton, forall_eq] at h2; simp only at hA ⊢; rw [← h2]; exact hA
  all_goals first
    | (rw [← AX.ev_congr hu]; exact hA)
    | (obtain ⟨h1, h2⟩ := l1 hu; rw [← AX.ev_congr h1, ← AX.ev_congr h2]; exact hA)
end
def DC (afs : List (List Nat)) (L : Nat → Bool) : Prop := ∀ k l, afs[k]? = some l → L k = true → ∀ j ∈ l, L j = true
theorem cl1_spec {acc : List Nat} {j : Nat} : ∀ {af : List Nat}, (cl1 acc af).testBit j = true → ∃ i ∈ af, i = j ∨ (acc.getD i 0).testBit j = true
  | [], h => by simp [cl1] at h
  | a :: af, h => by
    simp only [cl1, List.foldr_cons, Nat.testBit_or, Bool.or_eq_true, Nat.testBit_two_pow, decide_eq_true_eq] at h
    rcases h with h | h | h
    · obtain ⟨i, hi, hj⟩ := cl1_spec (af := af) h
      exact ⟨i, List.mem_cons_of_mem _ hi, hj⟩
    · exact ⟨a, List.mem_cons_self, .inl h⟩
    · exact ⟨a, List.mem_cons_self, .inr h⟩
theorem clAll_spec {afs : List (List Nat)} {L : Nat → Bool} (hd : DC afs L) : ∀ (r : List (List Nat)) (acc : List Nat), (∀ k, r[k]? = afs[acc.length + k]?) →
    (∀ k m, acc[k]? = some m → L k = true → ∀ j, m.testBit j = true → L j = true) →
    ∀ k m, (clAll r acc)[k]? = some m → L k = true → ∀ j, m.testBit j = true → L j = true
  | [], acc, _, ha => by simpa [clAll] using ha
  | af :: r, acc, hr, ha => by
    simp only [clAll]
    refine clAll_spec hd r _ (fun k => ?_) (fun k m hk hL j hj => ?_)
    · have := hr (k + 1)
      simpa [Nat.add_assoc, Nat.add_comm 1 k] using this
    · by_cases hlt : k < acc.length
      · rw [List.getElem?_append_left hlt] at hk
        exact ha k m hk hL j hj
      · rw [List.getElem?_append_right (Nat.le_of_not_lt hlt)] at hk
        have hk0 : k - acc.length = 0 := by
          by_cases h0 : k - acc.length = 0
          · exact h0
          · rw [List.getElem?_singleton, if_neg h0] at hk; cases hk
        have hke : k = acc.length := by omega
        rw [hk0] at hk
        simp only [List.getElem?_cons_zero, Option.some.injEq] at hk
        subst hk
        obtain ⟨i, hi, hij⟩ := cl1_spec hj
        have haf : afs[k]? = some af := by rw [hke]; have := hr 0; simpa using this.symm
        have hLi := hd k af haf hL i hi
        rcases hij with rfl | hij
        · exact hLi
        · rw [List.getD_eq_getElem?_getD] at hij
          cases hai : acc[i]? with
          | none => rw [hai] at hij; simp at hij
          | some m' => rw [hai] at hij; exact ha i m' hai hLi j hij
theorem bef_spec {afs : List (List Nat)} {L : Nat → Bool} (hd : DC afs L) {k j : Nat} (hL : L k = true) (hb : ((clAll afs []).getD k 0).testBit j = true) : L j = true := by
  rw [List.getD_eq_getElem?_getD] at hb
  cases h : (clAll afs [])[k]? with
  | none => rw [h] at hb; simp at hb
  | some m => rw [h] at hb; exact clAll_spec hd afs [] (by simp) (by simp) k m h hL j hb
theorem cx_succ {l : List DOp} {k : Nat} {d : DOp} (h : l[k]? = some d) : cx l (k + 1) = cx l k + (if d.x then 1 else 0) := by
  unfold cx
  rw [List.take_add_one, h]
  simp only [Option.toList_some, List.countP_append, List.countP_cons, List.countP_nil, Nat.zero_add]
theorem cx_mono {l : List DOp} {i j : Nat} (h : i ≤ j) : cx l i ≤ cx l j := by
  unfold cx
  have : l.take i = (l.take j).take i := by rw [List.take_take, Nat.min_eq_left h]
  rw [this]
  exact List.Sublist.countP_le (List.take_sublist _ _)
def wantA (e : Env) : Option (Nat × Bool) → Option Bool
  | none => some true
  | some (t, b) => match e.get t with
    | .bool c => some (c == b)
    | .tup [] => some false
    | _ => none
def putE (d : Option Nat) (v : AV) (e : Env) : Env :=
  match d with
  | none => e
  | some t => (t, v) :: e
section
variable (P : Program) (Φ : World → Prop)
def PureAt (e : Env) (h : AHeap) (op : AOp) (v : AV) : Prop := aop P Φ e h op (fun v' h' => v' = v ∧ h' = h) (fun _ _ => False)
def adraw : List DOp → Env → List AHeap → AHeap → List (AHeap → Prop) → (Env → AHeap → Prop) → Prop
  | [], e, _, h, _, N => N e h
  | o :: os, e, hist, h, pd, N =>
    let run := bif o.x then ∃ v h', aop P Φ e h o.op.op (fun v' h'' => v' = v ∧ h'' = h') (fun _ _ => False) ∧ (∀ p ∈ pd, p h') ∧ adraw os (putE o.op.dst v e) (h :: hist) h' pd N
      else ∃ v, PureAt P Φ e h o.op.op v ∧ (∀ hh ∈ hist.take o.back, PureAt P Φ e hh o.op.op v) ∧
        adraw os (putE o.op.dst v e) hist h (bif o.late then (fun h => PureAt P Φ e h o.op.op v) :: pd else pd) N
    let skip := adraw os (putE o.op.dst undefA e) (bif o.x then h :: hist else hist) h pd N
    match o.op.gd with
    | none => run
    | some (t, b) => match e.get t with
      | .bool c => match b with
        | true => bif c then run else skip
        | false => bif c then skip else run
      | .tup [] => skip
      | _ => False
theorem adraw_cases {o : DOp} {os : List DOp} {e : Env} {hist : List AHeap} {h : AHeap} {pd : List (AHeap → Prop)} {N : Env → AHeap → Prop} (hA : adraw P Φ (o :: os) e hist h pd N) :
    (wantA e o.op.gd = some true ∧ bif o.x then ∃ v h', aop P Φ e h o.op.op (fun v' h'' => v' = v ∧ h'' = h') (fun _ _ => False) ∧ (∀ p ∈ pd, p h') ∧ adraw P Φ os (putE o.op.dst v e) (h :: hist) h' pd N
      else ∃ v, PureAt P Φ e h o.op.op v ∧ (∀ hh ∈ hist.take o.back, PureAt P Φ e hh o.op.op v) ∧
        adraw P Φ os (putE o.op.dst v e) hist h (bif o.late then (fun h => PureAt P Φ e h o.op.op v) :: pd else pd) N) ∨
    (wantA e o.op.gd = some false ∧ adraw P Φ os (putE o.op.dst undefA e) (bif o.x then h :: hist else hist) h pd N) := by
  simp only [adraw] at hA
  cases hg : o.op.gd with
  | none => rw [hg] at hA; exact .inl ⟨rfl, hA⟩
  | some p =>
    obtain ⟨t, b⟩ := p
    rw [hg] at hA
    simp only [wantA] at hA ⊢
    cases ht : e.get t with
    | bool c =>
      rw [ht] at hA
      simp only at hA ⊢
      cases b <;> cases c <;> simp only [cond_true, cond_false] at hA <;> first
        | exact .inl ⟨rfl, hA⟩
        | exact .inr ⟨rfl, hA⟩
    | tup l =>
      rw [ht] at hA
      cases l with
      | nil => exact .inr ⟨rfl, hA⟩
      | cons => exact hA.elim
    | _ => rw [ht] at hA; exact hA.elim
end
theorem Env.get_put (d : Option Nat) (v : AV) (e : Env) (t : Nat) : (putE d v e).get t = if d = some t then v else e.get t := by
  cases d with
  | none => simp [putE]
  | some s =>
    simp only [putE, Env.get]
    by_cases h : s = t
    · subst h; simp
    · have : Nat.beq t s = false := by
        cases hb : Nat.beq t s with
        | false => rfl
        | true => exact absurd (Nat.eq_of_beq_eq_true hb).symm h
      rw [this]; simp [h]
def envK (ds : List DOp) (e0 : Env) (V : Nat → AV) : Nat → Env
  | 0 => e0
  | k + 1 => putE ((ds[k]?).bind (·.op.dst)) (V k) (envK ds e0 V k)
theorem envK_congr {ds : List DOp} {e0 : Env} {V V' : Nat → AV} : ∀ {k : Nat}, (∀ j, j < k → V j = V' j) → envK ds e0 V k = envK ds e0 V' k
  | 0, _ => rfl
  | k + 1, h => by simp only [envK]; rw [h k (Nat.lt_succ_self k), envK_congr fun j hj => h j (Nat.lt_succ_of_lt hj)]
section
variable {P : Program} {Φ : World → Prop}
structure Fact (P : Program) (Φ : World → Prop) (ds : List DOp) (e0 : Env) (m : Nat) (V : Nat → AV) (B : Nat → Bool) (H : Nat → AHeap) (k : Nat) (d : DOp) : Prop where
  want : wantA (envK ds e0 V k) d.op.gd = some (B k)
  run : B k = true → aop P Φ (envK ds e0 V k) (H k) d.op.op (fun v h => v = V k ∧ h = H (k + 1)) (fun _ _ => False)
  skip : B k = false → V k = undefA ∧ H (k + 1) = H k
  still : d.x = false → H (k + 1) = H k
  back : B k = true → d.x = false → ∀ j, j ≤ k → cx ds k ≤ cx ds j + d.back → PureAt P Φ (envK ds e0 V k) (H j) d.op.op (V k)
  late : B k = true → d.x = false → d.late = true → ∀ j, k < j → j ≤ m → PureAt P Φ (envK ds e0 V k) (H j) d.op.op (V k)
theorem adraw_trace {ds : List DOp} {e0 : Env} {N : Env → AHeap → Prop} : ∀ (os : List DOp) (m : Nat), (∀ k, os[k]? = ds[m + k]?) → ∀ (V : Nat → AV) (B : Nat → Bool) (H : Nat → AHeap) (hist : List AHeap) (pd : List (AHeap → Prop)),
    (∀ k d, k < m → ds[k]? = some d → Fact P Φ ds e0 m V B H k d) →
    (∀ k d, k < m → ds[k]? = some d → B k = true → d.x = false → d.late = true → (fun h => PureAt P Φ (envK ds e0 V k) h d.op.op (V k)) ∈ pd) →
    (∀ j, j ≤ m → if cx ds j = cx ds m then H j = H m else hist[cx ds m - cx ds j - 1]? = some (H j)) →
    adraw P Φ os (envK ds e0 V m) hist (H m) pd N →
    ∃ V' B' H', H' 0 = H 0 ∧ (∀ k d, ds[k]? = some d → Fact P Φ ds e0 (m + os.length) V' B' H' k d) ∧ N (envK ds e0 V' (m + os.length)) (H' (m + os.length))
  | [], m, hos, V, B, H, hist, pd, hF, _, _, hA => by
    refine ⟨V, B, H, rfl, fun k d hk => hF k d ?_ hk, hA⟩
    have h0 : ds[m]? = none := by have := hos 0; simpa using this.symm
    have h1 : ds.length ≤ m := List.getElem?_eq_none_iff.1 h0
    exact Nat.lt_of_lt_of_le (List.getElem?_eq_some_iff.1 hk).1 h1
  | o :: os, m, hos, V, B, H, hist, pd, hF, hpd, hh, hA => by
    have ho : ds[m]? = some o := by have := hos 0; simpa using this.symm
    have hos' : ∀ k, os[k]? = ds[m + 1 + k]? := fun k => by have := hos (k + 1); simpa [Nat.add_assoc, Nat.add_comm 1 k] using this
    have hlen : m + (o :: os).length = m + 1 + os.length := by simp; omega
    have key : ∀ (v : AV) (b : Bool) (h' : AHeap) (hist' : List AHeap) (pd' : List (AHeap → Prop)),
        wantA (envK ds e0 V m) o.op.gd = some b →
        (b = true → aop P Φ (envK ds e0 V m) (H m) o.op.op (fun v' h'' => v' = v ∧ h'' = h') (fun _ _ => False)) →
        (b = false → v = undefA ∧ h' = H m) →
        (o.x = false → h' = H m) →
        (b = true → o.x = false → ∀ j, j ≤ m → cx ds m ≤ cx ds j + o.back → PureAt P Φ (envK ds e0 V m) (H j) o.op.op v) →
        (h' = H m ∨ ∀ p ∈ pd, p h') →
        (∀ p ∈ pd, p ∈ pd') → (b = true → o.x = false → o.late = true → (fun h => PureAt P Φ (envK ds e0 V m) h o.op.op v) ∈ pd') →
        (hist' = if o.x then H m :: hist else hist) →
        adraw P Φ os (putE o.op.dst v (envK ds e0 V m)) hist' h' pd' N →
        ∃ V' B' H', H' 0 = H 0 ∧ (∀ k d, ds[k]? = some d → Fact P Φ ds e0 (m + 1 + os.length) V' B' H' k d) ∧ N (envK ds e0 V' (m + 1 + os.length)) (H' (m + 1 + os.length)) := by
      intro v b h' hist' pd' k1 k2 k3 k4 k5 k6 k7 k7b k8 k9
      let V' : Nat → AV := fun k => if k = m then v else V k
      let B' : Nat → Bool := fun k => if k = m then b else B k
      let H' : Nat → AHeap := fun k => if k = m + 1 then h' else H k
      have hV : ∀ k, k < m → V' k = V k := fun k hk => by simp only [V']; rw [if_neg (by omega)]
      have hB : ∀ k, k < m → B' k = B k := fun k hk => by simp only [B']; rw [if_neg (by omega)]
      have hH : ∀ k, k ≤ m → H' k = H k := fun k hk => by simp only [H']; rw [if_neg (by omega)]
      have hVm : V' m = v := by simp [V']
      have hBm : B' m = b := by simp [B']
      have hHm : H' (m + 1) = h' := by simp [H']
      have hE : ∀ k, k ≤ m → envK ds e0 V' k = envK ds e0 V k := fun k hk => envK_congr fun j hj => hV j (by omega)
      have hF' : ∀ k d, k < m + 1 → ds[k]? = some d → Fact P Φ ds e0 (m + 1) V' B' H' k d := by
        intro k d hk hd
        by_cases hkm : k = m
        · subst hkm
          rw [ho] at hd; cases hd
          refine ⟨?_, ?_, ?_, ?_, ?_, ?_⟩
          · rw [hE _ (Nat.le_refl _), hBm]; exact k1
          · rw [hE _ (Nat.le_refl _), hBm, hVm, hHm, hH _ (Nat.le_refl _)]; exact k2
          · rw [hBm, hVm, hHm, hH _ (Nat.le_refl _)]; exact k3
          · rw [hHm, hH _ (Nat.le_refl _)]; exact k4
          · rw [hE _ (Nat.le_refl _), hBm, hVm]; intro h1 h2 j hj; rw [hH j hj]; exact k5 h1 h2 j hj
          · rw [hE _ (Nat.le_refl _), hBm, hVm]; intro h1 h2 _ j hj hj'
            have : j = k + 1 := by omega
            subst this
            rw [hHm, k4 h2]
            exact k5 h1 h2 k (Nat.le_refl _) (by omega)
        · have hkm : k < m := by omega
          have f := hF k d hkm hd
          refine ⟨?_, ?_, ?_, ?_, ?_, ?_⟩
          · rw [hE _ (by omega), hB _ hkm]; exact f.want
          · rw [hE _ (by omega), hB _ hkm, hV _ hkm, hH _ (by omega), hH _ (by omega)]; exact f.run
          · rw [hB _ hkm, hV _ hkm, hH _ (by omega), hH _ (by omega)]; exact f.skip
          · rw [hH _ (by omega), hH _ (by omega)]; exact f.still
          · rw [hE _ (by omega), hB _ hkm, hV _ hkm]; intro h1 h2 j hj; rw [hH j (by omega)]; exact f.back h1 h2 j hj
          · rw [hE _ (by omega), hB _ hkm, hV _ hkm]; intro h1 h2 h3 j hj hj'
            by_cases hjm : j = m + 1
            · subst hjm
              rw [hHm]
              rcases k6 with k6 | k6
              · rw [k6]; exact f.late h1 h2 h3 m hkm (Nat.le_refl _)
              · exact k6 _ (hpd k d hkm hd h1 h2 h3)
            · rw [hH j (by omega)]; exact f.late h1 h2 h3 j hj (by omega)
      have hpd' : ∀ k d, k < m + 1 → ds[k]? = some d → B' k = true → d.x = false → d.late = true → (fun h => PureAt P Φ (envK ds e0 V' k) h d.op.op (V' k)) ∈ pd' := by
        intro k d hk hd h1 h2 h3
        by_cases hkm : k = m
        · subst hkm
          rw [ho] at hd; cases hd
          rw [hE _ (Nat.le_refl _), hVm]; rw [hBm] at h1; exact k7b h1 h2 h3
        · have hkm : k < m := by omega
          rw [hE _ (by omega), hV _ hkm]; rw [hB _ hkm] at h1
          exact k7 _ (hpd k d hkm hd h1 h2 h3)
      have hcx := cx_succ ho
      have hh' : ∀ j, j ≤ m + 1 → if cx ds j = cx ds (m + 1) then H' j = H' (m + 1) else hist'[cx ds (m + 1) - cx ds j - 1]? = some (H' j) := by
        intro j hj
        by_cases hjm : j = m + 1
        · subst hjm; simp
        · have hjm : j ≤ m := by omega
          rw [hH j hjm, hHm]
          have h0 := hh j hjm
          have hmo := cx_mono (l := ds) hjm
          cases hx : o.x with
          | false =>
            simp only [hx, Bool.false_eq_true, if_false, Nat.add_zero] at hcx k8
            rw [hcx, k8, k4 hx]; exact h0
          | true =>
            simp only [hx, if_true] at hcx k8
            rw [if_neg (by omega), hcx, k8]
            by_cases he : cx ds j = cx ds m
            · rw [if_pos he] at h0
              rw [he, h0]; simp
            · rw [if_neg he] at h0
              have : cx ds m + 1 - cx ds j - 1 = (cx ds m - cx ds j - 1) + 1 := by omega
              rw [this, List.getElem?_cons_succ]; exact h0
      have hA' : adraw P Φ os (envK ds e0 V' (m + 1)) hist' (H' (m + 1)) pd' N := by
        have he : envK ds e0 V' (m + 1) = putE o.op.dst v (envK ds e0 V m) := by
          simp only [envK]; rw [hE _ (Nat.le_refl _), hVm, ho]; rfl
        rw [he, hHm]; exact k9
      obtain ⟨V2, B2, H2, r1, r2, r3⟩ := adraw_trace os (m + 1) hos' V' B' H' hist' pd' hF' hpd' hh' hA'
      exact ⟨V2, B2, H2, r1.trans (hH 0 (Nat.zero_le _)), r2, r3⟩
    rw [hlen]
    rcases adraw_cases P Φ hA with ⟨hw, hA⟩ | ⟨hw, hA⟩
    · cases hx : o.x with
      | true =>
        simp only [hx, cond_true] at hA
        obtain ⟨v, h', h1, h2, h3⟩ := hA
        exact key v true h' (H m :: hist) pd hw (fun _ => h1) (fun h => by cases h) (fun h => by rw [hx] at h; cases h) (fun _ h => by rw [hx] at h; cases h) (.inr h2) (fun _ h => h) (fun _ h => by rw [hx] at h; cases h) (by simp [hx]) h3
      | false =>
        simp only [hx, cond_false] at hA
        obtain ⟨v, h1, h2, h3⟩ := hA
        refine key v true (H m) hist _ hw (fun _ => h1) (fun h => by cases h) (fun _ => rfl) (fun _ _ j hj hc => ?_) (.inl rfl) ?_ ?_ (by simp [hx]) h3
        · have h0 := hh j hj
          by_cases he : cx ds j = cx ds m
          · rw [if_pos he] at h0; rw [h0]; exact h1
          · rw [if_neg he] at h0
            have hmo := cx_mono (l := ds) hj
            refine h2 _ (List.mem_iff_getElem?.2 ⟨cx ds m - cx ds j - 1, ?_⟩)
            rw [List.getElem?_take, if_pos (by omega)]; exact h0
        · intro p hp
          cases o.late with
          | true => exact List.mem_cons_of_mem _ hp
          | false => exact hp
        · intro _ _ hl
          rw [hl]; exact List.mem_cons_self
    · refine key undefA false (H m) _ pd hw (fun h => by cases h) (fun _ => ⟨rfl, rfl⟩) (fun _ => rfl) (fun h => by cases h) (.inl rfl) (fun _ h => h) (fun h => by cases h) ?_ hA
      cases o.x <;> rfl
end
def envL (ds : List DOp) (e0 : Env) (V : Nat → AV) (L : Nat → Bool) : Nat → Env
  | 0 => e0
  | k + 1 => if L k then putE ((ds[k]?).bind (·.op.dst)) (V k) (envL ds e0 V L k) else envL ds e0 V L k
def mL (ds : List DOp) (L : Nat → Bool) : Nat → Nat
  | 0 => 0
  | k + 1 => if (L k && ((ds[k]?).map (·.x)).getD false) = true then k + 1 else mL ds L k
theorem mL_le {ds : List DOp} {L : Nat → Bool} : ∀ k, mL ds L k ≤ k
  | 0 => Nat.le_refl _
  | k + 1 => by simp only [mL]; split; exact Nat.le_refl _; exact Nat.le_succ_of_le (mL_le k)
theorem mL_max {ds : List DOp} {L : Nat → Bool} : ∀ n k d, k < n → mL ds L n ≤ k → ds[k]? = some d → d.x = true → L k = false
  | 0, _, _, hk, _, _, _ => by omega
  | n + 1, k, d, hk, hm, hd, hx => by
    simp only [mL] at hm
    by_cases hkn : k = n
    · subst hkn
      split at hm
      · omega
      · rename_i h; rw [hd] at h; simpa [hx] using h
    · split at hm
      · omega
      · exact mL_max n k d (by omega) hm hd hx
theorem mL_pos {ds : List DOp} {L : Nat → Bool} : ∀ n, mL ds L n = 0 ∨ ∃ k d, k < n ∧ mL ds L n = k + 1 ∧ ds[k]? = some d ∧ d.x = true ∧ L k = true
  | 0 => .inl rfl
  | n + 1 => by
    simp only [mL]
    split
    · rename_i h
      simp only [Bool.and_eq_true] at h
      cases hd : ds[n]? with
      | none => rw [hd] at h; simp at h
      | some d => rw [hd] at h; exact .inr ⟨n, d, by omega, rfl, hd, by simpa using h.2, h.1⟩
    · rcases mL_pos (ds := ds) (L := L) n with h | ⟨k, d, h1, h2⟩
      · exact .inl h
      · exact .inr ⟨k, d, by omega, h2⟩
theorem pairs_of {ops : Array Oper} {ds : List DOp} {L : Nat → Bool} (hd : DC (afs ops) L) (hok : drawOk ops ds = true) {i j : Nat} {a b : DOp} (hij : i < j) (ha : ds[i]? = some a) (hb : ds[j]? = some b)
    (hn : ((clAll (afs ops) []).getD j 0).testBit i = false) : a.hits b = false ∧ b.hits a = false ∧ ¬ (a.x = true ∧ b.x = true) ∧ (b.x = true → a.late = true) ∧ (a.x = true → cx ds j ≤ cx ds i + b.back) := by
  have _ := hd
  simp only [drawOk, Bool.and_eq_true, List.all_eq_true, List.mem_range] at hok
  have := hok.2 j (List.getElem?_eq_some_iff.1 hb).1 i hij
  simp only [pairOk, hn, ha, hb, Bool.false_or, Bool.and_eq_true, Bool.not_eq_true', Bool.or_eq_true, decide_eq_true_eq, Bool.and_eq_false_iff] at this
  obtain ⟨⟨⟨⟨h1, h2⟩, h3⟩, h4⟩, h5⟩ := this
  refine ⟨h4, h5, fun ⟨x, y⟩ => ?_, fun hx => ?_, fun hx => ?_⟩
  · rcases h1 with h1 | h1
    · rw [x] at h1; cases h1
    · rw [y] at h1; cases h1
  · rcases h2 with h2 | h2
    · rw [hx] at h2; cases h2
    · exact h2
  · rcases h3 with h3 | h3
    · rw [hx] at h3; cases h3
    · exact h3
theorem hits_false {a b : DOp} (h : a.hits b = false) {d : Nat} (hd : a.op.dst = some d) : d ∉ b.op.us ∧ b.op.dst ≠ some d := by
  simp only [DOp.hits, hd, Bool.or_eq_false_iff] at h
  refine ⟨fun hm => ?_, fun he => ?_⟩
  · have := h.1; simp at this; exact this hm
  · have := h.2; rw [he] at this; simp at this
section
variable {ops : Array Oper} {ds : List DOp} {L : Nat → Bool} {e0 : Env} {V : Nat → AV}
theorem get_ready (hd : DC (afs ops) L) (hok : drawOk ops ds = true) {j : Nat} {b : DOp} (hb : ds[j]? = some b) (hj : L j = false)
    (hbef : ∀ i, i < j → ((clAll (afs ops) []).getD j 0).testBit i = true → L i = true) {t : Nat} (ht : t ∈ b.op.us) (n : Nat) (hn : j ≤ n) :
    (envL ds e0 V L n).get t = (envK ds e0 V j).get t := by
  have up : ∀ k, k ≤ j → (envL ds e0 V L k).get t = (envK ds e0 V k).get t := by
    intro k
    induction k with
    | zero => intro _; rfl
    | succ k ih =>
      intro hk
      simp only [envL, envK]
      cases hL : L k with
      | true => rw [if_pos rfl, Env.get_put, Env.get_put, ih (by omega)]
      | false =>
        rw [if_neg (by simp), Env.get_put, ih (by omega)]
        split
        · rename_i hdst
          cases ha : ds[k]? with
          | none => rw [ha] at hdst; simp at hdst
          | some a =>
            rw [ha] at hdst
            cases hbit : ((clAll (afs ops) []).getD j 0).testBit k with
            | true => have := hbef k (by omega) hbit; rw [hL] at this; cases this
            | false => exact absurd ht (hits_false (pairs_of hd hok (by omega) ha hb hbit).1 (by simpa using hdst)).1
        · rfl
  obtain ⟨m, rfl⟩ := Nat.exists_eq_add_of_le hn
  induction m with
  | zero => exact up j (Nat.le_refl _)
  | succ m ih =>
    have ih := ih (by omega)
    rw [← Nat.add_assoc]
    simp only [envL]
    split
    · rename_i hL
      rw [Env.get_put, ih]
      split
      · rename_i hdst
        cases ha : ds[j + m]? with
        | none => rw [ha] at hdst; simp at hdst
        | some a =>
          rw [ha] at hdst
          have hne : m ≠ 0 := by rintro rfl; rw [Nat.add_zero, hj] at hL; cases hL
          cases hbit : ((clAll (afs ops) []).getD (j + m) 0).testBit j with
          | true => have := bef_spec hd hL hbit; rw [hj] at this; cases this
          | false => exact absurd ht (hits_false (pairs_of hd hok (by omega) hb ha hbit).2.1 (by simpa using hdst)).1
      · rfl
    · exact ih
def setL (L : Nat → Bool) (j : Nat) : Nat → Bool := fun k => if k = j then true else L k
theorem setL_ne {L : Nat → Bool} {j k : Nat} (h : k ≠ j) : setL L j k = L k := if_neg h
theorem setL_eq {L : Nat → Bool} {j : Nat} : setL L j j = true := if_pos rfl
theorem get_set (hd : DC (afs ops) L) (hok : drawOk ops ds = true) {j : Nat} {b : DOp} (hb : ds[j]? = some b) (hj : L j = false) (n : Nat) (hn : j < n) (t : Nat) :
    (envL ds e0 V (setL L j) n).get t = (putE b.op.dst (V j) (envL ds e0 V L n)).get t := by
  have lo : ∀ k, k ≤ j → envL ds e0 V (setL L j) k = envL ds e0 V L k := by
    intro k
    induction k with
    | zero => intro _; rfl
    | succ k ih => intro hk; simp only [envL, setL_ne (show k ≠ j by omega), ih (by omega)]
  obtain ⟨m, rfl⟩ := Nat.exists_eq_add_of_le (Nat.succ_le_of_lt hn)
  induction m with
  | zero =>
    simp only [Nat.add_zero, envL, setL_eq, if_true]
    rw [lo j (Nat.le_refl _), hb, hj]
    simp
  | succ m ih =>
    have ih := ih (by omega)
    rw [← Nat.add_assoc]
    simp only [envL]
    have hs : setL L j (j.succ + m) = L (j.succ + m) := setL_ne (by omega)
    rw [hs]
    split
    · rename_i hL
      rw [Env.get_put, ih, Env.get_put, Env.get_put, Env.get_put]
      split
      · rename_i hdst
        split
        · rename_i hdst2
          cases ha : ds[j.succ + m]? with
          | none => rw [ha] at hdst; simp at hdst
          | some a =>
            rw [ha] at hdst
            cases hbit : ((clAll (afs ops) []).getD (j.succ + m) 0).testBit j with
            | true => have := bef_spec hd hL hbit; rw [hj] at this; cases this
            | false => exact absurd (by simpa using hdst) (hits_false (pairs_of hd hok (by omega) hb ha hbit).1 hdst2).2
        · rfl
      · rfl
    · exact ih
theorem mL_x (hd : DC (afs ops) L) (hok : drawOk ops ds = true) {H : Nat → AHeap} (hst : ∀ k d, ds[k]? = some d → d.x = false → H (k + 1) = H k) {j : Nat} {b : DOp} (hb : ds[j]? = some b) (hj : L j = false) (hx : b.x = true)
    (hbef : ∀ i, i < j → ((clAll (afs ops) []).getD j 0).testBit i = true → L i = true) (n : Nat) (hn : j < n) (hl : n ≤ ds.length) :
    H (mL ds L n) = H j ∧ H (mL ds (setL L j) n) = H (j + 1) := by
  have up : ∀ k, k ≤ j → H (mL ds L k) = H k := by
    intro k
    induction k with
    | zero => intro _; rfl
    | succ k ih =>
      intro hk
      have hkl : k < ds.length := by omega
      have ha : ds[k]? = some ds[k] := by simp [hkl]
      simp only [mL, ha, Option.map_some, Option.getD_some]
      cases hxa : (ds[k]).x with
      | false => rw [if_neg (by simp), ih (by omega), hst k _ ha hxa]
      | true =>
        cases hL : L k with
        | true => simp
        | false =>
          cases hbit : ((clAll (afs ops) []).getD j 0).testBit k with
          | true => have := hbef k (by omega) hbit; rw [hL] at this; cases this
          | false => exact absurd ⟨hxa, hx⟩ (pairs_of hd hok (by omega) ha hb hbit).2.2.1
  have lo : ∀ k, k ≤ j → mL ds (setL L j) k = mL ds L k := by
    intro k
    induction k with
    | zero => intro _; rfl
    | succ k ih => intro hk; simp only [mL, setL_ne (show k ≠ j by omega), ih (by omega)]
  obtain ⟨m, rfl⟩ := Nat.exists_eq_add_of_le (Nat.succ_le_of_lt hn)
  induction m with
  | zero =>
    simp only [Nat.add_zero, mL, hb, hj, Option.map_some, Option.getD_some, hx, Bool.false_and]
    refine ⟨by simpa using up j (Nat.le_refl _), ?_⟩
    simp [setL_eq]
  | succ m ih =>
    have ih := ih (by omega) (by omega)
    rw [← Nat.add_assoc]
    have hkl : j.succ + m < ds.length := by omega
    have ha : ds[j.succ + m]? = some ds[j.succ + m] := by simp [hkl]
    have hs : setL L j (j.succ + m) = L (j.succ + m) := setL_ne (by omega)
    simp only [mL, hs, ha, Option.map_some, Option.getD_some]
    by_cases hc : (L (j.succ + m) && (ds[j.succ + m]).x) = true
    · exfalso
      simp only [Bool.and_eq_true] at hc
      cases hbit : ((clAll (afs ops) []).getD (j.succ + m) 0).testBit j with
      | true => have := bef_spec hd hc.1 hbit; rw [hj] at this; cases this
      | false => exact (pairs_of hd hok (by omega) hb ha hbit).2.2.1 ⟨hx, hc.2⟩
    · rw [if_neg hc, if_neg hc]; exact ih
theorem mL_still {j : Nat} {b : DOp} (hb : ds[j]? = some b) (hx : b.x = false) : ∀ n, mL ds (setL L j) n = mL ds L n
  | 0 => rfl
  | n + 1 => by
    simp only [mL]
    rw [mL_still hb hx n]
    by_cases hn : n = j
    · subst hn; rw [hb]; simp [hx]
    · rw [setL_ne hn]
end
end Go.Abs
end
section
namespace Go.Abs
open Go.RowKit
section
variable {P : Program} {Φ : World → Prop} {ρ : Option Nat} {N n0 : Nat} {fz : List Nat}
structure DInfo where
  ds : List Deferred
  K : List Nat → Prop
def DInfo.flat (ds : List Deferred) : DInfo := ⟨ds, fun ms => ms = []⟩
def DInfo.open (ds : List Deferred) : DInfo := ⟨ds, fun _ => True⟩
def Defs (D : DInfo) (w0 : World) (g : Gh) (ds : List Deferred) : Prop :=
  ∃ ms : List Nat, ds = ms.map (fun b => ({ target := .collected b, args := #[] } : Deferred)) ++ D.ds ∧ (∀ b ∈ ms, g.dfr b ∧ w0.heap.size ≤ b) ∧ ms.Nodup ∧ D.K ms
theorem Defs.ext {D : DInfo} {w0 : World} {g g' : Gh} {ds : List Deferred} (h : Defs D w0 g ds) (k : ∀ b, g.dfr b → g'.dfr b) : Defs D w0 g' ds :=
  let ⟨ms, h1, h2, h3, h4⟩ := h
  ⟨ms, h1, fun b hb => ⟨k b (h2 b hb).1, (h2 b hb).2⟩, h3, h4⟩
structure StR (Φ : World → Prop) (N n0 : Nat) (D : DInfo) (g0 : Gh) (w0 : World) (e : Env) (h : AHeap) (g : Gh) (a : Act) (w : World) : Prop where
  rel : Rel Φ g h w
  env : EnvR g h.length w e a
  ext : Ext n0 g0 w0 g w
  len : n0 ≤ h.length
  size : a.tmps.size = N
  defs : Defs D w0 g a.defers
theorem StR.env_of {D : DInfo} {g0 g : Gh} {w0 w : World} {e e' : Env} {h h' : AHeap} {a : Act} (S : StR Φ N n0 D g0 w0 e h g a w) (he : ∀ t, e'.get t = e.get t) (hh : h' = h) : StR Φ N n0 D g0 w0 e' h' g a w := by
  subst hh
  exact ⟨S.rel, fun t => by rw [he t]; exact S.env t, S.ext, S.len, S.size, S.defs⟩
theorem put_size (a : Act) (d : Option Nat) (v : Value) : (a.put d v).tmps.size = a.tmps.size := by cases d <;> simp [Act.put]
theorem put_defers (a : Act) (d : Option Nat) (v : Value) : (a.put d v).defers = a.defers := by cases d <;> rfl
theorem compOpers_get {ops : Array Oper} : ∀ {l : List Oper} {al : List AOper}, compOpers P N fz ops l = some al → l.length = al.length ∧ ∀ (k : Nat) (o : Oper), l[k]? = some o → ∃ ao, al[k]? = some ao ∧ compOper P N fz ops o = some ao
  | [], al, h => by simp [compOpers] at h; subst h; exact ⟨rfl, fun k o h => by simp at h⟩
  | o :: l, al, h => by
    simp only [compOpers] at h
    split at h
    · rename_i a asx h1 h2
      cases h
      obtain ⟨i1, i2⟩ := compOpers_get h2
      refine ⟨by simp [i1], fun k x hk => ?_⟩
      cases k with
      | zero => simp at hk; subst hk; exact ⟨a, rfl, h1⟩
      | succ k => simpa using i2 k x (by simpa using hk)
    · cases h
theorem VR.undef {g : Gh} {n : Nat} {w : World} : VR g n w undefA undef := .tup [] [] rfl (fun i a v h => by simp at h)
theorem wantA_sound {g : Gh} {n : Nat} {w : World} {e : Env} {a : Act} {ops : Array Oper} {o : Oper} {ao : AOper} (hco : compOper P N fz ops o = some ao) (E : EnvR g n w e a) (hs : a.tmps.size = N) {b : Bool} (hw : wantA e ao.gd = some b) :
    Region.wanted o (yielded ops a.tmps) = b := by
  unfold compOper at hco
  split at hco
  · cases hco
  · split at hco
    · split at hco
      · rename_i hg
        cases hco
        simp only [wantA, Option.some.injEq] at hw
        subst hw
        simp [Region.wanted, hg]
      · rename_i j b' hg
        split at hco
        · rename_i t ht
          split at hco
          · rename_i htN
            cases hco
            have hy : yielded ops a.tmps j = match a.tmps[t]? with | some (.bool b) => some b | _ => none := by simp only [yielded, ht]; rfl
            have hE := E t
            rw [Array.getD_eq_getD_getElem?] at hE
            have htl : t < a.tmps.size := by rw [hs]; exact htN
            have hte : a.tmps[t]? = some a.tmps[t] := by simp [htl]
            rw [hte] at hE hy
            simp only [Option.getD_some] at hE
            simp only [wantA] at hw
            split at hw
            · rename_i c hc
              cases hw
              rw [hc] at hE
              have hcv : a.tmps[t] = .bool c := by generalize a.tmps[t] = q at hE; cases hE; rfl
              rw [hcv] at hy
              simp only [Region.wanted, hg, hy]
              cases c <;> cases b' <;> rfl
            · rename_i hc
              cases hw
              rw [hc] at hE
              have hcv : a.tmps[t] = .tuple #[] := by
                generalize a.tmps[t] = q at hE
                cases hE with
                | tup _ vs h1 h2 => have : vs = [] := by simpa using h1.symm
                                    subst this; rfl
              rw [hcv] at hy
              simp only [Region.wanted, hg, hy]; rfl
            · cases hw
          · cases hco
        · cases hco
    · cases hco
theorem envL_all {ds : List DOp} {L : Nat → Bool} {e0 : Env} {V : Nat → AV} : ∀ n, (∀ k, k < n → L k = true) → envL ds e0 V L n = envK ds e0 V n
  | 0, _ => rfl
  | n + 1, h => by
    simp only [envL, envK, h n (Nat.lt_succ_self n), if_true]
    rw [envL_all n fun k hk => h k (Nat.lt_succ_of_lt hk)]
theorem mL_all {ds : List DOp} {L : Nat → Bool} {H : Nat → AHeap} (hst : ∀ k d, ds[k]? = some d → d.x = false → H (k + 1) = H k) : ∀ n, n ≤ ds.length → (∀ k, k < n → L k = true) → H (mL ds L n) = H n
  | 0, _, _ => rfl
  | n + 1, hn, h => by
    have ha : ds[n]? = some ds[n] := by simp [Nat.lt_of_succ_le hn]
    simp only [mL, h n (Nat.lt_succ_self n), ha, Option.map_some, Option.getD_some, Bool.true_and]
    cases hx : (ds[n]).x with
    | true => simp
    | false =>
      rw [if_neg (by simp), mL_all hst n (by omega) fun k hk => h k (Nat.lt_succ_of_lt hk), hst n _ ha hx]
theorem pure_ready {ops : Array Oper} {ds : List DOp} {L : Nat → Bool} {e0 : Env} {V : Nat → AV} {B : Nat → Bool} {H : Nat → AHeap} (hd : DC (afs ops) L) (hok : drawOk ops ds = true)
    {j : Nat} {b : DOp} (hb : ds[j]? = some b) (hj : L j = false) (hx : b.x = false) (hB : B j = true) (hbef : ∀ i, i < j → ((clAll (afs ops) []).getD j 0).testBit i = true → L i = true) (F : Fact P Φ ds e0 ds.length V B H j b) :
    PureAt P Φ (envK ds e0 V j) (H (mL ds L ds.length)) b.op.op (V j) := by
  have hjl : j < ds.length := (List.getElem?_eq_some_iff.1 hb).1
  by_cases hm : mL ds L ds.length ≤ j
  · refine F.back hB hx _ hm ?_
    have key : ∀ i, mL ds L ds.length ≤ i → i ≤ j → cx ds i = cx ds (mL ds L ds.length) ∨ cx ds j ≤ cx ds (mL ds L ds.length) + b.back := by
      intro i hi
      obtain ⟨d, rfl⟩ := Nat.exists_eq_add_of_le hi
      induction d with
      | zero => intro _; exact .inl rfl
      | succ d ih =>
        intro hij
        rcases ih (by omega) (by omega) with h | h
        · have hkl : mL ds L ds.length + d < ds.length := by omega
          have ha : ds[mL ds L ds.length + d]? = some ds[mL ds L ds.length + d] := by simp [hkl]
          have hs := cx_succ ha
          cases hxa : (ds[mL ds L ds.length + d]).x with
          | false => left; rw [← Nat.add_assoc, hs, h, hxa]; simp
          | true =>
            right
            have hL := mL_max (L := L) ds.length _ _ hkl (by omega) ha hxa
            cases hbit : ((clAll (afs ops) []).getD j 0).testBit (mL ds L ds.length + d) with
            | true => have := hbef _ (by omega) hbit; rw [hL] at this; cases this
            | false =>
              have := (pairs_of hd hok (by omega) ha hb hbit).2.2.2.2 hxa
              omega
        · exact .inr h
    rcases key j hm (Nat.le_refl _) with h | h
    · omega
    · exact h
  · have hm : j < mL ds L ds.length := by omega
    rcases mL_pos (ds := ds) (L := L) ds.length with h | ⟨k, d, h1, h2, h3, h4, h5⟩
    · omega
    · have hjk : j < k := by
        rcases Nat.lt_or_eq_of_le (show j ≤ k by omega) with h | h
        · exact h
        · subst h; rw [hj] at h5; cases h5
      refine F.late hB hx ?_ _ hm (mL_le _)
      cases hbit : ((clAll (afs ops) []).getD k 0).testBit j with
      | true => have := bef_spec hd h5 hbit; rw [hj] at this; cases this
      | false => exact (pairs_of hd hok hjk hb h3 hbit).2.2.2.1 h4
theorem edgesOk_spec : ∀ {r : List (List Nat)} {k : Nat}, edgesOk r k = true → ∀ i l, r[i]? = some l → ∀ j ∈ l, j < k + i
  | [], _, _, i, l, h => by simp at h
  | af :: r, k, hok, i, l, h => by
    simp only [edgesOk, Bool.and_eq_true, List.all_eq_true, decide_eq_true_eq] at hok
    intro j hj
    cases i with
    | zero => simp at h; subst h; exact hok.1 j hj
    | succ i => have := edgesOk_spec hok.2 i l (by simpa using h) j hj; omega
def lsd (listed : Array Bool) : Nat → Bool := fun k => listed.getD k false
theorem lsd_set {listed : Array Bool} {j : Nat} (h : j < listed.size) : lsd (listed.setIfInBounds j true) = setL (lsd listed) j := by
  funext k
  simp only [lsd, setL, Array.getD_eq_getD_getElem?]
  by_cases hk : k = j
  · subst hk; simp [h]
  · rw [if_neg hk, Array.getElem?_setIfInBounds_ne (Ne.symm hk)]
theorem count_set {l : List Bool} {j : Nat} (h : l[j]? = some false) : (l.set j true).count true = l.count true + 1 := by
  induction l generalizing j with
  | nil => simp at h
  | cons a l ih =>
    cases j with
    | zero => simp at h; subst h; simp
    | succ j => simp at h; rw [List.set_cons_succ, List.count_cons, List.count_cons, ih h]; omega
theorem count_full {l : List Bool} (h : l.count true = l.length) (k : Nat) (hk : k < l.length) : l[k]? = some true := by
  have := (List.count_eq_length (a := true) (l := l)).1 h l[k] (List.getElem_mem hk)
  rw [List.getElem?_eq_getElem hk, ← this]
theorem draw_sound {D : DInfo} {g0 : Gh} {w0 : World} {Q : Exit → Act → World → Prop} {ops : Array Oper} {ds : List DOp} {al : List AOper} (hc : compOpers P N fz ops ops.toList = some al) (hlen : ds.length = al.length) (hal : ∀ (k : Nat) (d : DOp), ds[k]? = some d → al[k]? = some d.op) (hok : drawOk ops ds = true)
    {e0 : Env} {V : Nat → AV} {B : Nat → Bool} {H : Nat → AHeap} (hF : ∀ k d, ds[k]? = some d → Fact P Φ ds e0 ds.length V B H k d)
    (hN : ∀ g a w, StR Φ N n0 D g0 w0 (envK ds e0 V ds.length) (H ds.length) g a w → Q .normal a w) :
    ∀ (fuel : Nat) (listed : Array Bool) (g : Gh) (a : Act) (w : World), listed.size = ops.size → fuel + listed.toList.count true = ops.size → DC (afs ops) (lsd listed) →
      StR Φ N n0 D g0 w0 (envL ds e0 V (lsd listed) ds.length) (H (mL ds (lsd listed) ds.length)) g a w → wpAnyIn (Fw ρ) 0 P .any ops Q fuel listed a w := by
  obtain ⟨hl0, hget⟩ := compOpers_get hc
  have hln : ds.length = ops.size := by rw [hlen, ← hl0]; simp
  have hst : ∀ k d, ds[k]? = some d → d.x = false → H (k + 1) = H k := fun k d hk => (hF k d hk).still
  have hedge : edgesOk (afs ops) 0 = true := by simp only [drawOk, Bool.and_eq_true] at hok; exact hok.1
  have hafs : ∀ (k : Nat) (o : Oper), ops[k]? = some o → (afs ops)[k]? = some ((o.after.toList.filter (Region.binds .any)).map (·.on)) := fun k o hk => by simp [afs, hk]
  have done : ∀ (listed : Array Bool) (g : Gh) (a : Act) (w : World), (∀ k, k < ops.size → lsd listed k = true) → StR Φ N n0 D g0 w0 (envL ds e0 V (lsd listed) ds.length) (H (mL ds (lsd listed) ds.length)) g a w → Q .normal a w := by
    intro listed g a w hL S
    rw [← hln] at hL
    rw [envL_all _ hL, mL_all hst _ (Nat.le_refl _) hL] at S
    exact hN g a w S
  have full : ∀ listed : Array Bool, listed.size = ops.size → Region.ready .any ops listed = [] → ∀ k, k < ops.size → lsd listed k = true := by
    intro listed hsz hr k
    induction k using Nat.strongRecOn with
    | _ k ih =>
      intro hk
      cases hL : lsd listed k with
      | true => rfl
      | false =>
        exfalso
        have hko : ops[k]? = some ops[k] := by simp [hk]
        have : k ∈ Region.ready .any ops listed := by
          rw [mem_ready]
          refine ⟨?_, ops[k], hko, fun e he hb => ?_⟩
          · simp only [lsd, Array.getD_eq_getD_getElem?] at hL ⊢
            have : k < listed.size := by rw [hsz]; exact hk
            simp only [this, Array.getElem?_eq_getElem, Option.getD_some] at hL ⊢
            exact hL
          · have hm : e.on ∈ (ops[k].after.toList.filter (Region.binds .any)).map (·.on) := List.mem_map.2 ⟨e, List.mem_filter.2 ⟨by simpa using he, hb⟩, rfl⟩
            have := edgesOk_spec hedge k _ (hafs k _ hko) e.on hm
            exact ih e.on (by omega) (by omega)
        rw [hr] at this; cases this
  have step : ∀ (listed : Array Bool) (g : Gh) (a : Act) (w : World), listed.size = ops.size → DC (afs ops) (lsd listed) → StR Φ N n0 D g0 w0 (envL ds e0 V (lsd listed) ds.length) (H (mL ds (lsd listed) ds.length)) g a w →
      ∀ j ∈ Region.ready .any ops listed, ∀ K : Act → World → Prop,
        (∀ g' a' w', DC (afs ops) (setL (lsd listed) j) → StR Φ N n0 D g0 w0 (envL ds e0 V (setL (lsd listed) j) ds.length) (H (mL ds (setL (lsd listed) j) ds.length)) g' a' w' → K a' w') → wpOpIn (Fw ρ) 0 P ops Q j K a w := by
    intro listed g a w hsz hd S j hj K hK
    obtain ⟨hjl, o, ho, hall⟩ := mem_ready.1 hj
    have hjs : j < ops.size := (Array.getElem?_eq_some_iff.1 ho).1
    have hL : lsd listed j = false := by
      simp only [lsd, Array.getD_eq_getD_getElem?] at hjl ⊢
      have : j < listed.size := by rw [hsz]; exact hjs
      simp only [this, Array.getElem?_eq_getElem, Option.getD_some] at hjl ⊢
      exact hjl
    have hd' : DC (afs ops) (setL (lsd listed) j) := by
      intro k l hk hk' i hi
      by_cases hij : i = j
      · subst hij; exact setL_eq
      · rw [setL_ne hij]
        by_cases hkj : k = j
        · subst hkj
          rw [hafs k o ho] at hk
          cases hk
          obtain ⟨e, he, rfl⟩ := List.mem_map.1 hi
          obtain ⟨he, hb⟩ := List.mem_filter.1 he
          exact hall e (by simpa using he) hb
        · rw [setL_ne hkj] at hk'
          exact hd k l hk hk' i hi
    have hbef : ∀ i, i < j → ((clAll (afs ops) []).getD j 0).testBit i = true → lsd listed i = true := by
      intro i hi hb
      have := bef_spec hd' setL_eq hb
      rwa [setL_ne (by omega)] at this
    have hjd : j < ds.length := by rw [hln]; exact hjs
    have hbj : ds[j]? = some ds[j] := by simp [hjd]
    have F := hF j _ hbj
    obtain ⟨ao, hao, hco⟩ := hget j o (by simpa using ho)
    rw [hal j _ hbj] at hao
    cases hao
    have hus : ∀ t ∈ (ds[j]).op.us, (envK ds e0 V j).get t = (envL ds e0 V (lsd listed) ds.length).get t := fun t ht => (get_ready hd hok hbj hL hbef ht ds.length (by omega)).symm
    have hwe : wantA (envL ds e0 V (lsd listed) ds.length) (ds[j]).op.gd = some (B j) := by
      rw [← F.want]
      cases hg : (ds[j]).op.gd with
      | none => rfl
      | some p =>
        obtain ⟨t, b⟩ := p
        simp only [wantA]
        rw [hus t (by simp [AOper.us, hg])]
    have hw := wantA_sound hco S.env S.size hwe
    have hget' := get_set (V := V) (e0 := e0) hd hok hbj hL ds.length hjd
    have next : ∀ (h' : AHeap) g' w' u, Rel Φ g' h' w' → VR g' h'.length w' (V j) u → Ext (H (mL ds (lsd listed) ds.length)).length g w g' w' → (H (mL ds (lsd listed) ds.length)).length ≤ h'.length → h' = H (mL ds (setL (lsd listed) j) ds.length) → K (a.put o.dst u) w' := by
      intro h' g' w' u R' hv hE hle hh
      refine hK g' _ w' hd' ?_
      have E' := S.env.ext hE hle
      have hdst : (ds[j]).op.dst = o.dst ∧ ∀ d, o.dst = some d → d < N := by
        unfold compOper at hco
        split at hco
        · cases hco
        · split at hco
          · rename_i hdst
            refine ⟨?_, fun d hd => by rw [hd] at hdst; simpa [dstOk] using hdst⟩
            split at hco
            · injection hco with hco; rw [← hco]
            · split at hco
              · split at hco
                · injection hco with hco; rw [← hco]
                · cases hco
              · cases hco
          · cases hco
      have E2 : EnvR g' h'.length w' (putE (ds[j]).op.dst (V j) (envL ds e0 V (lsd listed) ds.length)) (a.put o.dst u) := by
        rw [hdst.1]
        cases hd : o.dst with
        | none => exact E'
        | some d => exact E'.put (by rw [S.size]; exact hdst.2 d hd) hv
      have S2 : StR Φ N n0 D g0 w0 (putE (ds[j]).op.dst (V j) (envL ds e0 V (lsd listed) ds.length)) h' g' (a.put o.dst u) w' :=
        ⟨R', E2, S.ext.trans hE S.len, Nat.le_trans S.len hle, by rw [put_size]; exact S.size, by rw [put_defers]; exact S.defs.ext hE.dfr⟩
      exact S2.env_of hget' hh.symm
    unfold wpOpIn
    rw [ho]
    simp only
    rw [hw]
    cases hB : B j with
    | false =>
      rw [if_neg (by simp)]
      refine ⟨fun f _ => trivial, ?_⟩
      obtain ⟨hv, hh⟩ := F.skip hB
      refine next _ g w undef S.rel (by rw [hv]; exact .undef) (Ext.refl _ _ _) (Nat.le_refl _) ?_
      cases hx : (ds[j]).x with
      | false => rw [mL_still hbj hx]
      | true =>
        obtain ⟨m1, m2⟩ := mL_x (H := H) hd hok hst hbj hL hx hbef ds.length hjd (Nat.le_refl _)
        rw [m1, m2, hh]
    | true =>
      rw [if_pos rfl]
      have hco2 := hco
      unfold compOper at hco2
      split at hco2
      · cases hco2
      · rename_i op hop
        have hopd : op = (ds[j]).op.op := by
          split at hco2
          · split at hco2
            · injection hco2 with hco2; rw [← hco2]
            · split at hco2
              · split at hco2
                · injection hco2 with hco2; rw [← hco2]
                · cases hco2
              · cases hco2
          · cases hco2
        refine ⟨fun f _ => trivial, ?_⟩
        rw [Oper.semAt_eq _ _ _ (compOpA_noDefer hop)]
        have hus2 : ∀ t ∈ (ds[j]).op.op.us, (envK ds e0 V j).get t = (envL ds e0 V (lsd listed) ds.length).get t := fun t ht => hus t (by simp [AOper.us, ht])
        cases hx : (ds[j]).x with
        | false =>
          have hA := aop_congr hus2 (pure_ready hd hok hbj hL hx hB hbef F)
          rw [← hopd] at hA
          refine aopA_sound hop S.rel S.env hA _ _ (fun v h' g' w' u hk R' hv hE hle => ?_) (fun v h' g' w' u hk => hk.elim)
          obtain ⟨rfl, rfl⟩ := hk
          exact next _ g' w' u R' hv hE hle (by rw [mL_still hbj hx])
        | true =>
          obtain ⟨m1, m2⟩ := mL_x (H := H) hd hok hst hbj hL hx hbef ds.length hjd (Nat.le_refl _)
          have hA := aop_congr hus2 (F.run hB)
          rw [← hopd, ← m1] at hA
          refine aopA_sound hop S.rel S.env hA _ _ (fun v h' g' w' u hk R' hv hE hle => ?_) (fun v h' g' w' u hk => hk.elim)
          obtain ⟨rfl, rfl⟩ := hk
          exact next _ g' w' u R' hv hE hle m2.symm
  intro fuel
  induction fuel with
  | zero =>
    intro listed g a w hsz hcnt hd S
    have hcnt' : listed.toList.count true = listed.toList.length := by rw [Array.length_toList, hsz]; omega
    have hL : ∀ k, k < ops.size → lsd listed k = true := fun k hk => by
      have := count_full hcnt' k (by rw [Array.length_toList, hsz]; exact hk)
      simp only [lsd, Array.getD_eq_getD_getElem?]
      rw [Array.getElem?_toList] at this
      rw [this]; rfl
    refine ⟨?_, done listed g a w hL S⟩
    refine List.eq_nil_iff_forall_not_mem.2 fun j hj => ?_
    obtain ⟨hjl, o, ho, _⟩ := mem_ready.1 hj
    have hjs : j < ops.size := (Array.getElem?_eq_some_iff.1 ho).1
    have := hL j hjs
    simp only [lsd, Array.getD_eq_getD_getElem?] at hjl this
    have hjl2 : j < listed.size := by rw [hsz]; exact hjs
    simp only [hjl2, Array.getElem?_eq_getElem, Option.getD_some] at hjl this
    rw [this] at hjl; cases hjl
  | succ fuel ih =>
    intro listed g a w hsz hcnt hd S
    refine ⟨fun hr => done listed g a w (full listed hsz hr) S, fun j hj => ?_⟩
    refine step listed g a w hsz hd S j hj _ fun g' a' w' hd' S' => ?_
    obtain ⟨hjl, o, ho, _⟩ := mem_ready.1 hj
    have hjs : j < listed.size := by rw [hsz]; exact (Array.getElem?_eq_some_iff.1 ho).1
    have hjf : listed.toList[j]? = some false := by
      rw [Array.getElem?_toList]
      simp only [Array.getD_eq_getD_getElem?, hjs, Array.getElem?_eq_getElem, Option.getD_some] at hjl ⊢
      rw [hjl]
    refine ih _ g' a' w' (by simpa using hsz) ?_ (by rw [lsd_set hjs]; exact hd') (by rw [lsd_set hjs]; exact S')
    rw [Array.toList_setIfInBounds, count_set hjf]; omega
end
end Go.Abs
end
