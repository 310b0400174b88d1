/- A part of the proof of the card in the last text. -/
import Derived.Below
import Derived.CallsIn
import Derived.RangeFuncIn
import Derived.RangeFuncCalls
import Derived.WalkKit
import Derived.Lib.AppendStr
section
namespace Go.Abs
open Go.RowKit
inductive AV where
  | any
  | bool (b : Bool)
  | int (k : IntKind) (n : Int)
  | str (l : List UInt8)
  | nilp
  | ptr (r i o : Nat)
  | lptr (v : AV) (o : Nat)
  | sl (r i m : Nat) (c : Option Nat)
  | lst (sz : Nat) (els : List AV)
  | nils
  | map (r : Nat)
  | nilm
  | fn (f : FuncId) (first cap : List AV)
  | yld (r : Nat)
  | nilf
  | iface (t : TypeId) (v : AV)
  | nili
  | agg (cells : List AV)
  | tup (vs : List AV)
  deriving Inhabited
def AV.cells : AV → List AV
  | .agg cs => cs
  | v => [v]
abbrev Env := List (Nat × AV)
def Env.get : Env → Nat → AV
  | [], _ => .any
  | (t, v) :: e, s => bif Nat.beq s t then v else Env.get e s
structure LInfo where
  N : Nat
  ps : List Nat
  codes : Code → Code → Prop
  e : Env
inductive AB where
  | dead
  | cells (grow : Bool) (T : TypeId) (esz : Nat) (els : List AV)
  | map (ents : List (AV × AV))
  | loop (st : LoopState) (pend : Option Code) (X : LInfo)
instance : Inhabited AB := ⟨.dead⟩
abbrev AHeap := List AB
structure Gh where
  loc : Nat → Nat
  esz : Nat → Nat
  cpn : Nat → Nat
  imm : Nat → Nat → Prop
  base : Nat
  w0 : World
  dfr : Nat → Prop
def capOk : Option Nat → Nat → Prop
  | none, _ => True
  | some k, c => c = k
inductive VR (g : Gh) (n : Nat) (w : World) : AV → Value → Prop
  | any (v : Value) : VR g n w .any v
  | bool (b : Bool) : VR g n w (.bool b) (.bool b)
  | int (k : IntKind) (i : Int) : VR g n w (.int k i) (.int k i)
  | str (l : List UInt8) : VR g n w (.str l) (.string ⟨l.toArray⟩)
  | nilp : VR g n w .nilp (.pointer none)
  | ptr (r i o : Nat) (h : r < n) : VR g n w (.ptr r i o) (.pointer (some ⟨g.loc r, i * g.esz r + o, none⟩))
  | lptr (v : AV) (o b off : Nat) (f : Nat → Value)
      (h1 : ∀ (j : Nat) (c : AV), v.cells[j]? = some c → g.imm b (off + j) ∧ w.cell? ⟨b, off + j, none⟩ = some (f j) ∧ (f j).oneCell' = true)
      (h2 : ∀ (j : Nat) (c : AV), v.cells[j]? = some c → VR g n w c (f j)) :
      VR g n w (.lptr v o) (.pointer (some ⟨b, off + o, none⟩))
  | sl (r i m : Nat) (k : Option Nat) (c : Nat) (h : r < n) (hm : m ≤ c) (hc : capOk k c) (hk : i + c ≤ g.cpn r) :
      VR g n w (.sl r i m k) (.slice (some ⟨g.loc r, i * g.esz r, none⟩) m c)
  | lst (sz : Nat) (els : List AV) (b off c : Nat) (f : Nat → Nat → Value) (hc : els.length ≤ c)
      (h0 : ∀ (i : Nat) (e : AV), els[i]? = some e → e.cells.length = sz)
      (h1 : ∀ (i : Nat) (e : AV) (j : Nat) (a : AV), els[i]? = some e → e.cells[j]? = some a → g.imm b (off + i * sz + j) ∧ w.cell? ⟨b, off + i * sz + j, none⟩ = some (f i j) ∧ (f i j).oneCell' = true)
      (h2 : ∀ (i : Nat) (e : AV) (j : Nat) (a : AV), els[i]? = some e → e.cells[j]? = some a → VR g n w a (f i j)) :
      VR g n w (.lst sz els) (.slice (some ⟨b, off, none⟩) els.length c)
  | lst0 (sz : Nat) (p : Option Addr) (c : Nat) : VR g n w (.lst sz []) (.slice p 0 c)
  | nils : VR g n w .nils (.slice none 0 0)
  | map (r : Nat) (h : r < n) : VR g n w (.map r) (.map (some (g.loc r)))
  | nilm : VR g n w .nilm (.map none)
  | fn (f : FuncId) (asx cs : List AV) (vs us : List Value) (h1 : asx.length = vs.length) (h2 : cs.length = us.length)
      (h3 : ∀ (i : Nat) (a : AV) (v : Value), asx[i]? = some a → vs[i]? = some v → VR g n w a v)
      (h4 : ∀ (i : Nat) (a : AV) (v : Value), cs[i]? = some a → us[i]? = some v → VR g n w a v) :
      VR g n w (.fn f asx cs) (.func (.func f) vs.toArray us.toArray)
  | yld (r : Nat) (h : r < n) : VR g n w (.yld r) (.func (.yield (g.loc r)) #[] #[])
  | nilf : VR g n w .nilf .nilFunc
  | iface (t : TypeId) (a : AV) (v : Value) (h : VR g n w a v) : VR g n w (.iface t a) (.iface t v)
  | nili : VR g n w .nili .nilIface
  | agg (asx : List AV) (vs : List Value) (h1 : asx.length = vs.length)
      (h2 : ∀ (i : Nat) (a : AV) (v : Value), asx[i]? = some a → vs[i]? = some v → VR g n w a v)
      (h3 : ∀ v ∈ vs, v.oneCell' = true) :
      VR g n w (.agg asx) (.agg vs.toArray)
  | tup (asx : List AV) (vs : List Value) (h1 : asx.length = vs.length)
      (h2 : ∀ (i : Nat) (a : AV) (v : Value), asx[i]? = some a → vs[i]? = some v → VR g n w a v) :
      VR g n w (.tup asx) (.tuple vs.toArray)
structure Ext (n : Nat) (g : Gh) (w : World) (g' : Gh) (w' : World) : Prop where
  loc : ∀ r, r < n → g'.loc r = g.loc r
  esz : ∀ r, r < n → g'.esz r = g.esz r
  cpn : ∀ r, r < n → g'.cpn r = g.cpn r
  imm : ∀ b o, g.imm b o → g'.imm b o
  cell : ∀ b o, g.imm b o → w'.cell? ⟨b, o, none⟩ = w.cell? ⟨b, o, none⟩
  base : g'.base = g.base
  w0 : g'.w0 = g.w0
  size : w.heap.size ≤ w'.heap.size
  dfr : ∀ b, g.dfr b → g'.dfr b
theorem Ext.refl (n : Nat) (g : Gh) (w : World) : Ext n g w g w :=
  ⟨fun _ _ => rfl, fun _ _ => rfl, fun _ _ => rfl, fun _ _ h => h, fun _ _ _ => rfl, rfl, rfl, Nat.le_refl _, fun _ h => h⟩
theorem Ext.trans {n m : Nat} {g g1 g2 : Gh} {w w1 w2 : World} (h : Ext n g w g1 w1) (k : Ext m g1 w1 g2 w2) (hn : n ≤ m) : Ext n g w g2 w2 :=
  ⟨fun r hr => (k.loc r (Nat.lt_of_lt_of_le hr hn)).trans (h.loc r hr), fun r hr => (k.esz r (Nat.lt_of_lt_of_le hr hn)).trans (h.esz r hr),
   fun r hr => (k.cpn r (Nat.lt_of_lt_of_le hr hn)).trans (h.cpn r hr),
   fun b o hi => k.imm b o (h.imm b o hi), fun b o hi => (k.cell b o (h.imm b o hi)).trans (h.cell b o hi), k.base.trans h.base, k.w0.trans h.w0,
   Nat.le_trans h.size k.size, fun b hb => k.dfr b (h.dfr b hb)⟩
theorem Ext.mono {n m : Nat} {g g1 : Gh} {w w1 : World} (h : Ext m g w g1 w1) (hn : n ≤ m) : Ext n g w g1 w1 :=
  (Ext.refl n g w).trans h hn
structure Ext0 (n : Nat) (g : Gh) (w : World) (g' : Gh) (w' : World) : Prop where
  loc : ∀ r, r < n → g'.loc r = g.loc r
  esz : ∀ r, r < n → g'.esz r = g.esz r
  cpn : ∀ r, r < n → g'.cpn r = g.cpn r
  imm : ∀ b o, g.imm b o → g'.imm b o
  cell : ∀ b o, g.imm b o → w'.cell? ⟨b, o, none⟩ = w.cell? ⟨b, o, none⟩
  base : g'.base = g.base
  w0 : g'.w0 = g.w0
  size : w.heap.size ≤ w'.heap.size
theorem Ext.e0 {n : Nat} {g g' : Gh} {w w' : World} (k : Ext n g w g' w') : Ext0 n g w g' w' := ⟨k.loc, k.esz, k.cpn, k.imm, k.cell, k.base, k.w0, k.size⟩
theorem VR.ext0 {n n' : Nat} {g g' : Gh} {w w' : World} {a : AV} {v : Value} (h : VR g n w a v) (k : Ext0 n g w g' w') (hn : n ≤ n') : VR g' n' w' a v := by
  induction h with
  | any v => exact .any v
  | bool b => exact .bool b
  | int k i => exact .int k i
  | str l => exact .str l
  | nilp => exact .nilp
  | ptr r i o h => rw [← k.loc r h, ← k.esz r h]; exact .ptr r i o (Nat.lt_of_lt_of_le h hn)
  | lptr v o b off f h1 h2 ih =>
    exact .lptr v o b off f (fun j c hj => ⟨k.imm _ _ (h1 j c hj).1, (k.cell _ _ (h1 j c hj).1).trans (h1 j c hj).2.1, (h1 j c hj).2.2⟩) ih
  | sl r i m c0 c h hm hc hk => rw [← k.loc r h, ← k.esz r h]; exact .sl r i m c0 c (Nat.lt_of_lt_of_le h hn) hm hc (by rw [k.cpn r h]; exact hk)
  | lst sz els b off c f hc h0 h1 h2 ih =>
    exact .lst sz els b off c f hc h0 (fun i e j a he ha => ⟨k.imm _ _ (h1 i e j a he ha).1, (k.cell _ _ (h1 i e j a he ha).1).trans (h1 i e j a he ha).2.1, (h1 i e j a he ha).2.2⟩) ih
  | lst0 sz p c => exact .lst0 sz p c
  | nils => exact .nils
  | map r h => rw [← k.loc r h]; exact .map r (Nat.lt_of_lt_of_le h hn)
  | nilm => exact .nilm
  | fn f asx cs vs us h1 h2 _ _ ih3 ih4 => exact .fn f asx cs vs us h1 h2 ih3 ih4
  | yld r h => rw [← k.loc r h]; exact .yld r (Nat.lt_of_lt_of_le h hn)
  | nilf => exact .nilf
  | iface t a v _ ih => exact .iface t a v ih
  | nili => exact .nili
  | agg asx vs h1 _ h3 ih => exact .agg asx vs h1 ih h3
  | tup asx vs h1 _ ih => exact .tup asx vs h1 ih
theorem VR.ext {n n' : Nat} {g g' : Gh} {w w' : World} {a : AV} {v : Value} (h : VR g n w a v) (k : Ext n g w g' w') (hn : n ≤ n') : VR g' n' w' a v := h.ext0 k.e0 hn
def VRs (g : Gh) (n : Nat) (w : World) (asx : List AV) (vs : List Value) : Prop :=
  asx.length = vs.length ∧ ∀ (i : Nat) (a : AV) (v : Value), asx[i]? = some a → vs[i]? = some v → VR g n w a v
theorem VRs.ext {n n' : Nat} {g g' : Gh} {w w' : World} {asx : List AV} {vs : List Value} (h : VRs g n w asx vs) (k : Ext n g w g' w') (hn : n ≤ n') : VRs g' n' w' asx vs :=
  ⟨h.1, fun i a v ha hv => (h.2 i a v ha hv).ext k hn⟩
theorem VRs.nil {g : Gh} {n : Nat} {w : World} : VRs g n w [] [] := ⟨rfl, fun i a v h => by simp at h⟩
theorem VRs.cons {g : Gh} {n : Nat} {w : World} {a : AV} {v : Value} {asx : List AV} {vs : List Value} (h : VR g n w a v) (hs : VRs g n w asx vs) : VRs g n w (a :: asx) (v :: vs) := by
  refine ⟨by simp [hs.1], fun i x u hx hu => ?_⟩
  cases i with
  | zero => simp at hx hu; subst hx; subst hu; exact h
  | succ i => simp at hx hu; exact hs.2 i x u hx hu
theorem VRs.cons_inv {g : Gh} {n : Nat} {w : World} {a : AV} {asx : List AV} {vs : List Value} (h : VRs g n w (a :: asx) vs) : ∃ v us, vs = v :: us ∧ VR g n w a v ∧ VRs g n w asx us := by
  obtain ⟨h1, h2⟩ := h
  cases vs with
  | nil => simp at h1
  | cons v us =>
    refine ⟨v, us, rfl, h2 0 a v rfl rfl, by simpa using h1, fun i x u hx hu => h2 (i + 1) x u (by simpa using hx) (by simpa using hu)⟩
theorem VRs.nil_inv {g : Gh} {n : Nat} {w : World} {vs : List Value} (h : VRs g n w [] vs) : vs = [] := by
  have := h.1; simpa using this.symm
theorem VRs.append {g : Gh} {n : Nat} {w : World} {asx bs : List AV} {vs us : List Value} (h : VRs g n w asx vs) (k : VRs g n w bs us) : VRs g n w (asx ++ bs) (vs ++ us) := by
  refine ⟨by simp [h.1, k.1], fun i x u hx hu => ?_⟩
  by_cases hi : i < asx.length
  · rw [List.getElem?_append_left hi] at hx
    rw [List.getElem?_append_left (by rw [← h.1]; exact hi)] at hu
    exact h.2 i x u hx hu
  · rw [List.getElem?_append_right (by omega)] at hx
    rw [List.getElem?_append_right (by rw [← h.1]; omega)] at hu
    rw [← h.1] at hu
    exact k.2 _ x u hx hu
theorem VRs.get {g : Gh} {n : Nat} {w : World} {asx : List AV} {vs : List Value} (h : VRs g n w asx vs) {i : Nat} {a : AV} (ha : asx[i]? = some a) : ∃ v, vs[i]? = some v ∧ VR g n w a v := by
  have hi : i < asx.length := (List.getElem?_eq_some_iff.1 ha).1
  have hi' : i < vs.length := by rw [← h.1]; exact hi
  exact ⟨vs[i], by simp [hi'], h.2 i a _ ha (by simp [hi'])⟩
def BR (g : Gh) (n : Nat) (w : World) (r : Nat) : AB → Prop
  | .dead => True
  | .cells gr T esz els => g.base ≤ g.loc r ∧ g.esz r = esz ∧ (∀ o, ¬ g.imm (g.loc r) o) ∧ (∀ (i : Nat) (e : AV), els[i]? = some e → e.cells.length = g.esz r) ∧
      ∃ cs : Array Value, w.heap[g.loc r]? = some (.cells cs T (0, 0)) ∧ cs.size = g.cpn r * g.esz r ∧ els.length ≤ g.cpn r ∧ (gr = false → els.length = g.cpn r) ∧
        ∃ f : Nat → Nat → Value, (∀ (i : Nat) (e : AV) (j : Nat) (a : AV), els[i]? = some e → e.cells[j]? = some a → cs[i * g.esz r + j]? = some (f i j) ∧ (f i j).oneCell' = true ∧ VR g n w a (f i j))
  | .map ents => g.base ≤ g.loc r ∧ ∃ (es : Array MapEntry) (clock : Nat), w.heap[g.loc r]? = some (.map es clock) ∧ ents.length = es.size ∧
      (∀ (i : Nat) (k v : AV), ents[i]? = some (k, v) → ∃ e : MapEntry, es[i]? = some e ∧ VR g n w k e.key ∧ VR g n w v e.val)
  | .loop st pend X => g.base ≤ g.loc r ∧ ∃ (fn d : Nat) (tmps : Array Value) (ps : Array Tmp) (assign body : Code),
      w.heap[g.loc r]? = some (.loop { state := st, pending := pend, fn, tmps, params := ps, assign, body, defers := d }) ∧ tmps.size = X.N ∧ ps.toList = X.ps ∧ X.codes assign body ∧
        ∀ t, VR g n w (X.e.get t) (tmps.getD t undef)
def AB.live : AB → Bool
  | .dead => false
  | _ => true
structure Rel (Φ : World → Prop) (g : Gh) (h : AHeap) (w : World) : Prop where
  blk : ∀ r b, h[r]? = some b → BR g h.length w r b
  inj : ∀ r s b c, h[r]? = some b → h[s]? = some c → b.live = true → c.live = true → r ≠ s → g.loc r ≠ g.loc s
  immv : ∀ b o, g.imm b o → ∃ v, w.cell? ⟨b, o, none⟩ = some v
  below : Below g.base g.w0 w
  base : g.base ≤ w.heap.size
  ok : Φ g.w0 ∧ g.w0.heap.size ≤ g.base
  dfrv : ∀ b, g.dfr b → w.heap[b]? = some (.deferred (some []))
end Go.Abs
end
section
namespace Go.Abs
open Go.RowKit
def aggSize (P : Program) (t : TypeId) : Option (Option Nat) :=
  match P.underlying t, P.info? t with
  | some (.struct _), some i => some (some i.size)
  | some (.array _ _), some i => some (some i.size)
  | some _, some i => if i.size = 1 then some none else none
  | _, _ => none
def AV.part (e : AV) (o : Nat) : Option Nat → Option AV
  | none => e.cells[o]?
  | some k => if o + k ≤ e.cells.length then some (.agg ((e.cells.drop o).take k)) else none
theorem AV.part_some {e y : AV} {o k : Nat} (h : e.part o (some k) = some y) : o + k ≤ e.cells.length ∧ y = .agg ((e.cells.drop o).take k) := by
  have h' : (if o + k ≤ e.cells.length then some (AV.agg ((e.cells.drop o).take k)) else none) = some y := h
  split at h'
  · rename_i hle; exact ⟨hle, (Option.some.inj h').symm⟩
  · cases h'
def AV.sto : AV → Bool
  | .any | .tup _ => false
  | _ => true
def AV.setCells (e : AV) (o : Nat) (news : List AV) : AV :=
  match e with
  | .agg cs => .agg (cs.take o ++ news ++ cs.drop (o + news.length))
  | e => news.headD e
theorem run_sizeOf {P : Program} {t : TypeId} {i : TypeInfo} (h : P.info? t = some i) (w : World) : (sizeOf t).run P w = .ok i.size w := by
  simp [sizeOf, typeInfo, h]
theorem VR.cells_of {g : Gh} {n : Nat} {w : World} {x : AV} {v : Value} (h : VR g n w x v) (hx : x.sto = true) :
    x.cells.length = v.cells.toList.length ∧ (∀ (j : Nat) (a : AV) (u : Value), x.cells[j]? = some a → v.cells.toList[j]? = some u → VR g n w a u) ∧ ∀ u ∈ v.cells.toList, u.oneCell' = true := by
  cases h
  case any => cases hx
  case tup => cases hx
  case agg asx vs h1 h2 h3 => exact ⟨by simpa [AV.cells, Value.cells] using h1, by simpa [AV.cells, Value.cells] using h2, by simpa [AV.cells, Value.cells] using h3⟩
  all_goals
    refine ⟨rfl, fun j a u ha hu => ?_, fun u hu => ?_⟩
    · cases j with
      | zero => simp [AV.cells, Value.cells] at ha hu; subst ha; subst hu; constructor <;> assumption
      | succ j => simp [AV.cells] at ha
    · simp [Value.cells] at hu; subst hu; rfl
def isRowD : TypeDesc → Bool
  | .struct _ | .array _ _ => true
  | _ => false
def aggOk (d : TypeDesc) (n : Nat) : Option Nat → Prop
  | none => isRowD d = false ∧ n = 1
  | some k => isRowD d = true ∧ n = k
theorem aggSize_spec {P : Program} {t : TypeId} {sz : Option Nat} (h : aggSize P t = some sz) :
    ∃ d i, P.underlying t = some d ∧ P.info? t = some i ∧ aggOk d i.size sz := by
  unfold aggSize at h
  cases hd : P.underlying t with
  | none => simp [hd] at h
  | some d =>
    cases hi : P.info? t with
    | none => cases d <;> simp [hd, hi] at h
    | some i =>
      refine ⟨d, i, rfl, rfl, ?_⟩
      cases d <;> simp [hd, hi] at h <;> first | (obtain ⟨h1, rfl⟩ := h; exact ⟨rfl, h1⟩) | (subst h; exact ⟨rfl, rfl⟩)
theorem run_isAgg {P : Program} {t : TypeId} {d : TypeDesc} (h : P.underlying t = some d) (w : World) : (isAgg t).run P w = .ok (isRowD d) w := by
  simp only [isAgg, Sem.run_bind, run_underlying h, Result.andThen_ok]
  cases d <;> rfl
theorem run_loadVar_part {P : Program} {g : Gh} {n : Nat} {w : World} {t : TypeId} {sz : Option Nat} (ht : aggSize P t = some sz) {e : AV} {b off o : Nat} {f : Nat → Value}
    (hc : ∀ (j : Nat) (c : AV), e.cells[j]? = some c → w.cell? ⟨b, off + j, none⟩ = some (f j) ∧ (f j).oneCell' = true ∧ VR g n w c (f j))
    {y : AV} (hy : e.part o sz = some y) : ∃ u, (loadVar t ⟨b, off + o, none⟩).run P w = .ok u w ∧ VR g n w y u := by
  cases sz with
  | none =>
    simp only [AV.part] at hy
    obtain ⟨h1, _, h3⟩ := hc o y hy
    refine ⟨f o, ?_, h3⟩
    obtain ⟨d, i, hd, hi, hr⟩ := aggSize_spec ht
    simp [loadVar, run_isAgg hd, hr.1, h1]
  | some k =>
    simp only [AV.part] at hy
    split at hy
    · rename_i hle
      simp at hy
      subst hy
      obtain ⟨d, i, hd, h1, hr, h2⟩ := aggSize_spec ht
      have hload : (loadCells ⟨b, off + o, none⟩ k).run P w = .ok ((List.range k).map fun j => f (o + j)).toArray w := by
        refine run_loadCells (P := P) w _ k (fun j => f (o + j)) fun j hj => ?_
        have hlt : o + j < e.cells.length := by omega
        have := (hc (o + j) _ (List.getElem?_eq_getElem hlt)).1
        have hadd : (⟨b, off + o, none⟩ : Addr).add j = ⟨b, off + (o + j), none⟩ := by
          unfold Addr.add; split <;> simp_all [Nat.add_assoc]
        rw [hadd]; exact this
      refine ⟨.agg ((List.range k).map fun j => f (o + j)).toArray, ?_, ?_⟩
      · simp [loadVar, run_isAgg hd, hr, run_sizeOf h1, h2, hload]
      · refine .agg _ _ (by simp; omega) ?_ ?_
        · intro j a v ha hv
          have hj : j < k := by
            rcases Nat.lt_or_ge j k with h | h
            · exact h
            · rw [List.getElem?_take_eq_none h] at ha; cases ha
          rw [List.getElem?_take_of_lt hj, List.getElem?_drop] at ha
          simp [hj] at hv
          subst hv
          exact (hc _ a ha).2.2
        · intro v hv
          simp only [List.mem_map, List.mem_range] at hv
          obtain ⟨j, hj, rfl⟩ := hv
          have hlt : o + j < e.cells.length := by omega
          exact (hc (o + j) _ (List.getElem?_eq_getElem hlt)).2.1
    · cases hy
theorem cell_of_heap {w : World} {b : Nat} {cs : Array Value} {T : TypeId} {fr : Nat × Nat} (h : w.heap[b]? = some (.cells cs T fr)) (o : Nat) : w.cell? ⟨b, o, none⟩ = cs[o]? := by
  simp [World.cell?, h]
theorem Rel.load_own {Φ : World → Prop} {g : Gh} {h : AHeap} {w : World} (R : Rel Φ g h w) {P : Program} {t : TypeId} {sz : Option Nat} (ht : aggSize P t = some sz)
    {r i o : Nat} {gr : Bool} {T : TypeId} {esz : Nat} {els : List AV} {e y : AV} (hr : h[r]? = some (.cells gr T esz els)) (he : els[i]? = some e) (hy : e.part o sz = some y) :
    ∃ u, (loadVar t ⟨g.loc r, i * g.esz r + o, none⟩).run P w = .ok u w ∧ VR g h.length w y u := by
  obtain ⟨_, _, _, _, cs, hb, _, _, _, f, hf⟩ := R.blk r _ hr
  refine run_loadVar_part ht (f := f i) (fun j c hj => ?_) hy
  have := hf i e j c he hj
  exact ⟨by rw [cell_of_heap hb]; exact this.1, this.2⟩
theorem VR.load_lptr {P : Program} {g : Gh} {n : Nat} {w : World} {t : TypeId} {sz : Option Nat} (ht : aggSize P t = some sz) {v y : AV} {o : Nat} {p : Value} (h : VR g n w (.lptr v o) p) (hy : v.part o sz = some y) :
    ∃ a u, p = .pointer (some a) ∧ (loadVar t a).run P w = .ok u w ∧ VR g n w y u := by
  cases h with
  | lptr _ _ b off f h1 h2 =>
    obtain ⟨u, hu⟩ := run_loadVar_part ht (f := f) (fun j c hj => ⟨(h1 j c hj).2.1, (h1 j c hj).2.2, h2 j c hj⟩) hy
    exact ⟨_, u, rfl, hu⟩
end Go.Abs
end
section
namespace Go.Abs
open Go.RowKit
section
variable {Φ : World → Prop} {g : Gh} {h : AHeap} {w : World}
theorem BR.ext0 {g g' : Gh} {n n' : Nat} {w w' : World} {r : Nat} {b : AB} (hb : BR g n w r b) (k : Ext0 n g w g' w') (hn : n ≤ n') (hr : r < n)
    (hw : w'.heap[g.loc r]? = w.heap[g.loc r]?) (hi : ∀ o, ¬ g'.imm (g.loc r) o) : BR g' n' w' r b := by
  have hl := k.loc r hr
  have he := k.esz r hr
  cases b with
  | dead => trivial
  | cells gr T esz els =>
    obtain ⟨h1, h1', h2, h3, cs, h4, h5, h6, h6', f, h7⟩ := hb
    have hk := k.cpn r hr
    refine ⟨by rw [k.base, hl]; exact h1, by rw [he]; exact h1', by rw [hl]; exact hi, by rw [he]; exact h3, cs, by rw [hl, hw]; exact h4, by rw [he, hk]; exact h5, by rw [hk]; exact h6, by rw [hk]; exact h6', f, ?_⟩
    rw [he]
    intro i e j a h8 h9
    obtain ⟨h10, h11, h12⟩ := h7 i e j a h8 h9
    exact ⟨h10, h11, h12.ext0 k hn⟩
  | map ents =>
    obtain ⟨h1, es, clock, h2, h3, h4⟩ := hb
    refine ⟨by rw [k.base, hl]; exact h1, es, clock, by rw [hl, hw]; exact h2, h3, fun i a v h5 => ?_⟩
    obtain ⟨e, h6, h7, h8⟩ := h4 i a v h5
    exact ⟨e, h6, h7.ext0 k hn, h8.ext0 k hn⟩
  | loop st pend X =>
    obtain ⟨h1, fn, d, tmps, ps, assign, body, h2, h3, h4, h5, h6⟩ := hb
    exact ⟨by rw [k.base, hl]; exact h1, fn, d, tmps, ps, assign, body, by rw [hl, hw]; exact h2, h3, h4, h5, fun t => (h6 t).ext0 k hn⟩
theorem BR.ext {g g' : Gh} {n n' : Nat} {w w' : World} {r : Nat} {b : AB} (hb : BR g n w r b) (k : Ext n g w g' w') (hn : n ≤ n') (hr : r < n)
    (hw : w'.heap[g.loc r]? = w.heap[g.loc r]?) (hi : ∀ o, ¬ g'.imm (g.loc r) o) : BR g' n' w' r b := hb.ext0 k.e0 hn hr hw hi
theorem Rel.lt (_R : Rel Φ g h w) {r : Nat} {b : AB} (hr : h[r]? = some b) : r < h.length := (List.getElem?_eq_some_iff.1 hr).1
theorem Rel.notimm (R : Rel Φ g h w) {r : Nat} {b : AB} (hr : h[r]? = some b) (hl : b.live = true) (o : Nat) : ¬ g.imm (g.loc r) o := by
  have hb := R.blk r b hr
  cases b with
  | dead => cases hl
  | cells gr T esz els => exact hb.2.2.1 o
  | map ents =>
    obtain ⟨_, es, clock, h2, _⟩ := hb
    intro hi
    obtain ⟨v, hv⟩ := R.immv _ _ hi
    simp [World.cell?, h2] at hv
  | loop st pend X =>
    obtain ⟨_, fn, d, tmps, ps, assign, body, h2, _⟩ := hb
    intro hi
    obtain ⟨v, hv⟩ := R.immv _ _ hi
    simp [World.cell?, h2] at hv
theorem Rel.notdfr (R : Rel Φ g h w) {r : Nat} {b : AB} (hr : h[r]? = some b) (hl : b.live = true) : ¬ g.dfr (g.loc r) := by
  have hb := R.blk r b hr
  intro hd
  have hv := R.dfrv _ hd
  cases b with
  | dead => cases hl
  | cells gr T esz els => obtain ⟨_, _, _, _, cs, h4, _⟩ := hb; rw [h4] at hv; cases hv
  | map ents => obtain ⟨_, es, clock, h2, _⟩ := hb; rw [h2] at hv; cases hv
  | loop st pend X => obtain ⟨_, fn, d, tmps, ps, assign, body, h2, _⟩ := hb; rw [h2] at hv; cases hv
theorem Rel.base_le (R : Rel Φ g h w) {r : Nat} {b : AB} (hr : h[r]? = some b) (hl : b.live = true) : g.base ≤ g.loc r := by
  have hb := R.blk r b hr
  cases b with
  | dead => cases hl
  | cells gr T esz els => exact hb.1
  | map ents => exact hb.1
  | loop st pend X => exact hb.1
theorem Rel.in_heap (R : Rel Φ g h w) {r : Nat} {b : AB} (hr : h[r]? = some b) (hl : b.live = true) : g.loc r < w.heap.size := by
  have hb := R.blk r b hr
  cases b with
  | dead => cases hl
  | cells gr T esz els => obtain ⟨_, _, _, _, cs, h4, _⟩ := hb; exact (Array.getElem?_eq_some_iff.1 h4).1
  | map ents => obtain ⟨_, es, clock, h2, _⟩ := hb; exact (Array.getElem?_eq_some_iff.1 h2).1
  | loop st pend X => obtain ⟨_, fn, d, tmps, ps, assign, body, h2, _⟩ := hb; exact (Array.getElem?_eq_some_iff.1 h2).1
theorem cell_eq_of_block {w w' : World} {b : Nat} (h : w'.heap[b]? = w.heap[b]?) (o : Nat) : w'.cell? ⟨b, o, none⟩ = w.cell? ⟨b, o, none⟩ := by
  simp only [World.cell?, h]
theorem Rel.beside (R : Rel Φ g h w) {w' : World} (hb : Below w.heap.size w w') : Rel Φ g h w' ∧ Ext h.length g w g w' := by
  have hE : Ext h.length g w g w' := ⟨fun _ _ => rfl, fun _ _ => rfl, fun _ _ => rfl, fun _ _ h => h, fun b o hi => by
    obtain ⟨v, hv⟩ := R.immv b o hi
    exact cell_eq_of_block (hb.block b (block_lt_of_cell hv)) o, rfl, rfl, hb.size, fun _ h => h⟩
  refine ⟨⟨fun r b hr => ?_, R.inj, fun b o hi => ?_, R.below.trans (hb.mono R.base), Nat.le_trans R.base hb.size, R.ok, fun b hd => (hb.block b (Array.getElem?_eq_some_iff.1 (R.dfrv b hd)).1).trans (R.dfrv b hd)⟩, hE⟩
  · by_cases hl : b.live = true
    · exact (R.blk r b hr).ext hE (Nat.le_refl _) (R.lt hr) (hb.block _ (R.in_heap hr hl)) (R.notimm hr hl)
    · cases b <;> simp [AB.live] at hl; trivial
  · obtain ⟨v, hv⟩ := R.immv b o hi
    exact ⟨v, by rw [hE.cell b o hi]; exact hv⟩
theorem Rel.update (R : Rel Φ g h w) {r : Nat} {b b' : AB} (hr : h[r]? = some b) (hl : b.live = true) {w' : World}
    (hw : ∀ k, k ≠ g.loc r → w'.heap[k]? = w.heap[k]?) (hs : w'.heap.size = w.heap.size) (ho : w'.os = w.os) (ht : w'.tape = w.tape) (hout : w'.output = w.output)
    (hb : Ext h.length g w g w' → BR g h.length w' r b') : Rel Φ g (h.set r b') w' ∧ Ext h.length g w g w' := by
  have hrl := R.lt hr
  have hE : Ext h.length g w g w' := ⟨fun _ _ => rfl, fun _ _ => rfl, fun _ _ => rfl, fun _ _ h => h, fun b' o hi => by
    refine cell_eq_of_block (hw b' ?_) o
    intro e; rw [e] at hi; exact R.notimm hr hl o hi, rfl, rfl, by omega, fun _ h => h⟩
  refine ⟨⟨fun s c hc => ?_, fun s t c d hc hd hlc hld hst => ?_, fun b o hi => ?_, ?_, by have := R.base; omega, R.ok, fun b hd => (hw b fun e => R.notdfr hr hl (e ▸ hd)).trans (R.dfrv b hd)⟩, hE⟩
  · rw [List.length_set]
    by_cases hsr : r = s
    · subst hsr
      rw [List.getElem?_set_self hrl] at hc
      cases hc
      exact hb hE
    · rw [List.getElem?_set_ne hsr] at hc
      by_cases hlc : c.live = true
      · exact (R.blk s c hc).ext hE (Nat.le_refl _) (R.lt hc) (hw _ (R.inj s r c b hc hr hlc hl (Ne.symm hsr))) (R.notimm hc hlc)
      · cases c <;> simp [AB.live] at hlc; trivial
  · by_cases hsr : r = s
    · by_cases htr : r = t
      · exact absurd (hsr.symm.trans htr) hst
      · rw [List.getElem?_set_ne htr] at hd
        subst hsr
        exact R.inj r t b d hr hd hl hld hst
    · rw [List.getElem?_set_ne hsr] at hc
      by_cases htr : r = t
      · subst htr
        exact R.inj s r c b hc hr hlc hl hst
      · rw [List.getElem?_set_ne htr] at hd
        exact R.inj s t c d hc hd hlc hld hst
  · obtain ⟨v, hv⟩ := R.immv b o hi
    exact ⟨v, by rw [hE.cell b o hi]; exact hv⟩
  · refine R.below.trans ⟨ho, ht, hout, by omega, fun k hk => hw k ?_⟩
    have := R.base_le hr hl
    omega
theorem Rel.live_obj (R : Rel Φ g h w) {r : Nat} {b : AB} (hr : h[r]? = some b) (hl : b.live = true) (s : Option (List Deferred)) : w.heap[g.loc r]? ≠ some (.deferred s) := by
  have hb := R.blk r b hr
  intro hv
  cases b with
  | dead => cases hl
  | cells gr T esz els => obtain ⟨_, _, _, _, cs, h4, _⟩ := hb; rw [h4] at hv; cases hv
  | map ents => obtain ⟨_, es, clock, h2, _⟩ := hb; rw [h2] at hv; cases hv
  | loop st pend X => obtain ⟨_, fn, d, tmps, ps, assign, body, h2, _⟩ := hb; rw [h2] at hv; cases hv
theorem Rel.other (R : Rel Φ g h w) {b : Nat} {w' : World} (hw : ∀ k, k ≠ b → w'.heap[k]? = w.heap[k]?) (hs : w'.heap.size = w.heap.size) (ho : w'.os = w.os) (ht : w'.tape = w.tape) (hout : w'.output = w.output)
    (hb : g.base ≤ b) {s : Option (List Deferred)} (hbs : w.heap[b]? = some (.deferred s)) (hd : ¬ g.dfr b) : Rel Φ g h w' ∧ Ext h.length g w g w' := by
  have hlive : ∀ r c, h[r]? = some c → c.live = true → g.loc r ≠ b := fun r c hr hl e => R.live_obj hr hl s (by rw [e]; exact hbs)
  have himm : ∀ b' o, g.imm b' o → b' ≠ b := by
    intro b' o hi e
    obtain ⟨v, hv⟩ := R.immv b' o hi
    subst e
    simp [World.cell?, hbs] at hv
  have hE : Ext h.length g w g w' := ⟨fun _ _ => rfl, fun _ _ => rfl, fun _ _ => rfl, fun _ _ h => h, fun b' o hi => cell_eq_of_block (hw b' (himm b' o hi)) o, rfl, rfl, by omega, fun _ h => h⟩
  refine ⟨⟨fun r c hr => ?_, R.inj, fun b' o hi => ?_, ?_, by have := R.base; omega, R.ok, fun x hx => (hw x fun e => hd (e ▸ hx)).trans (R.dfrv x hx)⟩, hE⟩
  · by_cases hl : c.live = true
    · exact (R.blk r c hr).ext hE (Nat.le_refl _) (R.lt hr) (hw _ (hlive r c hr hl)) (R.notimm hr hl)
    · cases c <;> simp [AB.live] at hl; trivial
  · obtain ⟨v, hv⟩ := R.immv b' o hi
    exact ⟨v, by rw [hE.cell b' o hi]; exact hv⟩
  · exact R.below.trans ⟨ho, ht, hout, by omega, fun k hk => hw k (by omega)⟩
theorem Rel.redfr (R : Rel Φ g h w) (D : Nat → Prop) (hD : ∀ x, D x → w.heap[x]? = some (.deferred (some []))) : Rel Φ { g with dfr := D } h w ∧ Ext0 h.length g w { g with dfr := D } w := by
  have hE : Ext0 h.length g w { g with dfr := D } w := ⟨fun _ _ => rfl, fun _ _ => rfl, fun _ _ => rfl, fun _ _ h => h, fun _ _ _ => rfl, rfl, rfl, Nat.le_refl _⟩
  refine ⟨⟨fun r c hr => ?_, R.inj, R.immv, R.below, R.base, R.ok, hD⟩, hE⟩
  by_cases hl : c.live = true
  · exact (R.blk r c hr).ext0 hE (Nat.le_refl _) (R.lt hr) rfl (R.notimm hr hl)
  · cases c <;> simp [AB.live] at hl; trivial
def Gh.bind (g : Gh) (n b e k : Nat) : Gh :=
  { g with loc := fun r => if r = n then b else g.loc r, esz := fun r => if r = n then e else g.esz r, cpn := fun r => if r = n then k else g.cpn r }
@[simp] theorem Gh.bind_loc (g : Gh) (n b e k : Nat) : (g.bind n b e k).loc n = b := by simp [Gh.bind]
@[simp] theorem Gh.bind_cpn (g : Gh) (n b e k : Nat) : (g.bind n b e k).cpn n = k := by simp [Gh.bind]
@[simp] theorem Gh.bind_esz (g : Gh) (n b e k : Nat) : (g.bind n b e k).esz n = e := by simp [Gh.bind]
theorem Gh.bind_loc_lt (g : Gh) {n r : Nat} (b e k : Nat) (h : r < n) : (g.bind n b e k).loc r = g.loc r := by
  have : r ≠ n := by omega
  simp [Gh.bind, this]
theorem Gh.bind_esz_lt (g : Gh) {n r : Nat} (b e k : Nat) (h : r < n) : (g.bind n b e k).esz r = g.esz r := by
  have : r ≠ n := by omega
  simp [Gh.bind, this]
theorem Gh.bind_cpn_lt (g : Gh) {n r : Nat} (b e k : Nat) (h : r < n) : (g.bind n b e k).cpn r = g.cpn r := by
  have : r ≠ n := by omega
  simp [Gh.bind, this]
@[simp] theorem Gh.bind_imm (g : Gh) (n b e k : Nat) : (g.bind n b e k).imm = g.imm := rfl
@[simp] theorem Gh.bind_base (g : Gh) (n b e k : Nat) : (g.bind n b e k).base = g.base := rfl
theorem Rel.alloc (R : Rel Φ g h w) (o : Obj) (b : AB) (e K : Nat)
    (hb : Ext h.length g w (g.bind h.length w.heap.size e K) (w.alloc o) → BR (g.bind h.length w.heap.size e K) (h.length + 1) (w.alloc o) h.length b) :
    Rel Φ (g.bind h.length w.heap.size e K) (h ++ [b]) (w.alloc o) ∧ Ext h.length g w (g.bind h.length w.heap.size e K) (w.alloc o) := by
  have hE : Ext h.length g w (g.bind h.length w.heap.size e K) (w.alloc o) :=
    ⟨fun r hr => g.bind_loc_lt _ _ _ hr, fun r hr => g.bind_esz_lt _ _ _ hr, fun r hr => g.bind_cpn_lt _ _ _ hr, fun _ _ h => h, fun b' o' hi => by
      obtain ⟨v, hv⟩ := R.immv b' o' hi
      exact cell_eq_of_block (Below.heap_alloc _ _ _ (block_lt_of_cell hv)) o', rfl, rfl, by simp, fun _ h => h⟩
  refine ⟨⟨fun s c hc => ?_, fun s t c d hc hd hlc hld hst => ?_, fun b' o' hi => ?_, ?_, ?_, R.ok, fun b hd => (Below.heap_alloc _ _ _ (Array.getElem?_eq_some_iff.1 (R.dfrv b hd)).1).trans (R.dfrv b hd)⟩, hE⟩
  · rw [List.length_append]
    by_cases hs : s < h.length
    · rw [List.getElem?_append_left hs] at hc
      by_cases hlc : c.live = true
      · exact (R.blk s c hc).ext hE (by simp) hs (Below.heap_alloc _ _ _ (R.in_heap hc hlc)) (R.notimm hc hlc)
      · cases c <;> simp [AB.live] at hlc; trivial
    · have hs' : s < (h ++ [b]).length := (List.getElem?_eq_some_iff.1 hc).1
      have : s = h.length := by simp at hs'; omega
      subst this
      simp at hc
      subst hc
      exact hb hE
  · have key : ∀ s c, (h ++ [b])[s]? = some c → c.live = true → s = h.length ∨ (s < h.length ∧ (g.bind h.length w.heap.size e K).loc s < w.heap.size) := by
      intro s c hc hl
      by_cases hs : s < h.length
      · rw [List.getElem?_append_left hs] at hc
        exact .inr ⟨hs, by rw [g.bind_loc_lt _ _ _ hs]; exact R.in_heap hc hl⟩
      · have hs' : s < (h ++ [b]).length := (List.getElem?_eq_some_iff.1 hc).1
        exact .inl (by simp at hs'; omega)
    rcases key s c hc hlc with hs | ⟨hs, hs2⟩ <;> rcases key t d hd hld with ht | ⟨ht, ht2⟩
    · exact absurd (hs.trans ht.symm) hst
    · subst hs; rw [g.bind_loc]; omega
    · subst ht; rw [g.bind_loc]; omega
    · rw [List.getElem?_append_left hs] at hc
      rw [List.getElem?_append_left ht] at hd
      rw [g.bind_loc_lt _ _ _ hs, g.bind_loc_lt _ _ _ ht]
      exact R.inj s t c d hc hd hlc hld hst
  · obtain ⟨v, hv⟩ := R.immv b' o' hi
    exact ⟨v, by rw [hE.cell b' o' hi]; exact hv⟩
  · exact R.below.alloc R.base o
  · rw [Gh.bind_base]; have := R.base; simp; omega
theorem Rel.alloc_cells (R : Rel Φ g h w) (T : TypeId) (gr : Bool) (els : List AV) (e K : Nat) (cs : List Value) (f : Nat → Nat → Value)
    (h1 : ∀ (i : Nat) (x : AV), els[i]? = some x → x.cells.length = e) (h2 : cs.length = K * e) (h2' : els.length ≤ K) (h2'' : gr = false → els.length = K)
    (h3 : ∀ (i : Nat) (x : AV) (j : Nat) (a : AV), els[i]? = some x → x.cells[j]? = some a → cs[i * e + j]? = some (f i j) ∧ (f i j).oneCell' = true ∧ VR g h.length w a (f i j)) :
    Rel Φ (g.bind h.length w.heap.size e K) (h ++ [.cells gr T e els]) (w.alloc (.cells cs.toArray T (0, 0))) ∧
      Ext h.length g w (g.bind h.length w.heap.size e K) (w.alloc (.cells cs.toArray T (0, 0))) := by
  refine R.alloc _ _ e K fun hE => ?_
  refine ⟨by rw [Gh.bind_base, Gh.bind_loc]; exact R.base, Gh.bind_esz _ _ _ _ _, ?_, by rw [Gh.bind_esz]; exact h1, cs.toArray, ?_, by rw [Gh.bind_esz, Gh.bind_cpn]; simpa using h2, by rw [Gh.bind_cpn]; exact h2', by rw [Gh.bind_cpn]; exact h2'', f, ?_⟩
  · intro o hi
    rw [Gh.bind_loc] at hi
    obtain ⟨v, hv⟩ := R.immv _ _ hi
    have := block_lt_of_cell hv
    simp at this
  · rw [Gh.bind_loc]; exact Go.heap_alloc_new _ _
  · rw [Gh.bind_esz]
    intro i x j a hx ha
    obtain ⟨k1, k2, k3⟩ := h3 i x j a hx ha
    exact ⟨by simpa using k1, k2, k3.ext hE (by omega)⟩
theorem Rel.alloc_var (R : Rel Φ g h w) (T : TypeId) {x : AV} {v : Value} (hv : VR g h.length w x v) (hx : x.sto = true) :
    Rel Φ (g.bind h.length w.heap.size x.cells.length 1) (h ++ [.cells false T x.cells.length [x]]) (w.alloc (.cells v.cells T (0, 0))) ∧
      Ext h.length g w (g.bind h.length w.heap.size x.cells.length 1) (w.alloc (.cells v.cells T (0, 0))) := by
  obtain ⟨c1, c2, c3⟩ := hv.cells_of hx
  have := R.alloc_cells T false [x] x.cells.length 1 v.cells.toList (fun _ j => v.cells.toList.getD j undef) (fun i y hy => by
      cases i <;> simp at hy; subst hy; rfl) (by simpa using c1.symm) (Nat.le_refl _) (fun _ => rfl) (fun i y j a hy ha => by
      cases i with
      | succ i => simp at hy
      | zero =>
        simp at hy; subst hy
        have hj : j < v.cells.toList.length := by rw [← c1]; exact (List.getElem?_eq_some_iff.1 ha).1
        have hg : v.cells.toList[j]? = some v.cells.toList[j] := List.getElem?_eq_getElem hj
        have hd : v.cells.toList.getD j undef = v.cells.toList[j] := by rw [List.getD_eq_getElem?_getD, hg]; rfl
        refine ⟨by simp only [Nat.zero_mul, Nat.zero_add]; rw [hg, hd], by rw [hd]; exact c3 _ (List.getElem_mem hj), by rw [hd]; exact c2 j a _ ha hg⟩)
  simpa using this
end
theorem range_apart {n i i' j' : Nat} (hj : j' < n) (hi : i' ≠ i) : i' * n + j' < i * n ∨ (i + 1) * n ≤ i' * n + j' := by
  rcases Nat.lt_or_ge i' i with h | h
  · left
    have : (i' + 1) * n ≤ i * n := Nat.mul_le_mul_right n h
    rw [Nat.add_mul] at this
    omega
  · right
    have : (i + 1) * n ≤ i' * n := Nat.mul_le_mul_right n (by omega)
    omega
end Go.Abs
end
section
namespace Go.Abs
open Go.RowKit
theorem VR.cells_one {g : Gh} {n : Nat} {w : World} {a : AV} {u : Value} (h : VR g n w a u) (hu : u.oneCell' = true) : a.cells = [a] := by
  cases h <;> first | rfl | simp [Value.oneCell'] at hu
theorem AV.setCells_get {e : AV} {o : Nat} {news : List AV} (hle : o + news.length ≤ e.cells.length) (hn : ∀ a ∈ news, a.cells = [a]) (j : Nat) :
    (e.setCells o news).cells[j]? = if o ≤ j ∧ j < o + news.length then news[j - o]? else e.cells[j]? := by
  have scal : ∀ e : AV, e.cells = [e] → o + news.length ≤ e.cells.length → (news.headD e).cells[j]? = if o ≤ j ∧ j < o + news.length then news[j - o]? else e.cells[j]? := by
    intro e he hle
    rw [he] at hle ⊢
    cases news with
    | nil => simp [he]; intros; omega
    | cons a l =>
      simp at hle
      have hl : l = [] := by cases l with
        | nil => rfl
        | cons _ _ => simp at hle; omega
      have ho : o = 0 := by omega
      subst hl; subst ho
      simp only [List.headD_cons, hn a (by simp)]
      cases j with
      | zero => simp
      | succ j => simp
  cases e with
  | agg cs =>
    simp only [AV.setCells, AV.cells] at *
    by_cases h1 : j < o
    · rw [if_neg (by omega), List.append_assoc, List.getElem?_append_left (by simp; omega), List.getElem?_take_of_lt h1]
    · by_cases h2 : j < o + news.length
      · rw [if_pos ⟨by omega, h2⟩, List.append_assoc, List.getElem?_append_right (by simp; omega), List.getElem?_append_left (by simp; omega)]
        congr 1
        simp
        omega
      · rw [if_neg (by omega), List.append_assoc, List.getElem?_append_right (by simp; omega), List.getElem?_append_right (by simp; omega), List.getElem?_drop]
        congr 1
        simp
        omega
  | _ => exact scal _ rfl hle
theorem info_of_size {P : Program} {t : TypeId} {k : Nat} (h : (P.info? t).map (·.size) = some k) : ∃ i, P.info? t = some i ∧ i.size = k := by
  cases hi : P.info? t with
  | none => simp [hi] at h
  | some i => exact ⟨i, rfl, by simpa [hi] using h⟩
section
variable {Φ : World → Prop} {g : Gh} {h : AHeap} {w : World}
theorem setRow_same (w : World) (b : Nat) (cs : Array Value) : (w.setRow b cs).heap.size = w.heap.size ∧ (w.setRow b cs).os = w.os ∧ (w.setRow b cs).tape = w.tape ∧ (w.setRow b cs).output = w.output ∧
    ∀ k, k ≠ b → (w.setRow b cs).heap[k]? = w.heap[k]? := by
  refine ⟨by simp [World.setRow], rfl, rfl, rfl, fun k hk => ?_⟩
  simp only [World.setRow, Array.getElem?_modify]
  rw [if_neg (by omega)]
theorem Rel.store_own (R : Rel Φ g h w) {P : Program} {t : TypeId} {r i o : Nat} {gr : Bool} {T : TypeId} {esz : Nat} {els : List AV} {e x : AV} {v : Value}
    (hr : h[r]? = some (.cells gr T esz els)) (he : els[i]? = some e) (hx : x.sto = true) (hv : VR g h.length w x v) (ht : (P.info? t).map (·.size) = some x.cells.length)
    (hle : o + x.cells.length ≤ e.cells.length) :
    ∃ w', (storeVar t ⟨g.loc r, i * g.esz r + o, none⟩ v).run P w = .ok () w' ∧ Rel Φ g (h.set r (.cells gr T esz (els.set i (e.setCells o x.cells)))) w' ∧ Ext h.length g w g w' := by
  obtain ⟨c1, c2, c3⟩ := hv.cells_of hx
  obtain ⟨ti, hti, htz⟩ := info_of_size ht
  obtain ⟨hb1, hb1', hb2, hb3, cs, hb, hsz, hcap, hgr, f, hf⟩ := R.blk r _ hr
  have hi : i < els.length := (List.getElem?_eq_some_iff.1 he).1
  have hee := hb3 i e he
  have hfit : i * g.esz r + o + 0 + v.cells.toList.length ≤ cs.size := by
    rw [← c1]
    have : (i + 1) * g.esz r ≤ g.cpn r * g.esz r := Nat.mul_le_mul_right _ (by omega)
    rw [Nat.add_mul] at this
    omega
  have hst := run_storeCells_at P (g.loc r) (i * g.esz r + o) T v.cells.toList 0 cs w hb hfit c3
  obtain ⟨s1, s2, s3, s4, s5⟩ := setRow_same w (g.loc r) (cs.toList.take (i * g.esz r + o + 0) ++ v.cells.toList ++ cs.toList.drop (i * g.esz r + o + 0 + v.cells.toList.length)).toArray
  refine ⟨_, ?_, R.update hr rfl s5 s1 s2 s3 s4 fun hE => ?_⟩
  · have : v.cells.size = ti.size := by rw [htz, c1]; simp
    simp [storeVar, run_sizeOf hti, this, hst]
  · have hnews : ∀ a ∈ x.cells, a.cells = [a] := by
      intro a ha
      obtain ⟨j, hj, rfl⟩ := List.getElem_of_mem ha
      have hj' : j < v.cells.toList.length := by omega
      exact (c2 j _ _ (List.getElem?_eq_getElem hj) (List.getElem?_eq_getElem hj')).cells_one (c3 _ (List.getElem_mem hj'))
    have hget := AV.setCells_get (e := e) (o := o) (news := x.cells) hle hnews
    have hlen : (e.setCells o x.cells).cells.length = e.cells.length := by
      apply Nat.le_antisymm
      · apply Nat.le_of_not_lt
        intro hlt
        have h1 := hget e.cells.length
        rw [List.getElem?_eq_getElem hlt, if_neg (by omega), List.getElem?_eq_none (Nat.le_refl _)] at h1
        cases h1
      · apply Nat.le_of_not_lt
        intro hlt
        have h1 := hget (e.setCells o x.cells).cells.length
        rw [List.getElem?_eq_none (Nat.le_refl _)] at h1
        split at h1
        · rw [List.getElem?_eq_getElem (by omega)] at h1; cases h1
        · rw [List.getElem?_eq_getElem (by omega)] at h1; cases h1
    refine ⟨hb1, hb1', hb2, ?_, _, setRow_heap w _ cs _ T (0, 0) hb, by simp at hfit ⊢; omega, by simpa using hcap, by simpa using hgr,
      fun i' j => if i' = i ∧ o ≤ j ∧ j < o + x.cells.length then v.cells.toList.getD (j - o) undef else f i' j, ?_⟩
    · intro i' e' h'
      by_cases hii : i = i'
      · subst hii
        rw [List.getElem?_set_self hi] at h'
        cases h'
        omega
      · rw [List.getElem?_set_ne hii] at h'
        exact hb3 i' e' h'
    · intro i' e' j a h' ha
      have hcs : ∀ k, (cs.toList.take (i * g.esz r + o + 0) ++ v.cells.toList ++ cs.toList.drop (i * g.esz r + o + 0 + v.cells.toList.length))[k]? =
          if i * g.esz r + o ≤ k ∧ k < i * g.esz r + o + v.cells.toList.length then v.cells.toList[k - (i * g.esz r + o)]? else cs[k]? := by
        intro k
        by_cases h1 : k < i * g.esz r + o
        · rw [if_neg (by omega), List.append_assoc, List.getElem?_append_left (by simp at hfit ⊢; omega), List.getElem?_take_of_lt (by omega)]; simp
        · by_cases h2 : k < i * g.esz r + o + v.cells.toList.length
          · rw [if_pos ⟨by omega, h2⟩, List.append_assoc, List.getElem?_append_right (by simp at hfit ⊢; omega), List.getElem?_append_left (by simp at hfit h2 ⊢; omega)]
            congr 1
            simp at hfit ⊢
            omega
          · rw [if_neg (by omega), List.append_assoc, List.getElem?_append_right (by simp at hfit ⊢; omega), List.getElem?_append_right (by simp at hfit h2 ⊢; omega), List.getElem?_drop]
            simp only [Array.getElem?_toList]
            congr 1
            simp at hfit h2 ⊢
            omega
      simp only [List.getElem?_toArray, hcs]
      by_cases hii : i' = i
      · subst hii
        rw [List.getElem?_set_self hi] at h'
        cases h'
        rw [hget] at ha
        by_cases hin : o ≤ j ∧ j < o + x.cells.length
        · rw [if_pos hin] at ha
          have hj : j - o < v.cells.toList.length := by omega
          have hgv : v.cells.toList[j - o]? = some v.cells.toList[j - o] := List.getElem?_eq_getElem hj
          have hd : v.cells.toList.getD (j - o) undef = v.cells.toList[j - o] := by rw [List.getD_eq_getElem?_getD, hgv]; rfl
          rw [if_pos (by omega), if_pos ⟨rfl, hin⟩, hd, show i' * g.esz r + j - (i' * g.esz r + o) = j - o by omega]
          exact ⟨hgv, c3 _ (List.getElem_mem hj), (c2 _ _ _ ha hgv).ext hE (Nat.le_refl _)⟩
        · rw [if_neg hin] at ha
          rw [if_neg (by omega), if_neg (by intro h; exact hin h.2)]
          obtain ⟨k1, k2, k3⟩ := hf i' e j a he ha
          exact ⟨k1, k2, k3.ext hE (Nat.le_refl _)⟩
      · rw [List.getElem?_set_ne (Ne.symm hii)] at h'
        obtain ⟨k1, k2, k3⟩ := hf i' e' j a h' ha
        have hj : j < g.esz r := by rw [← hb3 i' e' h']; exact (List.getElem?_eq_some_iff.1 ha).1
        rw [if_neg (by
          rcases range_apart hj hii with h | h
          · omega
          · rw [Nat.add_mul] at h; omega), if_neg (fun h => hii h.1)]
        exact ⟨k1, k2, k3.ext hE (Nat.le_refl _)⟩
end
end Go.Abs
end
section
namespace Go.Abs
open Go.RowKit
section
variable {P : Program}
theorem run_append_grow' (w : World) (t u ty e : TypeId) (i : TypeInfo) (z : Value) (d : TypeDesc) (ht : P.underlying t = some (.slice e)) (hu : P.underlying u = some d) (hd : d = .slice e ∨ d = .string)
    (hi : P.info? e = some i) (hz : i.zero = some z) (b : Option Addr) (sLen sCap : Nat) (olds : List Value) (ho : (Builtin.firstCells i.size sLen (.slice b sLen sCap)).run P w.drew = .ok olds.toArray w.drew)
    (x : Value) (n : Nat) (news : List Value) (hl : (Builtin.lenOf x).run P w = .ok n w) (hx : (Builtin.firstCells i.size n x).run P w.drew = .ok news.toArray w.drew)
    (hg : sCap < sLen + n) (h63 : sLen + n ≤ 9223372036854775807) (hfit : (sLen + n) * i.bytes ≤ 140737488355328) :
    (Builtin.append_ #[t, u] ty #[.slice b sLen sCap, x]).run P w =
      .ok (.slice (some ⟨w.heap.size, 0, none⟩) (sLen + n) (grownCap w (sLen + n) sCap e))
        (w.drew.alloc (.cells (olds ++ news ++ (Builtin.zeroCells z.cells (grownCap w (sLen + n) sCap e - (sLen + n))).toList).toArray e)) := by
  have hn : ¬ (sLen + n ≤ sCap) := by omega
  have h63' : ¬ (9223372036854775807 < ((sLen : Int) + (n : Int))) := by omega
  have hfit' := growslice_fits hg hfit
  have h48' : ¬ (281474976710656 < Builtin.nextslicecap (sLen + n) sCap * i.bytes) := by omega
  rcases hd with rfl | rfl
  all_goals
    simp [Builtin.append_, run_underlying ht, run_underlying hu, sizeOf, typeInfo, zeroValue, hi, hz, hl, hn, h63', h48', Question.forced, hx, ho, newRow, grownCap]
    congr 2
    apply Array.ext'
    simp
theorem run_append_room' (w : World) (t u ty e : TypeId) (i : TypeInfo) (d : TypeDesc) (ht : P.underlying t = some (.slice e)) (hu : P.underlying u = some d) (hd : d = .slice e ∨ d = .string)
    (hi : P.info? e = some i) (gb o sLen sCap : Nat) (cur : Array Value) (T : TypeId) (hgb : w.heap[gb]? = some (.cells cur T (0, 0)))
    (x : Value) (n : Nat) (news : List Value) (hl : (Builtin.lenOf x).run P w = .ok n w) (hx : (Builtin.firstCells i.size n x).run P w = .ok news.toArray w)
    (hroom : sLen + n ≤ sCap) (h1 : ∀ v ∈ news, v.oneCell' = true) (hfit : o + sLen * i.size + news.length ≤ cur.size) :
    (Builtin.append_ #[t, u] ty #[.slice (some ⟨gb, o, none⟩) sLen sCap, x]).run P w =
      .ok (.slice (some ⟨gb, o, none⟩) (sLen + n) sCap) (w.setRow gb (cur.toList.take (o + sLen * i.size) ++ news ++ cur.toList.drop (o + sLen * i.size + news.length)).toArray) := by
  have hadd : (⟨gb, o, none⟩ : Addr).add (sLen * i.size) = ⟨gb, o + sLen * i.size, none⟩ := by unfold Addr.add; split <;> simp_all
  have hst := run_storeCells_at P gb (o + sLen * i.size) T news 0 cur w hgb (by simpa using hfit) h1
  simp only [Nat.add_zero] at hst
  rcases hd with rfl | rfl
  all_goals simp [Builtin.append_, run_underlying ht, run_underlying hu, sizeOf, typeInfo, hi, hl, hroom, hx, hadd, hst]
theorem run_append_none (w : World) (t u ty e : TypeId) (i : TypeInfo) (d : TypeDesc) (ht : P.underlying t = some (.slice e)) (hu : P.underlying u = some d) (hd : d = .slice e ∨ d = .string)
    (hi : P.info? e = some i) (x : Value) (news : List Value) (hl : (Builtin.lenOf x).run P w = .ok 0 w) (hx : (Builtin.firstCells i.size 0 x).run P w = .ok news.toArray w) :
    (Builtin.append_ #[t, u] ty #[.slice none 0 0, x]).run P w = .ok (.slice none 0 0) w := by
  rcases hd with rfl | rfl
  all_goals simp [Builtin.append_, run_underlying ht, run_underlying hu, sizeOf, typeInfo, hi, hl, hx]
end
def Src (P : Program) (g : Gh) (n : Nat) (w : World) (esz : Nat) (x : Value) (els : List AV) : Prop :=
  ∃ (news : List Value) (f : Nat → Nat → Value), news.length = els.length * esz ∧ (∀ w', (Builtin.lenOf x).run P w' = .ok els.length w') ∧
    (∀ w' : World, w'.heap = w.heap → (Builtin.firstCells esz els.length x).run P w' = .ok news.toArray w') ∧ (∀ v ∈ news, v.oneCell' = true) ∧
    (∀ (i : Nat) (e : AV), els[i]? = some e → e.cells.length = esz) ∧
    (∀ (i : Nat) (e : AV) (j : Nat) (a : AV), els[i]? = some e → e.cells[j]? = some a → news[i * esz + j]? = some (f i j) ∧ VR g n w a (f i j))
theorem cells_of_fun {els : List AV} {esz : Nat} (f : Nat → Nat → Value) (h0 : ∀ (i : Nat) (e : AV), els[i]? = some e → e.cells.length = esz) :
    ∃ news : List Value, news.length = els.length * esz ∧ ∀ i j, i < els.length → j < esz → news[i * esz + j]? = some (f i j) := by
  induction els generalizing f with
  | nil => exact ⟨[], by simp, fun i j h => by simp at h⟩
  | cons e els ih =>
    obtain ⟨news, h1, h2⟩ := ih (fun i j => f (i + 1) j) (fun i e' he' => h0 (i + 1) e' (by simpa using he'))
    refine ⟨(List.range esz).map (f 0) ++ news, by simp [h1, Nat.add_mul, Nat.add_comm], fun i j hi hj => ?_⟩
    cases i with
    | zero => rw [List.getElem?_append_left (by simpa using hj)]; simp [hj]
    | succ i =>
      rw [List.getElem?_append_right (by simp [Nat.add_mul]; omega)]
      rw [← h2 i j (by simpa using hi) hj]
      congr 1
      simp [Nat.add_mul]
      omega
theorem div_mod_of {k n m : Nat} (h : k < n * m) : ∃ i j, i < n ∧ j < m ∧ k = i * m + j := by
  have hm : 0 < m := by rcases Nat.eq_zero_or_pos m with h0 | h0; · subst h0; simp at h
                        · exact h0
  exact ⟨k / m, k % m, Nat.div_lt_of_lt_mul (by rw [Nat.mul_comm]; exact h), Nat.mod_lt _ hm, by rw [Nat.mul_comm]; exact (Nat.div_add_mod k m).symm⟩
theorem src_of_cells {P : Program} {g : Gh} {n : Nat} {w : World} {esz : Nat} {els : List AV} {b off m c : Nat} (hm : m = els.length)
    (h0 : ∀ (i : Nat) (e : AV), els[i]? = some e → e.cells.length = esz) (f : Nat → Nat → Value)
    (h1 : ∀ (i : Nat) (e : AV) (j : Nat) (a : AV), els[i]? = some e → e.cells[j]? = some a → w.cell? ⟨b, off + i * esz + j, none⟩ = some (f i j) ∧ (f i j).oneCell' = true ∧ VR g n w a (f i j)) :
    Src P g n w esz (.slice (some ⟨b, off, none⟩) m c) els := by
  obtain ⟨news, hl, hn⟩ := cells_of_fun f h0
  have at_ : ∀ k, k < news.length → ∃ i j e a, i < els.length ∧ j < esz ∧ k = i * esz + j ∧ els[i]? = some e ∧ e.cells[j]? = some a ∧ news[k]? = some (f i j) := by
    intro k hk
    rw [hl] at hk
    obtain ⟨i, j, hi, hj, rfl⟩ := div_mod_of hk
    have he : els[i]? = some els[i] := List.getElem?_eq_getElem hi
    have hj' : j < els[i].cells.length := by rw [h0 i _ he]; exact hj
    exact ⟨i, j, _, _, hi, hj, rfl, he, List.getElem?_eq_getElem hj', hn i j hi hj⟩
  refine ⟨news, f, hl, fun w' => by simp [Builtin.lenOf, hm], fun w' hw => ?_, fun v hv => ?_, h0, fun i e j a he ha => ?_⟩
  · refine run_firstCells_some (P := P) w' esz els.length ⟨b, off, none⟩ m c news hl fun k v hk => ?_
    have hlt : k < news.length := (List.getElem?_eq_some_iff.1 hk).1
    obtain ⟨i, j, e, a, hi, hj, rfl, he, ha, hf⟩ := at_ k hlt
    rw [hk] at hf
    have hadd : (⟨b, off, none⟩ : Addr).add (i * esz + j) = ⟨b, off + i * esz + j, none⟩ := by unfold Addr.add; split <;> simp_all [Nat.add_assoc]
    rw [hadd, hf, ← (h1 i e j a he ha).1]
    simp only [World.cell?, hw]
  · obtain ⟨k, hk, rfl⟩ := List.getElem_of_mem hv
    obtain ⟨i, j, e, a, hi, hj, rfl, he, ha, hf⟩ := at_ k hk
    rw [List.getElem?_eq_getElem hk] at hf
    rw [Option.some.inj hf]
    exact (h1 i e j a he ha).2.1
  · have hi : i < els.length := (List.getElem?_eq_some_iff.1 he).1
    have hj : j < esz := by rw [← h0 i e he]; exact (List.getElem?_eq_some_iff.1 ha).1
    exact ⟨hn i j hi hj, (h1 i e j a he ha).2.2⟩
theorem VR.src_lst {P : Program} {g : Gh} {n : Nat} {w : World} {esz : Nat} {els : List AV} {x : Value} (h : VR g n w (.lst esz els) x) : Src P g n w esz x els := by
  cases h with
  | lst _ _ b off c f hc hsz h1 h2 =>
    exact src_of_cells rfl hsz f (fun i e j a he ha => ⟨(h1 i e j a he ha).2.1, (h1 i e j a he ha).2.2, h2 i e j a he ha⟩)
  | lst0 sz p c =>
    refine ⟨[], fun _ _ => undef, by simp, fun w' => by simp [Builtin.lenOf], fun w' _ => ?_, by simp, fun i e he => by simp at he, fun i e j a he => by simp at he⟩
    cases p <;> simp [Builtin.firstCells, loadCells, loadCellsFrom]
theorem src_nil (P : Program) (g : Gh) (n : Nat) (w : World) (esz : Nat) : Src P g n w esz (.slice none 0 0) [] :=
  ⟨[], fun _ _ => undef, by simp, fun w' => by simp [Builtin.lenOf], fun w' _ => by simp [Builtin.firstCells], by simp, fun i e he => by simp at he, fun i e j a he => by simp at he⟩
theorem src_str (P : Program) (g : Gh) (n : Nat) (w : World) (l : List UInt8) : Src P g n w 1 (.string ⟨l.toArray⟩) (l.map fun b => .int .u8 b.toNat) := by
  refine ⟨l.map fun b => .int .u8 b.toNat, fun i _ => .int .u8 (l.getD i 0).toNat, by simp, fun w' => by simp [Builtin.lenOf, ByteArray.size], fun w' _ => ?_, by simp; intros; rfl, fun i e he => ?_, fun i e j a he ha => ?_⟩
  · simp [Builtin.firstCells]
  · rw [List.getElem?_map] at he
    cases hl : l[i]? with
    | none => simp [hl] at he
    | some b => simp [hl] at he; subst he; rfl
  · rw [List.getElem?_map] at he
    cases hl : l[i]? with
    | none => simp [hl] at he
    | some b =>
      simp [hl] at he; subst he
      cases j with
      | succ j => simp [AV.cells] at ha
      | zero => simp [AV.cells] at ha; subst ha; simp [hl]; exact .int _ _
theorem Rel.src_own {Φ : World → Prop} {P : Program} {g : Gh} {h : AHeap} {w : World} (R : Rel Φ g h w) {r i m : Nat} {c : Option Nat} {gr : Bool} {T : TypeId} {esz : Nat} {els : List AV} {x : Value}
    (hr : h[r]? = some (.cells gr T esz els)) (hx : VR g h.length w (.sl r i m c) x) (hi : i + m ≤ els.length) :
    Src P g h.length w esz x ((els.drop i).take m) := by
  obtain ⟨hb1, hez, hb2, hb3, cs, hb, hsz, hcap, hgr, f, hf⟩ := R.blk r _ hr
  subst hez
  have h0 : ∀ (j : Nat) (e : AV), ((els.drop i).take m)[j]? = some e → e.cells.length = g.esz r := fun j e he => by
    obtain ⟨k, hk, rfl⟩ := List.getElem_of_mem (List.mem_of_mem_drop (List.mem_of_mem_take (List.mem_of_getElem? he)))
    exact hb3 k _ (List.getElem?_eq_getElem hk)
  cases hx with
  | sl _ _ _ _ c' hrl hm hc hk =>
    by_cases hm0 : m = 0
    · subst hm0
      refine ⟨[], fun _ _ => undef, by simp, fun w' => by simp [Builtin.lenOf], fun w' _ => ?_, by simp, h0, fun i e j a he => by simp at he⟩
      simp [Builtin.firstCells, loadCells, loadCellsFrom]
    · have hlen : ((els.drop i).take m).length = m := by simp; omega
      refine src_of_cells (b := g.loc r) (off := i * g.esz r) hlen.symm h0 (fun j k => f (i + j) k) fun j e k a he ha => ?_
      have hj : j < m := by rw [← hlen]; exact (List.getElem?_eq_some_iff.1 he).1
      rw [List.getElem?_take_of_lt hj, List.getElem?_drop] at he
      obtain ⟨k1, k2, k3⟩ := hf (i + j) e k a he ha
      refine ⟨?_, k2, k3⟩
      rw [cell_of_heap hb, ← k1]
      congr 1
      rw [Nat.add_mul, Nat.add_assoc]
theorem zeroCells_length (z : Array Value) (n : Nat) : (Builtin.zeroCells z n).toList.length = n * z.size := by simp [Builtin.zeroCells]
section
variable {Φ : World → Prop} {g : Gh} {h : AHeap} {w : World}
theorem Rel.alloc_grown (R : Rel Φ g h w) {P : Program} (T : TypeId) {esz : Nat} (els : List AV) (cs : List Value) (K : Nat) (hK : els.length ≤ K) (hcs : cs.length = K * esz)
    (f : Nat → Nat → Value) (h0 : ∀ (i : Nat) (e : AV), els[i]? = some e → e.cells.length = esz)
    (hf : ∀ (i : Nat) (e : AV) (j : Nat) (a : AV), els[i]? = some e → e.cells[j]? = some a → cs[i * esz + j]? = some (f i j) ∧ (f i j).oneCell' = true ∧ VR g h.length w a (f i j)) (w' : World) (hw' : Below w.heap.size w w') :
    Rel Φ (g.bind h.length w'.heap.size esz K) (h ++ [.cells true T esz els]) (w'.alloc (.cells cs.toArray T (0, 0))) ∧
      Ext h.length g w (g.bind h.length w'.heap.size esz K) (w'.alloc (.cells cs.toArray T (0, 0))) := by
  have _ := P
  obtain ⟨R1, E1⟩ := R.beside hw'
  obtain ⟨R2, E2⟩ := R1.alloc_cells T true els esz K cs f h0 hcs hK (fun h => by cases h) (fun i x j a hx ha => by
    obtain ⟨k1, k2, k3⟩ := hf i x j a hx ha
    exact ⟨k1, k2, k3.ext E1 (Nat.le_refl _)⟩)
  exact ⟨R2, E1.trans E2 (Nat.le_refl _)⟩
end
end Go.Abs
end
section
namespace Go.Abs
open Go.RowKit
inductive AX where
  | tmp (t : Nat)
  | val (v : AV)
  deriving Inhabited
inductive TK where
  | num | str | bool | ptr | slice | map | func | iface | other
  deriving Inhabited, DecidableEq
inductive AOp where
  | mov (x : AX)
  | pick (c a b : AX)
  | alloc (T : TypeId) (n : Nat) (zero : AV)
  | box (T : TypeId) (n : Nat) (x : AX)
  | build (zero : List AV) (parts : List (Nat × Nat × AX))
  | bslice (T : TypeId) (esz : Nat) (els : List AX)
  | fslice (esz : Nat) (els : List AX)
  | fbox (n : Nat) (x : AX)
  | load (sz : Option Nat) (x : AX)
  | store (n : Nat) (x y : AX)
  | nilchk (x : AX)
  | bin (tk : TK) (op : BinOp) (x y : AX)
  | aggeq (neg : Bool) (tks : List TK) (x y : AX)
  | un (op : UnOp) (x : AX)
  | conv (k : IntKind) (x : AX)
  | same (x : AX)
  | mkiface (t : TypeId) (x : AX)
  | mkfn (f : FuncId) (first cap : List AX)
  | mkmap
  | slcS (x : AX) (lo hi : Option AX)
  | slc (esz : Nat) (x : AX) (lo hi : Option AX)
  | fieldAddr (off : Nat) (x : AX)
  | field (off : Nat) (sz : Option Nat) (x : AX)
  | elemAddr (esz : Nat) (x i : AX)
  | cellAddr (len esz : Nat) (x i : AX)
  | byteAt (x i : AX)
  | arrAt (len : Nat) (esz : Nat) (sz : Option Nat) (x i : AX)
  | lookup (tk : TK) (ok : Bool) (zero : AV) (m k : AX)
  | mapup (tk : TK) (m k v : AX)
  | tassert (t : TypeId) (zero : AV) (ok : Bool) (x : AX)
  | extract (x : AX) (i : Nat)
  | callF (f : FuncId) (args : List AX)
  | callV (x : AX) (args : List AX)
  | append (T : TypeId) (esz bytes : Nat) (x y : AX)
  | len (tk : TK) (x : AX)
  | alen (n : Nat)
  | panic (x : AX)
  deriving Inhabited
structure AOper where
  dst : Option Nat
  op : AOp
  gd : Option (Nat × Bool)
  deriving Inhabited
structure DOp where
  op : AOper
  x : Bool
  back : Nat
  late : Bool
  deriving Inhabited
inductive ACode where
  | skip
  | region (ops : List AOper) (keep : Option (List Nat))
  | draw (ops : List DOp) (keep : Option (List Nat))
  | seq (a b : ACode)
  | cond (c : AX) (a b : ACode)
  | block (id : Nat) (a : ACode)
  | loop (a : ACode)
  | range (f : AX) (ps : List Nat) (N : Nat) (fz : List Nat) (aa ab : ACode)
  | dfr (ops : List AOper) (t : Nat) (keep : Option (List Nat)) (rest : ACode)
  | exit (id : Nat)
  | ret
  deriving Inhabited
def ACode.flat : ACode → Bool
  | .seq a b | .cond _ a b => a.flat && b.flat
  | .block _ a | .loop a => a.flat
  | .range .. => false
  | .dfr .. => false
  | _ => true
inductive AEnd where
  | ret (v : AV)
  | pan (v : AV)
def EndR (g : Gh) (n : Nat) (w : World) : AEnd → Ending → Prop
  | .ret a, .returned v => VR g n w a v
  | .pan a, .panicked c => ∃ v, c = [{ v, recovered := false }] ∧ VR g n w a v
  | _, _ => False
def Enters (P : Program) (f : FuncId) : Prop := ∃ fn, P.funcs[f]? = some fn ∧ (fn.name == "runtime.NumGoroutine") = false ∧ fn.body.isNone = false
structure S (P : Program) (Φ : World → Prop) (f : FuncId) (args : List AV) (h : AHeap) (Q : AEnd → AHeap → Prop) : Prop where
  ent : Enters P f
  run : ∀ g w vs, Rel Φ g h w → VRs g h.length w args vs → Calls P f vs.toArray w fun e w' =>
    ∃ g' h' r, Q r h' ∧ Rel Φ g' h' w' ∧ EndR g' h'.length w' r e ∧ Ext h.length g w g' w' ∧ h.length ≤ h'.length
theorem S.mono {P : Program} {Φ : World → Prop} {f : FuncId} {args : List AV} {h : AHeap} {Q Q' : AEnd → AHeap → Prop} (hs : S P Φ f args h Q) (hq : ∀ e h', Q e h' → Q' e h') : S P Φ f args h Q' :=
  ⟨hs.1, fun g w vs R V => (hs.2 g w vs R V).mono fun _ _ ⟨g', h', r, q, rest⟩ => ⟨g', h', r, hq _ _ q, rest⟩⟩
structure YS (P : Program) (Φ : World → Prop) (r : Nat) (args : List AV) (h : AHeap) (Q : AEnd → AHeap → Prop) : Prop where
  run : ∀ (ρ : Option Nat) g w vs, Rel Φ g h w → VRs g h.length w args vs → ∃ f tmps assign body, (Instr.yield (g.loc r) vs.toArray).run P w = .ok (.round (g.loc r) f tmps assign body) w ∧
    RoundIn { Fence.wide with round := ρ } 0 P (g.loc r) f tmps assign body w fun e w' => ∃ g' h' res, Q res h' ∧ Rel Φ g' h' w' ∧ EndR g' h'.length w' res e ∧ Ext h.length g w g' w' ∧ h.length ≤ h'.length
theorem YS.mono {P : Program} {Φ : World → Prop} {r : Nat} {args : List AV} {h : AHeap} {Q Q' : AEnd → AHeap → Prop} (hs : YS P Φ r args h Q) (hq : ∀ e h', Q e h' → Q' e h') : YS P Φ r args h Q' :=
  ⟨fun ρ g w vs R V => let ⟨f, tmps, assign, body, h1, h2⟩ := hs.run ρ g w vs R V
    ⟨f, tmps, assign, body, h1, h2.mono fun _ _ ⟨g', h', r, q, rest⟩ => ⟨g', h', r, hq _ _ q, rest⟩⟩⟩
def Env.keep (e : Env) : Option (List Nat) → Env
  | none => e
  | some l => l.map fun t => (t, e.get t)
def AX.ev (e : Env) : AX → AV
  | .tmp t => e.get t
  | .val v => v
def undefA : AV := .tup []
def bitsI (op : BinOp) (k : IntKind) (a b : Int) : Int :=
  match op with
  | .and => k.wrap (BitVec.ofInt k.bits a &&& BitVec.ofInt k.bits b).toNat
  | .or => k.wrap (BitVec.ofInt k.bits a ||| BitVec.ofInt k.bits b).toNat
  | .xor => k.wrap (BitVec.ofInt k.bits a ^^^ BitVec.ofInt k.bits b).toNat
  | _ => k.wrap (BitVec.ofInt k.bits a &&& ~~~ BitVec.ofInt k.bits b).toNat
def shiftI (op : BinOp) (k : IntKind) (a b : Int) : Int :=
  match op with
  | .shl => k.wrap (a * 2 ^ (min b.toNat k.bits))
  | _ => a.fdiv (2 ^ (min b.toNat k.bits))
def BinOp.isShift : BinOp → Bool
  | .shl | .shr => true
  | _ => false
def abin (tk : TK) (op : BinOp) (x y : AV) (K : AV → Prop) : Prop :=
  match x, y with
  | .int k a, .int k' b =>
    bif BinOp.isShift op then 0 ≤ b ∧ K (.int k (shiftI op k a b)) else
    k = k' ∧
    match op with
    | .and | .or | .xor | .andNot => K (.int k (bitsI op k a b))
    | .add => K (.int k (k.wrap (a + b)))
    | .sub => K (.int k (k.wrap (a - b)))
    | .mul => K (.int k (k.wrap (a * b)))
    | .quo => b ≠ 0 ∧ K (.int k (k.wrap (a.tdiv b)))
    | .rem => b ≠ 0 ∧ K (.int k (a.tmod b))
    | .eql => K (.bool (a == b))
    | .neq => K (.bool (a != b))
    | .lss => K (.bool (a < b))
    | .leq => K (.bool (a ≤ b))
    | .gtr => K (.bool (a > b))
    | .geq => K (.bool (a ≥ b))
    | _ => False
  | .str a, .str b =>
    match op with
    | .add => a.length + b.length ≤ 9223372036854775807 ∧ K (.str (a ++ b))
    | .eql => K (.bool (a == b))
    | .neq => K (.bool (!(a == b)))
    | .lss => K (.bool (Op.bytesLess a b))
    | .leq => K (.bool (Op.bytesLess a b || a == b))
    | .gtr => K (.bool (!(Op.bytesLess a b || a == b)))
    | .geq => K (.bool (!(Op.bytesLess a b)))
    | _ => False
  | .bool a, .bool b =>
    match tk, op with
    | .bool, .eql => K (.bool (a == b))
    | .bool, .neq => K (.bool (!(a == b)))
    | _, _ => False
  | _, _ => False
def AV.isNil : TK → AV → Option Bool
  | .ptr, .nilp | .slice, .nils | .map, .nilm | .func, .nilf | .iface, .nili => some true
  | .ptr, .ptr _ _ _ | .ptr, .lptr _ _ | .slice, .sl _ _ _ _ | .map, .map _ | .func, .fn _ _ _ | .func, .yld _ | .iface, .iface _ _ => some false
  | _, _ => none
def abinNil (tk : TK) (op : BinOp) (x : AV) (K : AV → Prop) : Prop :=
  match op, x.isNil tk with
  | .eql, some b => K (.bool b)
  | .neq, some b => K (.bool (!b))
  | _, _ => False
def srcOf (h : AHeap) (esz : Nat) (x : AV) (K : List AV → Prop) : Prop :=
  match x with
  | .lst sz els => sz = esz ∧ K els
  | .nils => K []
  | .str l => esz = 1 ∧ K (l.map fun b => .int .u8 b.toNat)
  | .sl r i m _ =>
    match h[r]? with
    | some (.cells _ _ sz els) => sz = esz ∧ i + m ≤ els.length ∧ K ((els.drop i).take m)
    | _ => False
  | _ => False
def eszOf (h : AHeap) (r : Nat) : Option Nat :=
  match h[r]? with
  | some (.cells _ _ esz _) => some esz
  | _ => none
def asliceS (x : AV) (lo hi : Option AV) (K : AV → Prop) : Prop :=
  match x with
  | .str l => match lo, hi with
    | some (.int _ a), some (.int _ b) => 0 ≤ a ∧ a ≤ b ∧ b ≤ l.length ∧ K (.str ((l.drop a.toNat).take (b.toNat - a.toNat)))
    | some (.int _ a), none => 0 ≤ a ∧ a ≤ l.length ∧ K (.str (l.drop a.toNat))
    | none, some (.int _ b) => 0 ≤ b ∧ b ≤ l.length ∧ K (.str (l.take b.toNat))
    | none, none => K (.str l)
    | _, _ => False
  | _ => False
def aslice (h : AHeap) (esz : Nat) (x : AV) (lo hi : Option AV) (K : AV → Prop) : Prop :=
  match x with
  | .lst sz l => sz = esz ∧ match lo, hi with
    | some (.int _ a), some (.int _ b) => 0 ≤ a ∧ a ≤ b ∧ b ≤ l.length ∧ K (.lst sz ((l.drop a.toNat).take (b.toNat - a.toNat)))
    | some (.int _ a), none => 0 ≤ a ∧ a ≤ l.length ∧ K (.lst sz (l.drop a.toNat))
    | none, some (.int _ b) => 0 ≤ b ∧ b ≤ l.length ∧ K (.lst sz (l.take b.toNat))
    | none, none => K (.lst sz l)
    | _, _ => False
  | .sl r i m c => eszOf h r = some esz ∧ match lo, hi with
    | some (.int _ a), some (.int _ b) => 0 ≤ a ∧ a ≤ b ∧ b ≤ m ∧ (a = b → K (.lst esz [])) ∧ (a < b → K (.sl r (i + a.toNat) (b.toNat - a.toNat) none))
    | some (.int _ a), none => 0 ≤ a ∧ a ≤ m ∧ (a = m → K (.lst esz [])) ∧ (a < m → K (.sl r (i + a.toNat) (m - a.toNat) none))
    | none, some (.int _ b) => 0 ≤ b ∧ b ≤ m ∧ K (.sl r i b.toNat none)
    | none, none => K (.sl r i m c)
    | _, _ => False
  | .nils => match lo, hi with
    | none, none => K .nils
    | _, _ => False
  | _ => False
def afill (cells : List AV) : List (Nat × Nat × AV) → Option (List AV)
  | [] => some cells
  | (o, n, v) :: rest => if v.sto = true ∧ v.cells.length = n ∧ o + n ≤ cells.length then afill (cells.take o ++ v.cells ++ cells.drop (o + n)) rest else none
def aappend (h : AHeap) (T esz bytes : Nat) (x y : AV) (K : AV → AHeap → Prop) : Prop :=
  srcOf h esz y fun new =>
    match x with
    | .nils => new.length * bytes ≤ 140737488355328 ∧ new.length ≤ 9223372036854775807 ∧
        match new with
        | [] => K .nils h
        | _ => K (.sl h.length 0 new.length none) (h ++ [.cells true T esz new])
    | .sl r i m c =>
      match h[r]?, c with
      | some (.cells true T' sz els), none => T' = T ∧ sz = esz ∧ i = 0 ∧ m = els.length ∧ (els.length + new.length) * bytes ≤ 140737488355328 ∧ els.length + new.length ≤ 9223372036854775807 ∧
          K (.sl h.length 0 (els.length + new.length) none) (h.set r .dead ++ [.cells true T esz (els ++ new)])
      | some (.cells _ _ sz els), some c => sz = esz ∧ i + m ≤ els.length ∧ c < m + new.length ∧ (m + new.length) * bytes ≤ 140737488355328 ∧ m + new.length ≤ 9223372036854775807 ∧
          K (.sl h.length 0 (m + new.length) none) (h ++ [.cells true T esz ((els.drop i).take m ++ new)])
      | _, _ => False
    | _ => False
def keyEq : AV → AV → Option Bool
  | .str a, .str b => some (a == b)
  | .int k a, .int k' b => if k = k' then some (a == b) else none
  | .bool a, .bool b => some (a == b)
  | _, _ => none
def mfind : List (AV × AV) → AV → Nat → Option (Option (Nat × AV))
  | [], _, _ => some none
  | (k', v) :: rest, k, i =>
    match keyEq k k' with
    | some true => some (some (i, v))
    | some false => mfind rest k (i + 1)
    | none => none
def mput (ents : List (AV × AV)) (k v : AV) : Option (List (AV × AV)) :=
  match mfind ents k 0 with
  | some (some (i, _)) => some (ents.set i (k, v))
  | some none => some (ents ++ [(k, v)])
  | none => none
def AV.isKey : TK → AV → Bool
  | .str, .str _ | .num, .int _ _ | .bool, .bool _ => true
  | _, _ => false
def cellsEq : List TK → List AV → List AV → Option Bool
  | [], [], [] => some true
  | tk :: ts, a :: asx, b :: bs => bif a.isKey tk then (match keyEq a b, cellsEq ts asx bs with
    | some t, some u => some (t && u)
    | _, _ => none) else none
  | _, _, _ => none
section
variable (P : Program) (Φ : World → Prop)
def aop (e : Env) (h : AHeap) (o : AOp) (K : AV → AHeap → Prop) (X : AV → AHeap → Prop) : Prop :=
  match o with
  | .mov x => K (x.ev e) h
  | .pick c a b => match c.ev e with
    | .bool t => K (bif t then a.ev e else b.ev e) h
    | _ => False
  | .alloc T n z => K (.ptr h.length 0 0) (h ++ [.cells false T n [z]])
  | .box T n x => (x.ev e).sto = true ∧ (x.ev e).cells.length = n ∧ K (.ptr h.length 0 0) (h ++ [.cells false T n [x.ev e]])
  | .load sz x => match x.ev e with
    | .lptr v o => match v.part o sz with
      | some y => K y h
      | none => False
    | .ptr r i o => match h[r]? with
      | some (.cells _ _ _ els) => match els[i]? with
        | some v => match v.part o sz with
          | some y => K y h
          | none => False
        | none => False
      | _ => False
    | _ => False
  | .store n x y => match x.ev e with
    | .ptr r i o => match h[r]? with
      | some (.cells gr T sz els) => match els[i]? with
        | some v => (y.ev e).sto = true ∧ (y.ev e).cells.length = n ∧ o + n ≤ v.cells.length ∧ K undefA (h.set r (.cells gr T sz (els.set i (v.setCells o (y.ev e).cells))))
        | none => False
      | _ => False
    | _ => False
  | .nilchk x => match x.ev e with
    | .ptr r i o => K (.ptr r i o) h
    | .lptr v o => K (.lptr v o) h
    | .fn f a b => K (.fn f a b) h
    | .iface t v => K (.iface t v) h
    | _ => False
  | .bin tk op x y => match y with
    | .val v => match v.isNil tk with
      | some true => abinNil tk op (x.ev e) (K · h)
      | _ => abin tk op (x.ev e) v (K · h)
    | .tmp t => abin tk op (x.ev e) (e.get t) (K · h)
  | .aggeq neg tks x y => match x.ev e, y.ev e with
    | .agg asx, .agg bs => match cellsEq tks asx bs with
      | some t => K (.bool (bif neg then !t else t)) h
      | none => False
    | _, _ => False
  | .un op x => match op, x.ev e with
    | .not, .bool b => K (.bool (!b)) h
    | .neg, .int k n => K (.int k (k.wrap (0 - n))) h
    | _, _ => False
  | .conv k x => match x.ev e with
    | .int _ n => K (.int k (k.wrap n)) h
    | _ => False
  | .same x => match x.ev e with
    | .str l => K (.str l) h
    | _ => False
  | .mkiface t x => K (.iface t (x.ev e)) h
  | .mkfn f a b => K (.fn f (a.map (AX.ev e)) (b.map (AX.ev e))) h
  | .mkmap => K (.map h.length) (h ++ [.map []])
  | .slcS x lo hi => asliceS (x.ev e) (lo.map (AX.ev e)) (hi.map (AX.ev e)) (K · h)
  | .slc esz x lo hi => aslice h esz (x.ev e) (lo.map (AX.ev e)) (hi.map (AX.ev e)) (K · h)
  | .fieldAddr off x => match x.ev e with
    | .ptr r i o => K (.ptr r i (o + off)) h
    | .lptr v o => K (.lptr v (o + off)) h
    | _ => False
  | .field off sz x => match x.ev e with
    | .agg cs => match (AV.agg cs).part off sz with
      | some y => K y h
      | none => False
    | _ => False
  | .elemAddr esz x i => match x.ev e, i.ev e with
    | .lst sz els, .int _ n => sz = esz ∧ 0 ≤ n ∧ match els[n.toNat]? with
      | some v => K (.lptr v 0) h
      | none => False
    | .sl r j m _, .int _ n => eszOf h r = some esz ∧ 0 ≤ n ∧ n < m ∧ K (.ptr r (j + n.toNat) 0) h
    | _, _ => False
  | .cellAddr len esz x i => match x.ev e, i.ev e with
    | .ptr r j o, .int _ n => 0 ≤ n ∧ n < len ∧ K (.ptr r j (o + n.toNat * esz)) h
    | .lptr v o, .int _ n => 0 ≤ n ∧ n < len ∧ K (.lptr v (o + n.toNat * esz)) h
    | _, _ => False
  | .byteAt x i => match x.ev e, i.ev e with
    | .str l, .int _ n => 0 ≤ n ∧ match l[n.toNat]? with
      | some b => K (.int .u8 b.toNat) h
      | none => False
    | _, _ => False
  | .arrAt len esz sz x i => match x.ev e, i.ev e with
    | .agg cs, .int _ n => 0 ≤ n ∧ n < len ∧ match (AV.agg cs).part (n.toNat * esz) sz with
      | some y => K y h
      | none => False
    | _, _ => False
  | .lookup tk ok z m k => match m.ev e with
    | .map r => match h[r]? with
      | some (.map ents) => AV.isKey tk (k.ev e) = true ∧ match mfind ents (k.ev e) 0 with
        | some (some (_, v)) => K (if ok then .tup [v, .bool true] else v) h
        | some none => K (if ok then .tup [z, .bool false] else z) h
        | none => False
      | _ => False
    | _ => False
  | .build z parts => match afill z (parts.map fun p => (p.1, p.2.1, p.2.2.ev e)) with
    | some cells => K (.agg cells) h
    | none => False
  | .bslice T esz els => (∀ x ∈ els.map (AX.ev e), x.sto = true ∧ x.cells.length = esz) ∧ K (.sl h.length 0 els.length (some els.length)) (h ++ [.cells false T esz (els.map (AX.ev e))])
  | .fslice esz els => (∀ x ∈ els.map (AX.ev e), x.sto = true ∧ x.cells.length = esz) ∧ K (.lst esz (els.map (AX.ev e))) h
  | .fbox n x => (x.ev e).sto = true ∧ (x.ev e).cells.length = n ∧ K (.lptr (x.ev e) 0) h
  | .mapup tk m k v => match m.ev e with
    | .map r => match h[r]? with
      | some (.map ents) => AV.isKey tk (k.ev e) = true ∧ (v.ev e).sto = true ∧ match mput ents (k.ev e) (v.ev e) with
        | some ents' => K undefA (h.set r (.map ents'))
        | none => False
      | _ => False
    | _ => False
  | .tassert t z ok x => match x.ev e with
    | .iface t' v => if t' = t then K (if ok then .tup [v, .bool true] else v) h else ok = true ∧ K (.tup [z, .bool false]) h
    | .nili => ok = true ∧ K (.tup [z, .bool false]) h
    | _ => False
  | .callF f args => S P Φ f (args.map (AX.ev e)) h fun r h' => match r with
    | .ret v => K v h'
    | .pan v => X v h'
  | .callV x args => match x.ev e with
    | .fn f a b => S P Φ f (a ++ args.map (AX.ev e) ++ b) h fun r h' => match r with
      | .ret v => K v h'
      | .pan v => X v h'
    | .yld r => YS P Φ r (args.map (AX.ev e)) h fun r h' => match r with
      | .ret v => K v h'
      | .pan v => X v h'
    | _ => False
  | .append T esz bytes x y => aappend h T esz bytes (x.ev e) (y.ev e) K
  | .len tk x => match tk, x.ev e with
    | .str, .str l => K (.int .i64 l.length) h
    | .slice, .lst _ l => K (.int .i64 l.length) h
    | .slice, .nils => K (.int .i64 0) h
    | .slice, .sl _ _ m _ => K (.int .i64 m) h
    | .map, .map r => match h[r]? with
      | some (.map ents) => K (.int .i64 ents.length) h
      | _ => False
    | .map, .nilm => K (.int .i64 0) h
    | _, _ => False
  | .alen n => K (.int .i64 n) h
  | .extract x i => match x.ev e with
    | .tup vs => match vs[i]? with
      | some v => K v h
      | none => False
    | _ => False
  | .panic x => match x.ev e with
    | .iface t v => X (.iface t v) h
    | _ => False
end
def ofScalar : Value → Option AV
  | .bool b => some (.bool b)
  | .int k n => some (.int k n)
  | .string s => some (.str s.data.toList)
  | .pointer none => some .nilp
  | .slice none 0 0 => some .nils
  | .map none => some .nilm
  | .nilFunc => some .nilf
  | .nilIface => some .nili
  | _ => none
def ofScalars : List Value → Option (List AV)
  | [] => some []
  | v :: vs => match ofScalar v, ofScalars vs with
    | some a, some asx => some (a :: asx)
    | _, _ => none
def ofConst : Value → Option AV
  | .agg cs => (ofScalars cs.toList).map .agg
  | v => ofScalar v
def compX : Operand → Option AX
  | .tmp t => some (.tmp t)
  | .const v => (ofConst v).map .val
  | .func f => some (.val (.fn f [] []))
  | .global _ => none
def compXs : List Operand → Option (List AX)
  | [] => some []
  | x :: xs => match compX x, compXs xs with
    | some a, some asx => some (a :: asx)
    | _, _ => none
def compXo : Option Operand → Option (Option AX)
  | none => some none
  | some x => (compX x).map some
def tkOf : TypeDesc → TK
  | .int _ => .num
  | .string => .str
  | .bool => .bool
  | .pointer _ => .ptr
  | .slice _ => .slice
  | .map _ _ => .map
  | .func _ _ _ => .func
  | .interface _ => .iface
  | _ => .other
def okSrcD (e : TypeId) : TypeDesc → Bool
  | .slice e' => e' == e
  | .string => true
  | _ => false
def sizeT (P : Program) (t : TypeId) : Option Nat := (P.info? t).map (·.size)
def zeroT (P : Program) (t : TypeId) : Option AV := ((P.info? t).bind (·.zero)).bind ofConst
def partsOf (place : Nat → Option (Nat × Nat)) : List (Nat × Operand) → Option (List (Nat × Nat × AX))
  | [] => some []
  | (i, x) :: rest => match place i, compX x, partsOf place rest with
    | some (o, n), some a, some asx => some ((o, n, a) :: asx)
    | _, _, _ => none
def inOrder (i : Nat) : List (Nat × Operand) → Option (List AX)
  | [] => some []
  | (j, x) :: rest => if j = i then match compX x, inOrder (i + 1) rest with
    | some a, some asx => some (a :: asx)
    | _, _ => none
    else none
section
variable (P : Program)
def placesOf (fields : List Field) : Option (List (Nat × Nat)) :=
  match fields with
  | [] => some []
  | f :: fs => match sizeT P f.type, placesOf fs with
    | some n, some l => some ((f.offset, n) :: l)
    | _, _ => none
def flatFields : List Field → Nat → Option (List TK)
  | [], _ => some []
  | f :: fs, i => if f.name != "_" && Nat.beq f.offset i then (match P.underlying f.type, P.info? f.type, flatFields fs (i + 1) with
    | some (.int _), some _, some l => some (.num :: l)
    | some .string, some _, some l => some (.str :: l)
    | some .bool, some _, some l => some (.bool :: l)
    | _, _, _ => none) else none
def flatEq (t : TypeId) (fields : List Field) : Option (List TK) :=
  if !P.stoodInHeld t && !P.eqGuardType P.depth t then flatFields P fields 0 else none
def entersB (f : FuncId) : Bool :=
  match P.funcs[f]? with
  | some fn => !(fn.name == "runtime.NumGoroutine") && !fn.body.isNone
  | none => false
def compOp (o : Op) : Option AOp :=
  match o with
  | .move x | .assign x => (compX x).map .mov
  | .pick c a b => match compX c, compX a, compX b with
    | some c, some a, some b => some (.pick c a b)
    | _, _, _ => none
  | .alloc t => (zeroT P t).map fun z => .alloc t z.cells.length z
  | .box t x => match sizeT P t, compX x with
    | some n, some a => some (.box t n a)
    | _, _ => none
  | .build t parts => match P.underlying t, zeroT P t with
    | some (.struct fields), some z => match placesOf P fields.toList with
      | some places => (partsOf (places[·]?) parts.toList).map (.build z.cells)
      | none => none
    | some (.array _ elem), some z => match sizeT P elem with
      | some n => (partsOf (fun i => some (i * n, n)) parts.toList).map (.build z.cells)
      | none => none
    | _, _ => none
  | .buildSlice t len parts => match P.underlying t with
    | some (.slice elem) => match sizeT P elem, zeroT P elem, inOrder 0 parts.toList with
      | some n, some z, some els => if els.length = len ∧ z.cells.length = n ∧ len * n ≤ 16777216 then some (.bslice elem n els) else none
      | _, _, _ => none
    | _ => none
  | .load t x => match aggSize P t, compX x with
    | some sz, some a => some (.load sz a)
    | _, _ => none
  | .store t x y => match sizeT P t, compX x, compX y with
    | some n, some a, some b => some (.store n a b)
    | _, _, _ => none
  | .nilCheck x => (compX x).map .nilchk
  | .binOp op t x y _ => match P.underlying t, compX x, compX y with
    | some (.struct fields), some a, some b => match flatEq P t fields.toList with
      | some tks => (match op with
        | .eql => some (.aggeq false tks a b)
        | .neq => some (.aggeq true tks a b)
        | _ => none)
      | none => none
    | some d, some a, some b => some (.bin (tkOf d) op a b)
    | _, _, _ => none
  | .unOp op _ x => (compX x).map (.un op)
  | .convert src dst x => match P.underlying src, P.underlying dst, compX x with
    | some (.int _), some (.int k), some a => some (.conv k a)
    | some .string, some .string, some a => some (.same a)
    | _, _, _ => none
  | .makeInterface t x => match P.underlying t, compX x with
    | some (.interface _), _ => none
    | some _, some a => some (.mkiface t a)
    | _, _ => none
  | .makeFunc (.func f) first cap => match compXs first.toList, compXs cap.toList with
    | some a, some b => some (.mkfn f a b)
    | _, _ => none
  | .makeMap _ none => some .mkmap
  | .slice t x lo hi none => match P.underlying t, compX x, compXo lo, compXo hi with
    | some .string, some a, some l, some h => some (.slcS a l h)
    | some (.slice t'), some a, some l, some h => (sizeT P t').map fun n => .slc n a l h
    | _, _, _, _ => none
  | .fieldAddr s x f => match P.underlying s, compX x with
    | some (.struct fields), some a => match fields[f]? with
      | some fd => match sizeT P fd.type with
        | some (_ + 1) => some (.fieldAddr fd.offset a)
        | _ => none
      | none => none
    | _, _ => none
  | .field s x f => match P.underlying s, compX x with
    | some (.struct fields), some a => match fields[f]? with
      | some fd => match aggSize P fd.type with
        | some sz => some (.field fd.offset sz a)
        | none => none
      | none => none
    | _, _ => none
  | .indexAddr t x i => match P.underlying t, compX x, compX i with
    | some (.slice t'), some a, some b => (sizeT P t').map fun n => .elemAddr n a b
    | some (.array len elem), some a, some b => match sizeT P elem with
      | some n => some (.cellAddr len n a b)
      | none => none
    | _, _, _ => none
  | .index t x i => match P.underlying t, compX x, compX i with
    | some .string, some a, some b => some (.byteAt a b)
    | some (.array len elem), some a, some b => match sizeT P elem, aggSize P elem with
      | some n, some sz => some (.arrAt len n sz a b)
      | _, _ => none
    | _, _, _ => none
  | .lookup t m k ok => match P.underlying t, compX m, compX k with
    | some (.map key elem), some a, some b => match P.underlying key, zeroT P elem with
      | some d, some z => if tkOf d = .num ∨ tkOf d = .str ∨ tkOf d = .bool then some (.lookup (tkOf d) ok z a b) else none
      | _, _ => none
    | _, _, _ => none
  | .mapUpdate t m k v | .insert t m k v => match P.underlying t, compX m, compX k, compX v with
    | some (.map key _), some a, some b, some c => match P.underlying key with
      | some d => if tkOf d = .num ∨ tkOf d = .str ∨ tkOf d = .bool then some (.mapup (tkOf d) a b c) else none
      | _ => none
    | _, _, _, _ => none
  | .typeAssert x _ t ok => match P.underlying t, compX x, zeroT P t with
    | some (.interface _), _, _ => none
    | some _, some a, some z => some (.tassert t z ok a)
    | _, _, _ => none
  | .extract x i => (compX x).map (.extract · i)
  | .call { callee := .value (.func f), args, .. } => if entersB P f then (compXs args.toList).map (.callF f) else none
  | .call { callee := .value x, args, .. } => match compX x, compXs args.toList with
    | some a, some asx => some (.callV a asx)
    | _, _ => none
  | .call { callee := .builtin .append, args, argTypes } => match args.toList, argTypes.toList with
    | [x, y], [t, u] => match P.underlying t, P.underlying u, compX x, compX y with
      | some (.slice e), some d, some a, some b => match P.info? e, zeroT P e with
        | some i, some z => if okSrcD e d = true ∧ z.cells.length = i.size then some (.append e i.size i.bytes a b) else none
        | _, _ => none
      | _, _, _, _ => none
    | _, _ => none
  | .call { callee := .builtin .len, args, argTypes } => match args.toList, argTypes.toList with
    | [x], [t] => match P.underlying t, compX x with
      | some .string, some a => some (.len .str a)
      | some (.slice _), some a => some (.len .slice a)
      | some (.map _ _), some a => some (.len .map a)
      | some (.array n _), some _ => some (.alen n)
      | some (.pointer t'), some _ => match P.underlying t' with
        | some (.array n _) => some (.alen n)
        | _ => none
      | _, _ => none
    | _, _ => none
  | .panic x => (compX x).map .panic
  | _ => none
def compOpF (o : Op) : Option AOp :=
  match o with
  | .box t x => match sizeT P t, compX x with
    | some n, some a => some (.fbox n a)
    | _, _ => none
  | .buildSlice t len parts => match P.underlying t with
    | some (.slice elem) => match sizeT P elem, zeroT P elem, inOrder 0 parts.toList with
      | some n, some z, some els => if els.length = len ∧ z.cells.length = n ∧ len * n ≤ 16777216 then some (.fslice n els) else none
      | _, _, _ => none
    | _ => none
  | _ => none
def compOpA (b : Bool) (o : Op) : Option AOp := if b then compOpF P o else compOp P o
def isFz (fz : List Nat) : Option Nat → Bool
  | some d => fz.contains d
  | none => false
def dstOk (N : Nat) : Option Nat → Bool
  | some d => decide (d < N)
  | none => true
def compOper (N : Nat) (fz : List Nat) (ops : Array Oper) (o : Oper) : Option AOper :=
  match compOpA P (isFz fz o.dst) o.op with
  | none => none
  | some op =>
    if dstOk N o.dst = true then
      match o.guard with
      | none => some { dst := o.dst, op, gd := none }
      | some (j, b) => match (ops[j]?).bind (·.dst) with
        | some t => if t < N then some { dst := o.dst, op, gd := some (t, b) } else none
        | none => none
    else none
def compOpers (N : Nat) (fz : List Nat) (ops : Array Oper) : List Oper → Option (List AOper)
  | [] => some []
  | o :: os => match compOper P N fz ops o, compOpers N fz ops os with
    | some a, some asx => some (a :: asx)
    | _, _ => none
def AX.us : AX → List Nat
  | .tmp t => [t]
  | .val _ => []
def AX.uss (l : List AX) : List Nat := l.flatMap AX.us
def AX.uso : Option AX → List Nat
  | none => []
  | some x => x.us
def AOp.us : AOp → List Nat
  | .mov x | .box _ _ x | .fbox _ x | .load _ x | .nilchk x | .un _ x | .conv _ x | .same x | .mkiface _ x | .fieldAddr _ x | .field _ _ x | .tassert _ _ _ x | .extract x _ | .len _ x | .panic x => x.us
  | .pick a b c | .mapup _ a b c => a.us ++ (b.us ++ c.us)
  | .alloc _ _ _ | .mkmap | .alen _ => []
  | .build _ ps => ps.flatMap fun p => p.2.2.us
  | .bslice _ _ l | .fslice _ l | .callF _ l => AX.uss l
  | .store _ x y | .bin _ _ x y | .aggeq _ _ x y | .elemAddr _ x y | .cellAddr _ _ x y | .byteAt x y | .arrAt _ _ _ x y | .lookup _ _ _ x y | .append _ _ _ x y => x.us ++ y.us
  | .mkfn _ a b => AX.uss a ++ AX.uss b
  | .slcS x l h | .slc _ x l h => x.us ++ (AX.uso l ++ AX.uso h)
  | .callV x l => x.us ++ AX.uss l
def AOper.us (o : AOper) : List Nat := (match o.gd with | some (t, _) => [t] | none => []) ++ o.op.us
def DOp.hits (a b : DOp) : Bool := match a.op.dst with
  | none => false
  | some d => b.op.us.contains d || (b.op.dst == some d)
def afs (ops : Array Oper) : List (List Nat) := ops.toList.map fun o => (o.after.toList.filter (Region.binds .any)).map (·.on)
def cl1 (acc : List Nat) (af : List Nat) : Nat := af.foldr (fun i s => s ||| (2 ^ i ||| acc.getD i 0)) 0
def clAll : List (List Nat) → List Nat → List Nat
  | [], acc => acc
  | af :: r, acc => clAll r (acc ++ [cl1 acc af])
def cx (l : List DOp) (k : Nat) : Nat := (l.take k).countP (·.x)
def pairOk (bef : List Nat) (l : List DOp) (i j : Nat) : Bool :=
  (bef.getD j 0).testBit i ||
  match l[i]?, l[j]? with
  | some a, some b => !(a.x && b.x) && (!b.x || a.late) && (!a.x || decide (cx l j ≤ cx l i + b.back)) && !(a.hits b) && !(b.hits a)
  | _, _ => true
def edgesOk : List (List Nat) → Nat → Bool
  | [], _ => true
  | af :: r, k => af.all (fun i => decide (i < k)) && edgesOk r (k + 1)
def drawOk (ops : Array Oper) (l : List DOp) : Bool :=
  edgesOk (afs ops) 0 && (List.range l.length).all fun j => (List.range j).all fun i => pairOk (clAll (afs ops) []) l i j
def withFlags (al : List AOper) (t : List DOp) : List DOp := List.zipWith (fun o d => { d with op := o }) al t
def splitDefer (ops : List Oper) : Option (List Oper × Nat) :=
  match ops.getLast? with
  | some o => match o.op, o.guard, o.dst with
    | .defer c, none, none => match c.callee, c.args.toList with
      | .value (.tmp t), [] => some (ops.dropLast, t)
      | _, _ => none
    | _, _, _ => none
  | none => none
def comp (N : Nat) (fz : List Nat) : Code → ACode → Option ACode
  | .skip, .skip => some .skip
  | .region _ ops false, .region _ keep => (compOpers P N fz ops ops.toList).map (.region · keep)
  | .region _ ops true, .draw t keep => match compOpers P N fz ops ops.toList with
    | some al => if (P.follows .mixedOrders && (t.length == al.length) && drawOk ops (withFlags al t)) = true then some (.draw (withFlags al t) keep) else none
    | none => none
  | .seq (.region _ ops false) z, .dfr _ _ keep z' => match splitDefer ops.toList with
    | some (l, t) => match compOpers P N fz ops l, comp N fz z z' with
      | some al, some az => if t < N then some (.dfr al t keep az) else none
      | _, _ => none
    | none => none
  | .seq a b, .seq a' b' => match comp N fz a a', comp N fz b b' with
    | some x, some y => some (.seq x y)
    | _, _ => none
  | .cond c a b, .cond _ a' b' => match compX c, comp N fz a a', comp N fz b b' with
    | some c, some x, some y => some (.cond c x y)
    | _, _, _ => none
  | .block id a, .block _ a' => (comp N fz a a').map (.block id)
  | .loop a, .loop a' => (comp N fz a a').map .loop
  | .rangeFunc g ps a b, .range _ _ _ _ a' b' => match compX g, comp N fz a a', comp N fz b b' with
    | some f, some aa, some ab => if (aa.flat && ab.flat && ps.toList.all fun t => decide (t < N)) = true then some (.range f ps.toList N fz aa ab) else none
    | _, _, _ => none
  | .scope a, a' => comp N fz a a'
  | .label _, .skip => some .skip
  | .exit id, .exit _ => some (.exit id)
  | .ret, .ret => some .ret
  | _, _ => none
end
end Go.Abs
end
section
namespace Go.Abs
open Go.RowKit
def Fw (ρ : Option Nat) : Fence := { Fence.wide with round := ρ }
theorem callsIn_fw {ρ : Option Nat} {n : Nat} {P : Program} {f : FuncId} {args : Array Value} {w : World} {R : Ending → World → Prop} (h : Calls P f args w R) : CallsIn (Fw ρ) n P f args w R :=
  show CallsIn Fence.wide n P f args w R from callsIn_wide.2 h
def EnvR (g : Gh) (n : Nat) (w : World) (e : Env) (a : Act) : Prop := ∀ t, VR g n w (e.get t) (a.tmps.getD t undef)
theorem EnvR.ext {n n' : Nat} {g g' : Gh} {w w' : World} {e : Env} {a : Act} (h : EnvR g n w e a) (k : Ext n g w g' w') (hn : n ≤ n') : EnvR g' n' w' e a :=
  fun t => (h t).ext k hn
theorem EnvR.put {g : Gh} {n : Nat} {w : World} {e : Env} {a : Act} (h : EnvR g n w e a) {d : Nat} (hd : d < a.tmps.size) {v : AV} {u : Value} (hv : VR g n w v u) : EnvR g n w ((d, v) :: e) (a.put (some d) u) := by
  intro t
  simp only [Env.get, Act.put, Array.getD_eq_getD_getElem?]
  by_cases ht : t = d
  · subst ht; simp [hd, hv]
  · have : Nat.beq t d = false := by
      cases hb : Nat.beq t d with
      | false => rfl
      | true => exact absurd (Nat.eq_of_beq_eq_true hb) ht
    rw [this, Array.getElem?_setIfInBounds_ne (Ne.symm ht)]
    have := h t
    simpa [Array.getD_eq_getD_getElem?] using this
theorem EnvR.keep {g : Gh} {n : Nat} {w : World} {e : Env} {a : Act} (h : EnvR g n w e a) (k : Option (List Nat)) : EnvR g n w (e.keep k) a := by
  cases k with
  | none => exact h
  | some l =>
    intro t
    simp only [Env.keep]
    induction l with
    | nil => exact .any _
    | cons s l ih =>
      simp only [List.map_cons, Env.get]
      cases hb : Nat.beq t s with
      | false => exact ih
      | true => rw [Nat.eq_of_beq_eq_true hb]; exact h s
theorem ofScalar_sound {v : Value} {x : AV} (hv : ofScalar v = some x) (g : Gh) (n : Nat) (w : World) : VR g n w x v ∧ v.oneCell' = true := by
  unfold ofScalar at hv
  split at hv <;> simp at hv <;> subst hv <;> refine ⟨?_, rfl⟩
  · exact .bool _
  · exact .int _ _
  · exact .str _
  · exact .nilp
  · exact .nils
  · exact .nilm
  · exact .nilf
  · exact .nili
theorem ofScalars_sound {g : Gh} {n : Nat} {w : World} : ∀ {vs : List Value} {asx : List AV}, ofScalars vs = some asx → VRs g n w asx vs ∧ ∀ v ∈ vs, v.oneCell' = true
  | [], asx, h => by simp [ofScalars] at h; subst h; exact ⟨.nil, by simp⟩
  | v :: vs, asx, h => by
    simp only [ofScalars] at h
    split at h
    · rename_i a as' h1 h2
      simp at h; subst h
      obtain ⟨k1, k2⟩ := ofScalar_sound h1 g n w
      obtain ⟨k3, k4⟩ := ofScalars_sound (g := g) (n := n) (w := w) h2
      exact ⟨k3.cons k1, by simp only [List.mem_cons]; rintro u (rfl | hu); exact k2; exact k4 u hu⟩
    · cases h
theorem ofConst_sound {v : Value} {x : AV} (hv : ofConst v = some x) (g : Gh) (n : Nat) (w : World) : VR g n w x v ∧ x.sto = true := by
  unfold ofConst at hv
  split at hv
  · rename_i cs
    cases hs : ofScalars cs.toList with
    | none => simp [hs] at hv
    | some asx =>
      simp [hs] at hv; subst hv
      obtain ⟨k, k2⟩ := ofScalars_sound (g := g) (n := n) (w := w) hs
      have := VR.agg (g := g) (n := n) (w := w) asx cs.toList k.1 k.2 k2
      exact ⟨by simpa using this, rfl⟩
  · refine ⟨(ofScalar_sound hv g n w).1, ?_⟩
    unfold ofScalar at hv
    split at hv <;> simp at hv <;> subst hv <;> rfl
theorem compX_sound {x : Operand} {ax : AX} (hc : compX x = some ax) {g : Gh} {n : Nat} {w : World} {e : Env} {a : Act} (E : EnvR g n w e a) : VR g n w (ax.ev e) (a.eval x) := by
  cases x with
  | tmp t => simp [compX] at hc; subst hc; exact E t
  | const v =>
    simp only [compX] at hc
    cases hv : ofConst v with
    | none => simp [hv] at hc
    | some b => simp [hv] at hc; subst hc; exact (ofConst_sound hv g n w).1
  | global gl => simp [compX] at hc
  | func f =>
    simp [compX] at hc; subst hc
    have := VR.fn (g := g) (n := n) (w := w) f [] [] [] [] rfl rfl (fun i a v h => by simp at h) (fun i a v h => by simp at h)
    exact this
theorem compXs_sound {g : Gh} {n : Nat} {w : World} {e : Env} {a : Act} (E : EnvR g n w e a) : ∀ {xs : List Operand} {axs : List AX}, compXs xs = some axs → VRs g n w (axs.map (AX.ev e)) (xs.map a.eval)
  | [], axs, h => by simp [compXs] at h; subst h; exact .nil
  | x :: xs, axs, h => by
    simp only [compXs] at h
    split at h
    · rename_i b bs h1 h2
      simp at h; subst h
      exact (compXs_sound E h2).cons (compX_sound h1 E)
    · cases h
section
variable {P : Program} {Φ : World → Prop} {ρ : Option Nat} {g : Gh} {h : AHeap} {w : World} {e : Env} {a : Act} {K X : AV → AHeap → Prop}
def Owes (P : Program) (Φ : World → Prop) (ρ : Option Nat) (g : Gh) (h : AHeap) (w : World) (a : Act) (o : Oper) (K X : AV → AHeap → Prop) : Prop :=
  ∀ (next : Act → World → Prop) (Q : Exit → Act → World → Prop),
    (∀ v h' g' w' u, K v h' → Rel Φ g' h' w' → VR g' h'.length w' v u → Ext h.length g w g' w' → h.length ≤ h'.length → next (a.put o.dst u) w') →
    (∀ v h' g' w' u, X v h' → Rel Φ g' h' w' → VR g' h'.length w' v u → Ext h.length g w g' w' → h.length ≤ h'.length → Q (.panic [{ v := u, recovered := false }]) a w') →
    o.uponIn (Fw ρ) 0 P a next Q ((execOp a.eval o).run P w)
theorem owes_value {o : Oper} {v : AV} {h' : AHeap} {g' : Gh} {w' : World} {u : Value} (hr : (execOp a.eval o).run P w = .ok (.value u) w') (hk : K v h') (R : Rel Φ g' h' w') (hv : VR g' h'.length w' v u)
    (hE : Ext h.length g w g' w') (hl : h.length ≤ h'.length) : Owes P Φ ρ g h w a o K X := by
  intro next Q hK _
  rw [hr]
  exact hK v h' g' w' u hk R hv hE hl
theorem owes_pure (R : Rel Φ g h w) {o : Oper} {v : AV} {u : Value} (hr : (execOp a.eval o).run P w = .ok (.value u) w) (hk : K v h) (hv : VR g h.length w v u) : Owes P Φ ρ g h w a o K X :=
  owes_value hr hk R hv (Ext.refl _ _ _) (Nat.le_refl _)
theorem owes_skip {o : Oper} {h' : AHeap} {g' : Gh} {w' : World} (hr : (execOp a.eval o).run P w = .ok .skip w') (hk : K undefA h') (R : Rel Φ g' h' w')
    (hE : Ext h.length g w g' w') (hl : h.length ≤ h'.length) : Owes P Φ ρ g h w a o K X := by
  intro next Q hK _
  rw [hr]
  exact hK undefA h' g' w' undef hk R (.tup [] [] rfl (fun i a v h => by simp at h)) hE hl
variable {o : Oper} {op : AOp}
theorem own_mov {x : Operand} (ho : o.op = .move x ∨ o.op = .assign x) {b : AX} (hx : compX x = some b) (R : Rel Φ g h w) (E : EnvR g h.length w e a) (hA : aop P Φ e h (.mov b) K X) : Owes P Φ ρ g h w a o K X :=
  owes_pure R (u := a.eval x) (by rcases ho with ho | ho <;> simp [execOp, ho]) hA (compX_sound hx E)
theorem own_pick {c x y : Operand} (ho : o.op = .pick c x y) {c' x' y' : AX} (hc : compX c = some c') (hx : compX x = some x') (hy : compX y = some y') (R : Rel Φ g h w) (E : EnvR g h.length w e a)
    (hA : aop P Φ e h (.pick c' x' y') K X) : Owes P Φ ρ g h w a o K X := by
  have vc := compX_sound hc E
  simp only [aop] at hA
  generalize c'.ev e = cv at hA vc
  split at hA
  · rename_i t
    generalize hce : a.eval c = cu at vc
    cases vc
    cases t with
    | true => exact owes_pure R (u := a.eval x) (by simp [execOp, ho, hce, asBool]) hA (compX_sound hx E)
    | false => exact owes_pure R (u := a.eval y) (by simp [execOp, ho, hce, asBool]) hA (compX_sound hy E)
  · exact hA.elim
theorem zeroT_spec {t : TypeId} {z : AV} (hz : zeroT P t = some z) : ∃ i v, P.info? t = some i ∧ i.zero = some v ∧ ofConst v = some z := by
  unfold zeroT at hz
  cases hi : P.info? t with
  | none => simp [hi] at hz
  | some i =>
    cases hv : i.zero with
    | none => simp [hi, hv] at hz
    | some v => exact ⟨i, v, rfl, hv, by simpa [hi, hv] using hz⟩
theorem own_alloc {t : TypeId} (ho : o.op = .alloc t) {z : AV} (hz : zeroT P t = some z) (R : Rel Φ g h w) (hA : aop P Φ e h (.alloc t z.cells.length z) K X) : Owes P Φ ρ g h w a o K X := by
  obtain ⟨i, v, hi, hv, hc⟩ := zeroT_spec hz
  obtain ⟨V, hs⟩ := ofConst_sound hc g h.length w
  obtain ⟨R', E'⟩ := R.alloc_var t V hs
  refine owes_value (u := .pointer (some ⟨w.heap.size, 0, none⟩)) ?_ hA R' ?_ E' (by simp)
  · simp [execOp, ho, Instr.alloc, zeroValue, typeInfo, hi, hv, newVar, newRow]
  · have := VR.ptr (g := g.bind h.length w.heap.size z.cells.length 1) (w := w.alloc (.cells v.cells t (0, 0))) (n := (h ++ [AB.cells false t z.cells.length [z]]).length) h.length 0 0 (by simp)
    simpa using this
theorem own_box {t : TypeId} {x : Operand} (ho : o.op = .box t x) {n : Nat} {b : AX} (hx : compX x = some b) (R : Rel Φ g h w) (E : EnvR g h.length w e a) (hA : aop P Φ e h (.box t n b) K X) : Owes P Φ ρ g h w a o K X := by
  have V := compX_sound hx E
  obtain ⟨hs, hn, hk⟩ := hA
  subst hn
  obtain ⟨R', E'⟩ := R.alloc_var t V hs
  refine owes_value (u := .pointer (some ⟨w.heap.size, 0, none⟩)) ?_ hk R' ?_ E' (by simp)
  · simp [execOp, ho, Instr.box, newVar, newRow]
  · have := VR.ptr (g := g.bind h.length w.heap.size (b.ev e).cells.length 1) (w := w.alloc (.cells (a.eval x).cells t (0, 0))) (n := (h ++ [AB.cells false t (b.ev e).cells.length [b.ev e]]).length) h.length 0 0 (by simp)
    simpa using this
theorem own_load {t : TypeId} {x : Operand} (ho : o.op = .load t x) {sz : Option Nat} (hsz : aggSize P t = some sz) {b : AX} (hx : compX x = some b) (R : Rel Φ g h w) (E : EnvR g h.length w e a)
    (hA : aop P Φ e h (.load sz b) K X) : Owes P Φ ρ g h w a o K X := by
  have V := compX_sound hx E
  simp only [aop] at hA
  generalize b.ev e = bv at hA V
  generalize hxe : a.eval x = xu at V
  split at hA
  · rename_i v off
    split at hA
    · rename_i y hy
      obtain ⟨ad, u, rfl, hl, hv⟩ := V.load_lptr (P := P) hsz hy
      exact owes_pure R (u := u) (by simp [execOp, ho, hxe, Instr.loadAt, Instr.sureAddr, hl]) hA hv
    · exact hA.elim
  · rename_i r i off
    split at hA
    · rename_i gr T sz' els hr
      split at hA
      · rename_i v hv
        split at hA
        · rename_i y hy
          obtain ⟨u, hl, hv'⟩ := R.load_own (P := P) hsz hr hv hy
          cases V
          exact owes_pure R (u := u) (by simp [execOp, ho, hxe, Instr.loadAt, Instr.sureAddr, hl]) hA hv'
        · exact hA.elim
      · exact hA.elim
    · exact hA.elim
  · exact hA.elim
theorem own_store {t : TypeId} {x y : Operand} (ho : o.op = .store t x y) {n : Nat} (hn : sizeT P t = some n) {b c : AX} (hx : compX x = some b) (hy : compX y = some c) (R : Rel Φ g h w) (E : EnvR g h.length w e a)
    (hA : aop P Φ e h (.store n b c) K X) : Owes P Φ ρ g h w a o K X := by
  have V := compX_sound hx E
  have U := compX_sound hy E
  simp only [aop] at hA
  generalize b.ev e = bv at hA V
  generalize hxe : a.eval x = xu at V
  split at hA
  · rename_i r i off
    split at hA
    · rename_i gr T sz' els hr
      split at hA
      · rename_i v hv
        obtain ⟨h1, h2, h3, hk⟩ := hA
        obtain ⟨w', hl, R', E'⟩ := R.store_own (P := P) (t := t) hr hv h1 U (by rw [h2]; exact hn) (by rw [h2]; exact h3)
        cases V
        exact owes_skip (by simp [execOp, ho, hxe, Instr.storeAt, Instr.sureAddr, hl]) hk R' E' (by simp)
      · exact hA.elim
    · exact hA.elim
  · exact hA.elim
theorem own_nilchk {x : Operand} (ho : o.op = .nilCheck x) {b : AX} (hx : compX x = some b) (R : Rel Φ g h w) (E : EnvR g h.length w e a) (hA : aop P Φ e h (.nilchk b) K X) : Owes P Φ ρ g h w a o K X := by
  have V := compX_sound hx E
  simp only [aop] at hA
  generalize b.ev e = bv at hA V
  generalize hxe : a.eval x = xu at V
  split at hA
  · refine owes_pure R (u := xu) ?_ hA V; cases V; simp [execOp, ho, hxe]
  · refine owes_pure R (u := xu) ?_ hA V; cases V; simp [execOp, ho, hxe]
  · refine owes_pure R (u := xu) ?_ hA V; cases V; simp [execOp, ho, hxe]
  · refine owes_pure R (u := xu) ?_ hA V; cases V; simp [execOp, ho, hxe]
  · exact hA.elim
end
end Go.Abs
end
