/- A part of the proof of the card in the last text. -/
import Derived.Test.YtdpoipifjknhkaaGreatDoorT04
section
namespace Go.Abs
open Go.RowKit
structure bcond (c : Bool) (A B : Prop) : Prop where
  of ::
  out : bif c then A else B
theorem bcond_eq (c : Bool) (A B : Prop) : bcond c A B = bif c then A else B := propext ⟨fun h => h.out, fun h => ⟨h⟩⟩
def force : AV → (AV → Prop) → Prop
  | .any, K => K .any
  | .bool b, K => K (.bool b)
  | .int k n, K => K (.int k n)
  | .str l, K => K (.str l)
  | .nilp, K => K .nilp
  | .ptr r i o, K => K (.ptr r i o)
  | .lptr v o, K => K (.lptr v o)
  | .sl r i m c, K => K (.sl r i m c)
  | .lst s e, K => K (.lst s e)
  | .nils, K => K .nils
  | .map r, K => K (.map r)
  | .nilm, K => K .nilm
  | .fn f a b, K => K (.fn f a b)
  | .yld r, K => K (.yld r)
  | .nilf, K => K .nilf
  | .iface t v, K => K (.iface t v)
  | .nili, K => K .nili
  | .agg c, K => K (.agg c)
  | .tup c, K => K (.tup c)
theorem force_eq (v : AV) (K : AV → Prop) : force v K = K v := by cases v <;> rfl
theorem force_intro {v : AV} {K : AV → Prop} (h : K v) : force v K := by rw [force_eq]; exact h
def evsF (e : Env) : List AX → (List AV → Prop) → Prop
  | [], K => K []
  | x :: xs, K => force (x.ev e) fun a => evsF e xs fun l => K (a :: l)
theorem evsF_eq (e : Env) : ∀ (l : List AX) (K : List AV → Prop), evsF e l K = K (l.map (AX.ev e))
  | [], _ => rfl
  | x :: xs, K => by simp only [evsF, force_eq, List.map_cons]; exact evsF_eq e xs _
def keepL (e : Env) : List Nat → (Env → Prop) → Prop
  | [], K => K []
  | t :: ts, K => force (e.get t) fun v => keepL e ts fun r => K ((t, v) :: r)
theorem keepL_eq (e : Env) : ∀ (l : List Nat) (K : Env → Prop), keepL e l K = K (l.map fun t => (t, e.get t))
  | [], _ => rfl
  | x :: xs, K => by simp only [keepL, force_eq, List.map_cons]; exact keepL_eq e xs _
def keepF (e : Env) : Option (List Nat) → (Env → Prop) → Prop
  | none, K => K e
  | some l, K => keepL e l K
theorem keepF_eq (e : Env) (k : Option (List Nat)) (K : Env → Prop) : keepF e k K = K (e.keep k) := by
  cases k with
  | none => rfl
  | some l => exact keepL_eq e l K
structure hget (h : AHeap) (r : Nat) (K : AB → Prop) : Prop where
  of ::
  out : match h[r]? with
  | some b => K b
  | none => False
structure hput (h : AHeap) (r : Nat) (b : AB) (K : AHeap → Prop) : Prop where
  of ::
  out : K (h.set r b)
structure halloc (h : AHeap) (b : AB) (K : Nat → AHeap → Prop) : Prop where
  of ::
  out : K h.length (h ++ [b])
theorem hget_eq (h : AHeap) (r : Nat) (K : AB → Prop) : hget h r K = match h[r]? with
  | some b => K b
  | none => False := propext ⟨fun h => h.out, fun h => ⟨h⟩⟩
theorem hput_eq (h : AHeap) (r : Nat) (b : AB) (K : AHeap → Prop) : hput h r b K = K (h.set r b) := propext ⟨fun h => h.out, fun h => ⟨h⟩⟩
theorem halloc_eq (h : AHeap) (b : AB) (K : Nat → AHeap → Prop) : halloc h b K = K h.length (h ++ [b]) := propext ⟨fun h => h.out, fun h => ⟨h⟩⟩
theorem hget_of {h : AHeap} {r : Nat} {b : AB} {K : AB → Prop} (hr : h[r]? = some b) (hk : K b) : hget h r K := by rw [hget_eq, hr]; exact hk
theorem hput_of {h : AHeap} {r : Nat} {b : AB} {K : AHeap → Prop} (hk : K (h.set r b)) : hput h r b K := by rw [hput_eq]; exact hk
theorem halloc_of {h : AHeap} {b : AB} {K : Nat → AHeap → Prop} (hk : K h.length (h ++ [b])) : halloc h b K := by rw [halloc_eq]; exact hk
def eget : List AV → Nat → (AV → Prop) → Prop
  | a :: _, 0, K => K a
  | _ :: asx, i + 1, K => eget asx i K
  | [], _, _ => False
theorem eget_eq : ∀ (l : List AV) (i : Nat) (K : AV → Prop), eget l i K = (match l[i]? with
  | some b => K b
  | none => False)
  | [], _, _ => rfl
  | _ :: _, 0, _ => rfl
  | _ :: asx, i + 1, K => by simp only [eget, List.getElem?_cons_succ]; exact eget_eq asx i K
theorem eget_of {l : List AV} {i : Nat} {a : AV} {K : AV → Prop} (hi : l[i]? = some a) (hk : K a) : eget l i K := by rw [eget_eq, hi]; exact hk
def eput : List AV → Nat → AV → (List AV → Prop) → Prop
  | _ :: asx, 0, x, K => K (x :: asx)
  | a :: asx, i + 1, x, K => eput asx i x fun r => K (a :: r)
  | [], _, _, K => K []
theorem eput_eq : ∀ (l : List AV) (i : Nat) (x : AV) (K : List AV → Prop), eput l i x K = K (l.set i x)
  | [], _, _, _ => rfl
  | _ :: _, 0, _, _ => rfl
  | _ :: asx, i + 1, x, K => by simp only [eput, List.set_cons_succ]; exact eput_eq asx i x _
def bels : AB → (List AV → Prop) → Prop
  | .cells _ _ _ els, K => K els
  | _, _ => False
def bcells : AB → (Bool → TypeId → Nat → List AV → Prop) → Prop
  | .cells g T n els, K => K g T n els
  | _, _ => False
def bmap : AB → (List (AV × AV) → Prop) → Prop
  | .map ents, K => K ents
  | _, _ => False
def dropK : Nat → List AV → (List AV → Prop) → Prop
  | 0, l, K => K l
  | n + 1, _ :: l, K => dropK n l K
  | _ + 1, [], _ => False
theorem dropK_eq : ∀ (n : Nat) (l : List AV) (K : List AV → Prop), dropK n l K = (n ≤ l.length ∧ K (l.drop n))
  | 0, l, K => by simp [dropK]
  | n + 1, _ :: l, K => by simp [dropK, dropK_eq n l]
  | _ + 1, [], _ => by simp [dropK]
def takeK : Nat → List AV → (List AV → Prop) → Prop
  | 0, _, K => K []
  | n + 1, a :: l, K => force a fun a => takeK n l fun r => K (a :: r)
  | _ + 1, [], _ => False
theorem takeK_eq : ∀ (n : Nat) (l : List AV) (K : List AV → Prop), takeK n l K = (n ≤ l.length ∧ K (l.take n))
  | 0, l, K => by simp [takeK]
  | n + 1, a :: l, K => by simp [takeK, force_eq, takeK_eq n l]
  | _ + 1, [], _ => by simp [takeK]
structure pbig (v : AV) (o k : Nat) (K : AV → Prop) : Prop where
  of ::
  out : match v.part o (some k) with
  | some y => K y
  | none => False
theorem pbig_eq (v : AV) (o k : Nat) (K : AV → Prop) : pbig v o k K = match v.part o (some k) with
  | some y => K y
  | none => False := propext ⟨fun h => h.out, fun h => ⟨h⟩⟩
theorem pbig_all {cs : List AV} {k : Nat} {K : AV → Prop} (hl : cs.length = k) (hk : K (.agg cs)) : pbig (.agg cs) 0 k K := by
  rw [pbig_eq]; subst hl; simp [AV.part, AV.cells]; exact hk
def pget (v : AV) (o : Nat) : Option Nat → (AV → Prop) → Prop
  | none, K => eget v.cells o fun c => force c K
  | some k, K => bif Nat.blt 32 k then pbig v o k K else dropK o v.cells fun l => takeK k l fun l => K (.agg l)
theorem pget_eq (v : AV) (o : Nat) (sz : Option Nat) (K : AV → Prop) : pget v o sz K = match v.part o sz with
  | some y => K y
  | none => False := by
  cases sz with
  | none => simp only [pget, force_eq, AV.part]; rw [eget_eq]
  | some k =>
    simp only [pget]
    cases hb : Nat.blt 32 k with
    | true => simp only [cond_true, pbig_eq]
    | false =>
      simp only [cond_false, dropK_eq, takeK_eq, List.length_drop, AV.part]
      by_cases hle : o + k ≤ v.cells.length
      · rw [if_pos hle]; simp only [eq_iff_iff]; exact ⟨fun h => h.2.2, fun h => ⟨by omega, by omega, h⟩⟩
      · rw [if_neg hle]; simp only [eq_iff_iff, iff_false]; omega
def cput : List AV → Nat → List AV → (List AV → Prop) → Prop
  | cs, 0, [], K => K cs
  | _ :: cs, 0, n :: ns, K => cput cs 0 ns fun r => K (n :: r)
  | [], 0, _ :: _, _ => False
  | c :: cs, o + 1, ns, K => cput cs o ns fun r => K (c :: r)
  | [], _ + 1, _, _ => False
theorem cput_eq : ∀ (cs : List AV) (o : Nat) (ns : List AV) (K : List AV → Prop), cput cs o ns K = (o + ns.length ≤ cs.length ∧ K (cs.take o ++ ns ++ cs.drop (o + ns.length)))
  | cs, 0, [], K => by simp [cput]
  | _ :: cs, 0, n :: ns, K => by simp [cput, cput_eq cs 0 ns]
  | [], 0, _ :: _, _ => by simp [cput]
  | c :: cs, o + 1, ns, K => by
    simp only [cput, cput_eq cs o ns, List.take_succ_cons, List.cons_append, List.length_cons]
    rw [show o + 1 + ns.length = (o + ns.length) + 1 by omega, List.drop_succ_cons]
    simp
  | [], o + 1, ns, _ => by simp [cput]
structure vputB (cs : List AV) (o : Nat) (y : AV) (K : AV → Prop) : Prop where
  of ::
  out : o + y.cells.length ≤ cs.length ∧ K (.agg (cs.take o ++ y.cells ++ cs.drop (o + y.cells.length)))
theorem vputB_eq (cs : List AV) (o : Nat) (y : AV) (K : AV → Prop) : vputB cs o y K = (o + y.cells.length ≤ cs.length ∧ K (.agg (cs.take o ++ y.cells ++ cs.drop (o + y.cells.length)))) := propext ⟨fun h => h.out, fun h => ⟨h⟩⟩
def AV.single : AV → Bool
  | .agg _ => false
  | _ => true
theorem AV.cells_single {v : AV} (h : v.single = true) : v.cells = [v] := by cases v <;> first | rfl | cases h
def vput (v : AV) (o : Nat) (y : AV) (K : AV → Prop) : Prop := match v with
  | .agg cs => bif Nat.blt cs.length 33 then cput cs o y.cells fun cs' => K (.agg cs') else vputB cs o y K
  | v => bif Nat.beq o 0 && y.single then K y else o + y.cells.length ≤ v.cells.length ∧ K (v.setCells o y.cells)
theorem vput_eq (v : AV) (o : Nat) (y : AV) (K : AV → Prop) : vput v o y K = (o + y.cells.length ≤ v.cells.length ∧ K (v.setCells o y.cells)) := by
  cases v
  case agg cs =>
    simp only [vput]
    cases Nat.blt cs.length 33 with
    | true => simp only [cond_true, cput_eq]; rfl
    | false => simp only [cond_false, vputB_eq]; rfl
  all_goals
    simp only [vput]
    cases hb : Nat.beq o 0 && y.single with
    | false => rfl
    | true =>
      simp only [Bool.and_eq_true] at hb
      have h0 := Nat.eq_of_beq_eq_true hb.1
      subst h0
      have hy := hb.2
      clear hb
      cases y <;> first | (cases hy; done) | simp [AV.cells, AV.setCells]
theorem vput_all {cs ds : List AV} {K : AV → Prop} (hl : cs.length = ds.length) (hk : K (.agg ds)) : vputB cs 0 (.agg ds) K := by
  rw [vputB_eq]; simp only [AV.cells]
  refine ⟨by omega, ?_⟩
  rw [show cs.take 0 ++ ds ++ cs.drop (0 + ds.length) = ds by simp [← hl]]; exact hk
theorem vput_set {cs : List AV} {o : Nat} {y : AV} {K : AV → Prop} (hk : bif y.single then o < cs.length ∧ K (.agg (cs.set o y)) else False) : vputB cs o y K := by
  cases hy : y.single with
  | false => rw [hy] at hk; exact hk.elim
  | true =>
  rw [hy] at hk
  obtain ⟨ho, hk⟩ := hk
  rw [vputB_eq, AV.cells_single hy]
  refine ⟨by simp only [List.length_singleton]; omega, ?_⟩
  rw [show cs.take o ++ [y] ++ cs.drop (o + [y].length) = cs.set o y by rw [List.set_eq_take_append_cons_drop, if_pos ho]; simp]
  exact hk
structure sget (l : List UInt8) (i : Nat) (K : UInt8 → Prop) : Prop where
  of ::
  out : match l[i]? with
  | some b => K b
  | none => False
theorem sget_eq (l : List UInt8) (i : Nat) (K : UInt8 → Prop) : sget l i K = match l[i]? with
  | some b => K b
  | none => False := propext ⟨fun h => h.out, fun h => ⟨h⟩⟩
theorem sget_of {l : List UInt8} {i : Nat} {b : UInt8} {K : UInt8 → Prop} (hi : l[i]? = some b) (hk : K b) : sget l i K := by rw [sget_eq, hi]; exact hk
def stoK (v : AV) (n : Nat) (K : Prop) : Prop :=
  bif Nat.blt 32 n then v.sto = true ∧ v.cells.length = n ∧ K else bif v.sto && Nat.beq v.cells.length n then K else False
theorem stoK_eq (v : AV) (n : Nat) (K : Prop) : stoK v n K = (v.sto = true ∧ v.cells.length = n ∧ K) := by
  unfold stoK
  cases Nat.blt 32 n with
  | true => rfl
  | false =>
    simp only [cond_false]
    cases hs : v.sto && Nat.beq v.cells.length n with
    | true =>
      simp only [Bool.and_eq_true] at hs
      simp only [cond_true, eq_iff_iff]
      exact ⟨fun h => ⟨hs.1, Nat.eq_of_beq_eq_true hs.2, h⟩, fun h => h.2.2⟩
    | false =>
      simp only [cond_false, eq_iff_iff, false_iff]
      rintro ⟨h1, h2, _⟩
      rw [h1, h2] at hs
      simp [Nat.beq_refl] at hs
theorem stoK_of {v : AV} {n : Nat} {K : Prop} (h1 : v.sto = true) (h2 : v.cells.length = n) (h : K) : stoK v n K := by rw [stoK_eq]; exact ⟨h1, h2, h⟩
def allStoK : List AV → Nat → Prop → Prop
  | [], _, K => K
  | x :: xs, n, K => stoK x n (allStoK xs n K)
theorem allStoK_eq : ∀ (l : List AV) (n : Nat) (K : Prop), allStoK l n K = ((∀ x ∈ l, x.sto = true ∧ x.cells.length = n) ∧ K)
  | [], n, K => by simp [allStoK]
  | x :: xs, n, K => by simp [allStoK, stoK_eq, allStoK_eq xs n, and_assoc]
def ebuild (e : Env) : List (Nat × Nat × AX) → List AV → (List AV → Prop) → Prop
  | [], cells, K => K cells
  | (o, n, x) :: rest, cells, K => force (x.ev e) fun v => stoK v n (cput cells o v.cells fun cells' => ebuild e rest cells' K)
theorem ebuild_eq (e : Env) : ∀ (ps : List (Nat × Nat × AX)) (cells : List AV) (K : List AV → Prop), ebuild e ps cells K = (match afill cells (ps.map fun p => (p.1, p.2.1, p.2.2.ev e)) with
  | some cells => K cells
  | none => False)
  | [], _, _ => rfl
  | (o, n, x) :: rest, cells, K => by
    simp only [ebuild, force_eq, stoK_eq, List.map_cons, afill, cput_eq, ebuild_eq e rest]
    by_cases hc : (x.ev e).sto = true ∧ (x.ev e).cells.length = n ∧ o + n ≤ cells.length
    · rw [if_pos hc]
      obtain ⟨h1, h2, h3⟩ := hc
      subst h2
      simp only [eq_iff_iff]; exact ⟨fun h => h.2.2.2, fun h => ⟨h1, by first | rfl | trivial, by omega, h⟩⟩
    · rw [if_neg hc]
      simp only [eq_iff_iff, iff_false]
      rintro ⟨h1, h2, h3, _⟩
      exact hc ⟨h1, h2, by omega⟩
def keqK : AV → AV → (Bool → Prop) → Prop
  | .str a, .str b, K => K (a == b)
  | .int k a, .int k' b, K => k = k' ∧ K (a == b)
  | .bool a, .bool b, K => K (a == b)
  | _, _, _ => False
theorem keqK_eq (a b : AV) (K : Bool → Prop) : keqK a b K = match keyEq a b with
  | some t => K t
  | none => False := by
  cases a <;> cases b <;> try rfl
  rename_i k a k' b
  simp only [keqK, keyEq]
  by_cases h : k = k'
  · simp [h]
  · simp [h]
def mgetR : List (AV × AV) → AV → (AV → Prop) → Prop → Prop
  | [], _, _, N => N
  | (k', v) :: rest, k, K, N => keqK k k' fun b => bcond b (K v) (mgetR rest k K N)
structure mget (ents : List (AV × AV)) (k : AV) (K : AV → Prop) (N : Prop) : Prop where
  of ::
  out : mgetR ents k K N
theorem mget_r (ents : List (AV × AV)) (k : AV) (K : AV → Prop) (N : Prop) : mget ents k K N = mgetR ents k K N := propext ⟨fun h => h.out, fun h => ⟨h⟩⟩
theorem mget_eq : ∀ (ents : List (AV × AV)) (k : AV) (K : AV → Prop) (N : Prop) (i : Nat), mget ents k K N = (match mfind ents k i with
  | some (some (_, v)) => K v
  | some none => N
  | none => False)
  | [], _, _, _, _ => by rw [mget_r]; rfl
  | (k', v) :: rest, k, K, N, i => by
    rw [mget_r]
    simp only [mgetR, keqK_eq, mfind, bcond_eq]
    cases keyEq k k' with
    | none => rfl
    | some b => cases b <;> simp only [cond_true, cond_false]; rw [← mget_r]; exact mget_eq rest k K N (i + 1)
theorem mget_nil {k : AV} {K : AV → Prop} {N : Prop} (h : N) : mget [] k K N := ⟨h⟩
theorem mget_cons {k k' v : AV} {rest : List (AV × AV)} {K : AV → Prop} {N : Prop} (h : keqK k k' fun b => bcond b (K v) (mget rest k K N)) : mget ((k', v) :: rest) k K N := by
  simp only [mget_r] at h; exact ⟨h⟩
def cellsK : List TK → List AV → List AV → (Bool → Prop) → Prop
  | [], [], [], K => K true
  | [tk], [a], [b], K => bif a.isKey tk then keqK a b K else False
  | tk :: ts, a :: asx, b :: bs, K => bif a.isKey tk then keqK a b fun t => cellsK ts asx bs fun u => K (t && u) else False
  | _, _, _, _ => False
theorem cellsK_eq : ∀ (ts : List TK) (asx bs : List AV) (K : Bool → Prop), cellsK ts asx bs K = match cellsEq ts asx bs with
    | some t => K t
    | none => False
  | [], [], [], K => rfl
  | [], [], _ :: _, K => rfl
  | [], _ :: _, _, K => rfl
  | _ :: _, [], _, K => by rename_i t l _; cases l <;> rfl
  | _ :: _, _ :: _, [], K => by rename_i t l a asx; cases l <;> cases asx <;> rfl
  | tk :: ts, a :: asx, b :: bs, K => by
    have h1 : cellsK (tk :: ts) (a :: asx) (b :: bs) K = bif a.isKey tk then keqK a b fun t => cellsK ts asx bs fun u => K (t && u) else False := by
      cases ts <;> cases asx <;> cases bs <;> first
        | rfl
        | (simp only [cellsK, Bool.and_true])
    rw [h1]
    simp only [cellsEq]
    cases a.isKey tk with
    | false => rfl
    | true =>
      simp only [cond_true, keqK_eq, cellsK_eq ts asx bs]
      cases keyEq a b with
      | none => rfl
      | some t => cases cellsEq ts asx bs <;> rfl
structure mputK (ents : List (AV × AV)) (k v : AV) (K : List (AV × AV) → Prop) : Prop where
  of ::
  out : match mput ents k v with
  | some e => K e
  | none => False
theorem mputK_eq (ents : List (AV × AV)) (k v : AV) (K : List (AV × AV) → Prop) : mputK ents k v K = match mput ents k v with
  | some e => K e
  | none => False := propext ⟨fun h => h.out, fun h => ⟨h⟩⟩
def appF : List AV → List AV → (List AV → Prop) → Prop
  | [], l, K => K l
  | a :: asx, l, K => appF asx l fun r => K (a :: r)
theorem appF_eq : ∀ (a l : List AV) (K : List AV → Prop), appF a l K = K (a ++ l)
  | [], _, _ => rfl
  | a :: asx, l, K => by simp only [appF, List.cons_append]; exact appF_eq asx l _
def esrc (h : AHeap) (esz : Nat) (x : AV) (K : List AV → Prop) : Prop :=
  match x with
  | .lst sz els => sz = esz ∧ K els
  | .nils => K []
  | .str l => esz = 1 ∧ K (l.map fun b => .int .u8 b.toNat)
  | .sl r i m _ => hget h r fun b => bcells b fun _ _ sz els => sz = esz ∧ i + m ≤ els.length ∧ K ((els.drop i).take m)
  | _ => False
theorem esrc_eq (h : AHeap) (esz : Nat) (x : AV) (K : List AV → Prop) : esrc h esz x K = srcOf h esz x K := by
  cases x <;> try rfl
  rename_i r i m c
  simp only [esrc, srcOf, hget_eq]
  cases h[r]? with
  | none => rfl
  | some b => cases b <;> rfl
def besz (b : AB) (n : Nat) : Prop := match b with
  | .cells _ _ sz _ => sz = n
  | _ => False
theorem eszOf_eq (h : AHeap) (r n : Nat) (K : Prop) : (hget h r fun b => besz b n ∧ K) = (eszOf h r = some n ∧ K) := by
  rw [hget_eq]; unfold eszOf
  cases h[r]? with
  | none => simp
  | some b => cases b <;> simp [besz]
def eslice (h : AHeap) (esz : Nat) (x : AV) (lo hi : Option AV) (K : AV → Prop) : Prop :=
  match x with
  | .lst sz l => sz = esz ∧ match lo, hi with
    | some (.int _ a), some (.int _ b) => 0 ≤ a ∧ a ≤ b ∧ b ≤ l.length ∧ K (.lst sz ((l.drop a.toNat).take (b.toNat - a.toNat)))
    | some (.int _ a), none => 0 ≤ a ∧ a ≤ l.length ∧ K (.lst sz (l.drop a.toNat))
    | none, some (.int _ b) => 0 ≤ b ∧ b ≤ l.length ∧ K (.lst sz (l.take b.toNat))
    | none, none => K (.lst sz l)
    | _, _ => False
  | .sl r i m c => hget h r fun b => besz b esz ∧ match lo, hi with
    | some (.int _ a), some (.int _ b) => 0 ≤ a ∧ a ≤ b ∧ b ≤ m ∧ (a = b → K (.lst esz [])) ∧ (a < b → K (.sl r (i + a.toNat) (b.toNat - a.toNat) none))
    | some (.int _ a), none => 0 ≤ a ∧ a ≤ m ∧ (a = m → K (.lst esz [])) ∧ (a < m → K (.sl r (i + a.toNat) (m - a.toNat) none))
    | none, some (.int _ b) => 0 ≤ b ∧ b ≤ m ∧ K (.sl r i b.toNat none)
    | none, none => K (.sl r i m c)
    | _, _ => False
  | .nils => match lo, hi with
    | none, none => K .nils
    | _, _ => False
  | _ => False
theorem eslice_eq (h : AHeap) (esz : Nat) (x : AV) (lo hi : Option AV) (K : AV → Prop) : eslice h esz x lo hi K = aslice h esz x lo hi K := by
  cases x <;> try rfl
  exact eszOf_eq ..
def eappend (h : AHeap) (T esz bytes : Nat) (x y : AV) (K : AV → AHeap → Prop) : Prop :=
  esrc h esz y fun new =>
    match x with
    | .nils => new.length * bytes ≤ 140737488355328 ∧ new.length ≤ 9223372036854775807 ∧
        match new with
        | [] => K .nils h
        | _ => halloc h (.cells true T esz new) fun r h' => K (.sl r 0 new.length none) h'
    | .sl r i m c => hget h r fun b => bcells b fun gr T' sz els =>
      match gr, c with
      | true, none => T' = T ∧ sz = esz ∧ i = 0 ∧ m = els.length ∧ (els.length + new.length) * bytes ≤ 140737488355328 ∧ els.length + new.length ≤ 9223372036854775807 ∧
          hput h r .dead fun h1 => halloc h1 (.cells true T esz (els ++ new)) fun r' h' => K (.sl r' 0 (els.length + new.length) none) h'
      | _, some c => sz = esz ∧ i + m ≤ els.length ∧ c < m + new.length ∧ (m + new.length) * bytes ≤ 140737488355328 ∧ m + new.length ≤ 9223372036854775807 ∧
          halloc h (.cells true T esz ((els.drop i).take m ++ new)) fun r' h' => K (.sl r' 0 (m + new.length) none) h'
      | _, _ => False
    | _ => False
theorem eappend_eq (h : AHeap) (T esz bytes : Nat) (x y : AV) (K : AV → AHeap → Prop) : eappend h T esz bytes x y K = aappend h T esz bytes x y K := by
  unfold eappend aappend
  rw [esrc_eq]
  congr 1; funext new
  cases x <;> try rfl
  case sl r i m c =>
    simp only [hget_eq]
    cases h[r]? with
    | none => cases c <;> rfl
    | some b =>
      cases b <;> try (cases c <;> rfl)
      rename_i gr T' sz els
      cases gr <;> cases c <;> simp only [bcells, hput_eq, halloc_eq, List.length_set]
  case nils =>
    cases new with
    | nil => rfl
    | cons a asx => simp only [halloc_eq]
def kEq : IntKind → IntKind → Bool
  | .i8, .i8 | .i16, .i16 | .i32, .i32 | .i64, .i64 | .u8, .u8 | .u16, .u16 | .u32, .u32 | .u64, .u64 => true
  | _, _ => false
theorem kEq_iff (a b : IntKind) : kEq a b = true ↔ a = b := by cases a <;> cases b <;> simp [kEq]
def ebinI (op : BinOp) (k : IntKind) (a b : Int) (K : AV → Prop) : Prop :=
  match op with
  | .and | .or | .xor | .andNot => K (.int k (bitsI op k a b))
  | .add => K (.int k (k.wrap (a + b)))
  | .sub => K (.int k (k.wrap (a - b)))
  | .mul => K (.int k (k.wrap (a * b)))
  | .quo => b ≠ 0 ∧ K (.int k (k.wrap (a.tdiv b)))
  | .rem => b ≠ 0 ∧ K (.int k (a.tmod b))
  | .eql => K (.bool (a == b))
  | .neq => K (.bool (a != b))
  | .lss => K (.bool (a < b))
  | .leq => K (.bool (a ≤ b))
  | .gtr => K (.bool (a > b))
  | .geq => K (.bool (a ≥ b))
  | _ => False
def ebin (tk : TK) (op : BinOp) (x y : AV) (K : AV → Prop) : Prop :=
  match x, y with
  | .int k a, .int k' b => bif BinOp.isShift op then 0 ≤ b ∧ K (.int k (shiftI op k a b)) else bif kEq k k' then ebinI op k a b K else False
  | x, y => abin tk op x y K
theorem ebin_eq (tk : TK) (op : BinOp) (x y : AV) (K : AV → Prop) : ebin tk op x y K = abin tk op x y K := by
  cases x <;> cases y <;> try rfl
  rename_i k a k' b
  simp only [ebin, abin]
  congr 1
  by_cases h : k = k'
  · subst h
    have : kEq k k = true := (kEq_iff k k).2 rfl
    simp only [this, cond_true, true_and]
    cases op <;> rfl
  · have : kEq k k' = false := by
      cases hb : kEq k k' with
      | true => exact absurd ((kEq_iff _ _).1 hb) h
      | false => rfl
    simp [this, h]
section
variable (P : Program) (Φ : World → Prop)
def eop (e : Env) (h : AHeap) (o : AOp) (K : AV → AHeap → Prop) (X : AV → AHeap → Prop) : Prop :=
  match o with
  | .mov x => force (x.ev e) (K · h)
  | .pick c a b => match c.ev e with
    | .bool t => bcond t (force (a.ev e) (K · h)) (force (b.ev e) (K · h))
    | _ => False
  | .alloc T n z => halloc h (.cells false T n [z]) fun r h' => K (.ptr r 0 0) h'
  | .box T n x => force (x.ev e) fun v => stoK v n (halloc h (.cells false T n [v]) fun r h' => K (.ptr r 0 0) h')
  | .load sz x => match x.ev e with
    | .lptr v o => pget v o sz (K · h)
    | .ptr r i o => hget h r fun b => bels b fun els => eget els i fun v => pget v o sz (K · h)
    | _ => False
  | .store n x y => match x.ev e with
    | .ptr r i o => hget h r fun b => bcells b fun gr T sz els => eget els i fun v => force (y.ev e) fun y => stoK y n (vput v o y fun v' => eput els i v' fun els' => hput h r (.cells gr T sz els') fun h' => K undefA h')
    | _ => False
  | .bin tk op x y => match y with
    | .val v => match v.isNil tk with
      | some true => abinNil tk op (x.ev e) (K · h)
      | _ => ebin tk op (x.ev e) v (K · h)
    | .tmp t => ebin tk op (x.ev e) (e.get t) (K · h)
  | .aggeq neg tks x y => match x.ev e, y.ev e with
    | .agg asx, .agg bs => cellsK tks asx bs fun t => bif neg then K (.bool (!t)) h else K (.bool t) h
    | _, _ => False
  | .mkiface t x => force (x.ev e) fun v => K (.iface t v) h
  | .mkfn f a b => evsF e a fun a => evsF e b fun b => K (.fn f a b) h
  | .mkmap => halloc h (.map []) fun r h' => K (.map r) h'
  | .slc esz x lo hi => eslice h esz (x.ev e) (lo.map (AX.ev e)) (hi.map (AX.ev e)) (K · h)
  | .field off sz x => match x.ev e with
    | .agg cs => pget (.agg cs) off sz (K · h)
    | _ => False
  | .elemAddr esz x i => match x.ev e, i.ev e with
    | .lst sz els, .int _ n => sz = esz ∧ 0 ≤ n ∧ eget els n.toNat fun v => force v fun v => K (.lptr v 0) h
    | .sl r j m _, .int _ n => hget h r fun b => besz b esz ∧ 0 ≤ n ∧ n < m ∧ K (.ptr r (j + n.toNat) 0) h
    | _, _ => False
  | .byteAt x i => match x.ev e, i.ev e with
    | .str l, .int _ n => 0 ≤ n ∧ sget l n.toNat fun b => K (.int .u8 b.toNat) h
    | _, _ => False
  | .arrAt len esz sz x i => match x.ev e, i.ev e with
    | .agg cs, .int _ n => 0 ≤ n ∧ n < len ∧ pget (.agg cs) (n.toNat * esz) sz (K · h)
    | _, _ => False
  | .lookup tk ok z m k => match m.ev e with
    | .map r => hget h r fun b => bmap b fun ents => force (k.ev e) fun k => k.isKey tk = true ∧ mget ents k (fun v => bif ok then K (.tup [v, .bool true]) h else force v (K · h)) (bif ok then K (.tup [z, .bool false]) h else K z h)
    | _ => False
  | .build z parts => ebuild e parts z fun cells => K (.agg cells) h
  | .bslice T esz els => evsF e els fun l => allStoK l esz (halloc h (.cells false T esz l) fun r h' => K (.sl r 0 els.length (some els.length)) h')
  | .fslice esz els => evsF e els fun l => allStoK l esz (K (.lst esz l) h)
  | .fbox n x => force (x.ev e) fun v => stoK v n (K (.lptr v 0) h)
  | .mapup tk m k v => match m.ev e with
    | .map r => hget h r fun b => bmap b fun ents => force (k.ev e) fun k => force (v.ev e) fun v => k.isKey tk = true ∧ v.sto = true ∧ mputK ents k v fun ents' => hput h r (.map ents') fun h' => K undefA h'
    | _ => False
  | .tassert t z ok x => match x.ev e with
    | .iface t' v => bif Nat.beq t' t then (bif ok then K (.tup [v, .bool true]) h else force v (K · h)) else ok = true ∧ K (.tup [z, .bool false]) h
    | .nili => ok = true ∧ K (.tup [z, .bool false]) h
    | _ => False
  | .callF f args => evsF e args fun l => S P Φ f l h fun r h' => match r with
    | .ret v => force v (K · h')
    | .pan v => X v h'
  | .callV x args => match x.ev e with
    | .fn f a b => evsF e args fun l => appF l b fun l => appF a l fun l => S P Φ f l h fun r h' => match r with
      | .ret v => force v (K · h')
      | .pan v => X v h'
    | .yld r => evsF e args fun l => YS P Φ r l h fun r h' => match r with
      | .ret v => force v (K · h')
      | .pan v => X v h'
    | _ => False
  | .append T esz bytes x y => eappend h T esz bytes (x.ev e) (y.ev e) K
  | .len tk x => match tk, x.ev e with
    | .str, .str l => K (.int .i64 l.length) h
    | .slice, .lst _ l => K (.int .i64 l.length) h
    | .slice, .nils => K (.int .i64 0) h
    | .slice, .sl _ _ m _ => K (.int .i64 m) h
    | .map, .map r => hget h r fun b => bmap b fun ents => K (.int .i64 ents.length) h
    | .map, .nilm => K (.int .i64 0) h
    | _, _ => False
  | .extract x i => match x.ev e with
    | .tup vs => eget vs i fun v => force v (K · h)
    | _ => False
  | o => aop P Φ e h o K X
theorem ret_force (K X : AV → AHeap → Prop) : (fun (r : AEnd) (h' : AHeap) => match r with
    | .ret v => force v (K · h')
    | .pan v => X v h') = fun r h' => match r with
    | .ret v => K v h'
    | .pan v => X v h' := by
  funext r h'; cases r <;> simp only [force_eq]
theorem eop_eq (e : Env) (h : AHeap) (o : AOp) (K : AV → AHeap → Prop) (X : AV → AHeap → Prop) : eop P Φ e h o K X = aop P Φ e h o K X := by
  cases o
  case pick c a b =>
    simp only [eop, aop, force_eq, bcond_eq]
    generalize c.ev e = v
    cases v <;> try rfl
    rename_i t; cases t <;> rfl
  case load sz x =>
    simp only [eop, aop]
    generalize x.ev e = v
    cases v <;> try rfl
    · rename_i r i o
      simp only [hget_eq]
      cases h[r]? with
      | none => rfl
      | some b =>
        cases b <;> try rfl
        simp only [bels, eget_eq, pget_eq]
        rfl
    · simp only [pget_eq]
      rfl
  case store n x y =>
    simp only [eop, aop]
    generalize x.ev e = v
    cases v <;> try rfl
    rename_i r i o
    simp only [hget_eq]
    cases h[r]? with
    | none => rfl
    | some b =>
      cases b <;> try rfl
      rename_i gr T sz els
      simp only [bcells, eget_eq]
      cases els[i]? with
      | none => rfl
      | some v =>
        simp only [force_eq, stoK_eq, vput_eq, eput_eq, hput_eq]
        simp only [eq_iff_iff]
        refine ⟨fun ⟨a, b, c, d⟩ => ⟨a, b, by omega, d⟩, fun ⟨a, b, c, d⟩ => ⟨a, b, by omega, d⟩⟩
  case aggeq neg tks x y =>
    simp only [eop, aop]
    generalize x.ev e = v
    generalize y.ev e = u
    cases v <;> try rfl
    cases u <;> try rfl
    rename_i asx bs
    simp only [cellsK_eq]
    cases cellsEq tks asx bs with
    | none => rfl
    | some t => cases neg <;> rfl
  case slc esz x lo hi => simp only [eop, aop, eslice_eq]
  case field off sz x => simp only [eop, aop, pget_eq]; rfl
  case elemAddr esz x i =>
    simp only [eop, aop]
    generalize x.ev e = v
    generalize i.ev e = u
    cases v <;> try rfl
    · cases u <;> try rfl
      exact eszOf_eq ..
    · cases u <;> try rfl
      simp only [force_eq, eget_eq]
      rfl
  case byteAt x i => simp only [eop, aop, sget_eq]; rfl
  case arrAt len esz sz x i => simp only [eop, aop, pget_eq]; rfl
  case lookup tk ok z m k =>
    simp only [eop, aop]
    generalize m.ev e = v
    cases v <;> try rfl
    rename_i r
    simp only [hget_eq]
    cases h[r]? with
    | none => rfl
    | some b =>
      cases b <;> try rfl
      rename_i ents
      simp only [bmap, force_eq]
      rw [mget_eq ents (k.ev e) _ _ 0]
      cases ok <;> rfl
  case build z parts =>
    simp only [eop, aop, ebuild_eq]; rfl
  case mapup tk m k v =>
    simp only [eop, aop]
    generalize m.ev e = v
    cases v <;> try rfl
    rename_i r
    simp only [hget_eq]
    cases h[r]? with
    | none => rfl
    | some b =>
      cases b <;> try rfl
      simp only [bmap, force_eq, mputK_eq, hput_eq]
      rfl
  case tassert t z ok x =>
    simp only [eop, aop]
    generalize x.ev e = v
    cases v <;> try rfl
    rename_i t' v
    by_cases ht : t' = t
    · subst ht
      have : Nat.beq t' t' = true := Nat.beq_refl t'
      simp only [this, if_true]
      cases ok <;> simp [force_eq]
    · have : Nat.beq t' t = false := by
        cases hb : Nat.beq t' t with
        | true => exact absurd (Nat.eq_of_beq_eq_true hb) ht
        | false => rfl
      simp only [this, if_neg ht]; rfl
  case callF f args => simp only [eop, aop, evsF_eq, ret_force]; rfl
  case callV x args =>
    simp only [eop, aop, evsF_eq, appF_eq, ret_force, List.append_assoc]; rfl
  case append T esz bytes x y => simp only [eop, aop, eappend_eq]
  case len tk x =>
    simp only [eop, aop]
    generalize x.ev e = v
    cases tk <;> cases v <;> try rfl
    simp only [hget_eq]
    rename_i r
    cases h[r]? with
    | none => rfl
    | some b => cases b <;> rfl
  case extract x i =>
    simp only [eop, aop]
    generalize x.ev e = v
    cases v <;> try rfl
    simp only [eget_eq, force_eq]
    rfl
  case alloc => simp only [eop, aop, halloc_eq]
  case box => simp only [eop, aop, halloc_eq, force_eq, stoK_eq]
  case bin => simp only [eop, aop, ebin_eq]; rfl
  case mkmap => simp only [eop, aop, halloc_eq]
  case bslice => simp only [eop, aop, halloc_eq, evsF_eq, allStoK_eq]
  case fslice => simp only [eop, aop, evsF_eq, allStoK_eq]
  case fbox => simp only [eop, aop, force_eq, stoK_eq]
  case mov => simp only [eop, aop, force_eq]
  case mkiface => simp only [eop, aop, force_eq]
  case mkfn => simp only [eop, aop, evsF_eq]
  all_goals rfl
end
end Go.Abs
end
section
namespace Go.Abs
open Go.RowKit
def putF (d : Option Nat) (v : AV) (e : Env) (K : Env → Prop) : Prop := match d with
  | none => K e
  | some t => K ((t, v) :: e)
theorem putF_eq (d : Option Nat) (v : AV) (e : Env) (K : Env → Prop) : putF d v e K = K (Env.put d v e) := by cases d <;> rfl
theorem putF_eq' (d : Option Nat) (v : AV) (e : Env) (K : Env → Prop) : putF d v e K = K (putE d v e) := by cases d <;> rfl
def histAll : Nat → List AHeap → (AHeap → Prop) → Prop
  | 0, _, _ => True
  | _ + 1, [], _ => True
  | n + 1, h :: hs, p => p h ∧ histAll n hs p
theorem histAll_eq : ∀ (n : Nat) (l : List AHeap) (p : AHeap → Prop), histAll n l p = ∀ hh ∈ l.take n, p hh
  | 0, _, _ => by simp [histAll]
  | _ + 1, [], _ => by simp [histAll]
  | n + 1, h :: hs, p => by simp [histAll, histAll_eq n hs p]
def pdAll : List (AHeap → Prop) → AHeap → Prop
  | [], _ => True
  | p :: ps, h => p h ∧ pdAll ps h
theorem pdAll_eq : ∀ (l : List (AHeap → Prop)) (h : AHeap), pdAll l h = ∀ p ∈ l, p h
  | [], _ => by simp [pdAll]
  | p :: ps, h => by simp [pdAll, pdAll_eq ps h]
section
variable (P : Program) (Φ : World → Prop)
def eops : List AOper → Env → AHeap → (Env → AHeap → Prop) → (Env → AV → AHeap → Prop) → Prop
  | [], e, h, N, _ => N e h
  | o :: os, e, h, N, X =>
    match o.gd with
    | none => eop P Φ e h o.op (fun v h' => putF o.dst v e fun e' => eops os e' h' N X) (X e)
    | some (t, b) => match e.get t with
      | .bool c => match b with
        | true => bcond c (eop P Φ e h o.op (fun v h' => putF o.dst v e fun e' => eops os e' h' N X) (X e)) (putF o.dst undefA e fun e' => eops os e' h N X)
        | false => bcond c (putF o.dst undefA e fun e' => eops os e' h N X) (eop P Φ e h o.op (fun v h' => putF o.dst v e fun e' => eops os e' h' N X) (X e))
      | .tup [] => putF o.dst undefA e fun e' => eops os e' h N X
      | _ => False
theorem eops_eq : ∀ (l : List AOper) (e : Env) (h : AHeap) (N : Env → AHeap → Prop) (X : Env → AV → AHeap → Prop), eops P Φ l e h N X = aops P Φ l e h N X
  | [], _, _, _, _ => rfl
  | o :: os, e, h, N, X => by simp only [eops, aops, eop_eq, putF_eq, bcond_eq, eops_eq os]; rfl
def PureE (e : Env) (h : AHeap) (op : AOp) (v : AV) : Prop := eop P Φ e h op (fun v' h' => v' = v ∧ h' = h) (fun _ _ => False)
theorem PureE_eq (e : Env) (h : AHeap) (op : AOp) (v : AV) : PureE P Φ e h op v = PureAt P Φ e h op v := eop_eq ..
def edraw : List DOp → Env → List AHeap → AHeap → List (AHeap → Prop) → (Env → AHeap → Prop) → Prop
  | [], e, _, h, _, N => N e h
  | o :: os, e, hist, h, pd, N =>
    let run := bif o.x then ∃ v h', eop P Φ e h o.op.op (fun v' h'' => v' = v ∧ h'' = h') (fun _ _ => False) ∧ pdAll pd h' ∧ force v fun v => putF o.op.dst v e fun e' => edraw os e' (h :: hist) h' pd N
      else ∃ v, PureE P Φ e h o.op.op v ∧ histAll o.back hist (fun hh => PureE P Φ e hh o.op.op v) ∧
        force v fun v => putF o.op.dst v e fun e' => edraw os e' hist h (bif o.late then (fun h => PureE P Φ e h o.op.op v) :: pd else pd) N
    let skip := putF o.op.dst undefA e fun e' => edraw os e' (bif o.x then h :: hist else hist) h pd N
    match o.op.gd with
    | none => run
    | some (t, b) => match e.get t with
      | .bool c => match b with
        | true => bcond c run skip
        | false => bcond c skip run
      | .tup [] => skip
      | _ => False
theorem edraw_eq : ∀ (l : List DOp) (e : Env) (hist : List AHeap) (h : AHeap) (pd : List (AHeap → Prop)) (N : Env → AHeap → Prop), edraw P Φ l e hist h pd N = adraw P Φ l e hist h pd N
  | [], _, _, _, _, _ => rfl
  | o :: os, e, hist, h, pd, N => by simp only [edraw, adraw, eop_eq, PureE_eq, putF_eq', histAll_eq, pdAll_eq, force_eq, bcond_eq, edraw_eq os]; rfl
def erangeQ (Q : AExit → Env → AHeap → Prop) (e : Env) (r : Nat) : AEnd → AHeap → Prop
  | .ret _, h' => hget h' r fun b => match b with
    | .loop st pend _ => st ≠ .busy ∧ match pend with
      | none => hput h' r .dead fun h'' => Q .normal e h''
      | some .ret => hput h' r .dead fun h'' => Q .ret e h''
      | some (.exit id) => hput h' r .dead fun h'' => Q (.exit id) e h''
      | some _ => False
    | _ => False
  | .pan _, _ => False
theorem erangeQ_eq (Q : AExit → Env → AHeap → Prop) (e : Env) (r : Nat) : erangeQ Q e r = rangeQ Q e r := by
  funext a h'
  cases a with
  | pan v => rfl
  | ret v =>
    simp only [erangeQ, rangeQ, hget_eq, hput_eq, eq_iff_iff]
    cases hr : h'[r]? with
    | none => simp
    | some b =>
      cases b
      case loop st pend X =>
        constructor
        · rintro ⟨h1, h2⟩; exact ⟨st, pend, X, rfl, h1, h2⟩
        · rintro ⟨_, _, _, he, h1, h2⟩; cases he; exact ⟨h1, h2⟩
      all_goals simp
def ewp (n0 : Nat) : ACode → (AExit → Env → AHeap → Prop) → Env → AHeap → Prop
  | .skip, Q, e, h => Q .normal e h
  | .region ops keep, Q, e, h => eops P Φ ops e h (fun e' h' => keepF e' keep fun e'' => Q .normal e'' h') (fun e' v h' => Q (.pan v) e' h')
  | .draw ds keep, Q, e, h => edraw P Φ ds e [] h [] (fun e' h' => keepF e' keep fun e'' => Q .normal e'' h')
  | .seq x y, Q, e, h => ewp n0 x (fun r e' h' => match r with
    | .normal => ewp n0 y Q e' h'
    | r => Q r e' h') e h
  | .cond c x y, Q, e, h => match c.ev e with
    | .bool t => bcond t (ewp n0 x Q e h) (ewp n0 y Q e h)
    | _ => False
  | .block id x, Q, e, h => ewp n0 x (fun r e' h' => match r with
    | .exit i => bif i == id then Q .normal e' h' else Q (.exit i) e' h'
    | r => Q r e' h') e h
  | .loop x, Q, e, h => LoopP Φ n0 (ewp n0 x) Q e h
  | .range f ps N fz aa ab, Q, e, h => match f.ev e with
    | .fn fid a b => halloc h (.loop .ready none (rangeX P ps N fz aa ab e)) fun r h' => appF a (.yld r :: b) fun l => S P Φ fid l h' (erangeQ Q e r)
    | _ => False
  | .dfr _ _ _ _, _, _, _ => False
  | .exit id, Q, e, h => Q (.exit id) e h
  | .ret, Q, e, h => Q .ret e h
theorem ewp_eq (n0 : Nat) : ∀ (c : ACode) (Q : AExit → Env → AHeap → Prop) (e : Env) (h : AHeap), ewp P Φ n0 c Q e h = awp P Φ n0 c Q e h
  | .skip, _, _, _ => rfl
  | .region .., _, _, _ => by simp only [ewp, awp, eops_eq, keepF_eq]
  | .draw .., _, _, _ => by simp only [ewp, awp, edraw_eq, keepF_eq]
  | .seq x y, Q, e, h => by
    simp only [ewp, awp]
    refine Eq.trans (congrArg (fun K => ewp P Φ n0 x K e h) ?_) (ewp_eq n0 x _ e h)
    funext r e' h'; cases r <;> first | exact ewp_eq n0 y Q e' h' | rfl
  | .cond c x y, Q, e, h => by simp only [ewp, awp, bcond_eq, ewp_eq n0 x, ewp_eq n0 y]; rfl
  | .block id x, Q, e, h => by simp only [ewp, awp]; exact ewp_eq n0 x _ e h
  | .loop x, Q, e, h => by
    simp only [ewp, awp]
    have : ewp P Φ n0 x = awp P Φ n0 x := by funext Q e h; exact ewp_eq n0 x Q e h
    rw [this]
  | .range .., _, _, _ => by simp only [ewp, awp, halloc_eq, appF_eq, erangeQ_eq, List.append_assoc]; rfl
  | .dfr .., _, _, _ => rfl
  | .exit _, _, _, _ => rfl
  | .ret, _, _, _ => rfl
end
def eresOne (e : Env) (h : AHeap) : ARes → (AV → Prop) → Prop
  | .tmp t, K => force (e.get t) K
  | .cell t sz, K => match e.get t with
    | .ptr r i o => hget h r fun b => bels b fun els => eget els i fun v => pget v o sz K
    | _ => False
theorem eresOne_eq (e : Env) (h : AHeap) (r : ARes) (K : AV → Prop) : eresOne e h r K = match aresOne e h r with
  | some v => K v
  | none => False := by
  cases r with
  | tmp t => simp only [eresOne, aresOne, force_eq]
  | cell t sz =>
    simp only [eresOne, aresOne]
    generalize e.get t = v
    cases v <;> try rfl
    rename_i r i o
    simp only [hget_eq]
    cases h[r]? with
    | none => rfl
    | some b =>
      cases b <;> try rfl
      rename_i els
      simp only [bels, eget_eq, pget_eq]
      cases els[i]? <;> rfl
def eresAll (e : Env) (h : AHeap) : List ARes → (List AV → Prop) → Prop
  | [], K => K []
  | r :: rs, K => eresOne e h r fun a => eresAll e h rs fun asx => K (a :: asx)
theorem eresAll_eq (e : Env) (h : AHeap) : ∀ (rs : List ARes) (K : List AV → Prop), eresAll e h rs K = (match aresAll e h rs with
  | some v => K v
  | none => False)
  | [], _ => rfl
  | r :: rs, K => by
    simp only [eresAll, eresOne_eq, eresAll_eq e h rs, aresAll]
    cases aresOne e h r with
    | none => rfl
    | some a => cases aresAll e h rs <;> rfl
def tupOf : List AV → AV
  | [a] => a
  | asx => .tup asx
theorem ares_eq (e : Env) (h : AHeap) (rs : List ARes) : ares e h rs = (aresAll e h rs).map tupOf := by
  unfold ares
  split
  · rename_i h1; rw [h1]; rfl
  · rename_i asx h1 h2
    rw [h2]
    cases asx with
    | nil => rfl
    | cons a asx => cases asx with
      | nil => exact absurd rfl (h1 a)
      | cons => rfl
  · rename_i h1; rw [h1]; rfl
def ebodyQ (Φ : World → Prop) (rs : List ARes) (n0 : Nat) (Q : AEnd → AHeap → Prop) : AExit → Env → AHeap → Prop
  | .normal, e, h | .ret, e, h => eresAll e h rs fun asx => ∃ v' h', FEnt Φ n0 (tupOf asx) h v' h' ∧ Q (.ret v') h'
  | .pan v, _, h => ∃ v' h', FEnt Φ n0 v h v' h' ∧ Q (.pan v') h'
  | .exit _, _, _ => False
theorem ebodyQ_eq (Φ : World → Prop) (rs : List ARes) (n0 : Nat) (Q : AEnd → AHeap → Prop) : ebodyQ Φ rs n0 Q = bodyQ Φ rs n0 Q := by
  funext r e h
  cases r <;> simp only [ebodyQ, bodyQ, eresAll_eq, ares_eq]
  all_goals cases aresAll e h rs <;> rfl
variable {P : Program} {Φ : World → Prop}
theorem S_of_codeE {f : FuncId} {fn : Func} {fz : List Nat} {ac : ACode} {rs : List ARes} {args : List AV} {h0 : AHeap} {Q : AEnd → AHeap → Prop} (hf : P.funcs[f]? = some fn) (hn : (fn.name == "runtime.NumGoroutine") = false) (hb : fn.body.isSome = true)
    (hc : compF P fz fn = some ac) (hr : compRes P fn.results.toList = some rs) (hl : args.length ≤ fn.ntmps)
    (hw : HLow h0.length h0 → ewp P Φ h0.length ac (ebodyQ Φ rs h0.length Q) (argEnv args 0) h0) : S P Φ f args h0 Q :=
  S_of_code hf hn hb hc hr hl fun hl => by have := hw hl; rw [ewp_eq, ebodyQ_eq] at this; exact this
def ebodyT (P : Program) (Φ : World → Prop) (rs : List ARes) (n0 : Nat) (Q : AEnd → AHeap → Prop) : Option AV → AExit → Env → AHeap → Prop
  | none, r, e, h => ebodyQ Φ rs n0 Q r e h
  | some (.fn f asx bs), .normal, e, h | some (.fn f asx bs), .ret, e, h => appF asx bs fun l => SD P Φ f l h none fun _ r h' => match r with
    | .ret _ => ebodyQ Φ rs n0 Q .ret e h'
    | .pan v => ebodyQ Φ rs n0 Q (.pan v) e h'
  | some (.fn f asx bs), .pan v, e, h => appF asx bs fun l => SD P Φ f l h (some v) fun rec r h' => match r with
    | .ret _ => bif rec then ebodyQ Φ rs n0 Q .ret e h' else ebodyQ Φ rs n0 Q (.pan v) e h'
    | .pan _ => False
  | _, _, _, _ => False
theorem ebodyT_eq (rs : List ARes) (n0 : Nat) (Q : AEnd → AHeap → Prop) : ebodyT P Φ rs n0 Q = bodyT P Φ rs n0 Q := by
  funext d r e h
  cases d with
  | none => simp only [ebodyT, bodyT, ebodyQ_eq]
  | some d =>
    cases d <;> cases r <;> simp only [ebodyT, bodyT, ebodyQ_eq, appF_eq] <;> rfl
def ewpT (P : Program) (Φ : World → Prop) (n0 : Nat) : ACode → (Option AV → AExit → Env → AHeap → Prop) → Env → AHeap → Prop
  | .seq x y, Q, e, h => ewp P Φ n0 x (fun r e' h' => match r with
    | .normal => ewpT P Φ n0 y Q e' h'
    | r => Q none r e' h') e h
  | .dfr ops t keep z, Q, e, h => eops P Φ ops e h (fun e' h' => match e'.get t with
    | .fn f asx bs => keepF e' keep fun e'' => ewp P Φ h'.length z (Q (some (.fn f asx bs))) e'' h'
    | _ => False) (fun e' v h' => Q none (.pan v) e' h')
  | ac, Q, e, h => ewp P Φ n0 ac (Q none) e h
theorem ewpT_eq (n0 : Nat) : ∀ (c : ACode) (Q : Option AV → AExit → Env → AHeap → Prop) (e : Env) (h : AHeap), ewpT P Φ n0 c Q e h = awpT P Φ n0 c Q e h
  | .seq x y, Q, e, h => by
    simp only [ewpT, awpT]
    refine Eq.trans (congrArg (fun K => ewp P Φ n0 x K e h) ?_) (ewp_eq P Φ n0 x _ e h)
    funext r e' h'; cases r <;> first | exact ewpT_eq n0 y Q e' h' | rfl
  | .dfr ops t keep z, Q, e, h => by
    simp only [ewpT, awpT, eops_eq]
    congr 1
    funext e' h'
    cases e'.get t <;> simp [keepF_eq, ewp_eq]
  | .skip, _, _, _ => rfl
  | .region .., _, _, _ => ewp_eq ..
  | .draw .., _, _, _ => ewp_eq ..
  | .cond .., _, _, _ => ewp_eq ..
  | .block .., _, _, _ => ewp_eq ..
  | .loop .., _, _, _ => ewp_eq ..
  | .range .., _, _, _ => ewp_eq ..
  | .exit _, _, _, _ => rfl
  | .ret, _, _, _ => rfl
theorem S_of_codeTE {f : FuncId} {fn : Func} {fz : List Nat} {ac : ACode} {rs : List ARes} {args : List AV} {h0 : AHeap} {Q : AEnd → AHeap → Prop} (hf : P.funcs[f]? = some fn) (hn : (fn.name == "runtime.NumGoroutine") = false) (hb : fn.body.isSome = true)
    (hc : compF P fz fn = some ac) (hT : flatT ac = true) (hr : compRes P fn.results.toList = some rs) (hl : args.length ≤ fn.ntmps)
    (hw : HLow h0.length h0 → ewpT P Φ h0.length ac (ebodyT P Φ rs h0.length Q) (argEnv args 0) h0) : S P Φ f args h0 Q :=
  S_of_codeT hf hn hb hc hT hr hl fun hl => by have := hw hl; rw [ewpT_eq, ebodyT_eq] at this; exact this
theorem SD_of_codeE {f : FuncId} {fn : Func} {fz : List Nat} {t : Nat} {ac : ACode} {rs : List ARes} {args : List AV} {h0 : AHeap} {pan : Option AV} {Q : Bool → AEnd → AHeap → Prop} (hf : P.funcs[f]? = some fn) (hn : (fn.name == "runtime.NumGoroutine") = false)
    (ht : recTmp fn = some t) (hc : compR P fz fn = some ac) (hfl : ac.flat = true) (hr : compRes P fn.results.toList = some rs) (hl : args.length ≤ fn.ntmps)
    (hw : HLow h0.length h0 → ewp P Φ h0.length ac (ebodyQ Φ rs h0.length (Q pan.isSome)) ((t, recV pan) :: argEnv args 0) h0) : SD P Φ f args h0 pan Q :=
  SD_of_code hf hn ht hc hfl hr hl fun hl => by have := hw hl; rw [ewp_eq, ebodyQ_eq] at this; exact this
section
variable (P : Program) (Φ : World → Prop)
structure Eops (os : List AOper) (e : Env) (h : AHeap) (N : Env → AHeap → Prop) (X : Env → AV → AHeap → Prop) : Prop where
  of ::
  out : eops P Φ os e h N X
theorem Eops_eq (os : List AOper) (e : Env) (h : AHeap) (N : Env → AHeap → Prop) (X : Env → AV → AHeap → Prop) : Eops P Φ os e h N X = eops P Φ os e h N X := propext ⟨fun h => h.out, fun h => ⟨h⟩⟩
structure Edraw (ds : List DOp) (e : Env) (hist : List AHeap) (h : AHeap) (pd : List (AHeap → Prop)) (M : Env → AHeap → Prop) : Prop where
  of ::
  out : edraw P Φ ds e hist h pd M
theorem Edraw_eq (ds : List DOp) (e : Env) (hist : List AHeap) (h : AHeap) (pd : List (AHeap → Prop)) (M : Env → AHeap → Prop) : Edraw P Φ ds e hist h pd M = edraw P Φ ds e hist h pd M := propext ⟨fun h => h.out, fun h => ⟨h⟩⟩
structure Ewp (n0 : Nat) (c : ACode) (Q : AExit → Env → AHeap → Prop) (e : Env) (h : AHeap) : Prop where
  of ::
  out : ewp P Φ n0 c Q e h
theorem Ewp_eq (n0 : Nat) (c : ACode) (Q : AExit → Env → AHeap → Prop) (e : Env) (h : AHeap) : Ewp P Φ n0 c Q e h = ewp P Φ n0 c Q e h := propext ⟨fun h => h.out, fun h => ⟨h⟩⟩
structure EwpT (n0 : Nat) (c : ACode) (Q : Option AV → AExit → Env → AHeap → Prop) (e : Env) (h : AHeap) : Prop where
  of ::
  out : ewpT P Φ n0 c Q e h
end
section
variable {n0 : Nat} {e : Env} {h : AHeap} {N : Env → AHeap → Prop} {X : Env → AV → AHeap → Prop} {Q : AExit → Env → AHeap → Prop} {os : List AOper} {x y : ACode} {d : Option Nat} {op : AOp} {t id : Nat} {b : Bool}
def eguard (v : AV) (b : Bool) (run skip : Prop) : Prop := match v with
  | .bool c => match b with
    | true => bcond c run skip
    | false => bcond c skip run
  | .tup [] => skip
  | _ => False
theorem eops_nil (hk : N e h) : Eops P Φ [] e h N X := ⟨hk⟩
theorem eops_one (hk : eop P Φ e h op (fun v h' => putF d v e fun e' => Eops P Φ os e' h' N X) (X e)) : Eops P Φ (⟨d, op, none⟩ :: os) e h N X := by
  simp only [Eops_eq] at hk ⊢; exact hk
theorem eops_if (hk : eguard (e.get t) b (eop P Φ e h op (fun v h' => putF d v e fun e' => Eops P Φ os e' h' N X) (X e)) (putF d undefA e fun e' => Eops P Φ os e' h N X)) : Eops P Φ (⟨d, op, some (t, b)⟩ :: os) e h N X := by
  simp only [Eops_eq, eops] at hk ⊢
  unfold eguard at hk
  exact hk
variable {hist : List AHeap} {pd : List (AHeap → Prop)} {M : Env → AHeap → Prop} {ds : List DOp} {k : Nat} {late : Bool}
theorem edraw_nil (hk : M e h) : Edraw P Φ [] e hist h pd M := ⟨hk⟩
theorem edraw_read (hk : ∃ v, PureE P Φ e h op v ∧ histAll k hist (fun hh => PureE P Φ e hh op v) ∧
        force v fun v => putF d v e fun e' => Edraw P Φ ds e' hist h (bif late then (fun h => PureE P Φ e h op v) :: pd else pd) M) : Edraw P Φ (⟨⟨d, op, none⟩, false, k, late⟩ :: ds) e hist h pd M := by
  simp only [Edraw_eq] at hk ⊢; exact hk
theorem edraw_write (hk : ∃ v h', eop P Φ e h op (fun v' h'' => v' = v ∧ h'' = h') (fun _ _ => False) ∧ pdAll pd h' ∧ force v fun v => putF d v e fun e' => Edraw P Φ ds e' (h :: hist) h' pd M) : Edraw P Φ (⟨⟨d, op, none⟩, true, k, late⟩ :: ds) e hist h pd M := by
  simp only [Edraw_eq] at hk ⊢; exact hk
theorem edraw_read' {v : AV} (h1 : PureE P Φ e h op v) (h2 : histAll k hist (fun hh => PureE P Φ e hh op v))
    (h3 : force v fun v => putF d v e fun e' => Edraw P Φ ds e' hist h (bif late then (fun h => PureE P Φ e h op v) :: pd else pd) M) : Edraw P Φ (⟨⟨d, op, none⟩, false, k, late⟩ :: ds) e hist h pd M := edraw_read ⟨v, h1, h2, h3⟩
theorem edraw_write' {v : AV} {h' : AHeap} (h1 : eop P Φ e h op (fun v' h'' => v' = v ∧ h'' = h') (fun _ _ => False)) (h2 : pdAll pd h')
    (h3 : force v fun v => putF d v e fun e' => Edraw P Φ ds e' (h :: hist) h' pd M) : Edraw P Φ (⟨⟨d, op, none⟩, true, k, late⟩ :: ds) e hist h pd M := edraw_write ⟨v, h', h1, h2, h3⟩
theorem edraw_if {xx : Bool} (hk : eguard (e.get t) b (Edraw P Φ (⟨⟨d, op, none⟩, xx, k, late⟩ :: ds) e hist h pd M) (putF d undefA e fun e' => Edraw P Φ ds e' (bif xx then h :: hist else hist) h pd M)) : Edraw P Φ (⟨⟨d, op, some (t, b)⟩, xx, k, late⟩ :: ds) e hist h pd M := by
  simp only [Edraw_eq, edraw] at hk ⊢
  unfold eguard at hk
  exact hk
theorem ewp_skip (hk : Q .normal e h) : Ewp P Φ n0 .skip Q e h := ⟨hk⟩
theorem ewp_region {keep : Option (List Nat)} (hk : Eops P Φ os e h (fun e' h' => keepF e' keep fun e'' => Q .normal e'' h') (fun e' v h' => Q (.pan v) e' h')) : Ewp P Φ n0 (.region os keep) Q e h := ⟨hk.out⟩
theorem ewp_draw {keep : Option (List Nat)} (hk : Edraw P Φ ds e [] h [] (fun e' h' => keepF e' keep fun e'' => Q .normal e'' h')) : Ewp P Φ n0 (.draw ds keep) Q e h := ⟨hk.out⟩
theorem ewp_seq (hk : Ewp P Φ n0 x (fun r e' h' => match r with
    | .normal => Ewp P Φ n0 y Q e' h'
    | r => Q r e' h') e h) : Ewp P Φ n0 (.seq x y) Q e h := by
  simp only [Ewp_eq] at hk ⊢; exact hk
def ebool (v : AV) (A B : Prop) : Prop := match v with
  | .bool t => bcond t A B
  | _ => False
theorem ewp_cond {c : AX} (hk : ebool (c.ev e) (Ewp P Φ n0 x Q e h) (Ewp P Φ n0 y Q e h)) : Ewp P Φ n0 (.cond c x y) Q e h := by
  simp only [Ewp_eq, ewp] at hk ⊢; unfold ebool at hk; exact hk
theorem ewp_block (hk : Ewp P Φ n0 x (fun r e' h' => match r with
    | .exit i => bif i == id then Q .normal e' h' else Q (.exit i) e' h'
    | r => Q r e' h') e h) : Ewp P Φ n0 (.block id x) Q e h := ⟨hk.out⟩
theorem ewp_loop (hk : LoopP Φ n0 (Ewp P Φ n0 x) Q e h) : Ewp P Φ n0 (.loop x) Q e h := by
  refine ⟨?_⟩
  have : Ewp P Φ n0 x = ewp P Φ n0 x := by funext Q e h; exact Ewp_eq ..
  rw [this] at hk; exact hk
def efun (v : AV) (K : Nat → List AV → List AV → Prop) : Prop := match v with
  | .fn f a b => K f a b
  | _ => False
theorem ewp_range {f : AX} {ps fz : List Nat} {N' : Nat} {aa ab : ACode} (hk : efun (f.ev e) fun fid a b => halloc h (.loop .ready none (rangeX P ps N' fz aa ab e)) fun r h' => appF a (.yld r :: b) fun l => S P Φ fid l h' (erangeQ Q e r)) : Ewp P Φ n0 (.range f ps N' fz aa ab) Q e h := by
  simp only [Ewp_eq, ewp]; unfold efun at hk; exact hk
theorem ewp_exit (hk : Q (.exit id) e h) : Ewp P Φ n0 (.exit id) Q e h := ⟨hk⟩
theorem ewp_ret (hk : Q .ret e h) : Ewp P Φ n0 .ret Q e h := ⟨hk⟩
variable {QT : Option AV → AExit → Env → AHeap → Prop} {z : ACode}
theorem S_of_codeW {f : FuncId} {fn : Func} {fz : List Nat} {ac : ACode} {rs : List ARes} {args : List AV} {h0 : AHeap} {Q : AEnd → AHeap → Prop} (hf : P.funcs[f]? = some fn) (hn : (fn.name == "runtime.NumGoroutine") = false) (hb : fn.body.isSome = true)
    (hc : compF P fz fn = some ac) (hr : compRes P fn.results.toList = some rs) (hl : args.length ≤ fn.ntmps)
    (hw : HLow h0.length h0 → Ewp P Φ h0.length ac (ebodyQ Φ rs h0.length Q) (argEnv args 0) h0) : S P Φ f args h0 Q :=
  S_of_codeE hf hn hb hc hr hl fun hl => (hw hl).out
theorem S_of_codeTW {f : FuncId} {fn : Func} {fz : List Nat} {ac : ACode} {rs : List ARes} {args : List AV} {h0 : AHeap} {Q : AEnd → AHeap → Prop} (hf : P.funcs[f]? = some fn) (hn : (fn.name == "runtime.NumGoroutine") = false) (hb : fn.body.isSome = true)
    (hc : compF P fz fn = some ac) (hT : flatT ac = true) (hr : compRes P fn.results.toList = some rs) (hl : args.length ≤ fn.ntmps)
    (hw : HLow h0.length h0 → EwpT P Φ h0.length ac (ebodyT P Φ rs h0.length Q) (argEnv args 0) h0) : S P Φ f args h0 Q :=
  S_of_codeTE hf hn hb hc hT hr hl fun hl => (hw hl).out
theorem SD_of_codeW {f : FuncId} {fn : Func} {fz : List Nat} {t : Nat} {ac : ACode} {rs : List ARes} {args : List AV} {h0 : AHeap} {pan : Option AV} {Q : Bool → AEnd → AHeap → Prop} (hf : P.funcs[f]? = some fn) (hn : (fn.name == "runtime.NumGoroutine") = false)
    (ht : recTmp fn = some t) (hc : compR P fz fn = some ac) (hfl : ac.flat = true) (hr : compRes P fn.results.toList = some rs) (hl : args.length ≤ fn.ntmps)
    (hw : HLow h0.length h0 → Ewp P Φ h0.length ac (ebodyQ Φ rs h0.length (Q pan.isSome)) ((t, recV pan) :: argEnv args 0) h0) : SD P Φ f args h0 pan Q :=
  SD_of_codeE hf hn ht hc hfl hr hl fun hl => (hw hl).out
end
end Go.Abs
end
section
namespace Go.Abs
open Go.RowKit
theorem b_true {c : Bool} {A B : Prop} (hc : c = true) (h : A) : bcond c A B := by rw [bcond_eq, hc]; exact h
theorem b_false {c : Bool} {A B : Prop} (hc : c = false) (h : B) : bcond c A B := by rw [bcond_eq, hc]; exact h
theorem b_T {A B : Prop} (h : A) : bcond true A B := b_true rfl h
theorem b_F {A B : Prop} (h : B) : bcond false A B := b_false rfl h
theorem b_intro {c : Bool} {A B : Prop} (h1 : c = true → A) (h2 : c = false → B) : bcond c A B := by
  rw [bcond_eq]; cases c
  · exact h2 rfl
  · exact h1 rfl
theorem b_dec {p : Prop} [Decidable p] {A B : Prop} (h1 : p → decide p = true → A) (h2 : ¬ p → decide p = false → B) : bcond (decide p) A B := by
  rw [bcond_eq]
  by_cases h : p
  · simp only [h, decide_true, cond_true]; exact h1 h (decide_eq_true h)
  · simp only [h, decide_false, cond_false]; exact h2 h (decide_eq_false h)
theorem b_eq {α : Type} [BEq α] [LawfulBEq α] {a b : α} {A B : Prop} (h1 : a = b → (a == b) = true → A) (h2 : a ≠ b → (a == b) = false → B) : bcond (a == b) A B := by
  refine b_intro (fun h => h1 (by simpa using h) h) fun h => h2 (by simpa using h) h
theorem b_ne {α : Type} [BEq α] [LawfulBEq α] {a b : α} {A B : Prop} (h1 : a ≠ b → (a != b) = true → A) (h2 : a = b → (a != b) = false → B) : bcond (a != b) A B := by
  refine b_intro (fun h => h1 (by simpa using h) h) fun h => h2 (by simpa using h) h
theorem b_neq {α : Type} [BEq α] [LawfulBEq α] {a b : α} {A B : Prop} (h1 : a ≠ b → (!(a == b)) = true → A) (h2 : a = b → (!(a == b)) = false → B) : bcond (!(a == b)) A B := by
  refine b_intro (fun h => h1 (by simpa using h) h) fun h => h2 (by simpa using h) h
theorem b_not {c : Bool} {A B : Prop} (h1 : c = false → (!c) = true → A) (h2 : c = true → (!c) = false → B) : bcond (!c) A B := by
  refine b_intro (fun h => h1 (by simpa using h) h) fun h => h2 (by simpa using h) h
section
variable {H l : AHeap} {n j r : Nat} {b c : AB}
def lget : List AB → Nat → (AB → Prop) → Prop
  | a :: _, 0, K => K a
  | _ :: asx, i + 1, K => lget asx i K
  | [], _, _ => False
theorem lget_some : ∀ {l : List AB} {i : Nat} {K : AB → Prop}, lget l i K → ∃ b, l[i]? = some b ∧ K b
  | _ :: _, 0, _, h => ⟨_, rfl, h⟩
  | _ :: asx, i + 1, _, h => lget_some (l := asx) (i := i) h
  | [], _, _, h => h.elim
theorem hget_app {K : AB → Prop} (hn : H.length = n) (hk : lget l j K) : hget (H ++ l) (n + j) K := by
  obtain ⟨b, hb, hk⟩ := lget_some hk
  subst hn; exact hget_of (by rw [List.getElem?_append_right (by omega)]; simpa using hb) hk
theorem hget_app0 {K : AB → Prop} (hn : H.length = n) (hk : K b) : hget (H ++ b :: l) n K := by
  subst hn; exact hget_of (by rw [List.getElem?_append_right (by omega)]; simp) hk
def lput : List AB → Nat → AB → (List AB → Prop) → Prop
  | _ :: asx, 0, x, K => K (x :: asx)
  | a :: asx, i + 1, x, K => lput asx i x fun r => K (a :: r)
  | [], _, _, K => K []
theorem lput_eq : ∀ (l : List AB) (i : Nat) (x : AB) (K : List AB → Prop), lput l i x K = K (l.set i x)
  | [], _, _, _ => rfl
  | _ :: _, 0, _, _ => rfl
  | _ :: asx, i + 1, x, K => by simp only [lput, List.set_cons_succ]; exact lput_eq asx i x _
theorem hput_app {K : AHeap → Prop} (hn : H.length = n) (hk : lput l j b fun l' => K (H ++ l')) : hput (H ++ l) (n + j) b K := by
  subst hn; rw [lput_eq] at hk; refine hput_of ?_
  have e : (H ++ l).set (H.length + j) b = H ++ l.set j b := by simp
  rw [e]; exact hk
theorem hput_app0 {K : AHeap → Prop} (hn : H.length = n) (hk : K (H ++ b :: l)) : hput (H ++ c :: l) n b K := by
  subst hn; refine hput_of ?_
  have e : (H ++ c :: l).set H.length b = H ++ b :: l := by simp
  rw [e]; exact hk
theorem halloc0 {K : Nat → AHeap → Prop} (hn : H.length = n) (hk : K n (H ++ [b])) : halloc H b K := by subst hn; exact halloc_of hk
theorem halloc_l {K : Nat → AHeap → Prop} (hn : H.length = n) (hl : l.length = j) (hk : K (n + j) (H ++ (l ++ [b]))) : halloc (H ++ l) b K := by
  subst hn; subst hl; refine halloc_of ?_
  rw [List.append_assoc, List.length_append]; exact hk
theorem hget_a0 {K : AB → Prop} (hk : K b) : hget (H ++ b :: l) H.length K := hget_app0 rfl hk
theorem hget_a {K : AB → Prop} (hk : lget l j K) : hget (H ++ l) (H.length + j) K := hget_app rfl hk
theorem hput_a0 {K : AHeap → Prop} (hk : K (H ++ b :: l)) : hput (H ++ c :: l) H.length b K := hput_app0 rfl hk
theorem hput_a {K : AHeap → Prop} (hk : lput l j b fun l' => K (H ++ l')) : hput (H ++ l) (H.length + j) b K := hput_app rfl hk
variable {x : AB} {i : Nat}
theorem hget_s0 {K : AB → Prop} (hk : K b) : hget (H.set i x ++ b :: l) H.length K := hget_app0 List.length_set hk
theorem hget_s {K : AB → Prop} (hk : lget l j K) : hget (H.set i x ++ l) (H.length + j) K := hget_app List.length_set hk
theorem hput_s0 {K : AHeap → Prop} (hk : K (H.set i x ++ b :: l)) : hput (H.set i x ++ c :: l) H.length b K := hput_app0 List.length_set hk
theorem hput_s {K : AHeap → Prop} (hk : lput l j b fun l' => K (H.set i x ++ l')) : hput (H.set i x ++ l) (H.length + j) b K := hput_app List.length_set hk
variable {a0 a1 a2 a3 a4 a5 a6 a7 a8 a9 a10 a11 : AB} {K : Nat → AHeap → Prop}
theorem halloc1 (hk : K (H.length + 1) (H ++ [a0, b])) : halloc (H ++ [a0]) b K := halloc_l rfl rfl hk
theorem halloc2 (hk : K (H.length + 2) (H ++ [a0, a1, b])) : halloc (H ++ [a0, a1]) b K := halloc_l rfl rfl hk
theorem halloc3 (hk : K (H.length + 3) (H ++ [a0, a1, a2, b])) : halloc (H ++ [a0, a1, a2]) b K := halloc_l rfl rfl hk
theorem halloc4 (hk : K (H.length + 4) (H ++ [a0, a1, a2, a3, b])) : halloc (H ++ [a0, a1, a2, a3]) b K := halloc_l rfl rfl hk
theorem halloc5 (hk : K (H.length + 5) (H ++ [a0, a1, a2, a3, a4, b])) : halloc (H ++ [a0, a1, a2, a3, a4]) b K := halloc_l rfl rfl hk
theorem halloc6 (hk : K (H.length + 6) (H ++ [a0, a1, a2, a3, a4, a5, b])) : halloc (H ++ [a0, a1, a2, a3, a4, a5]) b K := halloc_l rfl rfl hk
theorem halloc7 (hk : K (H.length + 7) (H ++ [a0, a1, a2, a3, a4, a5, a6, b])) : halloc (H ++ [a0, a1, a2, a3, a4, a5, a6]) b K := halloc_l rfl rfl hk
theorem halloc8 (hk : K (H.length + 8) (H ++ [a0, a1, a2, a3, a4, a5, a6, a7, b])) : halloc (H ++ [a0, a1, a2, a3, a4, a5, a6, a7]) b K := halloc_l rfl rfl hk
theorem halloc_s0 (hk : K H.length (H.set i x ++ [b])) : halloc (H.set i x) b K := halloc0 List.length_set hk
theorem halloc_h (hk : K H.length (H ++ [b])) : halloc H b K := halloc0 rfl hk
end
theorem HLow.set {n r : Nat} {H : AHeap} {b : AB} (h : HLow n H) (hb : ABLow n b) : HLow n (H.set r b) := by
  intro x hx
  rcases List.mem_or_eq_of_mem_set hx with hx | rfl
  · exact h x hx
  · exact hb
theorem done_drop' {Φ : World → Prop} {n : Nat} {v : AV} {h1 h2 : AHeap} {Q : AV → AHeap → Prop} (hn : h1.length = n) (hl : HLow n h1) (hv : Low n v) (hQ : Q v h1) : ∃ v' h', FEnt Φ n v (h1 ++ h2) v' h' ∧ Q v' h' := by
  subst hn; exact ⟨v, h1, FEnt.drop (Nat.le_refl _) hl hv, hQ⟩
theorem done_here {Φ : World → Prop} {n0 : Nat} {v : AV} {h : AHeap} {Q : AV → AHeap → Prop} (hQ : Q v h) : ∃ v' h', FEnt Φ n0 v h v' h' ∧ Q v' h' := ⟨v, h, FEnt.refl _ _ _, hQ⟩
theorem sget_nat {l : List UInt8} {i : Nat} {K : UInt8 → Prop} (h : i < l.length) (hk : K l[i]) : sget l ((i : Int)).toNat K := sget_of (by simp [h]) hk
theorem i64_succ {i : Nat} (h : i + 1 ≤ 9223372036854775807) : IntKind.i64.wrap ((i : Int) + 1) = ((i + 1 : Nat) : Int) := by
  rw [wrap_i64 (by omega) (by omega)]; rfl
theorem u8_nat {i : Nat} (h : i ≤ 255) : IntKind.u8.wrap (i : Int) = (i : Int) := wrap_u8 (by omega) (by omega)
end Go.Abs
end
