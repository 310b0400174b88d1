/- A part of the proof of the card in the last text. -/
import Derived.Laws.StructEq
import Derived.Test.YtdpoipifjknhkaaGreatDoorT01
section
namespace Go.Abs
open Go.RowKit
theorem VR.cells_sto {g : Gh} {n : Nat} {w : World} {x : AV} {v : Value} (h : VR g n w x v) (hx : x.sto = true) : VRs g n w x.cells v.cells.toList ∧ ∀ u ∈ v.cells.toList, u.oneCell' = true :=
  let ⟨a, b, c⟩ := h.cells_of hx
  ⟨⟨a, b⟩, c⟩
theorem run_part {P : Program} {g : Gh} {n : Nat} {w : World} {t : TypeId} {sz : Option Nat} (ht : aggSize P t = some sz) {cs : List AV} {vs : List Value} (V : VRs g n w cs vs) (h1 : ∀ v ∈ vs, v.oneCell' = true)
    {o : Nat} {y : AV} (hy : (AV.agg cs).part o sz = some y) : ∃ u, (part t vs.toArray o).run P w = .ok u w ∧ VR g n w y u := by
  obtain ⟨d, i, hd, hi, hr⟩ := aggSize_spec ht
  cases sz with
  | none =>
    simp only [AV.part, AV.cells] at hy
    obtain ⟨u, hu, hv⟩ := V.get hy
    exact ⟨u, by simp [part, run_isAgg hd, hr.1, hu], hv⟩
  | some k =>
    obtain ⟨hle, rfl⟩ := AV.part_some hy
    replace hle : o + k ≤ cs.length := hle
    · refine ⟨.agg (((vs.drop o).take k).toArray), ?_, .agg _ _ ?_ ?_ ?_⟩
      · simp [part, run_isAgg hd, hr.1, run_sizeOf hi, hr.2]
      · have := V.1; simp [AV.cells]; omega
      · intro j a v ha hv
        have hj : j < k := by
          rcases Nat.lt_or_ge j k with h | h
          · exact h
          · rw [List.getElem?_take_eq_none h] at ha; cases ha
        rw [List.getElem?_take_of_lt hj, List.getElem?_drop] at ha hv
        exact V.2 _ a v ha hv
      · intro v hv
        exact h1 v (List.mem_of_mem_drop (List.mem_of_mem_take hv))
theorem byteArray_beq (l l' : List UInt8) : ((⟨l.toArray⟩ : ByteArray) == ⟨l'.toArray⟩) = (l == l') := by
  show (l.toArray == l'.toArray) = (l == l')
  rw [Bool.eq_iff_iff]
  simp
theorem findNow_sound {g : Gh} {n : Nat} {w : World} {d : TypeDesc} {k : AV} {kv : Value} (hk : AV.isKey (tkOf d) k = true) (V : VR g n w k kv) :
    ∀ (ents : List (AV × AV)) (es : List MapEntry) (i : Nat), ents.length = es.length →
      (∀ (j : Nat) (a v : AV), ents[j]? = some (a, v) → ∃ e : MapEntry, es[j]? = some e ∧ VR g n w a e.key ∧ VR g n w v e.val) → ∀ r, mfind ents k i = some r →
      match r with
      | none => Instr.findNow d kv es i = some none
      | some (j, v) => i ≤ j ∧ (∃ a, ents[j - i]? = some (a, v) ∧ keyEq k a = some true) ∧ ∃ u, Instr.findNow d kv es i = some (some (j, u)) ∧ VR g n w v u
  | [], es, i, hl, _, r, hr => by
    simp [mfind] at hr; subst hr
    have : es = [] := by simpa using hl.symm
    subst this; rfl
  | (a, v) :: ents, es, i, hl, hv, r, hr => by
    cases es with
    | nil => simp at hl
    | cons e es =>
      obtain ⟨e', he, ka, kv'⟩ := hv 0 a v rfl
      simp at he; subst he
      have hsame : ∀ b, keyEq k a = some b → Instr.sameNow d kv e.key = some b := by
        intro b hb
        cases d <;> simp [tkOf, AV.isKey] at hk <;> cases k <;> simp at hk <;> cases a <;> simp [keyEq] at hb <;> cases V <;> cases hkk : e.key <;> rw [hkk] at ka <;> cases ka
        all_goals first
          | (simp [Instr.sameNow, hb]; done)
          | (simp [Instr.sameNow, byteArray_beq, hb]; done)
          | (obtain ⟨h1, h2⟩ := hb; simp [Instr.sameNow, h1, h2])
      simp only [mfind] at hr
      have ih := findNow_sound hk V ents es (i + 1) (by simpa using hl) (fun j a v hj => by have := hv (j + 1) a v (by simpa using hj); simpa using this)
      split at hr
      · rename_i hq
        simp at hr; subst hr
        refine ⟨Nat.le_refl _, ⟨a, by simp, hq⟩, e.val, ?_, kv'⟩
        simp [Instr.findNow, hsame _ hq]
      · rename_i hq
        have := ih r hr
        cases r with
        | none => simpa [Instr.findNow, hsame _ hq] using this
        | some p =>
          obtain ⟨j, v'⟩ := p
          obtain ⟨h1, ⟨a', h2, h2'⟩, u, h3, h4⟩ := this
          refine ⟨by omega, ⟨a', ?_, h2'⟩, u, by simpa [Instr.findNow, hsame _ hq] using h3, h4⟩
          rw [show j - i = (j - (i + 1)) + 1 by omega]
          simpa using h2
      · cases hr
section
variable {P : Program} {Φ : World → Prop} {ρ : Option Nat} {g : Gh} {h : AHeap} {w : World} {e : Env} {a : Act} {K X : AV → AHeap → Prop} {o : Oper}
theorem own_un {t : TypeId} {x : Operand} {op : UnOp} (ho : o.op = .unOp op t x) {b : AX} (hx : compX x = some b) (R : Rel Φ g h w) (E : EnvR g h.length w e a) (hA : aop P Φ e h (.un op b) K X) : Owes P Φ ρ g h w a o K X := by
  have V := compX_sound hx E
  simp only [aop] at hA
  generalize b.ev e = bv at hA V
  generalize hxe : a.eval x = xu at V
  split at hA
  · cases V
    exact owes_pure R (u := _) (by simp [execOp, ho, hxe, Op.unary]) hA (.bool _)
  · cases V
    exact owes_pure R (u := _) (by simp [execOp, ho, hxe, Op.unary, Op.intArith]) hA (.int _ _)
  · exact hA.elim
theorem own_conv {s t : TypeId} {x : Operand} (ho : o.op = .convert s t x) {k0 k : IntKind} (hs : P.underlying s = some (.int k0)) (ht : P.underlying t = some (.int k)) {b : AX} (hx : compX x = some b) (R : Rel Φ g h w) (E : EnvR g h.length w e a)
    (hA : aop P Φ e h (.conv k b) K X) : Owes P Φ ρ g h w a o K X := by
  have V := compX_sound hx E
  simp only [aop] at hA
  generalize b.ev e = bv at hA V
  generalize hxe : a.eval x = xu at V
  split at hA
  · cases V
    exact owes_pure R (u := _) (by simp [execOp, ho, hxe, convert, run_underlying hs, run_underlying ht, Conv.intToInt]) hA (.int _ _)
  · exact hA.elim
theorem own_same {s t : TypeId} {x : Operand} (ho : o.op = .convert s t x) (hs : P.underlying s = some .string) (ht : P.underlying t = some .string) {b : AX} (hx : compX x = some b) (R : Rel Φ g h w) (E : EnvR g h.length w e a)
    (hA : aop P Φ e h (.same b) K X) : Owes P Φ ρ g h w a o K X := by
  have V := compX_sound hx E
  simp only [aop] at hA
  generalize b.ev e = bv at hA V
  generalize hxe : a.eval x = xu at V
  split at hA
  · cases V
    exact owes_pure R (u := _) (by simp [execOp, ho, hxe, convert, run_underlying hs, run_underlying ht]) hA (.str _)
  · exact hA.elim
theorem own_mkiface {t : TypeId} {x : Operand} (ho : o.op = .makeInterface t x) {d : TypeDesc} (hd : P.underlying t = some d) (hni : ∀ ms, d ≠ .interface ms) {b : AX} (hx : compX x = some b) (R : Rel Φ g h w) (E : EnvR g h.length w e a)
    (hA : aop P Φ e h (.mkiface t b) K X) : Owes P Φ ρ g h w a o K X := by
  have V := compX_sound hx E
  refine owes_pure R (u := .iface t (a.eval x)) ?_ hA (.iface t _ _ V)
  simp only [execOp, ho, Instr.makeInterface, Sem.run_bind, run_underlying hd, Result.andThen_ok]
  cases d <;> first | rfl | exact absurd rfl (hni _)
theorem own_mkfn {f : FuncId} {first cap : Array Operand} (ho : o.op = .makeFunc (.func f) first cap) {asx bs : List AX} (ha : compXs first.toList = some asx) (hb : compXs cap.toList = some bs) (R : Rel Φ g h w) (E : EnvR g h.length w e a)
    (hA : aop P Φ e h (.mkfn f asx bs) K X) : Owes P Φ ρ g h w a o K X := by
  have V := compXs_sound E ha
  have U := compXs_sound E hb
  have := VR.fn (g := g) (n := h.length) (w := w) f _ _ _ _ V.1 U.1 V.2 U.2
  refine owes_pure R (u := .func (.func f) (first.map a.eval) (cap.map a.eval)) (by simp [execOp, ho, Instr.makeFunc]) hA ?_
  have e1 : first.map a.eval = (first.toList.map a.eval).toArray := by rw [← Array.toList_map]
  have e2 : cap.map a.eval = (cap.toList.map a.eval).toArray := by rw [← Array.toList_map]
  rw [e1, e2]
  exact this
theorem own_mkmap {t : TypeId} (ho : o.op = .makeMap t none) (R : Rel Φ g h w) (hA : aop P Φ e h .mkmap K X) : Owes P Φ ρ g h w a o K X := by
  obtain ⟨R', E'⟩ := R.alloc (.map #[] 0) (.map []) 0 0 (fun _ => ⟨by rw [Gh.bind_base, Gh.bind_loc]; exact R.base, #[], 0, by rw [Gh.bind_loc]; exact Go.heap_alloc_new _ _, rfl, fun i k v h => by simp at h⟩)
  refine owes_value (u := .map (some w.heap.size)) (by simp [execOp, ho, Instr.makeMap]) hA R' ?_ E' (by simp)
  have := VR.map (g := g.bind h.length w.heap.size 0 0) (w := w.alloc (.map #[] 0)) (n := (h ++ [AB.map []]).length) h.length (by simp)
  simpa using this
theorem own_fieldAddr {s : TypeId} {x : Operand} {f : Nat} (ho : o.op = .fieldAddr s x f) {fields : Array Field} (hs : P.underlying s = some (.struct fields)) {fd : Field} (hf : fields[f]? = some fd) {n : Nat} (hn : sizeT P fd.type = some (n + 1))
    {b : AX} (hx : compX x = some b) (R : Rel Φ g h w) (E : EnvR g h.length w e a) (hA : aop P Φ e h (.fieldAddr fd.offset b) K X) : Owes P Φ ρ g h w a o K X := by
  have V := compX_sound hx E
  obtain ⟨i, hi, hin⟩ := info_of_size hn
  simp only [aop] at hA
  generalize b.ev e = bv at hA V
  generalize hxe : a.eval x = xu at V
  have hadd : ∀ (bl off : Nat), (⟨bl, off, none⟩ : Addr).add fd.offset = ⟨bl, off + fd.offset, none⟩ := by intro bl off; unfold Addr.add; split <;> simp_all
  split at hA
  · rename_i r j off
    cases V with
    | ptr _ _ _ hr =>
      refine owes_pure R (u := .pointer (some ⟨g.loc r, j * g.esz r + (off + fd.offset), none⟩)) ?_ hA (.ptr r j _ hr)
      simp [execOp, ho, hxe, Instr.fieldAt, run_underlying hs, hf, Instr.sureAddr, fieldPlace, run_sizeOf hi, hin, hadd, Nat.add_assoc]
  · rename_i v off
    cases V with
    | lptr _ _ bl of' ff h1 h2 =>
      refine owes_pure R (u := .pointer (some ⟨bl, of' + (off + fd.offset), none⟩)) ?_ hA (.lptr v _ bl of' ff h1 h2)
      simp [execOp, ho, hxe, Instr.fieldAt, run_underlying hs, hf, Instr.sureAddr, fieldPlace, run_sizeOf hi, hin, hadd, Nat.add_assoc]
  · exact hA.elim
theorem own_field {s : TypeId} {x : Operand} {f : Nat} (ho : o.op = .field s x f) {fields : Array Field} (hs : P.underlying s = some (.struct fields)) {fd : Field} (hf : fields[f]? = some fd) {sz : Option Nat} (hsz : aggSize P fd.type = some sz)
    {b : AX} (hx : compX x = some b) (R : Rel Φ g h w) (E : EnvR g h.length w e a) (hA : aop P Φ e h (.field fd.offset sz b) K X) : Owes P Φ ρ g h w a o K X := by
  have V := compX_sound hx E
  simp only [aop] at hA
  generalize b.ev e = bv at hA V
  generalize hxe : a.eval x = xu at V
  split at hA
  · split at hA
    · rename_i cs _ y hy
      cases V with
      | agg _ vs h1 h2 h3 =>
        obtain ⟨u, hu, hv⟩ := run_part (P := P) hsz ⟨h1, h2⟩ h3 hy
        exact owes_pure R (u := u) (by simp [execOp, ho, hxe, Instr.field, run_underlying hs, hf, asAgg, hu]) hA hv
    · exact hA.elim
  · exact hA.elim
theorem own_extract {x : Operand} {i : Nat} (ho : o.op = .extract x i) {b : AX} (hx : compX x = some b) (R : Rel Φ g h w) (E : EnvR g h.length w e a) (hA : aop P Φ e h (.extract b i) K X) : Owes P Φ ρ g h w a o K X := by
  have V := compX_sound hx E
  simp only [aop] at hA
  generalize b.ev e = bv at hA V
  generalize hxe : a.eval x = xu at V
  split at hA
  · split at hA
    · rename_i vs _ v hv
      cases V with
      | tup _ us h1 h2 =>
        obtain ⟨u, hu, hvu⟩ := VRs.get (⟨h1, h2⟩ : VRs g h.length w vs us) hv
        exact owes_pure R (u := u) (by simp [execOp, ho, hxe, Instr.extract, hu]) hA hvu
    · exact hA.elim
  · exact hA.elim
theorem own_byteAt {t : TypeId} {x i : Operand} (ho : o.op = .index t x i) (ht : P.underlying t = some .string) {b c : AX} (hx : compX x = some b) (hi : compX i = some c) (R : Rel Φ g h w) (E : EnvR g h.length w e a)
    (hA : aop P Φ e h (.byteAt b c) K X) : Owes P Φ ρ g h w a o K X := by
  have V := compX_sound hx E
  have U := compX_sound hi E
  simp only [aop] at hA
  generalize b.ev e = bv at hA V
  generalize c.ev e = cv at hA U
  generalize hxe : a.eval x = xu at V
  generalize hie : a.eval i = iu at U
  split at hA
  · rename_i l k nn
    obtain ⟨h0, hA⟩ := hA
    split at hA
    · rename_i bb hb
      cases V; cases U
      have hlt : nn.toNat < l.length := (List.getElem?_eq_some_iff.1 hb).1
      have hget : (ByteArray.mk l.toArray)[nn.toNat]? = some bb := by
        have hsz : nn.toNat < (ByteArray.mk l.toArray).size := by simpa [ByteArray.size] using hlt
        rw [getElem?_pos (ByteArray.mk l.toArray) nn.toNat hsz]
        have : l[nn.toNat] = bb := by have := List.getElem?_eq_getElem hlt; rw [hb] at this; exact (Option.some.inj this).symm
        rw [← this]; rfl
      exact owes_pure R (u := .int .u8 bb.toNat) (by simp [execOp, ho, hxe, hie, Instr.index, asIntOf, run_underlying ht, h0, hget]) hA (.int _ _)
    · exact hA.elim
  · exact hA.elim
theorem own_elemAddr {t t' : TypeId} {x i : Operand} (ho : o.op = .indexAddr t x i) (ht : P.underlying t = some (.slice t')) {n : Nat} (hn : sizeT P t' = some n) {b c : AX} (hx : compX x = some b) (hi : compX i = some c) (R : Rel Φ g h w) (E : EnvR g h.length w e a)
    (hA : aop P Φ e h (.elemAddr n b c) K X) : Owes P Φ ρ g h w a o K X := by
  have V := compX_sound hx E
  have U := compX_sound hi E
  obtain ⟨ti, hti, htn⟩ := info_of_size hn
  simp only [aop] at hA
  generalize b.ev e = bv at hA V
  generalize c.ev e = cv at hA U
  generalize hxe : a.eval x = xu at V
  generalize hie : a.eval i = iu at U
  have hadd : ∀ (bl off m : Nat), (⟨bl, off, none⟩ : Addr).add m = ⟨bl, off + m, none⟩ := by intro bl off m; unfold Addr.add; split <;> simp_all
  split at hA
  · rename_i sz els k nn
    obtain ⟨rfl, h0, hA⟩ := hA
    split at hA
    · rename_i v hv
      have hlt : nn.toNat < els.length := (List.getElem?_eq_some_iff.1 hv).1
      cases U
      cases V with
      | lst _ _ bl off cc ff hc q0 q1 q2 =>
        have hlt' : nn < (els.length : Int) := by omega
        refine owes_pure R (u := .pointer (some ⟨bl, off + nn.toNat * sz + 0, none⟩)) ?_ hA (.lptr v 0 bl (off + nn.toNat * sz) (ff nn.toNat) (fun j c hj => q1 _ v j c hv hj) (fun j c hj => q2 _ v j c hv hj))
        simp [execOp, ho, hxe, hie, Instr.indexAt, asIntOf, run_underlying ht, h0, hlt', run_sizeOf hti, htn, hadd]
      | lst0 _ p cc => simp at hv
    · exact hA.elim
  · rename_i r j m cap k nn
    obtain ⟨hez, h0, hlt, hA⟩ := hA
    unfold eszOf at hez
    split at hez
    · rename_i gr T ez els hr
      simp at hez; subst hez
      obtain ⟨_, hg, _⟩ := R.blk r _ hr
      cases U
      cases V with
      | sl _ _ _ _ cc hrl hm hc hk =>
        refine owes_pure R (u := .pointer (some ⟨g.loc r, (j + nn.toNat) * g.esz r + 0, none⟩)) ?_ hA (.ptr r _ 0 hrl)
        simp [execOp, ho, hxe, hie, Instr.indexAt, asIntOf, run_underlying ht, h0, hlt, run_sizeOf hti, htn, hadd, hg, Nat.add_mul]
    · cases hez
  · exact hA.elim
theorem own_cellAddr {t t' : TypeId} {len : Nat} {x i : Operand} (ho : o.op = .indexAddr t x i) (ht : P.underlying t = some (.array len t')) {n : Nat} (hn : sizeT P t' = some n) {b c : AX} (hx : compX x = some b) (hi : compX i = some c) (R : Rel Φ g h w) (E : EnvR g h.length w e a)
    (hA : aop P Φ e h (.cellAddr len n b c) K X) : Owes P Φ ρ g h w a o K X := by
  have V := compX_sound hx E
  have U := compX_sound hi E
  obtain ⟨ti, hti, htn⟩ := info_of_size hn
  simp only [aop] at hA
  generalize b.ev e = bv at hA V
  generalize c.ev e = cv at hA U
  generalize hxe : a.eval x = xu at V
  generalize hie : a.eval i = iu at U
  have hadd : ∀ (bl off m : Nat), (⟨bl, off, none⟩ : Addr).add m = ⟨bl, off + m, none⟩ := by intro bl off m; unfold Addr.add; split <;> simp_all
  split at hA
  · rename_i r j off k nn
    obtain ⟨h0, hlt, hA⟩ := hA
    cases U
    cases V with
    | ptr _ _ _ hrl =>
      refine owes_pure R (u := .pointer (some ⟨g.loc r, j * g.esz r + (off + nn.toNat * n), none⟩)) ?_ hA (.ptr r _ _ hrl)
      simp [execOp, ho, hxe, hie, Instr.indexAt, asIntOf, run_underlying ht, Instr.sureAddr, h0, hlt, run_sizeOf hti, htn, hadd, Nat.add_assoc]
  · rename_i v off k nn
    obtain ⟨h0, hlt, hA⟩ := hA
    cases U
    cases V with
    | lptr _ _ bl of' ff h1 h2 =>
      refine owes_pure R (u := .pointer (some ⟨bl, of' + (off + nn.toNat * n), none⟩)) ?_ hA (.lptr v _ bl of' ff h1 h2)
      simp [execOp, ho, hxe, hie, Instr.indexAt, asIntOf, run_underlying ht, Instr.sureAddr, h0, hlt, run_sizeOf hti, htn, hadd, Nat.add_assoc]
  · exact hA.elim
theorem own_arrAt {t t' : TypeId} {len : Nat} {x i : Operand} (ho : o.op = .index t x i) (ht : P.underlying t = some (.array len t')) {n : Nat} (hn : sizeT P t' = some n) {sz : Option Nat} (hsz : aggSize P t' = some sz) {b c : AX} (hx : compX x = some b) (hi : compX i = some c)
    (R : Rel Φ g h w) (E : EnvR g h.length w e a) (hA : aop P Φ e h (.arrAt len n sz b c) K X) : Owes P Φ ρ g h w a o K X := by
  have V := compX_sound hx E
  have U := compX_sound hi E
  obtain ⟨ti, hti, htn⟩ := info_of_size hn
  simp only [aop] at hA
  generalize b.ev e = bv at hA V
  generalize c.ev e = cv at hA U
  generalize hxe : a.eval x = xu at V
  generalize hie : a.eval i = iu at U
  split at hA
  · rename_i cs k nn
    obtain ⟨h0, hlt, hA⟩ := hA
    split at hA
    · rename_i y hy
      cases U
      cases V with
      | agg _ vs h1 h2 h3 =>
        obtain ⟨u, hu, hv⟩ := run_part (P := P) hsz ⟨h1, h2⟩ h3 hy
        exact owes_pure R (u := u) (by simp [execOp, ho, hxe, hie, Instr.index, asIntOf, run_underlying ht, h0, hlt, run_sizeOf hti, htn, hu]) hA hv
    · exact hA.elim
  · exact hA.elim
theorem own_panic {x : Operand} (ho : o.op = .panic x) {b : AX} (hx : compX x = some b) (R : Rel Φ g h w) (E : EnvR g h.length w e a) (hA : aop P Φ e h (.panic b) K X) : Owes P Φ ρ g h w a o K X := by
  have V := compX_sound hx E
  simp only [aop] at hA
  generalize b.ev e = bv at hA V
  generalize hxe : a.eval x = xu at V
  split at hA
  · intro next Q hK hX
    have hr : (execOp a.eval o).run P w = .halt (.panic xu) w := by cases V; simp [execOp, ho, hxe, Instr.panic]
    rw [hr]
    exact hX _ h g w xu hA R V (Ext.refl _ _ _) (Nat.le_refl _)
  · exact hA.elim
theorem own_callF {f : FuncId} {args : Array Operand} {at_ : Array TypeId} (ho : o.op = .call { callee := .value (.func f), args, argTypes := at_ }) {asx : List AX} (ha : compXs args.toList = some asx) (R : Rel Φ g h w) (E : EnvR g h.length w e a)
    (hA : aop P Φ e h (.callF f asx) K X) : Owes P Φ ρ g h w a o K X := by
  have V := compXs_sound E ha
  obtain ⟨⟨fn, hf, hn, hb⟩, hS⟩ := hA
  intro next Q hK hX
  have hr : (execOp a.eval o).run P w = .ok (.enter f (args.toList.map a.eval).toArray) w := by
    simp only [execOp, ho, resolve, Act.eval, Deferred.ofValue, Sem.run_bind, Sem.run_pure, Result.andThen_ok, invoke, callFunc, run_program, hf, hn, hb, Bool.false_eq_true, if_false]
    simp [← Array.toList_map]
  rw [hr]
  refine ⟨(fun h => by cases h), callsIn_fw ((hS g w _ R V).mono ?_)⟩
  rintro en w' ⟨g', h', r, hq, R', hE, hx, hl⟩
  cases r with
  | ret v =>
    cases en with
    | returned u => exact hK v h' g' w' u hq R' hE hx hl
    | panicked c => exact hE.elim
    | outgrown => exact hE.elim
  | pan v =>
    cases en with
    | returned u => exact hE.elim
    | panicked c => obtain ⟨u, rfl, hv⟩ := hE; exact hX v h' g' w' u hq R' hv hx hl
    | outgrown => exact hE.elim
theorem own_callV {x : Operand} {args : Array Operand} {at_ : Array TypeId} (ho : o.op = .call { callee := .value x, args, argTypes := at_ }) {b : AX} (hx : compX x = some b) {asx : List AX} (ha : compXs args.toList = some asx) (R : Rel Φ g h w) (E : EnvR g h.length w e a)
    (hA : aop P Φ e h (.callV b asx) K X) : Owes P Φ ρ g h w a o K X := by
  have V := compXs_sound E ha
  have U := compX_sound hx E
  simp only [aop] at hA
  generalize b.ev e = bv at hA U
  generalize hxe : a.eval x = xu at U
  split at hA
  · rename_i f fs cs
    cases U with
    | fn _ _ _ vs us h1 h2 h3 h4 =>
      obtain ⟨⟨fn, hf, hn, hb⟩, hS⟩ := hA
      intro next Q hK hX
      have hr : (execOp a.eval o).run P w = .ok (.enter f (vs ++ args.toList.map a.eval ++ us).toArray) w := by
        simp only [execOp, ho, resolve, hxe, Deferred.ofValue, Sem.run_bind, Sem.run_pure, Result.andThen_ok, invoke, callFunc, run_program, hf, hn, hb, Bool.false_eq_true, if_false]
        simp [← Array.toList_map]
      rw [hr]
      have hV : VRs g h.length w (fs ++ asx.map (AX.ev e) ++ cs) (vs ++ args.toList.map a.eval ++ us) := VRs.append (VRs.append ⟨h1, h3⟩ V) ⟨h2, h4⟩
      refine ⟨(fun h => by cases h), callsIn_fw ((hS g w _ R hV).mono ?_)⟩
      rintro en w' ⟨g', h', r, hq, R', hE, hx, hl⟩
      cases r with
      | ret v =>
        cases en with
        | returned u => exact hK v h' g' w' u hq R' hE hx hl
        | panicked c => exact hE.elim
        | outgrown => exact hE.elim
      | pan v =>
        cases en with
        | returned u => exact hE.elim
        | panicked c => obtain ⟨u, rfl, hv⟩ := hE; exact hX v h' g' w' u hq R' hv hx hl
        | outgrown => exact hE.elim
  · rename_i r
    cases U with
    | yld _ hrn =>
      intro next Q hK hX
      obtain ⟨f, tmps, assign, body, hy, hR⟩ := hA.run ρ g w _ R V
      have hr : (execOp a.eval o).run P w = .ok (.round (g.loc r) f tmps assign body) w := by
        have hm : Array.map a.eval args = (args.toList.map a.eval).toArray := by simp [← Array.toList_map]
        simp only [execOp, ho, resolve, hxe, Deferred.ofValue, Sem.run_bind, Sem.run_pure, Result.andThen_ok, invoke, hm]
        simpa using hy
      rw [hr]
      refine ⟨(fun h => by cases h), RoundIn.mono hR ?_⟩
      rintro en w' ⟨g', h', r, hq, R', hE, hx, hl⟩
      cases r with
      | ret v =>
        cases en with
        | returned u => exact hK v h' g' w' u hq R' hE hx hl
        | panicked c => exact hE.elim
        | outgrown => exact hE.elim
      | pan v =>
        cases en with
        | returned u => exact hE.elim
        | panicked c => obtain ⟨u, rfl, hv⟩ := hE; exact hX v h' g' w' u hq R' hv hx hl
        | outgrown => exact hE.elim
  · exact hA.elim
end
end Go.Abs
end
section
namespace Go.Abs
open Go.RowKit
theorem run_equal_bool {P : Program} {w : World} {t : TypeId} (hd : P.underlying t = some .bool) (a b : Bool) : (Op.equal t (.bool a) (.bool b)).run P w = .ok (a == b) w := by
  obtain ⟨d', hd'⟩ : ∃ d', Op.maxDepth = d' + 1 := ⟨9999, rfl⟩
  unfold Op.equal
  rw [hd']
  simp only [Op.equalIn, Sem.run_bind, run_underlying hd, Result.andThen_ok, Sem.run_pure]
theorem run_equal_nil {P : Program} {g : Gh} {n : Nat} {w : World} {d : TypeDesc} {t : TypeId} (hd : P.underlying t = some d) {xv yv : AV} {u v : Value} (V : VR g n w xv u) (U : VR g n w yv v)
    (hy : yv.isNil (tkOf d) = some true) (b : Bool) (hb : xv.isNil (tkOf d) = some b) : (Op.equal t u v).run P w = .ok b w := by
  obtain ⟨d', hd'⟩ : ∃ d', Op.maxDepth = d' + 1 := ⟨9999, rfl⟩
  unfold Op.equal
  rw [hd']
  cases d <;> simp only [tkOf] at hy hb <;> cases yv <;> simp [AV.isNil] at hy <;> cases U <;> cases xv <;> simp [AV.isNil] at hb <;> subst hb <;> cases V <;>
    simp only [Op.equalIn, Sem.run_bind, run_underlying hd, Result.andThen_ok, Sem.run_pure, Option.isNone]
theorem abin_sound {P : Program} {g : Gh} {n : Nat} {w : World} {d : TypeDesc} {t : TypeId} (hd : P.underlying t = some d) {op : BinOp} {xv yv : AV} {u v : Value} (V : VR g n w xv u) (U : VR g n w yv v) {K : AV → Prop}
    (h : abin (tkOf d) op xv yv K) (X Y : Operand) : ∃ r ur, (eqGuard op t X Y u v).run P w = .ok () w ∧ (binOp op t u v).run P w = .ok ur w ∧ VR g n w r ur ∧ K r := by
  unfold abin at h
  split at h
  · rename_i k a k' b
    cases V; cases U
    have hg : ∀ op : BinOp, ∀ k a k' b, (eqGuard op t X Y (.int k a) (.int k' b)).run P w = .ok () w := by intro op k a k' b; cases op <;> rfl
    cases hs : BinOp.isShift op with
    | true =>
      rw [hs] at h
      simp only [cond_true] at h
      have hb : ¬ b < 0 := by omega
      cases op <;> simp only [BinOp.isShift, Bool.false_eq_true] at hs
      · exact ⟨_, _, hg _ _ _ _ _, by simp [binOp, Op.shift, hb, shiftI], .int _ _, h.2⟩
      · exact ⟨_, _, hg _ _ _ _ _, by simp [binOp, Op.shift, hb, shiftI], .int _ _, h.2⟩
    | false =>
      rw [hs] at h
      simp only [cond_false] at h
      obtain ⟨rfl, h⟩ := h
      split at h
      all_goals first
        | (refine ⟨_, _, hg _ _ _ _ _, ?_, .int _ _, h⟩; simp [binOp, Op.intArith, Op.intBits, bitsI]; done)
        | exact ⟨_, _, hg _ _ _ _ _, by simp [binOp, Op.intDiv, h.1], .int _ _, h.2⟩
        | exact ⟨_, _, hg _ _ _ _ _, by simp [binOp, Op.intCmp], .bool _, h⟩
        | exact h.elim
  · rename_i a b
    cases V; cases U
    have hg : ∀ op : BinOp, ∀ a b, (eqGuard op t X Y (.string a) (.string b)).run P w = .ok () w := by intro op a b; cases op <;> rfl
    split at h
    · obtain ⟨h1, h⟩ := h
      refine ⟨_, _, hg _ _ _, ?_, .str _, h⟩
      have h2 : (ByteArray.mk a.toArray).size + (ByteArray.mk b.toArray).size ≤ 9223372036854775807 := by simpa [ByteArray.size] using h1
      have := run_string_add_sum (P := P) (w := w) _ _ h2
      rw [ByteArray.mk_append_mk] at this
      simpa [binOp] using this
    all_goals first
      | exact ⟨_, _, hg _ _ _, by simp [binOp, Op.stringOp], .bool _, h⟩
      | exact h.elim
  · rename_i a b
    cases V; cases U
    have hg : ∀ op : BinOp, ∀ a b, (eqGuard op t X Y (.bool a) (.bool b)).run P w = .ok () w := by intro op a b; cases op <;> rfl
    split at h
    · rename_i ht
      have : d = .bool := by cases d <;> simp [tkOf] at ht; rfl
      subst this
      exact ⟨_, _, hg _ _ _, by simp [binOp, run_equal_bool hd], .bool _, h⟩
    · rename_i ht
      have : d = .bool := by cases d <;> simp [tkOf] at ht; rfl
      subst this
      exact ⟨_, _, hg _ _ _, by simp [binOp, run_equal_bool hd], .bool _, h⟩
    · exact h.elim
  · exact h.elim
theorem abinNil_sound {P : Program} {g : Gh} {n : Nat} {w : World} {d : TypeDesc} {t : TypeId} (hd : P.underlying t = some d) {op : BinOp} {xv yv : AV} {u v : Value} (V : VR g n w xv u) (U : VR g n w yv v) (hy : yv.isNil (tkOf d) = some true) {K : AV → Prop}
    (h : abinNil (tkOf d) op xv K) (X Y : Operand) (hY : ∃ c, Y = .const c) : ∃ r ur, (eqGuard op t X Y u v).run P w = .ok () w ∧ (binOp op t u v).run P w = .ok ur w ∧ VR g n w r ur ∧ K r := by
  obtain ⟨c, rfl⟩ := hY
  have key : ∀ b, xv.isNil (tkOf d) = some b → (eqGuard op t X (.const c) u v).run P w = .ok () w ∧ (Op.equal t u v).run P w = .ok b w := by
    intro b hb
    refine ⟨?_, run_equal_nil hd V U hy b hb⟩
    cases d <;> simp only [tkOf] at hy hb <;> cases yv <;> simp [AV.isNil] at hy <;> cases U <;> cases xv <;> simp [AV.isNil] at hb <;> cases V <;> cases op <;> simp [eqGuard]
  unfold abinNil at h
  split at h
  · rename_i b hb
    obtain ⟨k1, k2⟩ := key b hb
    refine ⟨_, _, k1, ?_, .bool b, h⟩
    cases d <;> simp only [tkOf] at hy hb <;> cases yv <;> simp [AV.isNil] at hy <;> cases U <;> cases xv <;> simp [AV.isNil] at hb <;> subst hb <;> cases V <;> simp [binOp, k2]
  · rename_i b hb
    obtain ⟨k1, k2⟩ := key b hb
    refine ⟨_, _, k1, ?_, .bool (!b), h⟩
    cases d <;> simp only [tkOf] at hy hb <;> cases yv <;> simp [AV.isNil] at hy <;> cases U <;> cases xv <;> simp [AV.isNil] at hb <;> subst hb <;> cases V <;> simp [binOp, k2]
  · exact h.elim
theorem compX_val_nil {x : Operand} {v : AV} {tk : TK} (h : compX x = some (.val v)) (hv : v.isNil tk = some true) : ∃ c, x = .const c := by
  cases x with
  | tmp t => simp [compX] at h
  | const c => exact ⟨c, rfl⟩
  | global _ => simp [compX] at h
  | func f => simp [compX] at h; subst h; cases tk <;> simp [AV.isNil] at hv
section
variable {P : Program} {Φ : World → Prop} {ρ : Option Nat} {g : Gh} {h : AHeap} {w : World} {e : Env} {a : Act} {K X : AV → AHeap → Prop} {o : Oper}
theorem own_bin {op : BinOp} {t yt : TypeId} {x y : Operand} (ho : o.op = .binOp op t x y yt) {d : TypeDesc} (hd : P.underlying t = some d) {b c : AX} (hx : compX x = some b) (hy : compX y = some c) (R : Rel Φ g h w) (E : EnvR g h.length w e a)
    (hA : aop P Φ e h (.bin (tkOf d) op b c) K X) : Owes P Φ ρ g h w a o K X := by
  have V := compX_sound hx E
  have U := compX_sound hy E
  have fin : (∃ r ur, (eqGuard op t x y (a.eval x) (a.eval y)).run P w = .ok () w ∧ (binOp op t (a.eval x) (a.eval y)).run P w = .ok ur w ∧ VR g h.length w r ur ∧ K r h) → Owes P Φ ρ g h w a o K X := by
    rintro ⟨r, ur, h1, h2, h3, h4⟩
    exact owes_pure R (u := ur) (by simp [execOp, ho, h1, h2]) h4 h3
  cases c with
  | val v =>
    simp only [aop] at hA
    split at hA
    · rename_i hn
      exact fin (abinNil_sound hd V U hn hA x y (compX_val_nil hy hn))
    · exact fin (abin_sound hd V U hA x y)
  | tmp s => exact fin (abin_sound (K := fun r => K r h) hd V U (show abin (tkOf d) op (b.ev e) (e.get s) (fun r => K r h) from hA) x y)
theorem keyEq_run {P : Program} {g : Gh} {n : Nat} {w : World} {t : TypeId} {d : TypeDesc} (hd : P.underlying t = some d) {a b : AV} {u v : Value} (V : VR g n w a u) (U : VR g n w b v) {r : Bool} (hk : keyEq a b = some r) (ha : a.isKey (tkOf d) = true) (m : Nat) :
    (Op.equalIn (m + 1) t u v).run P w = .ok r w := by
  unfold keyEq at hk
  split at hk
  · cases hk; cases V; cases U
    have hd' : P.underlying t = some .string := by cases d <;> simp [tkOf, AV.isKey] at ha; exact hd
    rw [run_equalIn_string w m t _ _ hd']
    simp [ByteArray.toList_eq]
  · rename_i k a k' b
    by_cases hkk : k = k'
    · subst hkk
      rw [if_pos rfl] at hk; cases hk; cases V; cases U
      obtain ⟨q, hd'⟩ : ∃ q, P.underlying t = some (.int q) := by cases d <;> simp [tkOf, AV.isKey] at ha; exact ⟨_, hd⟩
      exact run_equalIn_int w m t k q _ _ hd'
    · rw [if_neg hkk] at hk; cases hk
  · cases hk; cases V; cases U
    have : d = .bool := by cases d <;> simp [tkOf, AV.isKey] at ha; rfl
    subst this
    exact run_equalIn_bool' w m t _ _ hd
  · cases hk
theorem run_part_one {P : Program} {w : World} {t : TypeId} {d : TypeDesc} (hd : P.underlying t = some d) (hr : isRowD d = false) {cs : Array Value} {o : Nat} {v : Value} (h : cs[o]? = some v) : (part t cs o).run P w = .ok v w := by
  simp [part, run_isAgg hd, hr, h]
theorem eqFields_run {P : Program} {g : Gh} {n : Nat} {w : World} (m : Nat) {asx bs : List AV} {us vs : List Value} (V : VRs g n w asx us) (U : VRs g n w bs vs) : ∀ (fs : List Field) (i : Nat) (tks : List TK) (r : Bool), flatFields P fs i = some tks → cellsEq tks (asx.drop i) (bs.drop i) = some r →
    (Op.eqFields (m + 1) us.toArray vs.toArray fs).run P w = .ok r w
  | [], i, tks, r, hf, hc => by
    simp [flatFields] at hf; subst hf
    have : r = true := by
      cases h1 : asx.drop i <;> cases h2 : bs.drop i <;> rw [h1, h2] at hc <;> simp [cellsEq] at hc
      first | exact hc.symm | exact hc
    subst this; rfl
  | f :: fs, i, tks, r, hf, hc => by
    unfold flatFields at hf
    split at hf
    · rename_i hn
      simp only [Bool.and_eq_true] at hn
      have hoff : f.offset = i := Nat.eq_of_beq_eq_true hn.2
      have hname : f.name ≠ "_" := by simpa using hn.1
      have key : ∀ (d : TypeDesc) (l : List TK), P.underlying f.type = some d → isRowD d = false → flatFields P fs (i + 1) = some l → cellsEq (tkOf d :: l) (asx.drop i) (bs.drop i) = some r → (Op.eqFields (m + 1) us.toArray vs.toArray (f :: fs)).run P w = .ok r w := by
        intro d l hd hrow hl hc
        cases ha : asx.drop i with
        | nil => rw [ha] at hc; simp [cellsEq] at hc
        | cons a as' =>
          cases hb : bs.drop i with
          | nil => rw [ha, hb] at hc; simp [cellsEq] at hc
          | cons b bs' =>
            rw [ha, hb] at hc
            simp only [cellsEq] at hc
            have ha0 : asx[i]? = some a := by have := congrArg (·[0]?) ha; simpa using this
            have hb0 : bs[i]? = some b := by have := congrArg (·[0]?) hb; simpa using this
            have ha1 : as' = asx.drop (i + 1) := by rw [← List.drop_drop (i := 1) (j := i) (l := asx)] ; rw [ha]; rfl
            have hb1 : bs' = bs.drop (i + 1) := by rw [← List.drop_drop (i := 1) (j := i) (l := bs)] ; rw [hb]; rfl
            cases hk : a.isKey (tkOf d) with
            | false => rw [hk] at hc; cases hc
            | true =>
              rw [hk] at hc
              simp only [cond_true] at hc
              split at hc
              · rename_i t u ht hu
                cases hc
                obtain ⟨x, hx, hxv⟩ := V.get ha0
                obtain ⟨y, hy, hyv⟩ := U.get hb0
                have e1 := run_part_one (P := P) (w := w) hd hrow (cs := us.toArray) (o := f.offset) (v := x) (by rw [hoff]; simpa using hx)
                have e2 := run_part_one (P := P) (w := w) hd hrow (cs := vs.toArray) (o := f.offset) (v := y) (by rw [hoff]; simpa using hy)
                have e3 := keyEq_run hd hxv hyv ht hk m
                have ih := eqFields_run m V U fs (i + 1) l u hl (by rw [← ha1, ← hb1]; exact hu)
                simp only [Op.eqFields, if_pos hname, ne_eq, hname, not_false_eq_true, if_true, Sem.run_bind, e1, e2, e3, Result.andThen_ok]
                cases t with
                | true => simpa using ih
                | false => simp
              · cases hc
      split at hf
      · rename_i q l h1 h2 h3; cases hf; exact key _ _ h1 rfl h3 hc
      · rename_i q l h1 h2 h3; cases hf; exact key _ _ h1 rfl h3 hc
      · rename_i q l h1 h2 h3; cases hf; exact key _ _ h1 rfl h3 hc
      · cases hf
    · cases hf
theorem own_aggeq {op : BinOp} {neg : Bool} {t yt : TypeId} {x y : Operand} (ho : o.op = .binOp op t x y yt) {fields : Array Field} (hd : P.underlying t = some (.struct fields)) {tks : List TK} (hf : flatEq P t fields.toList = some tks) (hop : op = bif neg then .neq else .eql) {b c : AX} (hx : compX x = some b) (hy : compX y = some c)
    (R : Rel Φ g h w) (E : EnvR g h.length w e a) (hA : aop P Φ e h (.aggeq neg tks b c) K X) : Owes P Φ ρ g h w a o K X := by
  have V := compX_sound hx E
  have U := compX_sound hy E
  simp only [aop] at hA
  generalize b.ev e = bv at hA V
  generalize c.ev e = cv at hA U
  generalize hxe : a.eval x = xu at V
  generalize hye : a.eval y = yu at U
  unfold flatEq at hf
  split at hf
  · rename_i hst
    simp only [Bool.and_eq_true, Bool.not_eq_true'] at hst
    split at hA
    · rename_i asx bs
      split at hA
      · rename_i r hr
        cases V with
        | agg _ us h1 h2 h3 =>
          cases U with
          | agg _ vs k1 k2 k3 =>
            have hfo : P.underlying t = some (.struct (P.fieldsOf t)) := by simp [Program.fieldsOf, hd]
            have hfe : P.fieldsOf t = fields := by simp [Program.fieldsOf, hd]
            have hrun := run_equalIn_struct w 9999 t us.toArray vs.toArray hfo hst.1
            rw [hfe, eqFields_run 9998 ⟨h1, h2⟩ ⟨k1, k2⟩ fields.toList 0 tks r hf (by simpa using hr)] at hrun
            have hg := run_eqGuard_agg w op t x y us.toArray vs.toArray hst.2
            refine owes_pure R (u := .bool (bif neg then !r else r)) ?_ hA (.bool _)
            cases neg with
            | false => simp only [cond_false] at hop; subst hop; simp [execOp, ho, hxe, hye, hg, run_eql_struct, hrun]
            | true => simp only [cond_true] at hop; subst hop; simp [execOp, ho, hxe, hye, hg, run_neq_struct, hrun]
      · exact hA.elim
    · exact hA.elim
  · cases hf
theorem foldl_set_list (off : Nat) : ∀ (vs : List Value) (k : Nat) (cs : Array Value), off + k + vs.length ≤ cs.size →
    ((vs.zipIdx k).foldl (fun cs (x : Value × Nat) => cs.setIfInBounds (off + x.2) x.1) cs).toList = cs.toList.take (off + k) ++ vs ++ cs.toList.drop (off + k + vs.length)
  | [], k, cs, h => by simp
  | v :: vs, k, cs, h => by
    simp only [List.zipIdx_cons, List.foldl_cons]
    rw [foldl_set_list off vs (k + 1) _ (by simp at h ⊢; omega)]
    have e := list_seg_step cs.toList (off + k) v vs (by simp at h ⊢; omega)
    simpa [Array.toList_setIfInBounds, Nat.add_assoc] using e
theorem fold_set (off : Nat) (v : Value) (cs : Array Value) (h : off + v.cells.size ≤ cs.size) :
    (v.cells.zipIdx.foldl (fun cs (x : Value × Nat) => cs.setIfInBounds (off + x.2) x.1) cs).toList = cs.toList.take off ++ v.cells.toList ++ cs.toList.drop (off + v.cells.size) := by
  rw [← Array.foldl_toList, Array.toList_zipIdx, foldl_set_list off v.cells.toList 0 cs (by simpa using h)]
  simp
theorem fill_sound {n : Nat} {place : Nat → Option (Nat × Nat)} (E : EnvR g n w e a) : ∀ {parts : List (Nat × Operand)} {ps : List (Nat × Nat × AX)}, partsOf place parts = some ps →
    ∀ {z cells : List AV} {zs : List Value}, VRs g n w z zs → (∀ v ∈ zs, v.oneCell' = true) → afill z (ps.map fun p => (p.1, p.2.1, p.2.2.ev e)) = some cells →
    ∃ cs, Instr.fill place zs.toArray (parts.map fun p => (p.1, a.eval p.2)) = some cs.toArray ∧ VRs g n w cells cs ∧ ∀ v ∈ cs, v.oneCell' = true
  | [], ps, hp, z, cells, zs, V, h1, hf => by
    simp [partsOf] at hp; subst hp
    simp [afill] at hf; subst hf
    exact ⟨zs, rfl, V, h1⟩
  | (i, x) :: parts, ps, hp, z, cells, zs, V, h1, hf => by
    simp only [partsOf] at hp
    split at hp
    · rename_i off m b asx hpl hx hps
      simp at hp; subst hp
      simp only [List.map_cons, afill] at hf
      split at hf
      · rename_i hc
        obtain ⟨hs, hm, hle⟩ := hc
        have U := compX_sound hx E
        obtain ⟨c1, c2⟩ := U.cells_sto hs
        have hl := c1.1
        have hsz : (a.eval x).cells.size = m := by rw [← hm, hl]; simp
        have hfit : off + (a.eval x).cells.size ≤ zs.toArray.size := by have := V.1; simp; omega
        have hset := fold_set off (a.eval x) zs.toArray hfit
        have hset' : (a.eval x).cells.zipIdx.foldl (fun cs (x : Value × Nat) => cs.setIfInBounds (off + x.2) x.1) zs.toArray =
            (zs.take off ++ (a.eval x).cells.toList ++ zs.drop (off + m)).toArray := by
          apply Array.ext'
          rw [hset, hsz]
        have V' : VRs g n w (z.take off ++ (b.ev e).cells ++ z.drop (off + m)) (zs.take off ++ (a.eval x).cells.toList ++ zs.drop (off + m)) := by
          refine VRs.append (VRs.append ⟨by simp [V.1], fun j y v hy hv => ?_⟩ c1) ⟨by simp [V.1], fun j y v hy hv => ?_⟩
          · have hj : j < off := by
              rcases Nat.lt_or_ge j off with h | h
              · exact h
              · rw [List.getElem?_take_eq_none h] at hy; cases hy
            rw [List.getElem?_take_of_lt hj] at hy hv
            exact V.2 j y v hy hv
          · rw [List.getElem?_drop] at hy hv
            exact V.2 _ y v hy hv
        have h1' : ∀ v ∈ zs.take off ++ (a.eval x).cells.toList ++ zs.drop (off + m), v.oneCell' = true := by
          intro v hv
          simp only [List.mem_append] at hv
          rcases hv with (hv | hv) | hv
          · exact h1 v (List.mem_of_mem_take hv)
          · exact c2 v hv
          · exact h1 v (List.mem_of_mem_drop hv)
        obtain ⟨cs, k1, k2, k3⟩ := fill_sound E hps V' h1' hf
        refine ⟨cs, ?_, k2, k3⟩
        simp only [List.map_cons, Instr.fill, hpl, hsz, ne_eq, not_true_eq_false, decide_false, Bool.false_or, decide_eq_true_eq]
        rw [if_neg (by have := V.1; simp; omega), hset', k1]
      · cases hf
    · cases hp
theorem run_places : ∀ {fields : List Field} {l : List (Nat × Nat)}, placesOf P fields = some l → (fields.mapM fun f => do pure (f.offset, ← sizeOf f.type) : Sem (List (Nat × Nat))).run P w = .ok l w
  | [], l, h => by simp [placesOf] at h; subst h; rfl
  | f :: fs, l, h => by
    simp only [placesOf] at h
    split at h
    · rename_i n l' h1 h2
      simp at h; subst h
      obtain ⟨i, hi, rfl⟩ := info_of_size h1
      have := run_places h2
      simp only [List.mapM_cons, Sem.run_bind, run_sizeOf hi, Result.andThen_ok, Sem.run_pure]
      rw [this]; rfl
    · cases h
theorem ofConst_cells {v : Value} {z : AV} (h : ofConst v = some z) (g : Gh) (n : Nat) (w : World) : VRs g n w z.cells v.cells.toList ∧ ∀ u ∈ v.cells.toList, u.oneCell' = true :=
  (ofConst_sound h g n w).1.cells_sto (ofConst_sound h g n w).2
theorem own_build {t : TypeId} {parts : Array (Nat × Operand)} (ho : o.op = .build t parts) {ao : AOp} (hc : compOp P o.op = some ao) (R : Rel Φ g h w) (E : EnvR g h.length w e a) (hA : aop P Φ e h ao K X) : Owes P Φ ρ g h w a o K X := by
  rw [ho] at hc
  have fin : ∀ (z : AV) (v : Value) (place : Nat → Option (Nat × Nat)) (ps : List (Nat × Nat × AX)), ofConst v = some z → partsOf place parts.toList = some ps → aop P Φ e h (.build z.cells ps) K X →
      (∀ cs, Instr.fill place v.cells (parts.map fun p => (p.1, a.eval p.2)).toList = some cs → (execOp a.eval o).run P w = .ok (.value (.agg cs)) w) → Owes P Φ ρ g h w a o K X := by
    intro z v place ps hv hp hA hr
    obtain ⟨V, h1⟩ := ofConst_cells hv g h.length w
    simp only [aop] at hA
    split at hA
    · rename_i cells hf
      obtain ⟨cs, k1, k2, k3⟩ := fill_sound E hp V h1 hf
      refine owes_pure R (hr cs.toArray ?_) hA (.agg cells cs k2.1 k2.2 k3)
      rw [← k1]
      simp
    · exact hA.elim
  simp only [compOp] at hc
  split at hc
  · rename_i fields z hu hz
    obtain ⟨i, v, hi, hv, hcv⟩ := zeroT_spec hz
    split at hc
    · rename_i places hpl
      cases hps : partsOf (places[·]?) parts.toList with
      | none => simp [hps] at hc
      | some ps =>
        simp [hps] at hc; subst hc
        refine fin z v _ ps hcv hps hA fun cs hcs => ?_
        have hm : (fields.mapM fun f => do pure (f.offset, ← sizeOf f.type) : Sem (Array (Nat × Nat))).run P w = .ok places.toArray w := by
          rw [Array.mapM_eq_mapM_toList, Sem.run_map, run_places hpl]; rfl
        have hcs' : Instr.fill (fun x => places[x]?) v.cells (parts.map fun p => (p.1, a.eval p.2)).toList = some cs := hcs
        have hmm : (Array.map (fun x : Nat × Operand => (x.1, a.eval x.2)) parts) = parts.map fun p => (p.1, a.eval p.2) := rfl
        simp only [execOp, ho, Instr.build, Sem.run_bind, zeroValue, typeInfo, run_program, Result.andThen_ok, hi, hv, Sem.run_pure, run_underlying hu, hm]
        have hg : (fun x : Nat => places.toArray[x]?) = fun x => places[x]? := by funext x; simp
        rw [hg]
        simp only [hcs', Sem.run_pure, Result.andThen_ok]
    · cases hc
  · rename_i len elem z hu hz
    obtain ⟨i, v, hi, hv, hcv⟩ := zeroT_spec hz
    split at hc
    · rename_i n hn
      obtain ⟨j, hj, rfl⟩ := info_of_size hn
      cases hps : partsOf (fun i => some (i * j.size, j.size)) parts.toList with
      | none => simp [hps] at hc
      | some ps =>
        simp [hps] at hc; subst hc
        refine fin z v _ ps hcv hps hA fun cs hcs => ?_
        simp only [execOp, ho, Instr.build, Sem.run_bind, zeroValue, typeInfo, run_program, Result.andThen_ok, hi, hv, Sem.run_pure, run_underlying hu, run_sizeOf hj, hcs]
    · cases hc
  · cases hc
end
end Go.Abs
end
section
namespace Go.Abs
open Go.RowKit
theorem flat_get {n : Nat} : ∀ {vs : List Value}, (∀ v ∈ vs, v.cells.size = n) → ∀ (i j : Nat) (v : Value), vs[i]? = some v → j < n → (vs.flatMap fun v => v.cells.toList)[i * n + j]? = v.cells.toList[j]?
  | [], _, i, j, v, h, _ => by simp at h
  | u :: vs, hs, i, j, v, h, hj => by
    simp only [List.flatMap_cons]
    have hu : u.cells.toList.length = n := by simpa using hs u (by simp)
    cases i with
    | zero =>
      simp at h; subst h
      rw [List.getElem?_append_left (by omega)]
      simp
    | succ i =>
      simp at h
      rw [List.getElem?_append_right (by rw [hu, Nat.add_mul]; omega), hu, show (i + 1) * n + j - n = i * n + j by rw [Nat.add_mul]; omega]
      exact flat_get (fun v hv => hs v (by simp [hv])) i j v h hj
theorem flat_length {n : Nat} : ∀ {vs : List Value}, (∀ v ∈ vs, v.cells.size = n) → (vs.flatMap fun v => v.cells.toList).length = vs.length * n
  | [], _ => by simp
  | u :: vs, hs => by
    have := flat_length (n := n) (vs := vs) fun v hv => hs v (by simp [hv])
    simp only [List.flatMap_cons, List.length_append, this, List.length_cons, Array.length_toList, hs u (by simp), Nat.add_mul]
    omega
section
variable {P : Program} {Φ : World → Prop} {ρ : Option Nat} {g : Gh} {h : AHeap} {w : World} {e : Env} {a : Act} {K X : AV → AHeap → Prop} {o : Oper}
theorem inOrder_sound {n : Nat} (E : EnvR g n w e a) : ∀ {parts : List (Nat × Operand)} {i : Nat} {els : List AX}, inOrder i parts = some els →
    VRs g n w (els.map (AX.ev e)) (parts.map fun p => a.eval p.2) ∧ (parts.map (·.1)) = List.range' i parts.length
  | [], i, els, h => by simp [inOrder] at h; subst h; exact ⟨.nil, rfl⟩
  | (j, x) :: parts, i, els, h => by
    simp only [inOrder] at h
    split at h
    · rename_i hj
      subst hj
      split at h
      · rename_i b bs h1 h2
        simp at h; subst h
        obtain ⟨k1, k2⟩ := inOrder_sound E h2
        exact ⟨k1.cons (compX_sound h1 E), by simp [List.range'_succ, k2]⟩
      · cases h
    · cases h
theorem fill_inOrder (n : Nat) : ∀ (parts : List (Nat × Value)) (i : Nat) (pre post : List Value), parts.map (·.1) = List.range' i parts.length → (∀ p ∈ parts, p.2.cells.size = n) → pre.length = i * n → post.length = parts.length * n →
    Instr.fill (fun i => some (i * n, n)) (pre ++ post).toArray parts = some (pre ++ (parts.flatMap fun p => p.2.cells.toList)).toArray
  | [], i, pre, post, _, _, _, hp => by
    have : post = [] := by simpa using hp
    subst this; simp [Instr.fill]
  | (j, v) :: parts, i, pre, post, hi, hs, hpre, hpost => by
    simp only [List.map_cons, List.length_cons, List.range'_succ, List.cons.injEq] at hi
    obtain ⟨rfl, hi⟩ := hi
    have hv : v.cells.size = n := hs (j, v) (by simp)
    have hfit : j * n + v.cells.size ≤ (pre ++ post).toArray.size := by simp [hpre, hpost, hv, Nat.add_mul]
    have hset : v.cells.zipIdx.foldl (fun cs (x : Value × Nat) => cs.setIfInBounds (j * n + x.2) x.1) (pre ++ post).toArray = ((pre ++ v.cells.toList) ++ post.drop n).toArray := by
      apply Array.ext'
      rw [fold_set (j * n) v _ hfit, hv, ← hpre]
      simp
    simp only [Instr.fill, hv, ne_eq, not_true_eq_false, decide_false, Bool.false_or, decide_eq_true_eq]
    rw [if_neg (by simp [hpre, hpost, Nat.add_mul]), hset,
      fill_inOrder n parts (j + 1) (pre ++ v.cells.toList) (post.drop n) hi (fun p hp => hs p (by simp [hp])) (by simp [hpre, hv, Nat.add_mul]) (by simp [hpost, Nat.add_mul])]
    simp
theorem own_bslice {t elem : TypeId} {len : Nat} {parts : Array (Nat × Operand)} (ho : o.op = .buildSlice t len parts) (ht : P.underlying t = some (.slice elem)) {n : Nat} (hn : sizeT P elem = some n) {z : AV} (hz : zeroT P elem = some z)
    {els : List AX} (hels : inOrder 0 parts.toList = some els) (hlen : els.length = len) (hzn : z.cells.length = n) (hbig : len * n ≤ 16777216) (R : Rel Φ g h w) (E : EnvR g h.length w e a)
    (hA : aop P Φ e h (.bslice elem n els) K X) : Owes P Φ ρ g h w a o K X := by
  obtain ⟨hall, hk⟩ := hA
  obtain ⟨i, v, hi, hv, hcv⟩ := zeroT_spec hz
  obtain ⟨j, hj, hjn⟩ := info_of_size hn
  have : j = i := by rw [hi] at hj; exact (Option.some.inj hj).symm
  subst this
  obtain ⟨V, hord⟩ := inOrder_sound E hels
  have hplen : parts.toList.length = len := by have := V.1; simp at this; simp; omega
  have hcells : ∀ (k : Nat) (y : AV) (u : Value), (els.map (AX.ev e))[k]? = some y → (parts.toList.map fun p => a.eval p.2)[k]? = some u → VRs g h.length w y.cells u.cells.toList ∧ (∀ q ∈ u.cells.toList, q.oneCell' = true) ∧ u.cells.size = n := by
    intro k y u hy hu
    obtain ⟨h1, h2⟩ := hall y (List.mem_of_getElem? hy)
    obtain ⟨c1, c2⟩ := (V.2 k y u hy hu).cells_sto h1
    exact ⟨c1, c2, by have := c1.1; rw [h2] at this; simpa using this.symm⟩
  have hsz : ∀ u ∈ (parts.toList.map fun p => a.eval p.2), u.cells.size = n := by
    intro u hu
    obtain ⟨k, hk, rfl⟩ := List.getElem_of_mem hu
    have hk' : k < (els.map (AX.ev e)).length := by rw [V.1]; exact hk
    exact (hcells k _ _ (List.getElem?_eq_getElem hk') (List.getElem?_eq_getElem hk)).2.2
  have hzsz : v.cells.size = n := by
    have := (ofConst_cells hcv g h.length w).1.1
    rw [hzn] at this; simpa using this.symm
  have hfill : Instr.fill (fun i => some (i * n, n)) ((Array.range (len * n)).map (v.cells[· % v.cells.size]!)) (parts.toList.map fun p => (p.1, a.eval p.2)) =
      some ((parts.toList.map fun p => a.eval p.2).flatMap fun u => u.cells.toList).toArray := by
    have := fill_inOrder n (parts.toList.map fun p => (p.1, a.eval p.2)) 0 [] ((Array.range (len * n)).map (v.cells[· % v.cells.size]!)).toList (by simpa [Function.comp_def] using hord)
      (fun p hp => by
        simp only [List.mem_map] at hp
        obtain ⟨q, hq, rfl⟩ := hp
        exact hsz _ (by simp only [List.mem_map]; exact ⟨q, hq, rfl⟩)) (by simp) (by simp at hplen ⊢; rw [hplen])
    simp only [List.nil_append, Array.toArray_toList] at this
    rw [this]
    congr 2
    simp [List.flatMap_map]
  have hfl := flat_length hsz
  rw [List.length_map, hplen] at hfl
  obtain ⟨R', E'⟩ := R.alloc_cells elem false (els.map (AX.ev e)) n len ((parts.toList.map fun p => a.eval p.2).flatMap fun u => u.cells.toList) (fun k q => ((parts.toList.map fun p => a.eval p.2).getD k undef).cells.toList.getD q undef)
    (fun k y hy => (hall y (List.mem_of_getElem? hy)).2) hfl (by simp [hlen]) (fun _ => by simp [hlen]) (fun k y q c hy hc => by
      have hk : k < (parts.toList.map fun p => a.eval p.2).length := by rw [← V.1]; exact (List.getElem?_eq_some_iff.1 hy).1
      have hu := List.getElem?_eq_getElem hk
      obtain ⟨c1, c2, c3⟩ := hcells k y _ hy hu
      have hq : q < n := by rw [← (hall y (List.mem_of_getElem? hy)).2]; exact (List.getElem?_eq_some_iff.1 hc).1
      obtain ⟨uu, h1, h2⟩ := c1.get hc
      have hd : ((parts.toList.map fun p => a.eval p.2).getD k undef).cells.toList.getD q undef = uu := by
        have hdk : (parts.toList.map fun p => a.eval p.2).getD k undef = (parts.toList.map fun p => a.eval p.2)[k] := by rw [List.getD_eq_getElem?_getD, hu]; rfl
        rw [hdk, List.getD_eq_getElem?_getD, h1]; rfl
      rw [hd]
      exact ⟨by rw [flat_get hsz k q _ hu hq, h1], c2 uu (List.mem_of_getElem? h1), h2⟩)
  have hnb : ¬ (16777216 < len * n) := by omega
  refine owes_value (u := .slice (some ⟨w.heap.size, 0, none⟩) len len) ?_ hk R' ?_ E' (by simp)
  · have hsize := run_sizeOf hi w
    rw [hjn] at hsize
    by_cases h0 : len * n = 0
    · have hr0 : ∀ f : Nat → Value, Array.map f (Array.range 0) = #[] := fun f => by simp
      rw [h0, hr0] at hfill
      simp [execOp, ho, Instr.buildSlice, run_underlying ht, hsize, h0, hr0, hfill, newRow]
    · simp [execOp, ho, Instr.buildSlice, run_underlying ht, hsize, hnb, h0, zeroValue, typeInfo, hi, hv, hfill, newRow]
  · have := VR.sl (g := g.bind h.length w.heap.size n len) (w := w.alloc (.cells ((parts.toList.map fun p => a.eval p.2).flatMap fun u => u.cells.toList).toArray elem (0, 0))) (n := (h ++ [AB.cells false elem n (els.map (AX.ev e))]).length)
      h.length 0 len (some len) len (by simp) (Nat.le_refl _) rfl (by simp)
    simpa [hlen] using this
end
end Go.Abs
end
section
namespace Go.Abs
open Go.RowKit
section
variable {P : Program} {Φ : World → Prop} {ρ : Option Nat} {g : Gh} {h : AHeap} {w : World} {e : Env} {a : Act} {K X : AV → AHeap → Prop} {o : Oper}
theorem run_sliceStr {t : TypeId} (ht : P.underlying t = some .string) (l : List UInt8) (lo hi : Option Value) (r : Nat × Nat × Nat) (hr : (Instr.sliceBounds false l.length l.length lo hi none).run P w = .ok r w) :
    (Instr.sliceAt t (.string ⟨l.toArray⟩) lo hi none).run P w = .ok (.string ⟨((l.drop r.1).take (r.2.1 - r.1)).toArray⟩) w := by
  have : (ByteArray.mk l.toArray).size = l.length := by simp [ByteArray.size]
  simp only [Instr.sliceAt, Sem.run_bind, run_underlying ht, Result.andThen_ok, Instr.slice, this, Option.isSome_none, Bool.false_eq_true, if_false, Sem.run_pure, hr, ByteArray.extract_mk]
theorem run_sliceSl {t t' : TypeId} (ht : P.underlying t = some (.slice t')) {n : Nat} (hn : sizeT P t' = some n) (b : Option Addr) (len cap : Nat) (lo hi : Option Value) (r : Nat × Nat × Nat) (hr : (Instr.sliceBounds true len cap lo hi none).run P w = .ok r w) :
    (Instr.sliceAt t (.slice b len cap) lo hi none).run P w = .ok (.slice (if r.2.2 = r.1 then b else b.map (·.add (r.1 * n))) (r.2.1 - r.1) (r.2.2 - r.1)) w := by
  obtain ⟨i, hi', rfl⟩ := info_of_size hn
  simp only [Instr.sliceAt, Sem.run_bind, run_underlying ht, Result.andThen_ok, Instr.slice, hr, run_sizeOf hi', Sem.run_pure]
theorem run_sb_lh (b : Bool) (len cap : Nat) (k k' : IntKind) (x y : Int) (h0 : 0 ≤ x) (h1 : x ≤ y) (h2 : y ≤ cap) : (Instr.sliceBounds b len cap (some (.int k x)) (some (.int k' y)) none).run P w = .ok (x.toNat, y.toNat, cap) w := by
  have e1 : 0 ≤ y := by omega
  have e2 : (y.toNat : Int) = y := Int.toNat_of_nonneg e1
  simp [Instr.sliceBounds, Instr.sliceBound, asIntOf, e1, h2, h0, e2, h1]
theorem run_sb_l (b : Bool) (len cap : Nat) (k : IntKind) (x : Int) (h0 : 0 ≤ x) (h1 : x ≤ len) : (Instr.sliceBounds b len cap (some (.int k x)) none none).run P w = .ok (x.toNat, len, cap) w := by
  simp [Instr.sliceBounds, Instr.sliceBound, asIntOf, h0, h1]
theorem run_sb_h (b : Bool) (len cap : Nat) (k' : IntKind) (y : Int) (h1 : 0 ≤ y) (h2 : y ≤ cap) : (Instr.sliceBounds b len cap none (some (.int k' y)) none).run P w = .ok (0, y.toNat, cap) w := by
  simp [Instr.sliceBounds, Instr.sliceBound, asIntOf, h1, h2]
theorem addr_add (b off m : Nat) : (⟨b, off, none⟩ : Addr).add m = ⟨b, off + m, none⟩ := by unfold Addr.add; split <;> simp_all
theorem VR.lst_part {n : Nat} {sz : Nat} {els : List AV} {b : Option Addr} {len cap : Nat} (V : VR g n w (.lst sz els) (.slice b len cap)) (l m : Nat) (hm : l + m ≤ els.length) :
    VR g n w (.lst sz ((els.drop l).take m)) (.slice (if cap = l then b else b.map (·.add (l * sz))) m (cap - l)) := by
  by_cases h0 : m = 0
  · subst h0; rw [List.take_zero]; exact .lst0 sz _ _
  · cases V with
    | lst _ _ bl off _ f hc q0 q1 q2 =>
      have hcl : ¬ cap = l := by omega
      rw [if_neg hcl]
      simp only [Option.map_some, addr_add]
      have hlen : ((els.drop l).take m).length = m := by simp; omega
      have hsub : ∀ (i : Nat) (x : AV), ((els.drop l).take m)[i]? = some x → els[l + i]? = some x := by
        intro i x hx
        have hi : i < m := by rw [← hlen]; exact (List.getElem?_eq_some_iff.1 hx).1
        rw [List.getElem?_take_of_lt hi, List.getElem?_drop] at hx
        exact hx
      have := VR.lst (g := g) (n := n) (w := w) sz ((els.drop l).take m) bl (off + l * sz) (cap - l) (fun i j => f (l + i) j) (by omega) (fun i x hx => q0 _ _ (hsub i x hx))
        (fun i x j c hx hj => by
          have := q1 _ _ j c (hsub i x hx) hj
          have e : off + l * sz + i * sz + j = off + (l + i) * sz + j := by rw [Nat.add_mul]; omega
          rw [e]; exact this)
        (fun i x j c hx hj => q2 _ _ j c (hsub i x hx) hj)
      rw [hlen] at this
      exact this
    | lst0 _ p c => simp at hm; omega
theorem compXo_sound (E : EnvR g h.length w e a) {z : Option Operand} {q : Option AX} (hz : compXo z = some q) : (q = none ∧ z = none) ∨ ∃ z' q', z = some z' ∧ q = some q' ∧ VR g h.length w (q'.ev e) (a.eval z') := by
  cases z with
  | none => simp [compXo] at hz; exact .inl ⟨hz.symm, rfl⟩
  | some z' =>
    simp only [compXo] at hz
    cases hz' : compX z' with
    | none => simp [hz'] at hz
    | some q' => simp [hz'] at hz; exact .inr ⟨z', q', rfl, hz.symm, compX_sound hz' E⟩
theorem own_slcS {t : TypeId} {x : Operand} {lo hi : Option Operand} (ho : o.op = .slice t x lo hi none) (ht : P.underlying t = some .string) {b : AX} {l u : Option AX} (hx : compX x = some b) (hl : compXo lo = some l) (hu : compXo hi = some u)
    (R : Rel Φ g h w) (E : EnvR g h.length w e a) (hA : aop P Φ e h (.slcS b l u) K X) : Owes P Φ ρ g h w a o K X := by
  have V := compX_sound hx E
  simp only [aop, asliceS] at hA
  have hr0 : ∀ v, (Instr.sliceAt t (a.eval x) (lo.map a.eval) (hi.map a.eval) none).run P w = .ok v w → (execOp a.eval o).run P w = .ok (.value v) w := by
    intro v hv; simp [execOp, ho, hv]
  generalize b.ev e = bv at hA V
  generalize hxe : a.eval x = xu at V hr0
  split at hA
  · rename_i s
    cases V
    rcases compXo_sound E hl with ⟨rfl, rfl⟩ | ⟨lo', l', rfl, rfl, L⟩ <;> rcases compXo_sound E hu with ⟨rfl, rfl⟩ | ⟨hi', u', rfl, rfl, U⟩ <;> simp only [Option.map_none, Option.map_some] at hA hr0
    · refine owes_pure R (hr0 _ (run_sliceStr ht s none none (0, s.length, s.length) (by simp [Instr.sliceBounds]))) hA ?_
      simp; exact .str s
    · generalize u'.ev e = uv at hA U
      generalize a.eval hi' = uu at hr0 U
      split at hA
      case h_3 k bb heq =>
        cases heq; cases U
        exact owes_pure R (hr0 _ (run_sliceStr ht s _ _ _ (run_sb_h false _ _ _ _ hA.1 hA.2.1))) hA.2.2 (by simpa using .str _)
      all_goals first | exact hA.elim | simp_all
    · generalize l'.ev e = lv at hA L
      generalize a.eval lo' = lu at hr0 L
      split at hA
      case h_2 k bb heq _ =>
        cases heq; cases L
        refine owes_pure R (hr0 _ (run_sliceStr ht s _ _ _ (run_sb_l false _ _ _ _ hA.1 hA.2.1))) hA.2.2 ?_
        have : (s.drop bb.toNat).take (s.length - bb.toNat) = s.drop bb.toNat := List.take_of_length_le (by simp)
        simp only [this]; exact .str _
      all_goals first | exact hA.elim | simp_all
    · generalize u'.ev e = uv at hA U
      generalize a.eval hi' = uu at hr0 U
      generalize l'.ev e = lv at hA L
      generalize a.eval lo' = lu at hr0 L
      split at hA
      case h_1 k aa k' bb h1 h2 =>
        cases h1; cases h2; cases U; cases L
        exact owes_pure R (hr0 _ (run_sliceStr ht s _ _ _ (run_sb_lh false _ _ _ _ _ _ hA.1 hA.2.1 hA.2.2.1))) hA.2.2.2 (.str _)
      all_goals first | exact hA.elim | simp_all
  · exact hA.elim
theorem own_slc {t t' : TypeId} {x : Operand} {lo hi : Option Operand} (ho : o.op = .slice t x lo hi none) (ht : P.underlying t = some (.slice t')) {n : Nat} (hn : sizeT P t' = some n) {b : AX} {l u : Option AX} (hx : compX x = some b) (hl : compXo lo = some l) (hu : compXo hi = some u)
    (R : Rel Φ g h w) (E : EnvR g h.length w e a) (hA : aop P Φ e h (.slc n b l u) K X) : Owes P Φ ρ g h w a o K X := by
  have V := compX_sound hx E
  simp only [aop, aslice] at hA
  have hr0 : ∀ v, (Instr.sliceAt t (a.eval x) (lo.map a.eval) (hi.map a.eval) none).run P w = .ok v w → (execOp a.eval o).run P w = .ok (.value v) w := by
    intro v hv; simp [execOp, ho, hv]
  generalize b.ev e = bv at hA V
  generalize hxe : a.eval x = xu at V hr0
  split at hA
  · rename_i sz els
    obtain ⟨rfl, hA⟩ := hA
    have hv : ∃ bl len cap, xu = .slice bl len cap ∧ len = els.length ∧ els.length ≤ cap := by
      cases V with
      | lst _ _ bl off cap f hc _ _ _ => exact ⟨_, _, _, rfl, rfl, hc⟩
      | lst0 _ p c => exact ⟨_, _, _, rfl, rfl, Nat.zero_le _⟩
    obtain ⟨bl, len, cap, rfl, rfl, hcap⟩ := hv
    rcases compXo_sound E hl with ⟨rfl, rfl⟩ | ⟨lo', l', rfl, rfl, L⟩ <;> rcases compXo_sound E hu with ⟨rfl, rfl⟩ | ⟨hi', u', rfl, rfl, U⟩ <;> simp only [Option.map_none, Option.map_some] at hA hr0
    · refine owes_pure R (hr0 _ (run_sliceSl ht hn _ _ _ none none (0, els.length, cap) (by simp [Instr.sliceBounds]))) hA ?_
      have := V.lst_part 0 els.length (by omega)
      simpa using this
    · generalize u'.ev e = uv at hA U
      generalize a.eval hi' = uu at hr0 U
      split at hA
      case h_3 k bb _ heq =>
        cases heq; cases U
        refine owes_pure R (hr0 _ (run_sliceSl ht hn _ _ _ _ _ _ (run_sb_h true _ _ _ _ hA.1 (by omega)))) hA.2.2 ?_
        have := V.lst_part 0 bb.toNat (by omega)
        simpa using this
      all_goals first | exact hA.elim | simp_all
    · generalize l'.ev e = lv at hA L
      generalize a.eval lo' = lu at hr0 L
      split at hA
      case h_2 k bb heq _ =>
        cases heq; cases L
        refine owes_pure R (hr0 _ (run_sliceSl ht hn _ _ _ _ _ _ (run_sb_l true _ _ _ _ hA.1 hA.2.1))) hA.2.2 ?_
        have := V.lst_part bb.toNat (els.length - bb.toNat) (by omega)
        have e1 : (els.drop bb.toNat).take (els.length - bb.toNat) = els.drop bb.toNat := List.take_of_length_le (by simp)
        rw [e1] at this
        exact this
      all_goals first | exact hA.elim | simp_all
    · generalize u'.ev e = uv at hA U
      generalize a.eval hi' = uu at hr0 U
      generalize l'.ev e = lv at hA L
      generalize a.eval lo' = lu at hr0 L
      split at hA
      case h_1 k aa k' bb h1 h2 =>
        cases h1; cases h2; cases U; cases L
        refine owes_pure R (hr0 _ (run_sliceSl ht hn _ _ _ _ _ _ (run_sb_lh true _ _ _ _ _ _ hA.1 hA.2.1 (by omega)))) hA.2.2.2 ?_
        exact V.lst_part aa.toNat (bb.toNat - aa.toNat) (by omega)
      all_goals first | exact hA.elim | simp_all
  · rename_i r i m c
    obtain ⟨hez, hA⟩ := hA
    have hg : g.esz r = n := by
      unfold eszOf at hez
      split at hez
      · rename_i gr T ez els hr
        simp at hez; subst hez
        exact (R.blk r _ hr).2.1
      · cases hez
    have hv : ∃ cap, xu = .slice (some ⟨g.loc r, i * n, none⟩) m cap ∧ r < h.length ∧ m ≤ cap ∧ i + cap ≤ g.cpn r ∧ capOk c cap := by
      cases V with
      | sl _ _ _ _ cap hr hm hc hk => exact ⟨cap, by rw [hg], hr, hm, hk, hc⟩
    obtain ⟨cap, rfl, hr, hm, hk, hcc⟩ := hv
    have sub : ∀ aa bb : Nat, aa < bb → bb ≤ m → VR g h.length w (.sl r (i + aa) (bb - aa) none) (.slice (if cap = aa then some ⟨g.loc r, i * n, none⟩ else (some (⟨g.loc r, i * n, none⟩ : Addr)).map (·.add (aa * n))) (bb - aa) (cap - aa)) := by
      intro aa bb h1 h2
      rw [if_neg (by omega)]
      have := VR.sl (g := g) (n := h.length) (w := w) r (i + aa) (bb - aa) none (cap - aa) hr (by omega) trivial (by omega)
      simpa [addr_add, hg, Nat.add_mul] using this
    rcases compXo_sound E hl with ⟨rfl, rfl⟩ | ⟨lo', l', rfl, rfl, L⟩ <;> rcases compXo_sound E hu with ⟨rfl, rfl⟩ | ⟨hi', u', rfl, rfl, U⟩ <;> simp only [Option.map_none, Option.map_some] at hA hr0
    · refine owes_pure R (hr0 _ (run_sliceSl ht hn _ _ _ none none (0, m, cap) (by simp [Instr.sliceBounds]))) hA ?_
      have := VR.sl (g := g) (n := h.length) (w := w) r i m c cap hr hm hcc hk
      simpa [addr_add, hg] using this
    · generalize u'.ev e = uv at hA U
      generalize a.eval hi' = uu at hr0 U
      split at hA
      case h_3 k bb _ heq =>
        cases heq; cases U
        refine owes_pure R (hr0 _ (run_sliceSl ht hn _ _ _ _ _ _ (run_sb_h true _ _ _ _ hA.1 (by omega)))) hA.2.2 ?_
        have := VR.sl (g := g) (n := h.length) (w := w) r i bb.toNat none cap hr (by omega) trivial hk
        simpa [addr_add, hg] using this
      all_goals first | exact hA.elim | simp_all
    · generalize l'.ev e = lv at hA L
      generalize a.eval lo' = lu at hr0 L
      split at hA
      case h_2 k bb heq _ =>
        cases heq; cases L
        have hrun := hr0 _ (run_sliceSl ht hn _ _ _ _ _ _ (run_sb_l true _ _ _ _ hA.1 hA.2.1))
        obtain ⟨q0, q1, q2, q3⟩ := hA
        by_cases hlt : bb < m
        · exact owes_pure R hrun (q3 hlt) (by have := sub bb.toNat m (by omega) (Nat.le_refl _); exact this)
        · refine owes_pure R hrun (q2 (by omega)) ?_
          have : m - bb.toNat = 0 := by omega
          simp only [this]
          exact .lst0 _ _ _
      all_goals first | exact hA.elim | simp_all
    · generalize u'.ev e = uv at hA U
      generalize a.eval hi' = uu at hr0 U
      generalize l'.ev e = lv at hA L
      generalize a.eval lo' = lu at hr0 L
      split at hA
      case h_1 k aa k' bb h1 h2 =>
        cases h1; cases h2; cases U; cases L
        have hrun := hr0 _ (run_sliceSl ht hn _ _ _ _ _ _ (run_sb_lh true _ _ _ _ _ _ hA.1 hA.2.1 (by omega)))
        obtain ⟨q0, q1, q2, q3, q4⟩ := hA
        by_cases hlt : aa < bb
        · exact owes_pure R hrun (q4 hlt) (by have := sub aa.toNat bb.toNat (by omega) (by omega); exact this)
        · refine owes_pure R hrun (q3 (by omega)) ?_
          have : bb.toNat - aa.toNat = 0 := by omega
          simp only [this]
          exact .lst0 _ _ _
      all_goals first | exact hA.elim | simp_all
  · cases V
    rcases compXo_sound E hl with ⟨rfl, rfl⟩ | ⟨lo', l', rfl, rfl, L⟩ <;> rcases compXo_sound E hu with ⟨rfl, rfl⟩ | ⟨hi', u', rfl, rfl, U⟩ <;> simp only [Option.map_none, Option.map_some] at hA hr0
    · refine owes_pure R (hr0 _ (run_sliceSl ht hn _ _ _ none none (0, 0, 0) (by simp [Instr.sliceBounds]))) hA ?_
      simpa using .nils
    all_goals simp at hA
  · exact hA.elim
theorem run_checkKey {key : TypeId} {d : TypeDesc} (hd : P.underlying key = some d) (hk : tkOf d = .num ∨ tkOf d = .str ∨ tkOf d = .bool) (b : Bool) (v : Value) : (Instr.checkKey b 10000 key v).run P w = .ok () w := by
  obtain ⟨m, hm⟩ : ∃ m, 10000 = m + 1 := ⟨9999, rfl⟩
  rw [hm]
  cases d <;> simp [tkOf] at hk <;> simp only [Instr.checkKey, Sem.run_bind, run_underlying hd, Result.andThen_ok] <;> rfl
theorem run_findKey {key : TypeId} {d : TypeDesc} (hd : P.underlying key = some d) {v : Value} {es : List MapEntry} {r : Option (Nat × Value)} (hf : Instr.findNow d v es 0 = some r) : (Instr.findKey key v es).run P w = .ok r w := by
  simp only [Instr.findKey, Sem.run_bind, run_underlying hd, Result.andThen_ok, hf, Sem.run_pure]
theorem own_lookup {t key elem : TypeId} {m k : Operand} {ok : Bool} (ho : o.op = .lookup t m k ok) (ht : P.underlying t = some (.map key elem)) {d : TypeDesc} (hd : P.underlying key = some d) (hk : tkOf d = .num ∨ tkOf d = .str ∨ tkOf d = .bool) {z : AV} (hz : zeroT P elem = some z)
    {b c : AX} (hm : compX m = some b) (hc : compX k = some c) (R : Rel Φ g h w) (E : EnvR g h.length w e a) (hA : aop P Φ e h (.lookup (tkOf d) ok z b c) K X) : Owes P Φ ρ g h w a o K X := by
  have V := compX_sound hm E
  have U := compX_sound hc E
  obtain ⟨i, zv, hi, hzv, hcv⟩ := zeroT_spec hz
  simp only [aop] at hA
  generalize b.ev e = bv at hA V
  generalize hme : a.eval m = mu at V
  split at hA
  · rename_i r
    split at hA
    · rename_i ents hr
      obtain ⟨hkey, hA⟩ := hA
      obtain ⟨hbase, es, clock, hw, hlen, hents⟩ := R.blk r _ hr
      cases V
      have hget : (getObj (g.loc r)).run P w = .ok (.map es clock) w := by simp [getObj, Sem.run, hw]
      cases hmf : mfind ents (c.ev e) 0 with
      | none => simp [hmf] at hA
      | some q =>
        have hfs := findNow_sound hkey U ents es.toList 0 (by simpa using hlen) (fun j x y hj => by simpa using hents j x y hj) q hmf
        cases q with
        | none =>
          simp only [hmf] at hA
          have hfk := run_findKey (P := P) (w := w) hd hfs
          have hrun : (Instr.lookup t (.map (some (g.loc r))) (a.eval k) ok).run P w = .ok (if ok then .tuple #[zv, .bool false] else zv) w := by
            simp only [Instr.lookup, Sem.run_bind, run_underlying ht, Result.andThen_ok, hget, Sem.run_pure, run_checkKey hd hk, hfk, zeroValue, typeInfo, run_program, hi, hzv]
          refine owes_pure R (u := if ok then .tuple #[zv, .bool false] else zv) (by simp [execOp, ho, hme, hrun]) hA ?_
          have Vz := (ofConst_sound hcv g h.length w).1
          cases ok with
          | false => exact Vz
          | true => exact .tup [z, .bool false] [zv, .bool false] rfl (VRs.cons Vz (VRs.cons (.bool _) .nil)).2
        | some p =>
          obtain ⟨j, v⟩ := p
          simp only [hmf] at hA
          obtain ⟨_, _, u, hfn, hvu⟩ := hfs
          have hfk := run_findKey (P := P) (w := w) hd hfn
          have hrun : (Instr.lookup t (.map (some (g.loc r))) (a.eval k) ok).run P w = .ok (if ok then .tuple #[u, .bool true] else u) w := by
            simp only [Instr.lookup, Sem.run_bind, run_underlying ht, Result.andThen_ok, hget, Sem.run_pure, run_checkKey hd hk, hfk]
          refine owes_pure R (u := if ok then .tuple #[u, .bool true] else u) (by simp [execOp, ho, hme, hrun]) hA ?_
          cases ok with
          | false => exact hvu
          | true => exact .tup [v, .bool true] [u, .bool true] rfl (VRs.cons hvu (VRs.cons (.bool _) .nil)).2
    · exact hA.elim
  · exact hA.elim
theorem keyEq_sameBits {n : Nat} {k a : AV} {kv av : Value} (V : VR g n w k kv) (U : VR g n w a av) (hq : keyEq k a = some true) (m : Nat) : Instr.sameBits m av kv = true := by
  unfold keyEq at hq
  split at hq
  · cases V; cases U; simp at hq; subst hq; simp [Instr.sameBits, byteArray_beq]
  · split at hq
    · rename_i hk
      cases V; cases U; simp at hq; subst hq; subst hk; simp [Instr.sameBits]
    · cases hq
  · cases V; cases U; simp at hq; subst hq; simp [Instr.sameBits]
  · cases hq
theorem own_mapup {t key elem : TypeId} {m k v : Operand} (ho : o.op = .mapUpdate t m k v ∨ o.op = .insert t m k v) (ht : P.underlying t = some (.map key elem)) {d : TypeDesc} (hd : P.underlying key = some d) (hk : tkOf d = .num ∨ tkOf d = .str ∨ tkOf d = .bool)
    {b c f : AX} (hm : compX m = some b) (hc : compX k = some c) (hf : compX v = some f) (R : Rel Φ g h w) (E : EnvR g h.length w e a) (hA : aop P Φ e h (.mapup (tkOf d) b c f) K X) : Owes P Φ ρ g h w a o K X := by
  have V := compX_sound hm E
  have U := compX_sound hc E
  have W := compX_sound hf E
  simp only [aop] at hA
  generalize b.ev e = bv at hA V
  generalize hme : a.eval m = mu at V
  split at hA
  · rename_i r
    split at hA
    · rename_i ents hr
      obtain ⟨hkey, _, hA⟩ := hA
      obtain ⟨hbase, es, clock, hw, hlen, hents⟩ := R.blk r _ hr
      cases V
      have hlt : g.loc r < w.heap.size := (Array.getElem?_eq_some_iff.1 hw).1
      have hget : (getObj (g.loc r)).run P w = .ok (.map es clock) w := by simp [getObj, Sem.run, hw]
      have hset : ∀ ob, (setObj (g.loc r) ob).run P w = .ok () { w with heap := w.heap.setIfInBounds (g.loc r) ob } := by intro ob; simp [setObj, Sem.run, hw]
      have fin : ∀ (ents' : List (AV × AV)) (es' : Array MapEntry) (clock' : Nat), K undefA (h.set r (.map ents')) → (Instr.mapUpdate t (.map (some (g.loc r))) (a.eval k) (a.eval v)).run P w = .ok () { w with heap := w.heap.setIfInBounds (g.loc r) (.map es' clock') } →
          (Ext h.length g w g { w with heap := w.heap.setIfInBounds (g.loc r) (.map es' clock') } → ents'.length = es'.size ∧ ∀ (i : Nat) (x y : AV), ents'[i]? = some (x, y) → ∃ en : MapEntry, es'[i]? = some en ∧
            VR g h.length { w with heap := w.heap.setIfInBounds (g.loc r) (.map es' clock') } x en.key ∧ VR g h.length { w with heap := w.heap.setIfInBounds (g.loc r) (.map es' clock') } y en.val) → Owes P Φ ρ g h w a o K X := by
        intro ents' es' clock' hK hrun hrel
        obtain ⟨R', E'⟩ := R.update (b' := .map ents') (w' := { w with heap := w.heap.setIfInBounds (g.loc r) (.map es' clock') }) hr rfl (fun q hq => by simp [Array.getElem?_setIfInBounds_ne (Ne.symm hq)]) (by simp) rfl rfl rfl
          (fun hE => ⟨hbase, es', clock', by simp [hlt], (hrel hE).1, (hrel hE).2⟩)
        refine owes_skip ?_ hK R' E' (by simp)
        rcases ho with ho | ho <;> simp [execOp, ho, hme, hrun]
      unfold mput at hA
      cases hmf : mfind ents (c.ev e) 0 with
      | none => simp [hmf] at hA
      | some q =>
        have hfs := findNow_sound hkey U ents es.toList 0 (by simpa using hlen) (fun j x y hj => by simpa using hents j x y hj) q hmf
        cases q with
        | none =>
          simp only [hmf] at hA
          have hfk := run_findKey (P := P) (w := w) hd hfs
          refine fin _ (es.push { key := a.eval k, val := a.eval v, born := clock }) (clock + 1) hA ?_ fun hE => ⟨by simp [hlen], fun i x y hi => ?_⟩
          · simp only [Instr.mapUpdate, Sem.run_bind, run_underlying ht, Result.andThen_ok, hget, run_checkKey hd hk, hfk, hset]
          · by_cases hil : i < ents.length
            · rw [List.getElem?_append_left hil] at hi
              obtain ⟨en, h1, h2, h3⟩ := hents i x y hi
              exact ⟨en, by rw [Array.getElem?_push, if_neg (by omega)]; exact h1, h2.ext hE (Nat.le_refl _), h3.ext hE (Nat.le_refl _)⟩
            · have hil' : i < (ents ++ [(c.ev e, f.ev e)]).length := (List.getElem?_eq_some_iff.1 hi).1
              have : i = ents.length := by simp at hil'; omega
              subst this
              simp at hi
              obtain ⟨rfl, rfl⟩ := hi
              exact ⟨{ key := a.eval k, val := a.eval v, born := clock }, by rw [hlen]; simp, U.ext hE (Nat.le_refl _), W.ext hE (Nat.le_refl _)⟩
        | some p =>
          obtain ⟨j, v0⟩ := p
          simp only [hmf] at hA
          obtain ⟨_, ⟨a0, ha0, hq0⟩, u, hfn, hvu⟩ := hfs
          simp only [Nat.sub_zero] at ha0
          have hfk := run_findKey (P := P) (w := w) hd hfn
          obtain ⟨en0, he0, hk0, hv0⟩ := hents j a0 v0 ha0
          have hsame := keyEq_sameBits U hk0 hq0 10000
          have hstay : (Instr.keyThatStays (((es[j]?).map (·.key)).getD (a.eval k)) (a.eval k)).run P w = .ok (a.eval k) w := by
            simp [Instr.keyThatStays, he0, hsame]
          refine fin _ (es.modify j fun en => { en with key := a.eval k, val := a.eval v }) clock hA ?_ fun hE => ⟨by simp [hlen], fun i x y hi => ?_⟩
          · simp only [Instr.mapUpdate, Sem.run_bind, run_underlying ht, Result.andThen_ok, hget, run_checkKey hd hk, hfk, hstay, hset]
          · by_cases hij : j = i
            · subst hij
              have hj : j < ents.length := (List.getElem?_eq_some_iff.1 ha0).1
              rw [List.getElem?_set_self hj] at hi
              cases hi
              exact ⟨_, by rw [Array.getElem?_modify, if_pos rfl, he0]; rfl, U.ext hE (Nat.le_refl _), W.ext hE (Nat.le_refl _)⟩
            · rw [List.getElem?_set_ne hij] at hi
              obtain ⟨en, h1, h2, h3⟩ := hents i x y hi
              exact ⟨en, by rw [Array.getElem?_modify, if_neg hij]; exact h1, h2.ext hE (Nat.le_refl _), h3.ext hE (Nat.le_refl _)⟩
    · exact hA.elim
  · exact hA.elim
end
end Go.Abs
end
section
namespace Go.Abs
open Go.RowKit
section
variable {P : Program} {Φ : World → Prop} {ρ : Option Nat} {g : Gh} {h : AHeap} {w : World} {e : Env} {a : Act} {K X : AV → AHeap → Prop} {o : Oper}
theorem Rel.kill (R : Rel Φ g h w) (r : Nat) : Rel Φ g (h.set r .dead) w := by
  refine ⟨fun s c hc => ?_, fun s t c d hc hd hlc hld hst => ?_, R.immv, R.below, R.base, R.ok, R.dfrv⟩
  · rw [List.length_set]
    by_cases hsr : r = s
    · subst hsr
      have hl : r < h.length := by have := (List.getElem?_eq_some_iff.1 hc).1; simpa using this
      rw [List.getElem?_set_self hl] at hc
      cases hc; trivial
    · rw [List.getElem?_set_ne hsr] at hc
      exact R.blk s c hc
  · have key : ∀ (s : Nat) (c : AB), (h.set r .dead)[s]? = some c → c.live = true → h[s]? = some c := by
      intro s c hc hl
      by_cases hsr : r = s
      · subst hsr
        have hl' : r < h.length := by have := (List.getElem?_eq_some_iff.1 hc).1; simpa using this
        rw [List.getElem?_set_self hl'] at hc
        cases hc; cases hl
      · rwa [List.getElem?_set_ne hsr] at hc
    exact R.inj s t c d (key s c hc hlc) (key t d hd hld) hlc hld hst
theorem Rel.move (R : Rel Φ g h w) {r : Nat} {b : AB} (hr : h[r]? = some b) (hl : b.live = true) :
    Rel Φ (g.bind h.length (g.loc r) (g.esz r) (g.cpn r)) (h.set r .dead ++ [b]) w ∧ Ext h.length g w (g.bind h.length (g.loc r) (g.esz r) (g.cpn r)) w := by
  have hrl := R.lt hr
  have hE : Ext h.length g w (g.bind h.length (g.loc r) (g.esz r) (g.cpn r)) w :=
    ⟨fun r hr => g.bind_loc_lt _ _ _ hr, fun r hr => g.bind_esz_lt _ _ _ hr, fun r hr => g.bind_cpn_lt _ _ _ hr, fun _ _ h => h, fun _ _ _ => rfl, rfl, rfl, Nat.le_refl _, fun _ h => h⟩
  have key : ∀ (s : Nat) (c : AB), (h.set r .dead ++ [b])[s]? = some c → c.live = true → (s = h.length ∧ c = b) ∨ (s < h.length ∧ s ≠ r ∧ h[s]? = some c) := by
    intro s c hc hlc
    by_cases hs : s < h.length
    · rw [List.getElem?_append_left (by simpa using hs)] at hc
      by_cases hsr : r = s
      · subst hsr
        rw [List.getElem?_set_self hrl] at hc
        cases hc; cases hlc
      · rw [List.getElem?_set_ne hsr] at hc
        exact .inr ⟨hs, Ne.symm hsr, hc⟩
    · have hs' := (List.getElem?_eq_some_iff.1 hc).1
      have : s = h.length := by simp at hs'; omega
      subst this
      rw [List.getElem?_append_right (by simp)] at hc
      simp at hc
      exact .inl ⟨rfl, hc.symm⟩
  refine ⟨⟨fun s c hc => ?_, fun s t c d hc hd hlc hld hst => ?_, R.immv, R.below, R.base, R.ok, R.dfrv⟩, hE⟩
  · rw [List.length_append, List.length_set]
    by_cases hlc : c.live = true
    · rcases key s c hc hlc with ⟨rfl, rfl⟩ | ⟨h1, h2, h3⟩
      · have hb := R.blk r c hr
        cases c with
        | dead => cases hlc
        | cells gr T esz els =>
          obtain ⟨k1, k1', k2, k3, cs, k4, k5, k6, k6', f, k7⟩ := hb
          refine ⟨by rw [Gh.bind_base, Gh.bind_loc]; exact k1, by rw [Gh.bind_esz]; exact k1', by rw [Gh.bind_loc]; exact k2, by rw [Gh.bind_esz]; exact k3, cs, by rw [Gh.bind_loc]; exact k4,
            by rw [Gh.bind_esz, Gh.bind_cpn]; exact k5, by rw [Gh.bind_cpn]; exact k6, by rw [Gh.bind_cpn]; exact k6', f, ?_⟩
          rw [Gh.bind_esz]
          intro i e j a h8 h9
          obtain ⟨h10, h11, h12⟩ := k7 i e j a h8 h9
          exact ⟨h10, h11, h12.ext hE (by simp)⟩
        | map ents =>
          obtain ⟨k1, es, clock, k2, k3, k4⟩ := hb
          refine ⟨by rw [Gh.bind_base, Gh.bind_loc]; exact k1, es, clock, by rw [Gh.bind_loc]; exact k2, k3, fun i a v h5 => ?_⟩
          obtain ⟨e, h6, h7, h8⟩ := k4 i a v h5
          exact ⟨e, h6, h7.ext hE (by simp), h8.ext hE (by simp)⟩
        | loop st pend X =>
          obtain ⟨k1, fn, d, tmps, ps, assign, body, k2, k3, k4, k5, k6⟩ := hb
          exact ⟨by rw [Gh.bind_base, Gh.bind_loc]; exact k1, fn, d, tmps, ps, assign, body, by rw [Gh.bind_loc]; exact k2, k3, k4, k5, fun t => (k6 t).ext hE (by simp)⟩
      · exact (R.blk s c h3).ext hE (by simp) h1 rfl (R.notimm h3 hlc)
    · cases c <;> simp [AB.live] at hlc; trivial
  · rcases key s c hc hlc with ⟨rfl, rfl⟩ | ⟨h1, h2, h3⟩ <;> rcases key t d hd hld with ⟨rfl, rfl⟩ | ⟨k1, k2, k3⟩
    · exact absurd rfl hst
    · rw [Gh.bind_loc, g.bind_loc_lt _ _ _ k1]; exact R.inj r t c d hr k3 hlc hld (Ne.symm k2)
    · rw [Gh.bind_loc, g.bind_loc_lt _ _ _ h1]; exact R.inj s r c d h3 hr hlc hld h2
    · rw [g.bind_loc_lt _ _ _ h1, g.bind_loc_lt _ _ _ k1]; exact R.inj s t c d h3 k3 hlc hld hst
theorem srcOf_sound (R : Rel Φ g h w) {esz : Nat} {y : AV} {u : Value} (V : VR g h.length w y u) {K' : List AV → Prop} (hA : srcOf h esz y K') : ∃ els, Src P g h.length w esz u els ∧ K' els := by
  unfold srcOf at hA
  split at hA
  · obtain ⟨rfl, hA⟩ := hA; exact ⟨_, V.src_lst, hA⟩
  · cases V; exact ⟨[], src_nil P g _ w esz, hA⟩
  · obtain ⟨rfl, hA⟩ := hA; cases V; exact ⟨_, src_str P g _ w _, hA⟩
  · split at hA
    · rename_i r i m c _ gr T sz els hr
      obtain ⟨rfl, h1, hA⟩ := hA
      exact ⟨_, R.src_own hr V h1, hA⟩
    · exact hA.elim
  · exact hA.elim
theorem below_drew (w : World) : Below w.heap.size w w.drew := (Below.refl _ _).drew
theorem append_grow (R : Rel Φ g h w) {t u ty el : TypeId} {i : TypeInfo} {zv : Value} {d : TypeDesc} (ht : P.underlying t = some (.slice el)) (hu : P.underlying u = some d) (hd : d = .slice el ∨ d = .string)
    (hi : P.info? el = some i) (hz : i.zero = some zv) (hzs : zv.cells.size = i.size) {b : Option Addr} {sLen sCap : Nat} {x : Value} {olds new : List AV}
    (hso : Src P g h.length w i.size (.slice b sLen sCap) olds) (hlo : olds.length = sLen) (hsn : Src P g h.length w i.size x new) (hg : sCap < sLen + new.length) (h63 : sLen + new.length ≤ 9223372036854775807)
    (hfit : (sLen + new.length) * i.bytes ≤ 140737488355328) :
    ∃ v g' w', (Builtin.append_ #[t, u] ty #[.slice b sLen sCap, x]).run P w = .ok v w' ∧ Rel Φ g' (h ++ [.cells true el i.size (olds ++ new)]) w' ∧ Ext h.length g w g' w' ∧ VR g' (h.length + 1) w' (.sl h.length 0 (sLen + new.length) none) v := by
  obtain ⟨ol, fo, o1, o2, o3, o4, o5, o6⟩ := hso
  obtain ⟨nl, fn, n1, n2, n3, n4, n5, n6⟩ := hsn
  have ho' := o3 w.drew rfl
  rw [hlo] at ho'
  have hrun := run_append_grow' (P := P) w t u ty el i zv d ht hu hd hi hz b sLen sCap ol ho' x new.length nl (n2 w) (n3 w.drew rfl) hg h63 hfit
  have hge := grownCap_ge w (sLen + new.length) sCap el
  have hzl := zeroCells_length zv.cells (grownCap w (sLen + new.length) sCap el - (sLen + new.length))
  rw [hzs] at hzl
  have hcs : (ol ++ nl ++ (Builtin.zeroCells zv.cells (grownCap w (sLen + new.length) sCap el - (sLen + new.length))).toList).length = grownCap w (sLen + new.length) sCap el * i.size := by
    rw [List.length_append, List.length_append, o1, n1, hzl, hlo, ← Nat.add_mul, ← Nat.add_mul]
    congr 1; omega
  obtain ⟨R', E'⟩ := R.alloc_grown (P := P) el (olds ++ new) _ (grownCap w (sLen + new.length) sCap el) (by simp; omega) hcs (fun k j => if k < olds.length then fo k j else fn (k - olds.length) j)
    (fun k y hy => by
      by_cases hk : k < olds.length
      · rw [List.getElem?_append_left hk] at hy; exact o5 k y hy
      · rw [List.getElem?_append_right (by omega)] at hy; exact n5 _ y hy)
    (fun k y j c hy hc => by
      by_cases hk : k < olds.length
      · rw [List.getElem?_append_left hk] at hy
        obtain ⟨q1, q2⟩ := o6 k y j c hy hc
        simp only [hk, if_true]
        have hlt : k * i.size + j < ol.length := (List.getElem?_eq_some_iff.1 q1).1
        exact ⟨by rw [List.append_assoc, List.getElem?_append_left hlt]; exact q1, o4 _ (List.mem_of_getElem? q1), q2⟩
      · rw [List.getElem?_append_right (by omega)] at hy
        obtain ⟨q1, q2⟩ := n6 _ y j c hy hc
        simp only [hk, if_false]
        have hlt : (k - olds.length) * i.size + j < nl.length := (List.getElem?_eq_some_iff.1 q1).1
        have hmul : k * i.size = olds.length * i.size + (k - olds.length) * i.size := by rw [← Nat.add_mul]; congr 1; omega
        refine ⟨?_, n4 _ (List.mem_of_getElem? q1), q2⟩
        rw [List.append_assoc, List.getElem?_append_right (by omega), List.getElem?_append_left (by omega), ← q1]
        congr 1; omega)
    w.drew (below_drew w)
  refine ⟨_, _, _, hrun, R', E', ?_⟩
  have := VR.sl (g := g.bind h.length w.drew.heap.size i.size (grownCap w (sLen + new.length) sCap el)) (n := h.length + 1)
    (w := w.drew.alloc (.cells (ol ++ nl ++ (Builtin.zeroCells zv.cells (grownCap w (sLen + new.length) sCap el - (sLen + new.length))).toList).toArray el (0, 0))) h.length 0 (sLen + new.length) none (grownCap w (sLen + new.length) sCap el) (by omega) hge trivial (by simp)
  simpa using this
theorem okSrcD_spec {el : TypeId} {d : TypeDesc} (h : okSrcD el d = true) : d = .slice el ∨ d = .string := by
  unfold okSrcD at h
  split at h
  · left; simp at h; rw [h]
  · exact .inr rfl
  · cases h
theorem own_append {args : Array Operand} {argTypes : Array TypeId} {x y : Operand} {t u : TypeId} (ho : o.op = .call { callee := .builtin .append, args, argTypes }) (ha : args.toList = [x, y]) (hat : argTypes.toList = [t, u]) {el : TypeId} {d : TypeDesc}
    (ht : P.underlying t = some (.slice el)) (hu : P.underlying u = some d) (hd : okSrcD el d = true) {i : TypeInfo} (hi : P.info? el = some i) {z : AV} (hz : zeroT P el = some z) (hzl : z.cells.length = i.size) {b c : AX} (hx : compX x = some b) (hy : compX y = some c)
    (R : Rel Φ g h w) (E : EnvR g h.length w e a) (hA : aop P Φ e h (.append el i.size i.bytes b c) K X) : Owes P Φ ρ g h w a o K X := by
  have V := compX_sound hx E
  have U := compX_sound hy E
  obtain ⟨i', zv, hi', hzv, hcv⟩ := zeroT_spec hz
  have : i' = i := by rw [hi] at hi'; exact (Option.some.inj hi').symm
  subst this
  have hzs : zv.cells.size = i'.size := by
    have := (ofConst_cells hcv g h.length w).1.1
    rw [hzl] at this; simpa using this.symm
  have hd' := okSrcD_spec hd
  have hexec : ∀ v w', (Builtin.append_ #[t, u] o.type #[a.eval x, a.eval y]).run P w = .ok v w' → (execOp a.eval o).run P w = .ok (.value v) w' := by
    intro v w' hv
    have e1 : args = #[x, y] := Array.ext' ha
    have e2 : argTypes = #[t, u] := Array.ext' hat
    simp [execOp, ho, resolve, invoke, builtin, e1, e2, hv]
  simp only [aop, aappend] at hA
  obtain ⟨new, hsn, hA⟩ := srcOf_sound (P := P) R U hA
  generalize b.ev e = bv at hA V
  generalize hxe : a.eval x = xu at V hexec
  split at hA
  · cases V
    obtain ⟨h1, h2, hA⟩ := hA
    cases new with
    | nil =>
      obtain ⟨nl, fn, n1, n2, n3, n4, n5, n6⟩ := hsn
      exact owes_pure R (hexec _ _ (run_append_none (P := P) w t u o.type el i' d ht hu hd' hi (a.eval y) nl (n2 w) (n3 w rfl))) hA .nils
    | cons n0 ns =>
      obtain ⟨v, g', w', hrun, R', E', V'⟩ := append_grow (P := P) R (ty := o.type) ht hu hd' hi hzv hzs (src_nil P g h.length w i'.size) rfl hsn (by simp) (by simpa using h2) (by simpa using h1)
      simp only [List.nil_append, Nat.zero_add] at R' V'
      exact owes_value (hexec _ _ hrun) hA R' (by simpa using V') E' (by simp)
  · rename_i r j m cap
    split at hA
    · rename_i T' sz els hr
      obtain ⟨rfl, rfl, rfl, rfl, h1, h2, hA⟩ := hA
      obtain ⟨hb1, hez, hb2, hb3, cs, hb, hsz, hcap, hgr, f, hf⟩ := R.blk r _ hr
      have hsrc := R.src_own (P := P) hr V (by omega)
      rw [List.drop_zero, List.take_length] at hsrc
      cases V with
      | sl _ _ _ _ cc hrl hm hc hk =>
        simp only [Nat.zero_mul] at hexec hsrc
        by_cases hroom : els.length + new.length ≤ cc
        · obtain ⟨nl, fn, n1, n2, n3, n4, n5, n6⟩ := hsn
          have hfit : 0 + els.length * i'.size + nl.length ≤ cs.size := by
            rw [n1, hsz, hez, Nat.zero_add, ← Nat.add_mul]; exact Nat.mul_le_mul_right _ (by omega)
          have hrun := run_append_room' (P := P) w t u o.type T' i' d ht hu hd' hi (g.loc r) 0 els.length cc cs T' hb (a.eval y) new.length nl (n2 w) (n3 w rfl) hroom n4 hfit
          obtain ⟨s1, s2, s3, s4, s5⟩ := setRow_same w (g.loc r) (cs.toList.take (0 + els.length * i'.size) ++ nl ++ cs.toList.drop (0 + els.length * i'.size + nl.length)).toArray
          obtain ⟨R1, E1⟩ := R.update (b' := .cells true T' i'.size (els ++ new)) hr rfl s5 s1 s2 s3 s4 (fun hE => by
            refine ⟨hb1, hez, hb2, fun k q hq => ?_, _, setRow_heap w _ cs _ T' (0, 0) hb, ?_, by simp; omega, (fun h => by cases h), fun k j => if k < els.length then f k j else fn (k - els.length) j, ?_⟩
            · rw [hez]
              by_cases hkl : k < els.length
              · rw [List.getElem?_append_left hkl] at hq; rw [← hez]; exact hb3 k q hq
              · rw [List.getElem?_append_right (by omega)] at hq; exact n5 _ q hq
            · rw [← hsz]; simp; simp at hfit; omega
            · rw [hez]
              intro k q jj c hq hc
              have htl : (cs.toList.take (0 + els.length * i'.size)).length = els.length * i'.size := by simp; simp at hfit; omega
              by_cases hkl : k < els.length
              · rw [List.getElem?_append_left hkl] at hq
                simp only [hkl, if_true]
                obtain ⟨q1, q2, q3⟩ := hf k q jj c hq hc
                rw [hez] at q1
                have hjj : jj < i'.size := by rw [← hez, ← hb3 k q hq]; exact (List.getElem?_eq_some_iff.1 hc).1
                have hlt : k * i'.size + jj < els.length * i'.size := by
                  have := Nat.mul_le_mul_right i'.size hkl
                  rw [Nat.succ_mul] at this; omega
                refine ⟨?_, q2, q3.ext hE (Nat.le_refl _)⟩
                rw [List.getElem?_toArray, List.append_assoc, List.getElem?_append_left (by rw [htl]; exact hlt), List.getElem?_take_of_lt (by omega)]
                simpa using q1
              · rw [List.getElem?_append_right (by omega)] at hq
                simp only [hkl, if_false]
                obtain ⟨q1, q2⟩ := n6 _ q jj c hq hc
                have hlt : (k - els.length) * i'.size + jj < nl.length := (List.getElem?_eq_some_iff.1 q1).1
                have hmul : k * i'.size = els.length * i'.size + (k - els.length) * i'.size := by rw [← Nat.add_mul]; congr 1; omega
                refine ⟨?_, n4 _ (List.mem_of_getElem? q1), q2.ext hE (Nat.le_refl _)⟩
                rw [List.getElem?_toArray, List.append_assoc, List.getElem?_append_right (by rw [htl]; omega), htl, List.getElem?_append_left (by omega), ← q1]
                congr 1; omega)
          have hr1 : (h.set r (.cells true T' i'.size (els ++ new)))[r]? = some (.cells true T' i'.size (els ++ new)) := List.getElem?_set_self hrl
          obtain ⟨R2, E2⟩ := R1.move hr1 rfl
          rw [List.length_set] at R2 E2
          rw [List.set_set] at R2
          refine owes_value (hexec _ _ hrun) hA R2 ?_ (E1.trans E2 (Nat.le_refl _)) (by simp)
          have := VR.sl (g := g.bind h.length (g.loc r) (g.esz r) (g.cpn r)) (n := (h.set r AB.dead ++ [AB.cells true T' i'.size (els ++ new)]).length)
            (w := w.setRow (g.loc r) (cs.toList.take (0 + els.length * i'.size) ++ nl ++ cs.toList.drop (0 + els.length * i'.size + nl.length)).toArray) h.length 0 (els.length + new.length) none cc (by simp) hroom trivial (by simpa using hk)
          simpa using this
        · obtain ⟨v, g', w', hrun, R', E', V'⟩ := append_grow (P := P) R (ty := o.type) ht hu hd' hi hzv hzs hsrc rfl hsn (by omega) h2 h1
          have R2 := R'.kill r
          rw [List.set_append_left _ _ hrl] at R2
          exact owes_value (hexec _ _ hrun) hA R2 (by simpa using V') E' (by simp)
    · rename_i gr T' sz els cap' hr
      obtain ⟨rfl, h0, hlt, h1, h2, hA⟩ := hA
      have hsrc := R.src_own (P := P) hr V h0
      have hlen : ((els.drop j).take m).length = m := by simp; omega
      cases V with
      | sl _ _ _ _ cc hrl hm hc hk =>
        simp only [capOk] at hc
        subst hc
        obtain ⟨v, g', w', hrun, R', E', V'⟩ := append_grow (P := P) R (ty := o.type) ht hu hd' hi hzv hzs hsrc hlen hsn hlt h2 h1
        exact owes_value (hexec _ _ hrun) hA R' (by simpa using V') E' (by simp)
    · exact hA.elim
  · exact hA.elim
theorem own_len {args : Array Operand} {argTypes : Array TypeId} {x : Operand} {t : TypeId} (ho : o.op = .call { callee := .builtin .len, args, argTypes }) (ha : args.toList = [x]) (hat : argTypes.toList = [t]) {d : TypeDesc} (ht : P.underlying t = some d)
    (hd : d = .string ∨ (∃ q, d = .slice q) ∨ ∃ q q', d = .map q q') {tk : TK} (htk : tk = tkOf d) {b : AX} (hx : compX x = some b) (R : Rel Φ g h w) (E : EnvR g h.length w e a) (hA : aop P Φ e h (.len tk b) K X) : Owes P Φ ρ g h w a o K X := by
  have V := compX_sound hx E
  have hexec : ∀ v w', (Builtin.len_ #[t] o.type #[a.eval x]).run P w = .ok v w' → (execOp a.eval o).run P w = .ok (.value v) w' := by
    intro v w' hv
    have e1 : args = #[x] := Array.ext' ha
    have e2 : argTypes = #[t] := Array.ext' hat
    simp [execOp, ho, resolve, invoke, builtin, e1, e2, hv]
  simp only [aop] at hA
  generalize b.ev e = bv at hA V
  generalize hxe : a.eval x = xu at V hexec
  subst htk
  split at hA
  · rename_i l htk
    have : d = .string := by rcases hd with rfl | ⟨q, rfl⟩ | ⟨q, q', rfl⟩ <;> simp [tkOf] at htk; rfl
    subst this; cases V
    exact owes_pure R (hexec _ _ (by simp only [Builtin.len_, List.getElem?_toArray, List.getElem?_cons_zero, Sem.run_bind, run_underlying ht, Result.andThen_ok, Sem.run_pure]; simp [goInt, ByteArray.size])) hA (.int _ _)
  · rename_i l htk
    have : ∃ q, d = .slice q := by rcases hd with rfl | ⟨q, rfl⟩ | ⟨q, q', rfl⟩ <;> simp [tkOf] at htk; exact ⟨q, rfl⟩
    obtain ⟨q, rfl⟩ := this
    cases V
    · exact owes_pure R (hexec _ _ (by simp only [Builtin.len_, List.getElem?_toArray, List.getElem?_cons_zero, Sem.run_bind, run_underlying ht, Result.andThen_ok, Sem.run_pure]; rfl)) hA (.int _ _)
    · exact owes_pure R (hexec _ _ (by simp only [Builtin.len_, List.getElem?_toArray, List.getElem?_cons_zero, Sem.run_bind, run_underlying ht, Result.andThen_ok, Sem.run_pure]; rfl)) hA (.int _ _)
  · rename_i htk
    have : ∃ q, d = .slice q := by rcases hd with rfl | ⟨q, rfl⟩ | ⟨q, q', rfl⟩ <;> simp [tkOf] at htk; exact ⟨q, rfl⟩
    obtain ⟨q, rfl⟩ := this
    cases V
    exact owes_pure R (hexec _ _ (by simp only [Builtin.len_, List.getElem?_toArray, List.getElem?_cons_zero, Sem.run_bind, run_underlying ht, Result.andThen_ok, Sem.run_pure]; rfl)) hA (.int _ _)
  · rename_i r i m c htk
    have : ∃ q, d = .slice q := by rcases hd with rfl | ⟨q, rfl⟩ | ⟨q, q', rfl⟩ <;> simp [tkOf] at htk; exact ⟨q, rfl⟩
    obtain ⟨q, rfl⟩ := this
    cases V
    exact owes_pure R (hexec _ _ (by simp only [Builtin.len_, List.getElem?_toArray, List.getElem?_cons_zero, Sem.run_bind, run_underlying ht, Result.andThen_ok, Sem.run_pure]; rfl)) hA (.int _ _)
  · rename_i r htk
    have : ∃ q q', d = .map q q' := by rcases hd with rfl | ⟨q, rfl⟩ | ⟨q, q', rfl⟩ <;> simp [tkOf] at htk; exact ⟨q, q', rfl⟩
    obtain ⟨q, q', rfl⟩ := this
    split at hA
    · rename_i ents hr
      obtain ⟨hbase, es, clock, hw, hlen, hents⟩ := R.blk r _ hr
      cases V
      have hget : (getObj (g.loc r)).run P w = .ok (.map es clock) w := by simp [getObj, Sem.run, hw]
      refine owes_pure R (hexec (goInt es.size) w (by simp only [Builtin.len_, List.getElem?_toArray, List.getElem?_cons_zero, Sem.run_bind, run_underlying ht, Result.andThen_ok, hget, Sem.run_pure])) hA ?_
      rw [hlen]; exact .int _ _
    · exact hA.elim
  · rename_i htk
    have : ∃ q q', d = .map q q' := by rcases hd with rfl | ⟨q, rfl⟩ | ⟨q, q', rfl⟩ <;> simp [tkOf] at htk; exact ⟨q, q', rfl⟩
    obtain ⟨q, q', rfl⟩ := this
    cases V
    exact owes_pure R (hexec _ _ (by simp only [Builtin.len_, List.getElem?_toArray, List.getElem?_cons_zero, Sem.run_bind, run_underlying ht, Result.andThen_ok, Sem.run_pure]; rfl)) hA (.int _ _)
  · exact hA.elim
theorem own_tassert {x : Operand} {xt t : TypeId} {ok : Bool} (ho : o.op = .typeAssert x xt t ok) {d : TypeDesc} (ht : P.underlying t = some d) (hd : ∀ ms, d ≠ .interface ms) {z : AV} (hz : zeroT P t = some z) {b : AX} (hx : compX x = some b)
    (R : Rel Φ g h w) (E : EnvR g h.length w e a) (hA : aop P Φ e h (.tassert t z ok b) K X) : Owes P Φ ρ g h w a o K X := by
  have V := compX_sound hx E
  obtain ⟨i, zv, hi, hzv, hcv⟩ := zeroT_spec hz
  have Vz := (ofConst_sound hcv g h.length w).1
  have hexec : ∀ v, (Instr.typeAssert (a.eval x) xt t ok).run P w = .ok v w → (execOp a.eval o).run P w = .ok (.value v) w := by intro v hv; simp [execOp, ho, hv]
  simp only [aop] at hA
  generalize b.ev e = bv at hA V
  generalize hxe : a.eval x = xu at V hexec
  split at hA
  · rename_i t' v
    cases V with
    | iface _ _ u hu =>
      split at hA
      · rename_i heq
        subst heq
        refine owes_pure R (u := if ok then .tuple #[u, .bool true] else u) (hexec _ ?_) hA ?_
        · simp only [Instr.typeAssert, Sem.run_bind, run_underlying ht, Result.andThen_ok]
          cases d <;> first | exact absurd rfl (hd _) | simp
        · cases ok with
          | false => exact hu
          | true => exact .tup [v, .bool true] [u, .bool true] rfl (VRs.cons hu (VRs.cons (.bool _) .nil)).2
      · rename_i hne
        obtain ⟨rfl, hA⟩ := hA
        refine owes_pure R (u := .tuple #[zv, .bool false]) (hexec _ ?_) hA (.tup [z, .bool false] [zv, .bool false] rfl (VRs.cons Vz (VRs.cons (.bool _) .nil)).2)
        simp only [Instr.typeAssert, Sem.run_bind, run_underlying ht, Result.andThen_ok]
        cases d <;> first | exact absurd rfl (hd _) | simp [hne, zeroValue, typeInfo, hi, hzv]
  · cases V
    obtain ⟨rfl, hA⟩ := hA
    refine owes_pure R (u := .tuple #[zv, .bool false]) (hexec _ ?_) hA (.tup [z, .bool false] [zv, .bool false] rfl (VRs.cons Vz (VRs.cons (.bool _) .nil)).2)
    simp only [Instr.typeAssert, Sem.run_bind, run_underlying ht, Result.andThen_ok]
    cases d <;> first | exact absurd rfl (hd _) | simp [zeroValue, typeInfo, hi, hzv]
  · exact hA.elim
end
end Go.Abs
end
