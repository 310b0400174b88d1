/- The call of planispherelaw36.QueryTags returns true at every input and leaves each argument as it was, where the listed package-level variables hold what the program's text lays (the tied card). -/
import Derived.ProofKit
import Derived.OpenShut
import Derived.Deep.Slices
import Derived.ReadAgain
import Derived.ChangeSame
import Derived.ChangeBears
import Derived.SizedLaws
import Derived.Test.YtdpoipifjknhkaaGreatDoorRows
import Derived.LaidMore
import Derived.Deep.DeepWitnessRowRef
import Derived.Lib.LaidTab
import Derived.Test.YtdpoipifjknhkaaGreatDoorCards
import Derived.Test.YtdpoipifjknhkaaGreatDoorTie
import Derived.Test.YtdpoipifjknhkaaGreatDoorT10
import Derived.Test.YtdpoipifjknhkaaGreatDoorT13
import Derived.Test.YtdpoipifjknhkaaGreatDoorT14
import Derived.Test.YtdpoipifjknhkaaGreatDoorT15
section
namespace Go.Abs
open Go.ChangeShapes Go.WideShapes Go.ChangeAt Go.RowKit Go.Deep
def gI (w : World) : Gh := { loc := fun _ => 0, esz := fun _ => 0, cpn := fun _ => 0, imm := fun b o => ∃ v, w.cell? ⟨b, o, none⟩ = some v, base := w.heap.size, w0 := w, dfr := fun _ => False }
theorem relI {Φ : World → Prop} {w : World} (h : Φ w) : Rel Φ (gI w) [] w :=
  ⟨fun r b hr => by simp at hr, fun r s b c hr => by simp at hr, fun b o hi => hi, Below.refl _ _, Nat.le_refl _, ⟨h, Nat.le_refl _⟩, fun b hb => hb.elim⟩
theorem S.callsI {P : Program} {Φ : World → Prop} {f : FuncId} {args : List AV} {v : AV} {w : World} {vs : List Value} (hs : S P Φ f args [] fun r _ => r = .ret v) (hΦ : Φ w) (V : VRs (gI w) 0 w args vs) :
    Calls P f vs.toArray w fun e w' => ∃ u g n, e = .returned u ∧ VR g n w' v u ∧ Below w.heap.size w w' := by
  refine (hs.run (gI w) w vs (relI hΦ) V).mono ?_
  rintro e w' ⟨g1, h1, r, rfl, R1, E1, X1, _⟩
  have hb : Below w.heap.size w w' := by
    have := R1.below
    rw [X1.base, X1.w0] at this; exact this
  cases e with
  | returned u => exact ⟨u, g1, _, rfl, E1, hb⟩
  | panicked c => exact E1.elim
  | outgrown => exact E1.elim
section
variable {H : Type} {enc : TypeId × Value → H} {P : Program} {w : World} {base : Nat} {spare : Nat → Bool} {held : Bool}
def Wt (P : Program) (t : TypeId) (d : DataW H) : Prop := ∀ n ∈ d.weights P t, n ≤ reachBytes
theorem weights_all {e : TypeId} {d : DataW H} : ∀ {l : List (DataW H)}, d ∈ l → ∀ n ∈ d.weights P e, n ∈ DataW.weightsAll P e l
  | c :: r, h, n, hn => by
    simp only [DataW.weightsAll, List.mem_append]
    rcases List.mem_cons.1 h with rfl | h
    · exact .inl hn
    · exact .inr (weights_all h n hn)
theorem Wt.part {t : TypeId} {fs : Array Field} {ds : List (DataW H)} (ht : P.underlying t = some (.struct fs)) (h : Wt P t (.agg ds)) {i : Nat} {t' : TypeId} {d : DataW H} (hi : (fs.toList.map (·.type))[i]? = some t') (hd : ds[i]? = some d) : Wt P t' d := fun n hn => by
  refine h n ?_
  simp only [DataW.weights, ht]
  exact DataW.weights_mem_each hi hd n hn
theorem Wt.elem {t e : TypeId} {ds sp : List (DataW H)} (ht : P.underlying t = some (.slice e)) (h : Wt P t (.slice ds sp)) {d : DataW H} (hd : d ∈ ds) : Wt P e d := fun n hn => by
  refine h n ?_
  simp only [DataW.weights, ht, List.mem_cons, List.mem_append]
  exact .inr (.inl (weights_all hd n hn))
theorem Wt.row {t e : TypeId} {ds sp : List (DataW H)} (ht : P.underlying t = some (.slice e)) (h : Wt P t (.slice ds sp)) : ds.length * P.bytesOf e ≤ reachBytes := by
  have := h ((ds.length + sp.length) * P.bytesOf e) (by simp only [DataW.weights, ht, List.mem_cons]; exact .inl trivial)
  exact Nat.le_trans (Nat.mul_le_mul_right _ (by omega)) this
structure Rd (w : World) (xs : List AV) (cs : List Value) : Prop where
  vr : VRs (gI w) 0 w xs cs
  one : ∀ v ∈ cs, v.oneCell' = true
theorem Rd.nil : Rd w [] [] := ⟨VRs.nil, by simp⟩
theorem Rd.append {xs bs : List AV} {cs ds : List Value} (h : Rd w xs cs) (k : Rd w bs ds) : Rd w (xs ++ bs) (cs ++ ds) := by
  refine ⟨h.vr.append k.vr, fun v hv => ?_⟩
  rcases List.mem_append.1 hv with hv | hv
  · exact h.one v hv
  · exact k.one v hv
theorem Rd.len {xs : List AV} {cs : List Value} (h : Rd w xs cs) : xs.length = cs.length := h.vr.1
theorem rd_int {t : TypeId} {k : IntKind} {fuel : Nat} {cs : List Value} {x : DataW H × List MemPlace} (ht : P.underlying t = some (.int k)) (h : DataW.trod enc P w base spare held fuel t cs = some x) : ∃ n, Rd w [.int k n] cs ∧ (Lit.int k n).wf = true := by
  obtain ⟨n, rfl, _, hw⟩ := DataW.trod_int ht h
  exact ⟨n, ⟨VRs.cons (.int _ _) .nil, by simp [Value.oneCell']⟩, hw⟩
theorem rd_str {t : TypeId} {fuel : Nat} {cs : List Value} {x : DataW H × List MemPlace} (ht : P.underlying t = some .string) (h : DataW.trod enc P w base spare held fuel t cs = some x) (hw : Wt P t x.1) : ∃ l : List UInt8, Rd w [.str l] cs ∧ l.length ≤ reachBytes := by
  obtain ⟨s, rfl, rfl, hs⟩ := DataW.trod_string ht h
  refine ⟨s.data.toList, ⟨VRs.cons ?_ .nil, by simp [Value.oneCell']⟩, hw _ (by simp [DataW.weights])⟩
  have : s = ⟨s.data.toList.toArray⟩ := by obtain ⟨⟨l⟩⟩ := s; rfl
  rw [this]; exact .str _
theorem Rd.agg {xs : List AV} {cs : Array Value} (h : Rd w xs cs.toList) : VR (gI w) 0 w (.agg xs) (.agg cs) := by
  have := VR.agg (g := gI w) (n := 0) (w := w) xs cs.toList h.vr.1 h.vr.2 h.one
  simpa using this
theorem choose_list {α : Type} {p : Nat → α → Prop} : ∀ (n : Nat), (∀ i, i < n → ∃ a, p i a) → ∃ l : List α, l.length = n ∧ ∀ (i : Nat) (a : α), l[i]? = some a → p i a
  | 0, _ => ⟨[], rfl, fun i a h => by simp at h⟩
  | n + 1, h => by
    obtain ⟨l, hl, hp⟩ := choose_list n fun i hi => h i (by omega)
    obtain ⟨a, ha⟩ := h n (by omega)
    refine ⟨l ++ [a], by simp [hl], fun i x hx => ?_⟩
    by_cases hi : i < l.length
    · rw [List.getElem?_append_left hi] at hx; exact hp i x hx
    · rw [List.getElem?_append_right (by omega)] at hx
      have : i - l.length = 0 := by
        rcases Nat.eq_zero_or_pos (i - l.length) with h0 | h0
        · exact h0
        · rw [List.getElem?_eq_none (by simp; omega)] at hx; cases hx
      rw [this] at hx
      simp at hx
      subst hx
      have : i = n := by omega
      subst this; exact ha
theorem addr_add_none {b o j : Nat} : (⟨b, o, none⟩ : Addr).add j = ⟨b, o + j, none⟩ := by
  unfold Addr.add; split <;> simp_all
theorem rd_slice {α : Type} {cl : α → List AV} {ok : α → Prop} {mk : α → AV} (hmk : ∀ a, (mk a).cells = cl a) {t e : TypeId} {sz fuel : Nat} {cs : List Value} {x : DataW H × List MemPlace} (ht : P.underlying t = some (.slice e)) (hsz : P.cellsOf e = sz) (hpos : 0 < sz)
    (h : DataW.trod enc P w base spare held fuel t cs = some x) (hw : Wt P t x.1) (he : ∀ n cs x, n < fuel → DataW.trod enc P w base spare held n e cs = some x → Wt P e x.1 → ∃ a : α, ok a ∧ Rd w (cl a) cs) :
    Rd w [.nils] cs ∨ ∃ l : List α, (∀ a ∈ l, ok a) ∧ l.length * P.bytesOf e ≤ reachBytes ∧ Rd w [.lst sz (l.map mk)] cs := by
  rcases DataW.trod_slice ht h with ⟨rfl, _⟩ | ⟨a, len, cap, elems, rest, n, rfl, rfl, rfl, _, hl, hm, hlen, hel, _, _⟩
  · exact .inl ⟨VRs.cons .nils .nil, by simp [Value.oneCell']⟩
  · right
    subst hsz
    obtain ⟨l, hll, hp⟩ := choose_list (p := fun i (y : α) => ok y ∧ ∃ cs', w.cells? base (a.add (i * P.cellsOf e)) (P.cellsOf e) = some cs' ∧ Rd w (cl y) cs') len fun i hi => by
      have h1 := hel i hi
      rw [List.getElem?_eq_getElem (by omega)] at h1
      obtain ⟨cs', h2, h3⟩ := Option.bind_eq_some_iff.1 h1
      obtain ⟨y, hy, hr⟩ := he n cs' _ (by omega) h3 (hw.elem ht (List.mem_map.2 ⟨_, List.getElem_mem (by omega), rfl⟩))
      exact ⟨y, hy, cs', h2, hr⟩
    refine ⟨l, fun y hy => ?_, by have := hw.row ht; rw [List.length_map] at this; rw [hll, ← hlen]; exact this, ?_, by simp [Value.oneCell']⟩
    · obtain ⟨i, hi⟩ := mem_get hy
      exact (hp i y hi).1
    · refine VRs.cons ?_ .nil
      cases l with
      | nil =>
        simp only [List.length_nil] at hll
        subst hll
        exact .lst0 _ _ _
      | cons y0 l0 =>
        obtain ⟨_, cs0, hc0, hr0⟩ := hp 0 y0 rfl
        obtain ⟨_, hlc, hcell⟩ := World.cells?_some hc0
        have h00 := hcell 0 hpos
        have hspot : a.spot = none := by
          have e1 : (a.add (0 * P.cellsOf e)).add 0 = a := by simp [Addr.add]
          rw [e1] at h00
          have : ∃ v, cs0[0]? = some v := ⟨cs0[0]'(by omega), by simp⟩
          obtain ⟨v, hv⟩ := this
          rw [hv] at h00
          unfold World.cell? at h00
          split at h00
          · cases hs : a.spot with
            | none => rfl
            | some q => simp [hs] at h00
          · cases h00
        obtain ⟨b, off, sp⟩ := a
        simp only at hspot
        subst hspot
        have key : ∀ (i : Nat) (q : AV) (j : Nat) (c : AV), ((y0 :: l0).map mk)[i]? = some q → q.cells[j]? = some c → ∃ v, w.cell? ⟨b, off + i * P.cellsOf e + j, none⟩ = some v ∧ v.oneCell' = true ∧ VR (gI w) 0 w c v := by
          intro i q j c hq hc
          rw [List.getElem?_map] at hq
          obtain ⟨y, hy, rfl⟩ := Option.map_eq_some_iff.1 hq
          rw [hmk] at hc
          obtain ⟨_, cs', h2, h3⟩ := hp i y hy
          obtain ⟨_, hlc', hcell'⟩ := World.cells?_some h2
          have hj : j < P.cellsOf e := by rw [← hlc', ← h3.len]; exact (List.getElem?_eq_some_iff.1 hc).1
          obtain ⟨v, hv, hvr⟩ := h3.vr.get hc
          have := hcell' j hj
          rw [addr_add_none, addr_add_none, hv] at this
          exact ⟨v, this, h3.one v (List.mem_of_getElem? hv), hvr⟩
        have hl2 : ((y0 :: l0).map mk).length = len := by simpa using hll
        have := VR.lst (g := gI w) (n := 0) (w := w) (P.cellsOf e) ((y0 :: l0).map mk) b off cap (fun i j => (w.cell? ⟨b, off + i * P.cellsOf e + j, none⟩).getD undef) (by omega)
          (fun i q hq => by
            rw [List.getElem?_map] at hq
            obtain ⟨y, hy, rfl⟩ := Option.map_eq_some_iff.1 hq
            rw [hmk]
            obtain ⟨_, cs', h2, h3⟩ := hp i y hy
            rw [h3.len]; exact (World.cells?_some h2).2.1)
          (fun i q j c hq hc => by
            obtain ⟨v, h1, h2, _⟩ := key i q j c hq hc
            exact ⟨⟨v, h1⟩, by rw [h1]; rfl, by rw [h1]; exact h2⟩)
          (fun i q j c hq hc => by
            obtain ⟨v, h1, _, h3⟩ := key i q j c hq hc
            rw [h1]; exact h3)
        rw [hl2] at this
        exact this
end
theorem post_of_below {H : Type} {enc : TypeId × Value → H} {P : Program} {f : Func} {s : ChangeSpec} {apart fresh handsOn again : Bool} {W W' : World} {args : Array Value} {v : Value} {ds gs : List (DataW H)} {before pa pv : List MemPlace}
    (hW : DataW.Whole enc P f.params.toList s.vars apart W args.toList ds gs before)
    (hres : ∀ (b : Nat) (sp : Nat → Bool) (hd : Bool), DataW.TrodAll enc P W' b sp hd f.resultTypes.toList (v.resultList f.resultTypes.size) (s.fn H (ds ++ gs)).results [])
    (hargs : ∀ sp : Nat → Bool, (∀ p ∈ before, sp p.block = true) → DataW.TrodAll enc P W' 0 sp true f.params.toList args.toList (s.fn H (ds ++ gs)).args pa)
    (hvars : ∀ sp : Nat → Bool, (∀ p ∈ before, sp p.block = true) → DataW.TrodVars enc P W' sp s.vars (s.fn H (ds ++ gs)).vars pv)
    (hps : before = pa ++ pv) (hb : Below W.heap.size W W')
    (hok : ∀ (j : Nat) (t : TypeId) (r : Value), f.resultTypes[j]? = some t → (v.resultList f.resultTypes.size)[j]? = some r → Value.okWide P W' .any 0 t r) :
    s.post enc P f apart fresh handsOn again W args v W' := by
  have hlt : ∀ p ∈ before, p.block < W.heap.size := fun p hp => hW.lt p hp
  have hold : ∀ p ∈ before, (fun b => decide (b < W.heap.size)) p.block = true := fun p hp => by simpa using hlt p hp
  refine ⟨ds, gs, before, [], pa, pv, hW, hres _ _ _, hargs _ hold, hvars _ hold, World.keptBut_mono (fun p hp => ⟨hp, ?_⟩) (hb.frame (· ∈ before)), fun _ => ?_⟩
  · rw [hps, List.mem_append] at hp
    exact Or.inr hp
  · obtain ⟨_, _, _, _, _, hz, hn⟩ := hW
    refine ⟨hok, _, _, ([] ++ pa) ++ pv, ⟨[] ++ pa, pv, trodAll_append (hargs _ (fun _ _ => rfl)) (hres _ _ _), hvars _ (fun _ _ => rfl), rfl, ?_, ?_⟩, ?_⟩
    · intro b off hp
      have hin : MemPlace.cell b off ∈ before := by rw [hps]; simpa using hp
      rw [hb.frozen (hlt _ hin)]
      exact hz b off hin
    · intro ha
      have := hn ha
      rw [hps] at this
      simpa using this
    · intro p hp _
      rw [hps]
      simpa using hp
theorem trodAll_below {H : Type} {enc : TypeId × Value → H} {P : Program} {W W' : World} {base : Nat} {sp : Nat → Bool} {hd : Bool} (hb : Below W.heap.size W W') : ∀ {ts : List TypeId} {vs : List Value} {ds : List (DataW H)} {ps : List MemPlace},
    DataW.TrodAll enc P W base sp hd ts vs ds ps → DataW.TrodAll enc P W' base sp hd ts vs ds ps
  | [], [], [], _, h => h
  | _ :: _, _ :: _, _ :: _, _, ⟨p, q, ⟨n, hn⟩, h2, e⟩ => ⟨p, q, ⟨n, DataW.trod_carry n _ _ _ hn fun x hx => hb.same (DataW.trod_lt n _ _ _ hn x hx)⟩, trodAll_below hb h2, e⟩
theorem row_of_S {H : Type} {enc : TypeId × Value → H} {P : Program} {Φ : World → Prop} {fid : FuncId} {f : Func} {s : ChangeSpec} {apart fresh handsOn again : Bool} {tb : TypeId} (hlo : laidOutB P = true) (hmr : mapsRowed P = true)
    (hz : ∀ t e, t < P.types.size → P.underlying t = some (.slice e) → 0 < P.cellsOf e) (hT : ∀ t ∈ f.params.toList, t < P.types.size) (hvars : s.vars = []) (hres : f.resultTypes = #[tb]) (htb : P.underlying tb = some .bool)
    {W : World} {args : Array Value} {ds gs : List (DataW H)} {before : List MemPlace} (hW : DataW.Whole enc P f.params.toList s.vars apart W args.toList ds gs before)
    (hfn : s.fn H ds = { results := [.lit (.bool true)], args := ds }) {xs : List AV} (hS : S P Φ fid xs [] fun r _ => r = .ret (.bool true)) (hΦ : Φ W) (V : VRs (gI W) 0 W xs args.toList) :
    Calls P fid args W fun e W' => ∃ v, e = .returned v ∧ s.post enc P f apart fresh handsOn again W args v W' := by
  have hW' := hW
  obtain ⟨p, q, hA, hV, rfl, hfz, hnd⟩ := hW
  rw [hvars] at hV
  obtain ⟨rfl, rfl⟩ := trodVars_none hV
  have key := hS.callsI hΦ V
  rw [Array.toArray_toList] at key
  refine key.mono ?_
  rintro e W' ⟨u, g, n, rfl, hu, hb⟩
  have hu := hu.bool_inv
  subst hu
  have hds : s.fn H (ds ++ []) = { results := [.lit (.bool true)], args := ds } := by rw [List.append_nil]; exact hfn
  refine ⟨_, rfl, post_of_below (pa := p) (pv := []) hW' ?_ ?_ ?_ rfl hb ?_⟩
  · intro b sp hd
    rw [hds, hres]
    exact trodAll_cons_mk (shut_bool htb _) trodAll_mk0
  · intro sp hsp
    rw [hds]
    exact trodAll_below hb (hA.respare (kids_rows hlo hmr) (fun t e ht hte => hz t e ht hte) hT (fun x hx => hsp x (by simpa using hx)))
  · intro sp _
    rw [hds, hvars]; rfl
  · intro j t r hj hr
    rw [hres] at hj hr
    cases j with
    | zero =>
      simp at hj
      subst hj
      simp [Value.resultList] at hr
      subst hr
      exact okWide_bool_mk htb _
    | succ j => simp at hj
end Go.Abs
end
section
namespace Go.QZ
open Go Go.Abs Go.Proofs Go.RowKit Go.ChangeShapes Go.WideShapes Go.ChangeAt Go.Deep
set_option maxRecDepth 100000
section
variable {H : Type} {enc : TypeId × Value → H} {w : World} {base : Nat} {spare : Nat → Bool} {held : Bool}
theorem cells_str : (Tryz.prog).cellsOf 9 = 1 := by kernel_rfl
theorem bytes_str : (Tryz.prog).bytesOf 9 = 16 := by kernel_rfl
theorem cells_int : (Tryz.prog).cellsOf 3 = 1 := by kernel_rfl
theorem cells_cond : (Tryz.prog).cellsOf 24 = 5 := by kernel_rfl
theorem cells_conds : (Tryz.prog).cellsOf 22 = 1 := by kernel_rfl
theorem cells_tag : (Tryz.prog).cellsOf 58 = 2 := by kernel_rfl
theorem cells_tags : (Tryz.prog).cellsOf 48 = 1 := by kernel_rfl
theorem cells_strs : (Tryz.prog).cellsOf 47 = 1 := by kernel_rfl
theorem cells_point : (Tryz.prog).cellsOf 26 = 2 := by kernel_rfl
theorem cells_obj : (Tryz.prog).cellsOf 50 = 6 := by kernel_rfl
theorem fld {t0 : TypeId} {fs : Array Field} {n : Nat} {cs : List Value} {x : DataW H × List MemPlace} {xs : List (DataW H × List MemPlace)} (ht : (Tryz.prog).underlying t0 = some (.struct fs)) (hx : x = (.agg (xs.map (·.1)), xs.flatMap (·.2))) (hw : Wt Tryz.prog t0 x.1) (hl : xs.length = fs.size) (hf : ∀ (i : Nat) (f : Field), fs[i]? = some f → DataW.trod enc Tryz.prog w base spare held n f.type ((cs.drop f.offset).take ((Tryz.prog).cellsOf f.type)) = xs[i]?)
    (i t o k : Nat) (h : (fs[i]?).map (fun f => (f.type, f.offset)) = some (t, o)) (hk : (Tryz.prog).cellsOf t = k) : ∃ x, DataW.trod enc Tryz.prog w base spare held n t ((cs.drop o).take k) = some x ∧ Wt Tryz.prog t x.1 := by
  obtain ⟨f, hf1, hf2⟩ := Option.map_eq_some_iff.1 h
  simp only [Prod.mk.injEq] at hf2
  obtain ⟨rfl, rfl⟩ := hf2
  subst hk
  subst hx
  have hi : i < fs.size := (Array.getElem?_eq_some_iff.1 hf1).1
  have hxi : xs[i]? = some (xs[i]'(by omega)) := List.getElem?_eq_getElem (by omega)
  refine ⟨xs[i]'(by omega), by rw [hf i f hf1]; exact hxi, ?_⟩
  refine hw.part ht (i := i) ?_ (by rw [List.getElem?_map, hxi]; rfl)
  rw [List.getElem?_map, Array.getElem?_toList, hf1]; rfl
theorem rd_cond : ∀ (fuel : Nat) (cs : List Value) (x : DataW H × List MemPlace), DataW.trod enc Tryz.prog w base spare held fuel 24 cs = some x → Wt Tryz.prog 24 x.1 → ∃ c : Cnd, True ∧ Rd w c.cl cs
  | 0, cs, x, h, hw => by simp [DataW.trod] at h
  | fuel + 1, cs, x, h, hw => by
    obtain ⟨xs, n, hn, hx, hlen, hxl, hf⟩ := DataW.trod_struct Tryz.underlying24 h
    have hn : fuel = n := by omega
    subst hn
    rw [cells_cond] at hlen
    obtain ⟨x0, h0, w0⟩ := fld Tryz.underlying24 hx hw hxl hf 0 3 0 1 rfl cells_int
    obtain ⟨x1, h1, w1⟩ := fld Tryz.underlying24 hx hw hxl hf 1 9 1 1 rfl cells_str
    obtain ⟨x2, h2, w2⟩ := fld Tryz.underlying24 hx hw hxl hf 2 9 2 1 rfl cells_str
    obtain ⟨x3, h3, w3⟩ := fld Tryz.underlying24 hx hw hxl hf 3 3 3 1 rfl cells_int
    obtain ⟨x4, h4, w4⟩ := fld Tryz.underlying24 hx hw hxl hf 4 22 4 1 rfl cells_conds
    match cs, hlen with
    | [c0, c1, c2, c3, c4], _ =>
      obtain ⟨op, r0, _⟩ := rd_int Tryz.underlying3 h0
      obtain ⟨k, r1, _⟩ := rd_str Tryz.underlying9 h1 w1
      obtain ⟨v, r2, _⟩ := rd_str Tryz.underlying9 h2 w2
      obtain ⟨m, r3, _⟩ := rd_int Tryz.underlying3 h3
      rcases rd_slice (cl := fun c : Cnd => c.cl) (ok := fun _ => True) (mk := fun c => AV.agg c.cl) (fun _ => rfl) Tryz.underlying22 cells_cond (by decide) h4 w4 (fun n' cs' x' hn' ht' hw' => rd_cond n' cs' x' ht' hw') with r4 | ⟨l, _, _, r4⟩
      · exact ⟨.nilk op k v m, trivial, by have := ((((r0.append r1).append r2).append r3).append r4); rw [Cnd.cl]; exact this⟩
      · exact ⟨.els op k v m l, trivial, by have := ((((r0.append r1).append r2).append r3).append r4); rw [Cnd.cl, Cnd.cls_eq]; exact this⟩
def Ob.okO (o : Ob) : Prop := (∀ t ∈ o.tagl, t.1.length ≤ reachBytes ∧ t.2.length ≤ reachBytes) ∧ o.name.length ≤ reachBytes ∧ ∀ l, o.refs = some l → l.length ≤ reachBytes ∧ ∀ s ∈ l, s.length ≤ reachBytes
theorem rd_tag (fuel : Nat) (cs : List Value) (x : DataW H × List MemPlace) (h : DataW.trod enc Tryz.prog w base spare held fuel 58 cs = some x) (hw : Wt Tryz.prog 58 x.1) : ∃ t : List UInt8 × List UInt8, (t.1.length ≤ reachBytes ∧ t.2.length ≤ reachBytes) ∧ Rd w [.str t.1, .str t.2] cs := by
  obtain ⟨xs, n, _, hx, hlen, hxl, hf⟩ := DataW.trod_struct Tryz.underlying58 h
  rw [cells_tag] at hlen
  obtain ⟨x0, h0, w0⟩ := fld Tryz.underlying58 hx hw hxl hf 0 9 0 1 rfl cells_str
  obtain ⟨x1, h1, w1⟩ := fld Tryz.underlying58 hx hw hxl hf 1 9 1 1 rfl cells_str
  match cs, hlen with
  | [c0, c1], _ =>
    obtain ⟨k, r0, b0⟩ := rd_str Tryz.underlying9 h0 w0
    obtain ⟨v, r1, b1⟩ := rd_str Tryz.underlying9 h1 w1
    exact ⟨(k, v), ⟨b0, b1⟩, r0.append r1⟩
theorem rd_obj (fuel : Nat) (cs : List Value) (x : DataW H × List MemPlace) (h : DataW.trod enc Tryz.prog w base spare held fuel 50 cs = some x) (hw : Wt Tryz.prog 50 x.1) : ∃ o : Ob, o.okO ∧ Rd w o.cl cs := by
  obtain ⟨xs, n, _, hx, hlen, hxl, hf⟩ := DataW.trod_struct Tryz.underlying50 h
  rw [cells_obj] at hlen
  obtain ⟨x0, h0, w0⟩ := fld Tryz.underlying50 hx hw hxl hf 0 9 0 1 rfl cells_str
  obtain ⟨x1, h1, w1⟩ := fld Tryz.underlying50 hx hw hxl hf 1 3 1 1 rfl cells_int
  obtain ⟨x2, h2, w2⟩ := fld Tryz.underlying50 hx hw hxl hf 2 26 2 2 rfl cells_point
  obtain ⟨x3, h3, w3⟩ := fld Tryz.underlying50 hx hw hxl hf 3 47 4 1 rfl cells_strs
  obtain ⟨x4, h4, w4⟩ := fld Tryz.underlying50 hx hw hxl hf 4 48 5 1 rfl cells_tags
  match cs, hlen with
  | [c0, c1, c2, c3, c4, c5], _ =>
    obtain ⟨nm, r0, bn⟩ := rd_str Tryz.underlying9 h0 w0
    obtain ⟨k, r1, _⟩ := rd_int Tryz.underlying3 h1
    obtain ⟨xs2, n2, _, hx2, _, hxl2, hf2⟩ := DataW.trod_struct Tryz.underlying26 h2
    obtain ⟨y0, g0, _⟩ := fld Tryz.underlying26 hx2 w2 hxl2 hf2 0 3 0 1 rfl cells_int
    obtain ⟨y1, g1, _⟩ := fld Tryz.underlying26 hx2 w2 hxl2 hf2 1 3 1 1 rfl cells_int
    obtain ⟨px, s0, _⟩ := rd_int Tryz.underlying3 g0
    obtain ⟨py, s1, _⟩ := rd_int Tryz.underlying3 g1
    have rfs : ∃ r : Option (List (List UInt8)), (∀ l, r = some l → l.length ≤ reachBytes ∧ ∀ s ∈ l, s.length ≤ reachBytes) ∧ Rd w [strsA r] [c4] := by
      rcases rd_slice (cl := fun s : List UInt8 => [AV.str s]) (ok := fun s => s.length ≤ reachBytes) (mk := fun s => AV.str s) (fun _ => rfl) Tryz.underlying47 cells_str (by decide) h3 w3 (fun n' cs' x' _ ht' hw' => by
        obtain ⟨l, r, hl⟩ := rd_str Tryz.underlying9 ht' hw'
        exact ⟨l, hl, r⟩) with r | ⟨l, hl, hr, r⟩
      · exact ⟨none, by simp, r⟩
      · refine ⟨some l, ?_, r⟩
        rintro _ ⟨⟩
        rw [bytes_str] at hr
        exact ⟨by omega, hl⟩
    have tgs : ∃ t : Option Tags, (∀ x ∈ t.getD [], x.1.length ≤ reachBytes ∧ x.2.length ≤ reachBytes) ∧ Rd w [tagsA t] [c5] := by
      rcases rd_slice (cl := fun t : List UInt8 × List UInt8 => [AV.str t.1, AV.str t.2]) (ok := fun t => t.1.length ≤ reachBytes ∧ t.2.length ≤ reachBytes) (mk := tagA) (fun _ => rfl) Tryz.underlying48 cells_tag (by decide) h4 w4 (fun n' cs' x' _ ht' hw' => rd_tag n' cs' x' ht' hw') with r | ⟨l, hl, _, r⟩
      · exact ⟨none, by simp, r⟩
      · exact ⟨some l, hl, r⟩
    obtain ⟨rf, hrf, r3⟩ := rfs
    obtain ⟨tg, ht, r4⟩ := tgs
    refine ⟨⟨nm, k, px, py, rf, tg⟩, ⟨ht, bn, hrf⟩, ?_⟩
    rw [Ob.cl_eq]
    exact (((((r0.append r1).append s0).append s1).append r3).append r4)
end
end Go.QZ
end
section
namespace Go.QZ
open Go Go.Abs Go.Proofs Go.RowKit Go.ChangeShapes Go.WideShapes Go.ChangeAt Go.Deep
open Go.Proofs.YtdpoipifjknhkaaGreatDoor
set_option maxRecDepth 100000
theorem own : ownKnob (Tryz.prog).godebug = none := by kernel_rfl
theorem gPow : (Tryz.prog).globalNamed "internal/strconv.uint64pow10" = some 0 := by kernel_rfl
theorem gRange : (Tryz.prog).globalNamed "strconv.ErrRange" = some 3 := by kernel_rfl
theorem gSyntax : (Tryz.prog).globalNamed "strconv.ErrSyntax" = some 2 := by kernel_rfl
theorem tPow : ((Tryz.prog).globals[0]?).map (·.type) = some 157 := by kernel_rfl
theorem tRange : ((Tryz.prog).globals[3]?).map (·.type) = some 94 := by kernel_rfl
theorem tSyntax : ((Tryz.prog).globals[2]?).map (·.type) = some 94 := by kernel_rfl
theorem cells_u64 : (Tryz.prog).cellsOf 140 = 1 := by kernel_rfl
theorem cells_pow : (Tryz.prog).cellsOf 157 = 20 := by kernel_rfl
theorem trod_iface' {H : Type} {enc : TypeId × Value → H} {P : Program} {w : World} {base : Nat} {spare : Nat → Bool} {held : Bool} {t : TypeId} {ms : Array (String × TypeId)} {fuel : Nat} {cs : List Value} {nm : String} {x : DataW H} {p : List MemPlace} (ht : P.underlying t = some (.interface ms)) (h : DataW.trod enc P w base spare held fuel t cs = some (.iface nm x, p)) :
    ∃ u v, cs = [.iface u v] := by
  cases fuel with
  | zero => simp [DataW.trod] at h
  | succ n =>
    unfold DataW.trod at h
    rw [ht] at h
    split at h <;> simp_all
theorem libV_of_laid {W : World} (h : laidMetH Tryz.prog Rows.queryConditionsRow.laid W) : LibV W := by
  have h : laidMetH Tryz.prog [("math/bits.deBruijn32tab", Rows.laid_math_bits_deBruijn32tab), ("math/bits.deBruijn64tab", Rows.laid_math_bits_deBruijn64tab), ("internal/strconv.uint64pow10", Rows.laid_internal_strconv_uint64pow10), ("strconv.ErrRange", Rows.laid_strconv_ErrRange), ("strconv.ErrSyntax", Rows.laid_strconv_ErrSyntax)] W := h
  rw [MakeChecks.laidMetH_plain _ _ _ (by kernel_rfl)] at h
  obtain ⟨ps, ⟨g0, t0, cs0, f0, p0, q0, hg0, ht0, hv0, hd0, ⟨g1, t1, cs1, f1, p1, q1, hg1, ht1, hv1, hd1, ⟨g2, t2, cs2, f2, p2, q2, hg2, ht2, hv2, hd2, ⟨g3, t3, cs3, f3, p3, q3, hg3, ht3, hv3, hd3, ⟨g4, t4, cs4, f4, p4, q4, hg4, ht4, hv4, hd4, _, _⟩, _⟩, _⟩, _⟩, _⟩, _, _⟩ := h
  obtain rfl := Option.some.inj (gPow.symm.trans hg2)
  obtain rfl := Option.some.inj (tPow.symm.trans ht2)
  obtain rfl := Option.some.inj (gRange.symm.trans hg3)
  obtain rfl := Option.some.inj (tRange.symm.trans ht3)
  obtain rfl := Option.some.inj (gSyntax.symm.trans hg4)
  obtain rfl := Option.some.inj (tSyntax.symm.trans ht4)
  refine ⟨?_, ?_, ?_⟩
  · unfold Lib.TabIs
    have hd2' : DataW.trod _ Tryz.prog W 0 _ _ f2 157 cs2.toList = some (Lib.tabData .u64 Lib.pow10Tab, p2) := hd2
    rw [hv2, ← Lib.cells_of_tab Tryz.underlying157 Tryz.underlying140 cells_u64 cells_pow hd2']
  · obtain ⟨u, v, hc⟩ := trod_iface' Tryz.underlying94 hd4
    refine ⟨u, v, ?_⟩
    rw [hv4]
    obtain ⟨l⟩ := cs4
    simp only at hc
    subst hc; rfl
  · obtain ⟨u, v, hc⟩ := trod_iface' Tryz.underlying94 hd3
    refine ⟨u, v, ?_⟩
    rw [hv3]
    obtain ⟨l⟩ := cs3
    simp only at hc
    subst hc; rfl
theorem libV_below {w W : World} (h : LibV w) (hb : RowKit.Below w.heap.size w W) : LibV W := by
  have key : ∀ {n : String} {g : Nat} {cs : Array Value}, (Tryz.prog).globalNamed n = some g → w.var? Tryz.prog n = some cs → W.var? Tryz.prog n = some cs := fun hg hv => Go.Joins.var_stays hg hv hb (Nat.le_refl _)
  obtain ⟨h1, ⟨t1, p1, h2⟩, ⟨t2, p2, h3⟩⟩ := h
  exact ⟨key gPow h1, ⟨t1, p1, key gSyntax h2⟩, ⟨t2, p2, key gRange h3⟩⟩
theorem libV_stays {w : World} (h : LibV w) : Stays LibV w := fun _ hb => libV_below h hb
theorem lo : laidOutB Tryz.prog = true := by kernel_rfl
theorem mr : mapsRowed Tryz.prog = true := by kernel_rfl
theorem full : ∀ t e, t < (Tryz.prog).types.size → (Tryz.prog).underlying t = some (.slice e) → 0 < (Tryz.prog).cellsOf e := slices_full_of Tryz.prog (by kernel_rfl)
def zCond : Value := .agg #[.int .i64 0, .string ⟨#[]⟩, .string ⟨#[]⟩, .int .i64 0, .slice none 0 0]
def zObj : Value := .agg #[.string ⟨#[]⟩, .int .i64 0, .int .i64 0, .int .i64 0, .slice none 0 0, .slice none 0 0]
def zC {H : Type} : DataW H := .agg [.lit (.int .i64 0), .lit (.string []), .lit (.string []), .lit (.int .i64 0), .nil]
def zO {H : Type} : DataW H := .agg [.lit (.string []), .lit (.int .i64 0), .agg [.lit (.int .i64 0), .lit (.int .i64 0)], .nil, .nil]
end Go.QZ
end
section
namespace Go.QZ
open Go Go.Abs Go.Proofs Go.RowKit Go.ChangeShapes Go.WideShapes Go.ChangeAt Go.Deep Go.Proofs.YtdpoipifjknhkaaGreatDoor
set_option maxRecDepth 100000
theorem door_metT (os : Os) (args : Array Value) : laidMetH Tryz.prog Rows.queryTagsRow.laid ((World.doorLaid Tryz.prog 400 os).forCall (fun _ _ => 0) ⟨#[], args, []⟩).memory :=
  laidMet_of_run' 8 (by kernel_rfl) (by kernel_rfl)
theorem readsT (os : Os) {H : Type} (enc : TypeId × Value → H) : ∃ places, DataW.whole enc Tryz.prog ((World.doorLaid Tryz.prog 400 os).forCall (fun _ _ => 0) ⟨#[], #[zCond, zObj, zObj], []⟩).memory Tryz.f6.params.toList Rows.queryTagsSpec.vars false #[zCond, zObj, zObj].toList 8 = some ([zC, zO, zO], [], places) :=
  ⟨[], by kernel_rfl⟩
theorem contractT (H : Type) (enc : TypeId × Value → H) (W : World) (base : Nat) (args : Array Value) (ds gs : List (DataW H)) (before : List MemPlace)
    (hval : ∀ (j : Nat) t v, Tryz.f6.params[j]? = some t → args[j]? = some v → Value.okWide Tryz.prog W .any base t v)
    (hW : DataW.Whole enc Tryz.prog Tryz.f6.params.toList Rows.queryTagsSpec.vars false W args.toList ds gs before) (hsz : (DataW.weightsEach Tryz.prog (Tryz.f6.params.toList ++ (OpenSpec.ofChange Rows.queryTagsSpec).bare.plain.varTypes Tryz.prog) (ds ++ gs)).all (· ≤ reachBytes) = true) (hL : laidMetH Tryz.prog Rows.queryTagsRow.laid W) :
    Calls Tryz.prog 6 args W fun e W' => ∃ v, e = .returned v ∧ Rows.queryTagsSpec.post enc Tryz.prog Tryz.f6 false true false false W args v W' := by
  have hW' := hW
  obtain ⟨p, q, hA0, hV, rfl, hfz, hnd⟩ := hW
  have hA : DataW.TrodAll enc Tryz.prog W 0 (fun _ => true) true Tryz.f6.params.toList args.toList ds p := hA0
  rw [Tryz.params6] at hA hval hsz
  obtain ⟨v0, vs0, d0, ds0, p0, q0, hargs, rfl, rfl, h0, r0⟩ := trodAll_cons hA
  obtain ⟨v1, vs1, d1, ds1, p1, q1, rfl, rfl, rfl, h1, r1⟩ := trodAll_cons r0
  obtain ⟨v2, vs2, d2, ds2, p2, q2, rfl, rfl, rfl, h2, r2⟩ := trodAll_cons r1
  obtain ⟨rfl, rfl, rfl⟩ := trodAll_nil r2
  obtain rfl : args = #[v0, v1, v2] := by cases args; simp_all
  obtain ⟨c0, rfl, z0⟩ := okWide_struct Tryz.underlying24 (hval 0 24 v0 rfl rfl)
  obtain ⟨c1, rfl, z1⟩ := okWide_struct Tryz.underlying50 (hval 1 50 v1 rfl rfl)
  obtain ⟨c2, rfl, z2⟩ := okWide_struct Tryz.underlying50 (hval 2 50 v2 rfl rfl)
  obtain ⟨f0, h0⟩ := h0
  obtain ⟨f1, h1⟩ := h1
  obtain ⟨f2, h2⟩ := h2
  have wt : ∀ (j : Nat) (t : TypeId) (d : DataW H), [24, 50, 50][j]? = some t → [d0, d1, d2][j]? = some d → Wt Tryz.prog t d := fun j t d ht hd n hn => by
    have := List.all_eq_true.1 hsz n (DataW.weights_mem_each (j := j) (t := t) (d := d) (by rw [List.getElem?_append_left (by have := (List.getElem?_eq_some_iff.1 ht).1; simpa using this)]; exact ht) (by rw [List.getElem?_append_left (by have := (List.getElem?_eq_some_iff.1 hd).1; simpa using this)]; exact hd) n hn)
    simpa using this
  obtain ⟨c, _, rc⟩ := rd_cond _ _ _ h0 (wt 0 _ _ rfl rfl)
  obtain ⟨o, ho, ro⟩ := rd_obj _ _ _ h1 (wt 1 _ _ rfl rfl)
  obtain ⟨ot, hot, rot⟩ := rd_obj _ _ _ h2 (wt 2 _ _ rfl rfl)
  have hb : ∀ t ∈ o.tagl, (t.1.length : Int) + t.2.length ≤ 9223372036854775807 := fun t ht => by
    obtain ⟨x1, x2⟩ := ho.1 t ht
    have := reachBytes_lt
    omega
  have hb2 : ∀ t ∈ ot.tagl, (t.1.length : Int) + t.2.length ≤ 9223372036854775807 := fun t ht => by
    obtain ⟨x1, x2⟩ := hot.1 t ht
    have := reachBytes_lt
    omega
  exact row_of_S (tb := 4) lo mr full (by rw [Tryz.params6]; decide +kernel) rfl (by kernel_rfl) Tryz.underlying4 hW' rfl (queryTags_S (c := c) (o := o) (ot := ot) (h := []) hb hb2 rfl) (libV_stays (libV_of_laid hL))
    (VRs.cons rc.agg (VRs.cons ro.agg (VRs.cons rot.agg .nil)))
theorem liftedT (os : Os) (started : os.Started) (H : Type) (enc : TypeId × Value → H) (F : Stop.Interp) :
    ReturnsInHanded {} Tryz.checked os 6 .any ((OpenSpec.ofChange Rows.queryTagsSpec).preRow enc Tryz.prog Tryz.f6 Rows.queryTagsRow.domain false Rows.queryTagsRow.laid) (((OpenSpec.ofChange Rows.queryTagsSpec).at F).post enc Tryz.prog Tryz.f6 false true false false) := by
  obtain ⟨places, hx⟩ := readsT os enc
  refine returnsInHanded_of_row (C := Tryz.checked) (s := OpenSpec.ofChange Rows.queryTagsSpec) own started (by kernel_rfl) Tryz.func6
    (witness_row_atRef (enc := enc) (C := Tryz.checked) false (World.doorLaid Tryz.prog 400 os) #[zCond, zObj, zObj] rfl (by kernel_rfl) (by kernel_rfl) (by kernel_rfl)
      (OpenSpec.preRow_of_cond 8 hx (by kernel_rfl) (fun k hk => by cases hk) (by kernel_rfl) (door_metT os _))) ?_
  intro W base args ds gs before hval hW _ _ hsz hL _ _
  exact contractT H enc W base args ds gs before hval hW hsz hL
theorem saidT : Rows.QueryTagsSaid :=
  OpenClaim.holds_of_cond 6 Tryz.f6 rfl rfl rfl rfl rfl rfl rfl ⟨rfl, rfl, rfl, rfl, rfl⟩ rfl rfl rfl rfl rfl (by kernel_rfl) Tryz.func6 (by kernel_rfl)
    (of_decide_eq_true (by kernel_rfl)) (by unfold Func.isWrapper; first | (rw [if_pos (by decide +kernel)]; kernel_rfl) | (rw [if_neg (by decide +kernel)]; exact ⟨rfl, rfl⟩))
    (fun os started H enc _ F => by rw [OpenClaim.pre_eq_preRow]; exact liftedT os started H enc F)
theorem plainT (f : FuncId) (fn : Func) (hf : Tryz.pinned.checked.prog.funcNamed "planisphere/planispherelaw36.QueryTags" = some f) (hfn : Tryz.pinned.checked.prog.funcs[f]? = some fn) :
    true = Tryz.pinned.checked.prog.looks [] ∧ ∀ (j : Nat) t, fn.params[j]? = some t → Tryz.pinned.checked.prog.wantsStandIn t = false := by
  obtain rfl : f = 6 := Option.some.inj ((show Tryz.prog.funcNamed "planisphere/planispherelaw36.QueryTags" = some 6 by kernel_rfl).symm.trans hf) |>.symm
  obtain rfl : fn = Tryz.f6 := (Option.some.inj (Tryz.func6.symm.trans hfn)).symm
  refine ⟨by kernel_rfl, fun j t ht => ?_⟩
  rw [Tryz.params6] at ht
  have h : t = 24 ∨ t = 50 ∨ t = 50 := by simpa using Array.mem_of_getElem? ht
  rcases h with rfl | rfl | rfl
  · exact (show Tryz.prog.wantsStandIn 24 = false by kernel_rfl)
  · exact (show Tryz.prog.wantsStandIn 50 = false by kernel_rfl)
  · exact (show Tryz.prog.wantsStandIn 50 = false by kernel_rfl)
end Go.QZ
namespace Go.Proofs.YtdpoipifjknhkaaGreatDoor
open Go Go.Abs Go.QZ
set_option maxRecDepth 100000
theorem queryTags_card : Rows.QueryTagsCardSaid :=
  Claim7.holds_tied_plain_at .later [] _ _ _ _ saidT (fun _ h => by cases h) (by kernel_rfl) (fun _ h => by cases h) queryTags_row_tie rfl ⟨rfl, rfl⟩ (by kernel_rfl) rfl plainT (by kernel_rfl)
end Go.Proofs.YtdpoipifjknhkaaGreatDoor
end
