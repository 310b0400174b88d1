/- The call of planispherelaw36.QueryConditions returns true at every input and leaves each argument as it was, where the listed package-level variables hold what the program's text lays (the tied card). -/
import Derived.Test.YtdpoipifjknhkaaGreatDoorCards
import Derived.Test.YtdpoipifjknhkaaGreatDoorTie
import Derived.Test.YtdpoipifjknhkaaGreatDoorK14
import Derived.Test.YtdpoipifjknhkaaGreatDoorK15
section
namespace Go.QZ
open Go Go.Abs Go.Proofs
variable {Φ : World → Prop}
set_option maxRecDepth 100000
def Cnd.of (op : Int) (l : List Cnd) : Cnd := .els op [] [] 0 l
theorem Cnd.of_cnt (op : Int) (l : List Cnd) : (Cnd.of op l).cnt = 1 + Cnd.cntL l := by simp [Cnd.of, Cnd.cnt]
theorem Cnd.of_short (op : Int) (l : List Cnd) : (Cnd.of op l).shortC = Cnd.shortL l := by simp [Cnd.of, Cnd.shortC]
theorem Cnd.of_all (op : Int) (l : List Cnd) : (Cnd.of op l).allC = (nodeB op [] [] 0 l.length && Cnd.allL l) := by simp [Cnd.of, Cnd.allC]
theorem Cnd.of_holds (T : Tags) (op : Int) (l : List Cnd) : (Cnd.of op l).holdsC T = hNode T op [] [] 0 (Cnd.anyH T l) (Cnd.allH T l) := by simp [Cnd.of, Cnd.holdsC]
theorem stoK_cl {c : Cnd} {K : Prop} (h : K) : stoK (.agg c.cl) 5 K := by
  refine stoK_of rfl ?_ h
  cases c <;> simp [AV.cells, Cnd.cl]
theorem stoK_ob {o : Ob} {K : Prop} (h : K) : stoK (.agg o.cl) 6 K := by
  refine stoK_of rfl ?_ h
  rw [Ob.cl_eq]; rfl
theorem cputK_cl {c : Cnd} {x1 x2 x3 x4 x5 : AV} {K : List AV → Prop} (h : K c.cl) : cput [x1, x2, x3, x4, x5] 0 (AV.agg c.cl).cells K := by
  show cput [x1, x2, x3, x4, x5] 0 c.cl K
  have hl : [x1, x2, x3, x4, x5].length = 5 := rfl
  generalize [x1, x2, x3, x4, x5] = l at hl
  have h5 : c.cl.length = 5 := by cases c <;> simp [Cnd.cl]
  rw [cput_eq]
  refine ⟨by omega, ?_⟩
  rw [show l.take 0 ++ c.cl ++ l.drop (0 + c.cl.length) = c.cl by simp [h5, ← hl]]
  exact h
theorem low_cl : ∀ (N : Nat) (c : Cnd) (n : Nat), c.cnt ≤ N → Low n (.agg c.cl)
  | 0, c, n, h => by have := c.cnt_pos; omega
  | N + 1, c, n, h => by
    have hcnt := c.cnt_eq
    refine .agg _ fun a ha => ?_
    cases c with
    | nilk op k v m =>
      simp only [Cnd.cl, List.mem_cons, List.not_mem_nil, or_false] at ha
      rcases ha with rfl | rfl | rfl | rfl | rfl <;> constructor
    | els op k v m ks =>
      simp only [Cnd.kids] at hcnt
      simp only [Cnd.cl, List.mem_cons, List.not_mem_nil, or_false] at ha
      rcases ha with rfl | rfl | rfl | rfl | rfl
      · constructor
      · constructor
      · constructor
      · constructor
      · refine .lst _ _ fun e he => ?_
        rw [Cnd.cls_eq] at he
        obtain ⟨c, hc, rfl⟩ := List.mem_map.1 he
        have := Cnd.cntL_mem hc
        exact (low_cl N c n (by omega)).cells
theorem not_S {c : Cnd} {h : AHeap} {Q : AEnd → AHeap → Prop} (hQ : Q (.ret (.agg (Cnd.of 4 [c]).cl)) h) : S Tryz.prog Φ 20 [.agg c.cl] h Q := by
  refine go20 (by simp) fun hlow => ?_
  unfold ac20
  repeat' (first | ((conv => whnf); first | (with_reducible first | refine eops_one ?_ | refine eops_nil ?_ | refine ewp_seq ?_ | refine ewp_region ?_) | ((with_reducible refine And.intro ?_ ?_); · (first | rfl | assumption | omega | (simp; omega) | (simp [AV.cells]; done))) | (with_reducible first | refine b_T ?_ | refine b_F ?_ | refine b_true (by assumption) ?_ | refine b_false (by assumption) ?_) | ((with_reducible refine b_true ?_ ?_); (· (decide))) | ((with_reducible refine b_false ?_ ?_); (· (decide))) | (with_reducible refine b_dec ?_ ?_ <;> intro hc hcb) | (with_reducible refine b_eq ?_ ?_ <;> intro hc hcb) | (with_reducible refine b_ne ?_ ?_ <;> intro hc hcb) | (with_reducible refine b_neq ?_ ?_ <;> intro hc hcb) | (with_reducible refine b_not ?_ ?_ <;> intro hc hcb) | (with_reducible refine b_intro ?_ ?_ <;> intro hcb) | (with_reducible first | refine ewp_cond ?_ | refine eops_if ?_ | refine ewp_block ?_ | refine ewp_exit ?_ | refine ewp_ret ?_ | refine ewp_skip ?_ | refine ewp_loop ?_ | refine hget_a0 ?_ | refine hget_b ?_ | refine hget_a ?_ | refine hput_a0 ?_ | refine hput_b ?_ | refine hput_a ?_ | refine hget_s0 ?_ | refine hget_s ?_ | refine hput_s0 ?_ | refine hput_s ?_ | refine halloc1 ?_ | refine halloc2 ?_ | refine halloc3 ?_ | refine halloc4 ?_ | refine halloc5 ?_ | refine halloc6 ?_ | refine halloc7 ?_ | refine halloc8 ?_ | refine halloc_b2 ?_ | refine halloc_b1 ?_ | refine halloc_s0 ?_ | refine halloc_h ?_ | refine ewp_range ?_ | refine ewp_draw ?_ | refine edraw_nil ?_ | refine edraw_if ?_ | refine mget_cons ?_) | with_reducible refine mget_nil ?_) | ((conv => whnf); first | (with_reducible first | refine takeK_cl ?_ | refine takeK_ob ?_) | refine stoK_cl ?_ | refine stoK_ob ?_))
  all_goals (conv => whnf)
  exact done_drop' rfl hlow (low_cl _ (Cnd.of 4 [c]) _ (Nat.le_refl _)) hQ
theorem holds_not (T : Tags) (a : Cnd) : (Cnd.of 4 [a]).holdsC T = !(a.holdsC T) := by rw [Cnd.of_holds]; simp [hNode, Cnd.allH]
theorem holds_and (T : Tags) (a b : Cnd) : (Cnd.of 5 [a, b]).holdsC T = (a.holdsC T && b.holdsC T) := by rw [Cnd.of_holds]; simp [hNode, Cnd.allH]
theorem holds_or (T : Tags) (a b : Cnd) : (Cnd.of 6 [a, b]).holdsC T = (a.holdsC T || b.holdsC T) := by rw [Cnd.of_holds]; simp [hNode, Cnd.anyH]
theorem nodeB4 : nodeB 4 [] [] 0 1 = true := by decide
theorem nodeB5 : nodeB 5 [] [] 0 2 = true := by decide
theorem nodeB6 : nodeB 6 [] [] 0 2 = true := by decide
theorem valid_other {a b : Cnd} (h : (Cnd.of 4 [Cnd.of 6 [Cnd.of 4 [a], Cnd.of 4 [b]]]).validC = true) :
    a.validC = true ∧ b.validC = true ∧ (Cnd.of 4 [Cnd.of 4 [a]]).validC = true ∧ (Cnd.of 5 [a, b]).validC = true ∧ (Cnd.of 5 [b, a]).validC = true ∧ (Cnd.of 6 [b, a]).validC = true := by
  have n4 := nodeB4
  have n5 := nodeB5
  have n6 := nodeB6
  simp only [Cnd.validC, Cnd.of_cnt, Cnd.of_all, Cnd.cntL, Cnd.allL, Bool.and_eq_true, decide_eq_true_eq, Bool.and_true, List.length_cons, List.length_nil, Nat.zero_add, Nat.add_zero] at h ⊢
  obtain ⟨h1, h2⟩ := h
  refine ⟨⟨by omega, by simp_all⟩, ⟨by omega, by simp_all⟩, ⟨by omega, by simp_all⟩, ⟨by omega, by simp_all⟩, ⟨by omega, by simp_all⟩, ⟨by omega, by simp_all⟩⟩
theorem fewC_parts {c : Cnd} (h : c.fewC = true) : c.cnt ≤ 80 ∧ c.shortC = true := by
  unfold Cnd.fewC at h
  simpa using h
theorem fewO_parts {o : Ob} {m : Nat} (h : o.fewO m = true) : o.tagl.length ≤ 65 ∧ ∀ t ∈ o.tagl, t.2.length ≤ 281474976710656 := by
  unfold Ob.fewO at h
  simp only [Bool.and_eq_true, Nat.ble_eq, List.all_eq_true] at h
  exact ⟨h.1.1.2, fun t ht => by have := h.2 t ht; omega⟩
set_option maxHeartbeats 4000000 in
theorem queryConditions_S {a b : Cnd} {o : Ob} {h : AHeap} {Q : AEnd → AHeap → Prop} (hbound : ∀ t ∈ o.tagl, (t.1.length : Int) + t.2.length ≤ 9223372036854775807) (hQ : Q (.ret (.bool true)) h) : S Tryz.prog (Stays LibV) 5 [.agg a.cl, .agg b.cl, .agg o.cl] h Q := by
  refine go5 (by simp) fun hlow => ?_
  unfold ac5
  have hFa : ∀ H : AHeap, S Tryz.prog (Stays LibV) 18 [.agg a.cl] H fun r h' => r = .ret (.bool a.fewC) ∧ h' = H := fun H => fewCond_S ⟨rfl, rfl⟩
  have hFb : ∀ H : AHeap, S Tryz.prog (Stays LibV) 18 [.agg b.cl] H fun r h' => r = .ret (.bool b.fewC) ∧ h' = H := fun H => fewCond_S ⟨rfl, rfl⟩
  have hFo : ∀ H : AHeap, S Tryz.prog (Stays LibV) 19 [.agg o.cl, .int .i64 40] H fun r h' => r = .ret (.bool (o.fewO 40)) ∧ h' = H := fun H => few_S (m := 40) (by omega) hbound ⟨rfl, rfl⟩
  cases hfa : a.fewC with
  | false =>
    rw [hfa] at hFa
    repeat' (first | ((conv => whnf); first | (with_reducible first | refine eops_one ?_ | refine eops_nil ?_ | refine ewp_seq ?_ | refine ewp_region ?_) | ((with_reducible refine And.intro ?_ ?_); · (first | rfl | assumption | omega | (simp; omega) | (simp [AV.cells]; done))) | (with_reducible first | refine b_T ?_ | refine b_F ?_ | refine b_true (by assumption) ?_ | refine b_false (by assumption) ?_) | ((with_reducible refine b_true ?_ ?_); (· (decide))) | ((with_reducible refine b_false ?_ ?_); (· (decide))) | (with_reducible refine b_dec ?_ ?_ <;> intro hc hcb) | (with_reducible refine b_eq ?_ ?_ <;> intro hc hcb) | (with_reducible refine b_ne ?_ ?_ <;> intro hc hcb) | (with_reducible refine b_neq ?_ ?_ <;> intro hc hcb) | (with_reducible refine b_not ?_ ?_ <;> intro hc hcb) | (with_reducible refine b_intro ?_ ?_ <;> intro hcb) | (with_reducible first | refine ewp_cond ?_ | refine eops_if ?_ | refine ewp_block ?_ | refine ewp_exit ?_ | refine ewp_ret ?_ | refine ewp_skip ?_ | refine ewp_loop ?_ | refine hget_a0 ?_ | refine hget_b ?_ | refine hget_a ?_ | refine hput_a0 ?_ | refine hput_b ?_ | refine hput_a ?_ | refine hget_s0 ?_ | refine hget_s ?_ | refine hput_s0 ?_ | refine hput_s ?_ | refine halloc1 ?_ | refine halloc2 ?_ | refine halloc3 ?_ | refine halloc4 ?_ | refine halloc5 ?_ | refine halloc6 ?_ | refine halloc7 ?_ | refine halloc8 ?_ | refine halloc_b2 ?_ | refine halloc_b1 ?_ | refine halloc_s0 ?_ | refine halloc_h ?_ | refine ewp_range ?_ | refine ewp_draw ?_ | refine edraw_nil ?_ | refine edraw_if ?_ | refine mget_cons ?_) | with_reducible refine mget_nil ?_) | ((conv => whnf); first | (with_reducible refine (hFa _).mono ?_; rintro r h' ⟨rfl, rfl⟩) | (with_reducible refine (hFb _).mono ?_; rintro r h' ⟨rfl, rfl⟩) | (with_reducible refine (hFo _).mono ?_; rintro r h' ⟨rfl, rfl⟩) | (with_reducible first | refine head_S ?_ | refine takeK_cl ?_ | refine takeK_ob ?_) | refine stoK_cl ?_ | refine stoK_ob ?_))
    all_goals (conv => whnf)
    exact done_here hQ
  | true =>
    cases hfb : b.fewC with
    | false =>
      rw [hfa] at hFa
      rw [hfb] at hFb
      repeat' (first | ((conv => whnf); first | (with_reducible first | refine eops_one ?_ | refine eops_nil ?_ | refine ewp_seq ?_ | refine ewp_region ?_) | ((with_reducible refine And.intro ?_ ?_); · (first | rfl | assumption | omega | (simp; omega) | (simp [AV.cells]; done))) | (with_reducible first | refine b_T ?_ | refine b_F ?_ | refine b_true (by assumption) ?_ | refine b_false (by assumption) ?_) | ((with_reducible refine b_true ?_ ?_); (· (decide))) | ((with_reducible refine b_false ?_ ?_); (· (decide))) | (with_reducible refine b_dec ?_ ?_ <;> intro hc hcb) | (with_reducible refine b_eq ?_ ?_ <;> intro hc hcb) | (with_reducible refine b_ne ?_ ?_ <;> intro hc hcb) | (with_reducible refine b_neq ?_ ?_ <;> intro hc hcb) | (with_reducible refine b_not ?_ ?_ <;> intro hc hcb) | (with_reducible refine b_intro ?_ ?_ <;> intro hcb) | (with_reducible first | refine ewp_cond ?_ | refine eops_if ?_ | refine ewp_block ?_ | refine ewp_exit ?_ | refine ewp_ret ?_ | refine ewp_skip ?_ | refine ewp_loop ?_ | refine hget_a0 ?_ | refine hget_b ?_ | refine hget_a ?_ | refine hput_a0 ?_ | refine hput_b ?_ | refine hput_a ?_ | refine hget_s0 ?_ | refine hget_s ?_ | refine hput_s0 ?_ | refine hput_s ?_ | refine halloc1 ?_ | refine halloc2 ?_ | refine halloc3 ?_ | refine halloc4 ?_ | refine halloc5 ?_ | refine halloc6 ?_ | refine halloc7 ?_ | refine halloc8 ?_ | refine halloc_b2 ?_ | refine halloc_b1 ?_ | refine halloc_s0 ?_ | refine halloc_h ?_ | refine ewp_range ?_ | refine ewp_draw ?_ | refine edraw_nil ?_ | refine edraw_if ?_ | refine mget_cons ?_) | with_reducible refine mget_nil ?_) | ((conv => whnf); first | (with_reducible refine (hFa _).mono ?_; rintro r h' ⟨rfl, rfl⟩) | (with_reducible refine (hFb _).mono ?_; rintro r h' ⟨rfl, rfl⟩) | (with_reducible refine (hFo _).mono ?_; rintro r h' ⟨rfl, rfl⟩) | (with_reducible first | refine head_S ?_ | refine takeK_cl ?_ | refine takeK_ob ?_) | refine stoK_cl ?_ | refine stoK_ob ?_))
      all_goals (conv => whnf)
      exact done_here hQ
    | true =>
      cases hfo : o.fewO 40 with
      | false =>
        rw [hfa] at hFa
        rw [hfb] at hFb
        rw [hfo] at hFo
        repeat' (first | ((conv => whnf); first | (with_reducible first | refine eops_one ?_ | refine eops_nil ?_ | refine ewp_seq ?_ | refine ewp_region ?_) | ((with_reducible refine And.intro ?_ ?_); · (first | rfl | assumption | omega | (simp; omega) | (simp [AV.cells]; done))) | (with_reducible first | refine b_T ?_ | refine b_F ?_ | refine b_true (by assumption) ?_ | refine b_false (by assumption) ?_) | ((with_reducible refine b_true ?_ ?_); (· (decide))) | ((with_reducible refine b_false ?_ ?_); (· (decide))) | (with_reducible refine b_dec ?_ ?_ <;> intro hc hcb) | (with_reducible refine b_eq ?_ ?_ <;> intro hc hcb) | (with_reducible refine b_ne ?_ ?_ <;> intro hc hcb) | (with_reducible refine b_neq ?_ ?_ <;> intro hc hcb) | (with_reducible refine b_not ?_ ?_ <;> intro hc hcb) | (with_reducible refine b_intro ?_ ?_ <;> intro hcb) | (with_reducible first | refine ewp_cond ?_ | refine eops_if ?_ | refine ewp_block ?_ | refine ewp_exit ?_ | refine ewp_ret ?_ | refine ewp_skip ?_ | refine ewp_loop ?_ | refine hget_a0 ?_ | refine hget_b ?_ | refine hget_a ?_ | refine hput_a0 ?_ | refine hput_b ?_ | refine hput_a ?_ | refine hget_s0 ?_ | refine hget_s ?_ | refine hput_s0 ?_ | refine hput_s ?_ | refine halloc1 ?_ | refine halloc2 ?_ | refine halloc3 ?_ | refine halloc4 ?_ | refine halloc5 ?_ | refine halloc6 ?_ | refine halloc7 ?_ | refine halloc8 ?_ | refine halloc_b2 ?_ | refine halloc_b1 ?_ | refine halloc_s0 ?_ | refine halloc_h ?_ | refine ewp_range ?_ | refine ewp_draw ?_ | refine edraw_nil ?_ | refine edraw_if ?_ | refine mget_cons ?_) | with_reducible refine mget_nil ?_) | ((conv => whnf); first | (with_reducible refine (hFa _).mono ?_; rintro r h' ⟨rfl, rfl⟩) | (with_reducible refine (hFb _).mono ?_; rintro r h' ⟨rfl, rfl⟩) | (with_reducible refine (hFo _).mono ?_; rintro r h' ⟨rfl, rfl⟩) | (with_reducible first | refine head_S ?_ | refine takeK_cl ?_ | refine takeK_ob ?_) | refine stoK_cl ?_ | refine stoK_ob ?_))
        all_goals (conv => whnf)
        exact done_here hQ
      | true =>
        rw [hfa] at hFa
        rw [hfb] at hFb
        rw [hfo] at hFo
        obtain ⟨ca, sa⟩ := fewC_parts hfa
        obtain ⟨cb, sb⟩ := fewC_parts hfb
        obtain ⟨ht, hv⟩ := fewO_parts hfo
        obtain ⟨na, hna⟩ : ∃ na, na = Cnd.of 4 [a] := ⟨_, rfl⟩
        obtain ⟨nb, hnb⟩ : ∃ nb, nb = Cnd.of 4 [b] := ⟨_, rfl⟩
        obtain ⟨ot, hot⟩ : ∃ ot, ot = Cnd.of 4 [Cnd.of 6 [na, nb]] := ⟨_, rfl⟩
        have hnA : ∀ H : AHeap, S Tryz.prog (Stays LibV) 20 [.agg a.cl] H fun r h' => r = .ret (.agg na.cl) ∧ h' = H := fun H => by rw [hna]; exact not_S ⟨rfl, rfl⟩
        have hnB : ∀ H : AHeap, S Tryz.prog (Stays LibV) 20 [.agg b.cl] H fun r h' => r = .ret (.agg nb.cl) ∧ h' = H := fun H => by rw [hnb]; exact not_S ⟨rfl, rfl⟩
        have hnO : ∀ H : AHeap, S Tryz.prog (Stays LibV) 20 [.agg [.int .i64 6, .str [], .str [], .int .i64 0, .lst 5 [.agg na.cl, .agg nb.cl]]] H fun r h' => r = .ret (.agg ot.cl) ∧ h' = H := fun H => by rw [hot]; exact not_S (c := Cnd.of 6 [na, nb]) ⟨rfl, rfl⟩
        have sot : ot.shortC = true := by rw [hot, hna, hnb]; simp [Cnd.of_short, Cnd.shortL, sa, sb]
        have hCo : ∀ H : AHeap, S Tryz.prog (Stays LibV) 21 [.agg ot.cl] H fun r h' => r = .ret (.bool ot.validC) ∧ h' = H := fun H => cond36_S sot ⟨rfl, rfl⟩
        cases hvo : ot.validC with
        | false =>
          rw [hvo] at hCo
          repeat' (first | ((conv => whnf); first | (with_reducible first | refine eops_one ?_ | refine eops_nil ?_ | refine ewp_seq ?_ | refine ewp_region ?_) | ((with_reducible refine And.intro ?_ ?_); · (first | rfl | assumption | omega | (simp; omega) | (simp [AV.cells]; done))) | (with_reducible first | refine b_T ?_ | refine b_F ?_ | refine b_true (by assumption) ?_ | refine b_false (by assumption) ?_) | ((with_reducible refine b_true ?_ ?_); (· (decide))) | ((with_reducible refine b_false ?_ ?_); (· (decide))) | (with_reducible refine b_dec ?_ ?_ <;> intro hc hcb) | (with_reducible refine b_eq ?_ ?_ <;> intro hc hcb) | (with_reducible refine b_ne ?_ ?_ <;> intro hc hcb) | (with_reducible refine b_neq ?_ ?_ <;> intro hc hcb) | (with_reducible refine b_not ?_ ?_ <;> intro hc hcb) | (with_reducible refine b_intro ?_ ?_ <;> intro hcb) | (with_reducible first | refine ewp_cond ?_ | refine eops_if ?_ | refine ewp_block ?_ | refine ewp_exit ?_ | refine ewp_ret ?_ | refine ewp_skip ?_ | refine ewp_loop ?_ | refine hget_a0 ?_ | refine hget_b ?_ | refine hget_a ?_ | refine hput_a0 ?_ | refine hput_b ?_ | refine hput_a ?_ | refine hget_s0 ?_ | refine hget_s ?_ | refine hput_s0 ?_ | refine hput_s ?_ | refine halloc1 ?_ | refine halloc2 ?_ | refine halloc3 ?_ | refine halloc4 ?_ | refine halloc5 ?_ | refine halloc6 ?_ | refine halloc7 ?_ | refine halloc8 ?_ | refine halloc_b2 ?_ | refine halloc_b1 ?_ | refine halloc_s0 ?_ | refine halloc_h ?_ | refine ewp_range ?_ | refine ewp_draw ?_ | refine edraw_nil ?_ | refine edraw_if ?_ | refine mget_cons ?_) | with_reducible refine mget_nil ?_) | ((conv => whnf); first | (with_reducible refine (hnA _).mono ?_; rintro r h' ⟨rfl, rfl⟩) | (with_reducible refine (hnB _).mono ?_; rintro r h' ⟨rfl, rfl⟩) | (with_reducible refine (hnO _).mono ?_; rintro r h' ⟨rfl, rfl⟩) | (with_reducible refine (hCo _).mono ?_; rintro r h' ⟨rfl, rfl⟩) | (with_reducible refine (hnN _).mono ?_; rintro r h' ⟨rfl, rfl⟩) | (with_reducible refine (hHa _).mono ?_; rintro r h' ⟨rfl, rfl⟩) | (with_reducible refine (hHb _).mono ?_; rintro r h' ⟨rfl, rfl⟩) | (with_reducible refine (hHn _).mono ?_; rintro r h' ⟨rfl, rfl⟩) | (with_reducible refine (hHt _).mono ?_; rintro r h' ⟨rfl, rfl⟩) | (with_reducible refine (hH1 _).mono ?_; rintro r h' ⟨rfl, rfl⟩) | (with_reducible refine (hH2 _).mono ?_; rintro r h' ⟨rfl, rfl⟩) | (with_reducible refine (hH3 _).mono ?_; rintro r h' ⟨rfl, rfl⟩) | with_reducible refine cputK_cl ?_ | (with_reducible refine (hFa _).mono ?_; rintro r h' ⟨rfl, rfl⟩) | (with_reducible refine (hFb _).mono ?_; rintro r h' ⟨rfl, rfl⟩) | (with_reducible refine (hFo _).mono ?_; rintro r h' ⟨rfl, rfl⟩) | (with_reducible first | refine head_S ?_ | refine takeK_cl ?_ | refine takeK_ob ?_) | refine stoK_cl ?_ | refine stoK_ob ?_) | ((conv => whnf); (with_reducible apply edraw_read'); (· (repeat' (first | exact True.intro | exact rfl | ((conv => whnf); first | (with_reducible refine (hnA _).mono ?_; rintro r h' ⟨rfl, rfl⟩) | (with_reducible refine (hnB _).mono ?_; rintro r h' ⟨rfl, rfl⟩) | (with_reducible refine (hnO _).mono ?_; rintro r h' ⟨rfl, rfl⟩) | (with_reducible refine (hCo _).mono ?_; rintro r h' ⟨rfl, rfl⟩) | (with_reducible refine (hnN _).mono ?_; rintro r h' ⟨rfl, rfl⟩) | (with_reducible refine (hHa _).mono ?_; rintro r h' ⟨rfl, rfl⟩) | (with_reducible refine (hHb _).mono ?_; rintro r h' ⟨rfl, rfl⟩) | (with_reducible refine (hHn _).mono ?_; rintro r h' ⟨rfl, rfl⟩) | (with_reducible refine (hHt _).mono ?_; rintro r h' ⟨rfl, rfl⟩) | (with_reducible refine (hH1 _).mono ?_; rintro r h' ⟨rfl, rfl⟩) | (with_reducible refine (hH2 _).mono ?_; rintro r h' ⟨rfl, rfl⟩) | (with_reducible refine (hH3 _).mono ?_; rintro r h' ⟨rfl, rfl⟩) | with_reducible refine cputK_cl ?_ | (with_reducible refine (hFa _).mono ?_; rintro r h' ⟨rfl, rfl⟩) | (with_reducible refine (hFb _).mono ?_; rintro r h' ⟨rfl, rfl⟩) | (with_reducible refine (hFo _).mono ?_; rintro r h' ⟨rfl, rfl⟩) | (with_reducible first | refine head_S ?_ | refine takeK_cl ?_ | refine takeK_ob ?_) | refine stoK_cl ?_ | refine stoK_ob ?_) | ((conv => whnf); first | (with_reducible first | refine eops_one ?_ | refine eops_nil ?_ | refine ewp_seq ?_ | refine ewp_region ?_) | ((with_reducible refine And.intro ?_ ?_); · (first | rfl | assumption | omega | (simp; omega) | (simp [AV.cells]; done))) | (with_reducible first | refine b_T ?_ | refine b_F ?_ | refine b_true (by assumption) ?_ | refine b_false (by assumption) ?_) | ((with_reducible refine b_true ?_ ?_); (· (decide))) | ((with_reducible refine b_false ?_ ?_); (· (decide))) | (with_reducible refine b_dec ?_ ?_ <;> intro hc hcb) | (with_reducible refine b_eq ?_ ?_ <;> intro hc hcb) | (with_reducible refine b_ne ?_ ?_ <;> intro hc hcb) | (with_reducible refine b_neq ?_ ?_ <;> intro hc hcb) | (with_reducible refine b_not ?_ ?_ <;> intro hc hcb) | (with_reducible refine b_intro ?_ ?_ <;> intro hcb) | (with_reducible first | refine ewp_cond ?_ | refine eops_if ?_ | refine ewp_block ?_ | refine ewp_exit ?_ | refine ewp_ret ?_ | refine ewp_skip ?_ | refine ewp_loop ?_ | refine hget_a0 ?_ | refine hget_b ?_ | refine hget_a ?_ | refine hput_a0 ?_ | refine hput_b ?_ | refine hput_a ?_ | refine hget_s0 ?_ | refine hget_s ?_ | refine hput_s0 ?_ | refine hput_s ?_ | refine halloc1 ?_ | refine halloc2 ?_ | refine halloc3 ?_ | refine halloc4 ?_ | refine halloc5 ?_ | refine halloc6 ?_ | refine halloc7 ?_ | refine halloc8 ?_ | refine halloc_b2 ?_ | refine halloc_b1 ?_ | refine halloc_s0 ?_ | refine halloc_h ?_ | refine ewp_range ?_ | refine ewp_draw ?_ | refine edraw_nil ?_ | refine edraw_if ?_ | refine mget_cons ?_) | with_reducible refine mget_nil ?_) | ((conv => whnf); refine And.intro ?_ ?_)))); (· (repeat' (first | exact True.intro | exact rfl | ((conv => whnf); first | (with_reducible refine (hnA _).mono ?_; rintro r h' ⟨rfl, rfl⟩) | (with_reducible refine (hnB _).mono ?_; rintro r h' ⟨rfl, rfl⟩) | (with_reducible refine (hnO _).mono ?_; rintro r h' ⟨rfl, rfl⟩) | (with_reducible refine (hCo _).mono ?_; rintro r h' ⟨rfl, rfl⟩) | (with_reducible refine (hnN _).mono ?_; rintro r h' ⟨rfl, rfl⟩) | (with_reducible refine (hHa _).mono ?_; rintro r h' ⟨rfl, rfl⟩) | (with_reducible refine (hHb _).mono ?_; rintro r h' ⟨rfl, rfl⟩) | (with_reducible refine (hHn _).mono ?_; rintro r h' ⟨rfl, rfl⟩) | (with_reducible refine (hHt _).mono ?_; rintro r h' ⟨rfl, rfl⟩) | (with_reducible refine (hH1 _).mono ?_; rintro r h' ⟨rfl, rfl⟩) | (with_reducible refine (hH2 _).mono ?_; rintro r h' ⟨rfl, rfl⟩) | (with_reducible refine (hH3 _).mono ?_; rintro r h' ⟨rfl, rfl⟩) | with_reducible refine cputK_cl ?_ | (with_reducible refine (hFa _).mono ?_; rintro r h' ⟨rfl, rfl⟩) | (with_reducible refine (hFb _).mono ?_; rintro r h' ⟨rfl, rfl⟩) | (with_reducible refine (hFo _).mono ?_; rintro r h' ⟨rfl, rfl⟩) | (with_reducible first | refine head_S ?_ | refine takeK_cl ?_ | refine takeK_ob ?_) | refine stoK_cl ?_ | refine stoK_ob ?_) | ((conv => whnf); first | (with_reducible first | refine eops_one ?_ | refine eops_nil ?_ | refine ewp_seq ?_ | refine ewp_region ?_) | ((with_reducible refine And.intro ?_ ?_); · (first | rfl | assumption | omega | (simp; omega) | (simp [AV.cells]; done))) | (with_reducible first | refine b_T ?_ | refine b_F ?_ | refine b_true (by assumption) ?_ | refine b_false (by assumption) ?_) | ((with_reducible refine b_true ?_ ?_); (· (decide))) | ((with_reducible refine b_false ?_ ?_); (· (decide))) | (with_reducible refine b_dec ?_ ?_ <;> intro hc hcb) | (with_reducible refine b_eq ?_ ?_ <;> intro hc hcb) | (with_reducible refine b_ne ?_ ?_ <;> intro hc hcb) | (with_reducible refine b_neq ?_ ?_ <;> intro hc hcb) | (with_reducible refine b_not ?_ ?_ <;> intro hc hcb) | (with_reducible refine b_intro ?_ ?_ <;> intro hcb) | (with_reducible first | refine ewp_cond ?_ | refine eops_if ?_ | refine ewp_block ?_ | refine ewp_exit ?_ | refine ewp_ret ?_ | refine ewp_skip ?_ | refine ewp_loop ?_ | refine hget_a0 ?_ | refine hget_b ?_ | refine hget_a ?_ | refine hput_a0 ?_ | refine hput_b ?_ | refine hput_a ?_ | refine hget_s0 ?_ | refine hget_s ?_ | refine hput_s0 ?_ | refine hput_s ?_ | refine halloc1 ?_ | refine halloc2 ?_ | refine halloc3 ?_ | refine halloc4 ?_ | refine halloc5 ?_ | refine halloc6 ?_ | refine halloc7 ?_ | refine halloc8 ?_ | refine halloc_b2 ?_ | refine halloc_b1 ?_ | refine halloc_s0 ?_ | refine halloc_h ?_ | refine ewp_range ?_ | refine ewp_draw ?_ | refine edraw_nil ?_ | refine edraw_if ?_ | refine mget_cons ?_) | with_reducible refine mget_nil ?_) | ((conv => whnf); refine And.intro ?_ ?_))))) | ((conv => whnf); (with_reducible apply edraw_write'); (· (repeat' (first | exact True.intro | exact rfl | ((conv => whnf); first | (with_reducible refine (hnA _).mono ?_; rintro r h' ⟨rfl, rfl⟩) | (with_reducible refine (hnB _).mono ?_; rintro r h' ⟨rfl, rfl⟩) | (with_reducible refine (hnO _).mono ?_; rintro r h' ⟨rfl, rfl⟩) | (with_reducible refine (hCo _).mono ?_; rintro r h' ⟨rfl, rfl⟩) | (with_reducible refine (hnN _).mono ?_; rintro r h' ⟨rfl, rfl⟩) | (with_reducible refine (hHa _).mono ?_; rintro r h' ⟨rfl, rfl⟩) | (with_reducible refine (hHb _).mono ?_; rintro r h' ⟨rfl, rfl⟩) | (with_reducible refine (hHn _).mono ?_; rintro r h' ⟨rfl, rfl⟩) | (with_reducible refine (hHt _).mono ?_; rintro r h' ⟨rfl, rfl⟩) | (with_reducible refine (hH1 _).mono ?_; rintro r h' ⟨rfl, rfl⟩) | (with_reducible refine (hH2 _).mono ?_; rintro r h' ⟨rfl, rfl⟩) | (with_reducible refine (hH3 _).mono ?_; rintro r h' ⟨rfl, rfl⟩) | with_reducible refine cputK_cl ?_ | (with_reducible refine (hFa _).mono ?_; rintro r h' ⟨rfl, rfl⟩) | (with_reducible refine (hFb _).mono ?_; rintro r h' ⟨rfl, rfl⟩) | (with_reducible refine (hFo _).mono ?_; rintro r h' ⟨rfl, rfl⟩) | (with_reducible first | refine head_S ?_ | refine takeK_cl ?_ | refine takeK_ob ?_) | refine stoK_cl ?_ | refine stoK_ob ?_) | ((conv => whnf); first | (with_reducible first | refine eops_one ?_ | refine eops_nil ?_ | refine ewp_seq ?_ | refine ewp_region ?_) | ((with_reducible refine And.intro ?_ ?_); · (first | rfl | assumption | omega | (simp; omega) | (simp [AV.cells]; done))) | (with_reducible first | refine b_T ?_ | refine b_F ?_ | refine b_true (by assumption) ?_ | refine b_false (by assumption) ?_) | ((with_reducible refine b_true ?_ ?_); (· (decide))) | ((with_reducible refine b_false ?_ ?_); (· (decide))) | (with_reducible refine b_dec ?_ ?_ <;> intro hc hcb) | (with_reducible refine b_eq ?_ ?_ <;> intro hc hcb) | (with_reducible refine b_ne ?_ ?_ <;> intro hc hcb) | (with_reducible refine b_neq ?_ ?_ <;> intro hc hcb) | (with_reducible refine b_not ?_ ?_ <;> intro hc hcb) | (with_reducible refine b_intro ?_ ?_ <;> intro hcb) | (with_reducible first | refine ewp_cond ?_ | refine eops_if ?_ | refine ewp_block ?_ | refine ewp_exit ?_ | refine ewp_ret ?_ | refine ewp_skip ?_ | refine ewp_loop ?_ | refine hget_a0 ?_ | refine hget_b ?_ | refine hget_a ?_ | refine hput_a0 ?_ | refine hput_b ?_ | refine hput_a ?_ | refine hget_s0 ?_ | refine hget_s ?_ | refine hput_s0 ?_ | refine hput_s ?_ | refine halloc1 ?_ | refine halloc2 ?_ | refine halloc3 ?_ | refine halloc4 ?_ | refine halloc5 ?_ | refine halloc6 ?_ | refine halloc7 ?_ | refine halloc8 ?_ | refine halloc_b2 ?_ | refine halloc_b1 ?_ | refine halloc_s0 ?_ | refine halloc_h ?_ | refine ewp_range ?_ | refine ewp_draw ?_ | refine edraw_nil ?_ | refine edraw_if ?_ | refine mget_cons ?_) | with_reducible refine mget_nil ?_) | ((conv => whnf); refine And.intro ?_ ?_)))); (· (repeat' (first | exact True.intro | exact rfl | ((conv => whnf); first | (with_reducible refine (hnA _).mono ?_; rintro r h' ⟨rfl, rfl⟩) | (with_reducible refine (hnB _).mono ?_; rintro r h' ⟨rfl, rfl⟩) | (with_reducible refine (hnO _).mono ?_; rintro r h' ⟨rfl, rfl⟩) | (with_reducible refine (hCo _).mono ?_; rintro r h' ⟨rfl, rfl⟩) | (with_reducible refine (hnN _).mono ?_; rintro r h' ⟨rfl, rfl⟩) | (with_reducible refine (hHa _).mono ?_; rintro r h' ⟨rfl, rfl⟩) | (with_reducible refine (hHb _).mono ?_; rintro r h' ⟨rfl, rfl⟩) | (with_reducible refine (hHn _).mono ?_; rintro r h' ⟨rfl, rfl⟩) | (with_reducible refine (hHt _).mono ?_; rintro r h' ⟨rfl, rfl⟩) | (with_reducible refine (hH1 _).mono ?_; rintro r h' ⟨rfl, rfl⟩) | (with_reducible refine (hH2 _).mono ?_; rintro r h' ⟨rfl, rfl⟩) | (with_reducible refine (hH3 _).mono ?_; rintro r h' ⟨rfl, rfl⟩) | with_reducible refine cputK_cl ?_ | (with_reducible refine (hFa _).mono ?_; rintro r h' ⟨rfl, rfl⟩) | (with_reducible refine (hFb _).mono ?_; rintro r h' ⟨rfl, rfl⟩) | (with_reducible refine (hFo _).mono ?_; rintro r h' ⟨rfl, rfl⟩) | (with_reducible first | refine head_S ?_ | refine takeK_cl ?_ | refine takeK_ob ?_) | refine stoK_cl ?_ | refine stoK_ob ?_) | ((conv => whnf); first | (with_reducible first | refine eops_one ?_ | refine eops_nil ?_ | refine ewp_seq ?_ | refine ewp_region ?_) | ((with_reducible refine And.intro ?_ ?_); · (first | rfl | assumption | omega | (simp; omega) | (simp [AV.cells]; done))) | (with_reducible first | refine b_T ?_ | refine b_F ?_ | refine b_true (by assumption) ?_ | refine b_false (by assumption) ?_) | ((with_reducible refine b_true ?_ ?_); (· (decide))) | ((with_reducible refine b_false ?_ ?_); (· (decide))) | (with_reducible refine b_dec ?_ ?_ <;> intro hc hcb) | (with_reducible refine b_eq ?_ ?_ <;> intro hc hcb) | (with_reducible refine b_ne ?_ ?_ <;> intro hc hcb) | (with_reducible refine b_neq ?_ ?_ <;> intro hc hcb) | (with_reducible refine b_not ?_ ?_ <;> intro hc hcb) | (with_reducible refine b_intro ?_ ?_ <;> intro hcb) | (with_reducible first | refine ewp_cond ?_ | refine eops_if ?_ | refine ewp_block ?_ | refine ewp_exit ?_ | refine ewp_ret ?_ | refine ewp_skip ?_ | refine ewp_loop ?_ | refine hget_a0 ?_ | refine hget_b ?_ | refine hget_a ?_ | refine hput_a0 ?_ | refine hput_b ?_ | refine hput_a ?_ | refine hget_s0 ?_ | refine hget_s ?_ | refine hput_s0 ?_ | refine hput_s ?_ | refine halloc1 ?_ | refine halloc2 ?_ | refine halloc3 ?_ | refine halloc4 ?_ | refine halloc5 ?_ | refine halloc6 ?_ | refine halloc7 ?_ | refine halloc8 ?_ | refine halloc_b2 ?_ | refine halloc_b1 ?_ | refine halloc_s0 ?_ | refine halloc_h ?_ | refine ewp_range ?_ | refine ewp_draw ?_ | refine edraw_nil ?_ | refine edraw_if ?_ | refine mget_cons ?_) | with_reducible refine mget_nil ?_) | ((conv => whnf); refine And.intro ?_ ?_))))))
          all_goals (conv => whnf)
          exact done_drop' rfl hlow (.bool _) hQ
        | true =>
          rw [hvo] at hCo
          obtain ⟨va, vb, vnna, vboth, vturn, voba⟩ := valid_other (a := a) (b := b) (by rw [← hna, ← hnb, ← hot]; exact hvo)
          obtain ⟨nna, hnna⟩ : ∃ nna, nna = Cnd.of 4 [na] := ⟨_, rfl⟩
          have hnN : ∀ H : AHeap, S Tryz.prog (Stays LibV) 20 [.agg na.cl] H fun r h' => r = .ret (.agg nna.cl) ∧ h' = H := fun H => by rw [hnna]; exact not_S ⟨rfl, rfl⟩
          have big : ∀ c : Cnd, c.validC = true → c.cnt ≤ 9223372036854775807 := fun c hc => by
            simp only [Cnd.validC, Bool.and_eq_true, decide_eq_true_eq] at hc; omega
          have gen : ∀ (c : Cnd) (v : Bool), c.validC = true → c.shortC = true → c.holdsC o.tagl = v → ∀ H : AHeap, S Tryz.prog (Stays LibV) 22 [.agg c.cl, .agg o.cl] H fun r h' => r = .ret (.bool v) ∧ h' = H := fun c v h1 h2 h3 H =>
            holdsP_S (big c h1) h2 (by omega) hv ⟨by rw [h1, h3]; rfl, rfl⟩
          cases hX : a.holdsC o.tagl <;> cases hY : b.holdsC o.tagl
          all_goals
            have hHa := gen a _ va sa hX
            have hHb := gen b _ vb sb hY
            have hHn := gen nna _ (by rw [hnna, hna]; exact vnna) (by rw [hnna, hna]; simp [Cnd.of_short, Cnd.shortL, sa]) (by rw [hnna, hna, holds_not, holds_not, hX])
            have hHt := gen ot _ hvo sot (by rw [hot, hna, hnb, holds_not, holds_or, holds_not, holds_not, hX, hY])
            have hH1 : ∀ H : AHeap, S Tryz.prog (Stays LibV) 22 [.agg [.int .i64 5, .str [], .str [], .int .i64 0, .lst 5 [.agg a.cl, .agg b.cl]], .agg o.cl] H fun r h' => r = .ret (.bool _) ∧ h' = H := gen (Cnd.of 5 [a, b]) _ vboth (by simp [Cnd.of_short, Cnd.shortL, sa, sb]) (by rw [holds_and, hX, hY])
            have hH2 : ∀ H : AHeap, S Tryz.prog (Stays LibV) 22 [.agg [.int .i64 5, .str [], .str [], .int .i64 0, .lst 5 [.agg b.cl, .agg a.cl]], .agg o.cl] H fun r h' => r = .ret (.bool _) ∧ h' = H := gen (Cnd.of 5 [b, a]) _ vturn (by simp [Cnd.of_short, Cnd.shortL, sa, sb]) (by rw [holds_and, hX, hY])
            have hH3 : ∀ H : AHeap, S Tryz.prog (Stays LibV) 22 [.agg [.int .i64 6, .str [], .str [], .int .i64 0, .lst 5 [.agg b.cl, .agg a.cl]], .agg o.cl] H fun r h' => r = .ret (.bool _) ∧ h' = H := gen (Cnd.of 6 [b, a]) _ voba (by simp [Cnd.of_short, Cnd.shortL, sa, sb]) (by rw [holds_or, hX, hY])
            simp only [Bool.not_true, Bool.not_false, Bool.and_true, Bool.and_false, Bool.or_true, Bool.or_false, Bool.not_not] at hHn hHt hH1 hH2 hH3
            clear gen big hbound hX hY hvo sot hot hna hnb hnna
            repeat' (first | ((conv => whnf); first | (with_reducible first | refine eops_one ?_ | refine eops_nil ?_ | refine ewp_seq ?_ | refine ewp_region ?_) | ((with_reducible refine And.intro ?_ ?_); · (first | rfl | assumption | omega | (simp; omega) | (simp [AV.cells]; done))) | (with_reducible first | refine b_T ?_ | refine b_F ?_ | refine b_true (by assumption) ?_ | refine b_false (by assumption) ?_) | ((with_reducible refine b_true ?_ ?_); (· (decide))) | ((with_reducible refine b_false ?_ ?_); (· (decide))) | (with_reducible refine b_dec ?_ ?_ <;> intro hc hcb) | (with_reducible refine b_eq ?_ ?_ <;> intro hc hcb) | (with_reducible refine b_ne ?_ ?_ <;> intro hc hcb) | (with_reducible refine b_neq ?_ ?_ <;> intro hc hcb) | (with_reducible refine b_not ?_ ?_ <;> intro hc hcb) | (with_reducible refine b_intro ?_ ?_ <;> intro hcb) | (with_reducible first | refine ewp_cond ?_ | refine eops_if ?_ | refine ewp_block ?_ | refine ewp_exit ?_ | refine ewp_ret ?_ | refine ewp_skip ?_ | refine ewp_loop ?_ | refine hget_a0 ?_ | refine hget_b ?_ | refine hget_a ?_ | refine hput_a0 ?_ | refine hput_b ?_ | refine hput_a ?_ | refine hget_s0 ?_ | refine hget_s ?_ | refine hput_s0 ?_ | refine hput_s ?_ | refine halloc1 ?_ | refine halloc2 ?_ | refine halloc3 ?_ | refine halloc4 ?_ | refine halloc5 ?_ | refine halloc6 ?_ | refine halloc7 ?_ | refine halloc8 ?_ | refine halloc_b2 ?_ | refine halloc_b1 ?_ | refine halloc_s0 ?_ | refine halloc_h ?_ | refine ewp_range ?_ | refine ewp_draw ?_ | refine edraw_nil ?_ | refine edraw_if ?_ | refine mget_cons ?_) | with_reducible refine mget_nil ?_) | ((conv => whnf); first | (with_reducible refine (hnA _).mono ?_; rintro r h' ⟨rfl, rfl⟩) | (with_reducible refine (hnB _).mono ?_; rintro r h' ⟨rfl, rfl⟩) | (with_reducible refine (hnO _).mono ?_; rintro r h' ⟨rfl, rfl⟩) | (with_reducible refine (hCo _).mono ?_; rintro r h' ⟨rfl, rfl⟩) | (with_reducible refine (hnN _).mono ?_; rintro r h' ⟨rfl, rfl⟩) | (with_reducible refine (hHa _).mono ?_; rintro r h' ⟨rfl, rfl⟩) | (with_reducible refine (hHb _).mono ?_; rintro r h' ⟨rfl, rfl⟩) | (with_reducible refine (hHn _).mono ?_; rintro r h' ⟨rfl, rfl⟩) | (with_reducible refine (hHt _).mono ?_; rintro r h' ⟨rfl, rfl⟩) | (with_reducible refine (hH1 _).mono ?_; rintro r h' ⟨rfl, rfl⟩) | (with_reducible refine (hH2 _).mono ?_; rintro r h' ⟨rfl, rfl⟩) | (with_reducible refine (hH3 _).mono ?_; rintro r h' ⟨rfl, rfl⟩) | with_reducible refine cputK_cl ?_ | (with_reducible refine (hFa _).mono ?_; rintro r h' ⟨rfl, rfl⟩) | (with_reducible refine (hFb _).mono ?_; rintro r h' ⟨rfl, rfl⟩) | (with_reducible refine (hFo _).mono ?_; rintro r h' ⟨rfl, rfl⟩) | (with_reducible first | refine head_S ?_ | refine takeK_cl ?_ | refine takeK_ob ?_) | refine stoK_cl ?_ | refine stoK_ob ?_) | ((conv => whnf); (with_reducible apply edraw_read'); (· (repeat' (first | exact True.intro | exact rfl | ((conv => whnf); first | (with_reducible refine (hnA _).mono ?_; rintro r h' ⟨rfl, rfl⟩) | (with_reducible refine (hnB _).mono ?_; rintro r h' ⟨rfl, rfl⟩) | (with_reducible refine (hnO _).mono ?_; rintro r h' ⟨rfl, rfl⟩) | (with_reducible refine (hCo _).mono ?_; rintro r h' ⟨rfl, rfl⟩) | (with_reducible refine (hnN _).mono ?_; rintro r h' ⟨rfl, rfl⟩) | (with_reducible refine (hHa _).mono ?_; rintro r h' ⟨rfl, rfl⟩) | (with_reducible refine (hHb _).mono ?_; rintro r h' ⟨rfl, rfl⟩) | (with_reducible refine (hHn _).mono ?_; rintro r h' ⟨rfl, rfl⟩) | (with_reducible refine (hHt _).mono ?_; rintro r h' ⟨rfl, rfl⟩) | (with_reducible refine (hH1 _).mono ?_; rintro r h' ⟨rfl, rfl⟩) | (with_reducible refine (hH2 _).mono ?_; rintro r h' ⟨rfl, rfl⟩) | (with_reducible refine (hH3 _).mono ?_; rintro r h' ⟨rfl, rfl⟩) | with_reducible refine cputK_cl ?_ | (with_reducible refine (hFa _).mono ?_; rintro r h' ⟨rfl, rfl⟩) | (with_reducible refine (hFb _).mono ?_; rintro r h' ⟨rfl, rfl⟩) | (with_reducible refine (hFo _).mono ?_; rintro r h' ⟨rfl, rfl⟩) | (with_reducible first | refine head_S ?_ | refine takeK_cl ?_ | refine takeK_ob ?_) | refine stoK_cl ?_ | refine stoK_ob ?_) | ((conv => whnf); first | (with_reducible first | refine eops_one ?_ | refine eops_nil ?_ | refine ewp_seq ?_ | refine ewp_region ?_) | ((with_reducible refine And.intro ?_ ?_); · (first | rfl | assumption | omega | (simp; omega) | (simp [AV.cells]; done))) | (with_reducible first | refine b_T ?_ | refine b_F ?_ | refine b_true (by assumption) ?_ | refine b_false (by assumption) ?_) | ((with_reducible refine b_true ?_ ?_); (· (decide))) | ((with_reducible refine b_false ?_ ?_); (· (decide))) | (with_reducible refine b_dec ?_ ?_ <;> intro hc hcb) | (with_reducible refine b_eq ?_ ?_ <;> intro hc hcb) | (with_reducible refine b_ne ?_ ?_ <;> intro hc hcb) | (with_reducible refine b_neq ?_ ?_ <;> intro hc hcb) | (with_reducible refine b_not ?_ ?_ <;> intro hc hcb) | (with_reducible refine b_intro ?_ ?_ <;> intro hcb) | (with_reducible first | refine ewp_cond ?_ | refine eops_if ?_ | refine ewp_block ?_ | refine ewp_exit ?_ | refine ewp_ret ?_ | refine ewp_skip ?_ | refine ewp_loop ?_ | refine hget_a0 ?_ | refine hget_b ?_ | refine hget_a ?_ | refine hput_a0 ?_ | refine hput_b ?_ | refine hput_a ?_ | refine hget_s0 ?_ | refine hget_s ?_ | refine hput_s0 ?_ | refine hput_s ?_ | refine halloc1 ?_ | refine halloc2 ?_ | refine halloc3 ?_ | refine halloc4 ?_ | refine halloc5 ?_ | refine halloc6 ?_ | refine halloc7 ?_ | refine halloc8 ?_ | refine halloc_b2 ?_ | refine halloc_b1 ?_ | refine halloc_s0 ?_ | refine halloc_h ?_ | refine ewp_range ?_ | refine ewp_draw ?_ | refine edraw_nil ?_ | refine edraw_if ?_ | refine mget_cons ?_) | with_reducible refine mget_nil ?_) | ((conv => whnf); refine And.intro ?_ ?_)))); (· (repeat' (first | exact True.intro | exact rfl | ((conv => whnf); first | (with_reducible refine (hnA _).mono ?_; rintro r h' ⟨rfl, rfl⟩) | (with_reducible refine (hnB _).mono ?_; rintro r h' ⟨rfl, rfl⟩) | (with_reducible refine (hnO _).mono ?_; rintro r h' ⟨rfl, rfl⟩) | (with_reducible refine (hCo _).mono ?_; rintro r h' ⟨rfl, rfl⟩) | (with_reducible refine (hnN _).mono ?_; rintro r h' ⟨rfl, rfl⟩) | (with_reducible refine (hHa _).mono ?_; rintro r h' ⟨rfl, rfl⟩) | (with_reducible refine (hHb _).mono ?_; rintro r h' ⟨rfl, rfl⟩) | (with_reducible refine (hHn _).mono ?_; rintro r h' ⟨rfl, rfl⟩) | (with_reducible refine (hHt _).mono ?_; rintro r h' ⟨rfl, rfl⟩) | (with_reducible refine (hH1 _).mono ?_; rintro r h' ⟨rfl, rfl⟩) | (with_reducible refine (hH2 _).mono ?_; rintro r h' ⟨rfl, rfl⟩) | (with_reducible refine (hH3 _).mono ?_; rintro r h' ⟨rfl, rfl⟩) | with_reducible refine cputK_cl ?_ | (with_reducible refine (hFa _).mono ?_; rintro r h' ⟨rfl, rfl⟩) | (with_reducible refine (hFb _).mono ?_; rintro r h' ⟨rfl, rfl⟩) | (with_reducible refine (hFo _).mono ?_; rintro r h' ⟨rfl, rfl⟩) | (with_reducible first | refine head_S ?_ | refine takeK_cl ?_ | refine takeK_ob ?_) | refine stoK_cl ?_ | refine stoK_ob ?_) | ((conv => whnf); first | (with_reducible first | refine eops_one ?_ | refine eops_nil ?_ | refine ewp_seq ?_ | refine ewp_region ?_) | ((with_reducible refine And.intro ?_ ?_); · (first | rfl | assumption | omega | (simp; omega) | (simp [AV.cells]; done))) | (with_reducible first | refine b_T ?_ | refine b_F ?_ | refine b_true (by assumption) ?_ | refine b_false (by assumption) ?_) | ((with_reducible refine b_true ?_ ?_); (· (decide))) | ((with_reducible refine b_false ?_ ?_); (· (decide))) | (with_reducible refine b_dec ?_ ?_ <;> intro hc hcb) | (with_reducible refine b_eq ?_ ?_ <;> intro hc hcb) | (with_reducible refine b_ne ?_ ?_ <;> intro hc hcb) | (with_reducible refine b_neq ?_ ?_ <;> intro hc hcb) | (with_reducible refine b_not ?_ ?_ <;> intro hc hcb) | (with_reducible refine b_intro ?_ ?_ <;> intro hcb) | (with_reducible first | refine ewp_cond ?_ | refine eops_if ?_ | refine ewp_block ?_ | refine ewp_exit ?_ | refine ewp_ret ?_ | refine ewp_skip ?_ | refine ewp_loop ?_ | refine hget_a0 ?_ | refine hget_b ?_ | refine hget_a ?_ | refine hput_a0 ?_ | refine hput_b ?_ | refine hput_a ?_ | refine hget_s0 ?_ | refine hget_s ?_ | refine hput_s0 ?_ | refine hput_s ?_ | refine halloc1 ?_ | refine halloc2 ?_ | refine halloc3 ?_ | refine halloc4 ?_ | refine halloc5 ?_ | refine halloc6 ?_ | refine halloc7 ?_ | refine halloc8 ?_ | refine halloc_b2 ?_ | refine halloc_b1 ?_ | refine halloc_s0 ?_ | refine halloc_h ?_ | refine ewp_range ?_ | refine ewp_draw ?_ | refine edraw_nil ?_ | refine edraw_if ?_ | refine mget_cons ?_) | with_reducible refine mget_nil ?_) | ((conv => whnf); refine And.intro ?_ ?_))))) | ((conv => whnf); (with_reducible apply edraw_write'); (· (repeat' (first | exact True.intro | exact rfl | ((conv => whnf); first | (with_reducible refine (hnA _).mono ?_; rintro r h' ⟨rfl, rfl⟩) | (with_reducible refine (hnB _).mono ?_; rintro r h' ⟨rfl, rfl⟩) | (with_reducible refine (hnO _).mono ?_; rintro r h' ⟨rfl, rfl⟩) | (with_reducible refine (hCo _).mono ?_; rintro r h' ⟨rfl, rfl⟩) | (with_reducible refine (hnN _).mono ?_; rintro r h' ⟨rfl, rfl⟩) | (with_reducible refine (hHa _).mono ?_; rintro r h' ⟨rfl, rfl⟩) | (with_reducible refine (hHb _).mono ?_; rintro r h' ⟨rfl, rfl⟩) | (with_reducible refine (hHn _).mono ?_; rintro r h' ⟨rfl, rfl⟩) | (with_reducible refine (hHt _).mono ?_; rintro r h' ⟨rfl, rfl⟩) | (with_reducible refine (hH1 _).mono ?_; rintro r h' ⟨rfl, rfl⟩) | (with_reducible refine (hH2 _).mono ?_; rintro r h' ⟨rfl, rfl⟩) | (with_reducible refine (hH3 _).mono ?_; rintro r h' ⟨rfl, rfl⟩) | with_reducible refine cputK_cl ?_ | (with_reducible refine (hFa _).mono ?_; rintro r h' ⟨rfl, rfl⟩) | (with_reducible refine (hFb _).mono ?_; rintro r h' ⟨rfl, rfl⟩) | (with_reducible refine (hFo _).mono ?_; rintro r h' ⟨rfl, rfl⟩) | (with_reducible first | refine head_S ?_ | refine takeK_cl ?_ | refine takeK_ob ?_) | refine stoK_cl ?_ | refine stoK_ob ?_) | ((conv => whnf); first | (with_reducible first | refine eops_one ?_ | refine eops_nil ?_ | refine ewp_seq ?_ | refine ewp_region ?_) | ((with_reducible refine And.intro ?_ ?_); · (first | rfl | assumption | omega | (simp; omega) | (simp [AV.cells]; done))) | (with_reducible first | refine b_T ?_ | refine b_F ?_ | refine b_true (by assumption) ?_ | refine b_false (by assumption) ?_) | ((with_reducible refine b_true ?_ ?_); (· (decide))) | ((with_reducible refine b_false ?_ ?_); (· (decide))) | (with_reducible refine b_dec ?_ ?_ <;> intro hc hcb) | (with_reducible refine b_eq ?_ ?_ <;> intro hc hcb) | (with_reducible refine b_ne ?_ ?_ <;> intro hc hcb) | (with_reducible refine b_neq ?_ ?_ <;> intro hc hcb) | (with_reducible refine b_not ?_ ?_ <;> intro hc hcb) | (with_reducible refine b_intro ?_ ?_ <;> intro hcb) | (with_reducible first | refine ewp_cond ?_ | refine eops_if ?_ | refine ewp_block ?_ | refine ewp_exit ?_ | refine ewp_ret ?_ | refine ewp_skip ?_ | refine ewp_loop ?_ | refine hget_a0 ?_ | refine hget_b ?_ | refine hget_a ?_ | refine hput_a0 ?_ | refine hput_b ?_ | refine hput_a ?_ | refine hget_s0 ?_ | refine hget_s ?_ | refine hput_s0 ?_ | refine hput_s ?_ | refine halloc1 ?_ | refine halloc2 ?_ | refine halloc3 ?_ | refine halloc4 ?_ | refine halloc5 ?_ | refine halloc6 ?_ | refine halloc7 ?_ | refine halloc8 ?_ | refine halloc_b2 ?_ | refine halloc_b1 ?_ | refine halloc_s0 ?_ | refine halloc_h ?_ | refine ewp_range ?_ | refine ewp_draw ?_ | refine edraw_nil ?_ | refine edraw_if ?_ | refine mget_cons ?_) | with_reducible refine mget_nil ?_) | ((conv => whnf); refine And.intro ?_ ?_)))); (· (repeat' (first | exact True.intro | exact rfl | ((conv => whnf); first | (with_reducible refine (hnA _).mono ?_; rintro r h' ⟨rfl, rfl⟩) | (with_reducible refine (hnB _).mono ?_; rintro r h' ⟨rfl, rfl⟩) | (with_reducible refine (hnO _).mono ?_; rintro r h' ⟨rfl, rfl⟩) | (with_reducible refine (hCo _).mono ?_; rintro r h' ⟨rfl, rfl⟩) | (with_reducible refine (hnN _).mono ?_; rintro r h' ⟨rfl, rfl⟩) | (with_reducible refine (hHa _).mono ?_; rintro r h' ⟨rfl, rfl⟩) | (with_reducible refine (hHb _).mono ?_; rintro r h' ⟨rfl, rfl⟩) | (with_reducible refine (hHn _).mono ?_; rintro r h' ⟨rfl, rfl⟩) | (with_reducible refine (hHt _).mono ?_; rintro r h' ⟨rfl, rfl⟩) | (with_reducible refine (hH1 _).mono ?_; rintro r h' ⟨rfl, rfl⟩) | (with_reducible refine (hH2 _).mono ?_; rintro r h' ⟨rfl, rfl⟩) | (with_reducible refine (hH3 _).mono ?_; rintro r h' ⟨rfl, rfl⟩) | with_reducible refine cputK_cl ?_ | (with_reducible refine (hFa _).mono ?_; rintro r h' ⟨rfl, rfl⟩) | (with_reducible refine (hFb _).mono ?_; rintro r h' ⟨rfl, rfl⟩) | (with_reducible refine (hFo _).mono ?_; rintro r h' ⟨rfl, rfl⟩) | (with_reducible first | refine head_S ?_ | refine takeK_cl ?_ | refine takeK_ob ?_) | refine stoK_cl ?_ | refine stoK_ob ?_) | ((conv => whnf); first | (with_reducible first | refine eops_one ?_ | refine eops_nil ?_ | refine ewp_seq ?_ | refine ewp_region ?_) | ((with_reducible refine And.intro ?_ ?_); · (first | rfl | assumption | omega | (simp; omega) | (simp [AV.cells]; done))) | (with_reducible first | refine b_T ?_ | refine b_F ?_ | refine b_true (by assumption) ?_ | refine b_false (by assumption) ?_) | ((with_reducible refine b_true ?_ ?_); (· (decide))) | ((with_reducible refine b_false ?_ ?_); (· (decide))) | (with_reducible refine b_dec ?_ ?_ <;> intro hc hcb) | (with_reducible refine b_eq ?_ ?_ <;> intro hc hcb) | (with_reducible refine b_ne ?_ ?_ <;> intro hc hcb) | (with_reducible refine b_neq ?_ ?_ <;> intro hc hcb) | (with_reducible refine b_not ?_ ?_ <;> intro hc hcb) | (with_reducible refine b_intro ?_ ?_ <;> intro hcb) | (with_reducible first | refine ewp_cond ?_ | refine eops_if ?_ | refine ewp_block ?_ | refine ewp_exit ?_ | refine ewp_ret ?_ | refine ewp_skip ?_ | refine ewp_loop ?_ | refine hget_a0 ?_ | refine hget_b ?_ | refine hget_a ?_ | refine hput_a0 ?_ | refine hput_b ?_ | refine hput_a ?_ | refine hget_s0 ?_ | refine hget_s ?_ | refine hput_s0 ?_ | refine hput_s ?_ | refine halloc1 ?_ | refine halloc2 ?_ | refine halloc3 ?_ | refine halloc4 ?_ | refine halloc5 ?_ | refine halloc6 ?_ | refine halloc7 ?_ | refine halloc8 ?_ | refine halloc_b2 ?_ | refine halloc_b1 ?_ | refine halloc_s0 ?_ | refine halloc_h ?_ | refine ewp_range ?_ | refine ewp_draw ?_ | refine edraw_nil ?_ | refine edraw_if ?_ | refine mget_cons ?_) | with_reducible refine mget_nil ?_) | ((conv => whnf); refine And.intro ?_ ?_))))))
            all_goals (conv => whnf)
            exact done_drop' rfl hlow (.bool _) hQ
end Go.QZ
end
section
namespace Go.QZ
open Go Go.Abs Go.Proofs Go.RowKit Go.ChangeShapes Go.WideShapes Go.ChangeAt Go.Deep
open Go.Proofs.YtdpoipifjknhkaaGreatDoor
set_option maxRecDepth 100000
theorem own : ownKnob (Tryz.prog).godebug = none := by kernel_rfl
theorem gPow : (Tryz.prog).globalNamed "internal/strconv.uint64pow10" = some 0 := by kernel_rfl
theorem gRange : (Tryz.prog).globalNamed "strconv.ErrRange" = some 3 := by kernel_rfl
theorem gSyntax : (Tryz.prog).globalNamed "strconv.ErrSyntax" = some 2 := by kernel_rfl
theorem tPow : ((Tryz.prog).globals[0]?).map (·.type) = some 157 := by kernel_rfl
theorem tRange : ((Tryz.prog).globals[3]?).map (·.type) = some 94 := by kernel_rfl
theorem tSyntax : ((Tryz.prog).globals[2]?).map (·.type) = some 94 := by kernel_rfl
theorem cells_u64 : (Tryz.prog).cellsOf 140 = 1 := by kernel_rfl
theorem cells_pow : (Tryz.prog).cellsOf 157 = 20 := by kernel_rfl
theorem trod_iface' {H : Type} {enc : TypeId × Value → H} {P : Program} {w : World} {base : Nat} {spare : Nat → Bool} {held : Bool} {t : TypeId} {ms : Array (String × TypeId)} {fuel : Nat} {cs : List Value} {nm : String} {x : DataW H} {p : List MemPlace} (ht : P.underlying t = some (.interface ms)) (h : DataW.trod enc P w base spare held fuel t cs = some (.iface nm x, p)) :
    ∃ u v, cs = [.iface u v] := by
  cases fuel with
  | zero => simp [DataW.trod] at h
  | succ n =>
    unfold DataW.trod at h
    rw [ht] at h
    split at h <;> simp_all
theorem libV_of_laid {W : World} (h : laidMetH Tryz.prog Rows.queryConditionsRow.laid W) : LibV W := by
  have h : laidMetH Tryz.prog [("math/bits.deBruijn32tab", Rows.laid_math_bits_deBruijn32tab), ("math/bits.deBruijn64tab", Rows.laid_math_bits_deBruijn64tab), ("internal/strconv.uint64pow10", Rows.laid_internal_strconv_uint64pow10), ("strconv.ErrRange", Rows.laid_strconv_ErrRange), ("strconv.ErrSyntax", Rows.laid_strconv_ErrSyntax)] W := h
  rw [MakeChecks.laidMetH_plain _ _ _ (by kernel_rfl)] at h
  obtain ⟨ps, ⟨g0, t0, cs0, f0, p0, q0, hg0, ht0, hv0, hd0, ⟨g1, t1, cs1, f1, p1, q1, hg1, ht1, hv1, hd1, ⟨g2, t2, cs2, f2, p2, q2, hg2, ht2, hv2, hd2, ⟨g3, t3, cs3, f3, p3, q3, hg3, ht3, hv3, hd3, ⟨g4, t4, cs4, f4, p4, q4, hg4, ht4, hv4, hd4, _, _⟩, _⟩, _⟩, _⟩, _⟩, _, _⟩ := h
  obtain rfl := Option.some.inj (gPow.symm.trans hg2)
  obtain rfl := Option.some.inj (tPow.symm.trans ht2)
  obtain rfl := Option.some.inj (gRange.symm.trans hg3)
  obtain rfl := Option.some.inj (tRange.symm.trans ht3)
  obtain rfl := Option.some.inj (gSyntax.symm.trans hg4)
  obtain rfl := Option.some.inj (tSyntax.symm.trans ht4)
  refine ⟨?_, ?_, ?_⟩
  · unfold Lib.TabIs
    have hd2' : DataW.trod _ Tryz.prog W 0 _ _ f2 157 cs2.toList = some (Lib.tabData .u64 Lib.pow10Tab, p2) := hd2
    rw [hv2, ← Lib.cells_of_tab Tryz.underlying157 Tryz.underlying140 cells_u64 cells_pow hd2']
  · obtain ⟨u, v, hc⟩ := trod_iface' Tryz.underlying94 hd4
    refine ⟨u, v, ?_⟩
    rw [hv4]
    obtain ⟨l⟩ := cs4
    simp only at hc
    subst hc; rfl
  · obtain ⟨u, v, hc⟩ := trod_iface' Tryz.underlying94 hd3
    refine ⟨u, v, ?_⟩
    rw [hv3]
    obtain ⟨l⟩ := cs3
    simp only at hc
    subst hc; rfl
theorem libV_below {w W : World} (h : LibV w) (hb : RowKit.Below w.heap.size w W) : LibV W := by
  have key : ∀ {n : String} {g : Nat} {cs : Array Value}, (Tryz.prog).globalNamed n = some g → w.var? Tryz.prog n = some cs → W.var? Tryz.prog n = some cs := fun hg hv => Go.Joins.var_stays hg hv hb (Nat.le_refl _)
  obtain ⟨h1, ⟨t1, p1, h2⟩, ⟨t2, p2, h3⟩⟩ := h
  exact ⟨key gPow h1, ⟨t1, p1, key gSyntax h2⟩, ⟨t2, p2, key gRange h3⟩⟩
theorem libV_stays {w : World} (h : LibV w) : Stays LibV w := fun _ hb => libV_below h hb
theorem lo : laidOutB Tryz.prog = true := by kernel_rfl
theorem mr : mapsRowed Tryz.prog = true := by kernel_rfl
theorem full : ∀ t e, t < (Tryz.prog).types.size → (Tryz.prog).underlying t = some (.slice e) → 0 < (Tryz.prog).cellsOf e := slices_full_of Tryz.prog (by kernel_rfl)
theorem door_met (os : Os) (args : Array Value) : laidMetH Tryz.prog Rows.queryConditionsRow.laid ((World.doorLaid Tryz.prog 400 os).forCall (fun _ _ => 0) ⟨#[], args, []⟩).memory :=
  laidMet_of_run' 8 (by kernel_rfl) (by kernel_rfl)
def zCond : Value := .agg #[.int .i64 0, .string ⟨#[]⟩, .string ⟨#[]⟩, .int .i64 0, .slice none 0 0]
def zObj : Value := .agg #[.string ⟨#[]⟩, .int .i64 0, .int .i64 0, .int .i64 0, .slice none 0 0, .slice none 0 0]
def zC {H : Type} : DataW H := .agg [.lit (.int .i64 0), .lit (.string []), .lit (.string []), .lit (.int .i64 0), .nil]
def zO {H : Type} : DataW H := .agg [.lit (.string []), .lit (.int .i64 0), .agg [.lit (.int .i64 0), .lit (.int .i64 0)], .nil, .nil]
theorem readsC (os : Os) {H : Type} (enc : TypeId × Value → H) : ∃ places, DataW.whole enc Tryz.prog ((World.doorLaid Tryz.prog 400 os).forCall (fun _ _ => 0) ⟨#[], #[zCond, zCond, zObj], []⟩).memory Tryz.f5.params.toList Rows.queryConditionsSpec.vars false #[zCond, zCond, zObj].toList 8 = some ([zC, zC, zO], [], places) :=
  ⟨[], by kernel_rfl⟩
theorem contractC (H : Type) (enc : TypeId × Value → H) (W : World) (base : Nat) (args : Array Value) (ds gs : List (DataW H)) (before : List MemPlace)
    (hval : ∀ (j : Nat) t v, Tryz.f5.params[j]? = some t → args[j]? = some v → Value.okWide Tryz.prog W .any base t v)
    (hW : DataW.Whole enc Tryz.prog Tryz.f5.params.toList Rows.queryConditionsSpec.vars false W args.toList ds gs before) (hsz : (DataW.weightsEach Tryz.prog (Tryz.f5.params.toList ++ (OpenSpec.ofChange Rows.queryConditionsSpec).bare.plain.varTypes Tryz.prog) (ds ++ gs)).all (· ≤ reachBytes) = true) (hL : laidMetH Tryz.prog Rows.queryConditionsRow.laid W) :
    Calls Tryz.prog 5 args W fun e W' => ∃ v, e = .returned v ∧ Rows.queryConditionsSpec.post enc Tryz.prog Tryz.f5 false true false false W args v W' := by
  have hW' := hW
  obtain ⟨p, q, hA0, hV, rfl, hfz, hnd⟩ := hW
  have hA : DataW.TrodAll enc Tryz.prog W 0 (fun _ => true) true Tryz.f5.params.toList args.toList ds p := hA0
  rw [Tryz.params5] at hA hval hsz
  obtain ⟨v0, vs0, d0, ds0, p0, q0, hargs, rfl, rfl, h0, r0⟩ := trodAll_cons hA
  obtain ⟨v1, vs1, d1, ds1, p1, q1, rfl, rfl, rfl, h1, r1⟩ := trodAll_cons r0
  obtain ⟨v2, vs2, d2, ds2, p2, q2, rfl, rfl, rfl, h2, r2⟩ := trodAll_cons r1
  obtain ⟨rfl, rfl, rfl⟩ := trodAll_nil r2
  obtain rfl : args = #[v0, v1, v2] := by cases args; simp_all
  obtain ⟨c0, rfl, z0⟩ := okWide_struct Tryz.underlying24 (hval 0 24 v0 rfl rfl)
  obtain ⟨c1, rfl, z1⟩ := okWide_struct Tryz.underlying24 (hval 1 24 v1 rfl rfl)
  obtain ⟨c2, rfl, z2⟩ := okWide_struct Tryz.underlying50 (hval 2 50 v2 rfl rfl)
  obtain ⟨f0, h0⟩ := h0
  obtain ⟨f1, h1⟩ := h1
  obtain ⟨f2, h2⟩ := h2
  have wt : ∀ (j : Nat) (t : TypeId) (d : DataW H), [24, 24, 50][j]? = some t → [d0, d1, d2][j]? = some d → Wt Tryz.prog t d := fun j t d ht hd n hn => by
    have := List.all_eq_true.1 hsz n (DataW.weights_mem_each (j := j) (t := t) (d := d) (by rw [List.getElem?_append_left (by have := (List.getElem?_eq_some_iff.1 ht).1; simpa using this)]; exact ht) (by rw [List.getElem?_append_left (by have := (List.getElem?_eq_some_iff.1 hd).1; simpa using this)]; exact hd) n hn)
    simpa using this
  obtain ⟨a, _, ra⟩ := rd_cond _ _ _ h0 (wt 0 _ _ rfl rfl)
  obtain ⟨b, _, rb⟩ := rd_cond _ _ _ h1 (wt 1 _ _ rfl rfl)
  obtain ⟨o, ho, ro⟩ := rd_obj _ _ _ h2 (wt 2 _ _ rfl rfl)
  have hb : ∀ t ∈ o.tagl, (t.1.length : Int) + t.2.length ≤ 9223372036854775807 := fun t ht => by
    obtain ⟨x1, x2⟩ := ho.1 t ht
    have := reachBytes_lt
    omega
  exact row_of_S (tb := 4) lo mr full (by rw [Tryz.params5]; decide +kernel) rfl (by kernel_rfl) Tryz.underlying4 hW' rfl (queryConditions_S (a := a) (b := b) (o := o) (h := []) hb rfl) (libV_stays (libV_of_laid hL))
    (VRs.cons ra.agg (VRs.cons rb.agg (VRs.cons ro.agg .nil)))
theorem liftedC (os : Os) (started : os.Started) (H : Type) (enc : TypeId × Value → H) (F : Stop.Interp) :
    ReturnsInHanded {} Tryz.checked os 5 .any ((OpenSpec.ofChange Rows.queryConditionsSpec).preRow enc Tryz.prog Tryz.f5 Rows.queryConditionsRow.domain false Rows.queryConditionsRow.laid) (((OpenSpec.ofChange Rows.queryConditionsSpec).at F).post enc Tryz.prog Tryz.f5 false true false false) := by
  obtain ⟨places, hx⟩ := readsC os enc
  refine returnsInHanded_of_row (C := Tryz.checked) (s := OpenSpec.ofChange Rows.queryConditionsSpec) own started (by kernel_rfl) Tryz.func5
    (witness_row_atRef (enc := enc) (C := Tryz.checked) false (World.doorLaid Tryz.prog 400 os) #[zCond, zCond, zObj] rfl (by kernel_rfl) (by kernel_rfl) (by kernel_rfl)
      (OpenSpec.preRow_of_cond 8 hx (by kernel_rfl) (fun k hk => by cases hk) (by kernel_rfl) (door_met os _))) ?_
  intro W base args ds gs before hval hW _ _ hsz hL _ _
  exact contractC H enc W base args ds gs before hval hW hsz hL
theorem saidC : Rows.QueryConditionsSaid :=
  OpenClaim.holds_of_cond 5 Tryz.f5 rfl rfl rfl rfl rfl rfl rfl ⟨rfl, rfl, rfl, rfl, rfl⟩ rfl rfl rfl rfl rfl (by kernel_rfl) Tryz.func5 (by kernel_rfl)
    (of_decide_eq_true (by kernel_rfl)) (by unfold Func.isWrapper; first | (rw [if_pos (by decide +kernel)]; kernel_rfl) | (rw [if_neg (by decide +kernel)]; exact ⟨rfl, rfl⟩))
    (fun os started H enc _ F => by rw [OpenClaim.pre_eq_preRow]; exact liftedC os started H enc F)
end Go.QZ
end
section
namespace Go.QZ
open Go Go.Abs Go.Proofs Go.Proofs.YtdpoipifjknhkaaGreatDoor
set_option maxRecDepth 100000
theorem plainC (f : FuncId) (fn : Func) (hf : Tryz.pinned.checked.prog.funcNamed "planisphere/planispherelaw36.QueryConditions" = some f) (hfn : Tryz.pinned.checked.prog.funcs[f]? = some fn) :
    true = Tryz.pinned.checked.prog.looks [] ∧ ∀ (j : Nat) t, fn.params[j]? = some t → Tryz.pinned.checked.prog.wantsStandIn t = false := by
  obtain rfl : f = 5 := Option.some.inj ((show Tryz.prog.funcNamed "planisphere/planispherelaw36.QueryConditions" = some 5 by kernel_rfl).symm.trans hf) |>.symm
  obtain rfl : fn = Tryz.f5 := (Option.some.inj (Tryz.func5.symm.trans hfn)).symm
  refine ⟨by kernel_rfl, fun j t ht => ?_⟩
  rw [Tryz.params5] at ht
  have h : t = 24 ∨ t = 24 ∨ t = 50 := by simpa using Array.mem_of_getElem? ht
  rcases h with rfl | rfl | rfl
  · exact (show Tryz.prog.wantsStandIn 24 = false by kernel_rfl)
  · exact (show Tryz.prog.wantsStandIn 24 = false by kernel_rfl)
  · exact (show Tryz.prog.wantsStandIn 50 = false by kernel_rfl)
end Go.QZ
namespace Go.Proofs.YtdpoipifjknhkaaGreatDoor
open Go Go.Abs Go.QZ
set_option maxRecDepth 100000
theorem queryConditions_card : Rows.QueryConditionsCardSaid :=
  Claim7.holds_tied_plain_at .later [] _ _ _ _ saidC (fun _ h => by cases h) (by kernel_rfl) (fun _ h => by cases h) queryConditions_row_tie rfl ⟨rfl, rfl⟩ (by kernel_rfl) rfl plainC (by kernel_rfl)
end Go.Proofs.YtdpoipifjknhkaaGreatDoor
end
