/- A part of the proof of the card in the last text. -/
import Derived.Test.YtdpoipifjknhkaaGreatDoorT10
section
namespace Go.QZ
open Go Go.Abs Go.Proofs
variable {Φ : World → Prop}
set_option maxRecDepth 100000
inductive Cnd where
  | nilk (op : Int) (key val : List UInt8) (n : Int)
  | els (op : Int) (key val : List UInt8) (n : Int) (kids : List Cnd)
def Cnd.op : Cnd → Int | .nilk op _ _ _ | .els op _ _ _ _ => op
def Cnd.key : Cnd → List UInt8 | .nilk _ k _ _ | .els _ k _ _ _ => k
def Cnd.val : Cnd → List UInt8 | .nilk _ _ v _ | .els _ _ v _ _ => v
def Cnd.n : Cnd → Int | .nilk _ _ _ n | .els _ _ _ n _ => n
def Cnd.kids : Cnd → List Cnd | .nilk _ _ _ _ => [] | .els _ _ _ _ l => l
mutual
def Cnd.cl : Cnd → List AV
  | .nilk op k v n => [.int .i64 op, .str k, .str v, .int .i64 n, .nils]
  | .els op k v n l => [.int .i64 op, .str k, .str v, .int .i64 n, .lst 5 (Cnd.cls l)]
def Cnd.cls : List Cnd → List AV
  | [] => []
  | c :: r => .agg c.cl :: Cnd.cls r
end
mutual
def Cnd.cnt : Cnd → Nat
  | .nilk _ _ _ _ => 1
  | .els _ _ _ _ l => 1 + Cnd.cntL l
def Cnd.cntL : List Cnd → Nat
  | [] => 0
  | c :: r => c.cnt + Cnd.cntL r
end
mutual
def Cnd.shortC : Cnd → Bool
  | .nilk _ k v _ => Nat.ble k.length 300 && Nat.ble v.length 300
  | .els _ k v _ l => (Nat.ble k.length 300 && Nat.ble v.length 300) && Cnd.shortL l
def Cnd.shortL : List Cnd → Bool
  | [] => true
  | c :: r => c.shortC && Cnd.shortL r
end
theorem Cnd.cls_eq : ∀ l : List Cnd, Cnd.cls l = l.map fun c => AV.agg c.cl
  | [] => by rw [Cnd.cls]; rfl
  | c :: r => by rw [Cnd.cls, Cnd.cls_eq r]; rfl
@[simp] theorem Cnd.cls_len (l : List Cnd) : (Cnd.cls l).length = l.length := by rw [Cnd.cls_eq]; simp
theorem Cnd.cnt_pos (c : Cnd) : 1 ≤ c.cnt := by cases c <;> simp [Cnd.cnt]
theorem Cnd.cnt_eq (c : Cnd) : c.cnt = 1 + Cnd.cntL c.kids := by cases c <;> simp [Cnd.cnt, Cnd.kids, Cnd.cntL]
theorem Cnd.shortC_eq (c : Cnd) : c.shortC = ((Nat.ble c.key.length 300 && Nat.ble c.val.length 300) && Cnd.shortL c.kids) := by cases c <;> simp only [Cnd.shortC, Cnd.kids, Cnd.shortL, Cnd.key, Cnd.val, Bool.and_true] <;> rfl
theorem Cnd.cntL_mem : ∀ {l : List Cnd} {c : Cnd}, c ∈ l → c.cnt ≤ Cnd.cntL l
  | c :: r, d, h => by
    rw [Cnd.cntL]
    rcases List.mem_cons.1 h with rfl | h
    · omega
    · have := Cnd.cntL_mem h; omega
theorem Cnd.cntL_take : ∀ {l : List Cnd} {i : Nat} (h : i < l.length), Cnd.cntL (l.take (i + 1)) = Cnd.cntL (l.take i) + (l[i]).cnt
  | c :: r, 0, _ => by simp [Cnd.cntL]
  | c :: r, i + 1, h => by
    simp only [List.take_succ_cons, Cnd.cntL, List.getElem_cons_succ]
    rw [Cnd.cntL_take (l := r) (i := i) (by simpa using h)]; omega
theorem Cnd.cntL_le : ∀ {l : List Cnd} {i : Nat}, Cnd.cntL (l.take i) ≤ Cnd.cntL l
  | [], i => by simp
  | c :: r, 0 => by simp [Cnd.cntL]
  | c :: r, i + 1 => by
    simp only [List.take_succ_cons, Cnd.cntL]
    have := Cnd.cntL_le (l := r) (i := i); omega
theorem Cnd.cntL_ge : ∀ {l : List Cnd} {i : Nat}, i ≤ l.length → i ≤ Cnd.cntL (l.take i)
  | [], i, h => by simp at h; omega
  | c :: r, 0, _ => by omega
  | c :: r, i + 1, h => by
    simp only [List.take_succ_cons, Cnd.cntL]
    have := Cnd.cntL_ge (l := r) (i := i) (by simpa using h)
    have := c.cnt_pos; omega
theorem Cnd.shortL_false {l : List Cnd} {c : Cnd} (h : c ∈ l) (hc : c.shortC = false) : Cnd.shortL l = false := by
  induction l with
  | nil => cases h
  | cons d r ih =>
    rw [Cnd.shortL]
    rcases List.mem_cons.1 h with rfl | h
    · rw [hc]; rfl
    · rw [ih h]; simp
theorem Cnd.shortL_true : ∀ {l : List Cnd}, (∀ (i : Nat) (c : Cnd), l[i]? = some c → c.shortC = true) → Cnd.shortL l = true
  | [], _ => by rw [Cnd.shortL]
  | d :: r, h => by
    rw [Cnd.shortL, h 0 d rfl, Cnd.shortL_true fun i c hi => h (i + 1) c (by simpa using hi)]; rfl
theorem takeK_cl {c : Cnd} {K : List AV → Prop} (h : K c.cl) : takeK 5 (AV.agg c.cl).cells K := by
  show takeK 5 c.cl K
  cases c <;> (simp only [Cnd.cl] at h ⊢; simp only [takeK, force_eq]; exact h)
theorem eget_cnds {l : List Cnd} {i : Nat} {K : AV → Prop} (h : i < l.length) (hk : K (.agg (l[i]).cl)) : eget (Cnd.cls l) ((i : Int)).toNat K := by
  refine eget_of (a := .agg (l[i]).cl) ?_ hk
  rw [Cnd.cls_eq]; simp [h]
theorem nodes_S : ∀ (N : Nat) (c : Cnd) (m : Nat) (h : AHeap) (Q : AEnd → AHeap → Prop), c.cnt ≤ N → m ≤ 1000000 → Q (.ret (.int .i64 (min c.cnt (m + 1) : Nat))) h → S Tryz.prog Φ 45 [.agg c.cl, .int .i64 m] h Q
  | 0, c, m, h, Q, hc, _, _ => by have := c.cnt_pos; omega
  | N + 1, c, m, h, Q, hc, hm, hQ => by
    have hcnt := c.cnt_eq
    refine go45 (by simp) fun hlow => ?_
    unfold ac45
    cases c with
    | nilk op k v n =>
      simp only [Cnd.kids, Cnd.cntL] at hcnt
      repeat' ((conv => whnf); first | (with_reducible first | refine eops_one ?_ | refine eops_nil ?_ | refine ewp_seq ?_ | refine ewp_region ?_) | ((with_reducible refine And.intro ?_ ?_); · (first | rfl | assumption | omega | (simp; omega) | (simp [AV.cells]; done))) | (with_reducible first | refine b_T ?_ | refine b_F ?_ | refine b_true (by assumption) ?_ | refine b_false (by assumption) ?_) | ((with_reducible refine b_true ?_ ?_); (· (decide))) | ((with_reducible refine b_false ?_ ?_); (· (decide))) | (with_reducible refine b_dec ?_ ?_ <;> intro hc hcb) | (with_reducible refine b_eq ?_ ?_ <;> intro hc hcb) | (with_reducible refine b_ne ?_ ?_ <;> intro hc hcb) | (with_reducible refine b_neq ?_ ?_ <;> intro hc hcb) | (with_reducible refine b_not ?_ ?_ <;> intro hc hcb) | (with_reducible refine b_intro ?_ ?_ <;> intro hcb) | (with_reducible first | refine ewp_cond ?_ | refine eops_if ?_ | refine ewp_block ?_ | refine ewp_exit ?_ | refine ewp_ret ?_ | refine ewp_skip ?_ | refine ewp_loop ?_ | refine hget_a0 ?_ | refine hget_b ?_ | refine hget_a ?_ | refine hput_a0 ?_ | refine hput_b ?_ | refine hput_a ?_ | refine hget_s0 ?_ | refine hget_s ?_ | refine hput_s0 ?_ | refine hput_s ?_ | refine halloc1 ?_ | refine halloc2 ?_ | refine halloc3 ?_ | refine halloc4 ?_ | refine halloc5 ?_ | refine halloc6 ?_ | refine halloc7 ?_ | refine halloc8 ?_ | refine halloc_b2 ?_ | refine halloc_b1 ?_ | refine halloc_s0 ?_ | refine halloc_h ?_ | refine ewp_range ?_ | refine ewp_draw ?_ | refine edraw_nil ?_ | refine edraw_if ?_ | refine mget_cons ?_) | with_reducible refine mget_nil ?_)
      refine LoopP.of' (fun i : Nat => i = 0) (fun i => [(1, .int .i64 m), (2, .lptr (.agg (Cnd.cl (.nilk op k v n))) 0), (5, .int .i64 1), (6, .int .i64 i)]) (fun i => h) (fun i => 0) 0 rfl (SEnt.keep [1, 2, 5, 6]) ?_
      rintro i rfl
      repeat' ((conv => whnf); first | (with_reducible first | refine eops_one ?_ | refine eops_nil ?_ | refine ewp_seq ?_ | refine ewp_region ?_) | ((with_reducible refine And.intro ?_ ?_); · (first | rfl | assumption | omega | (simp; omega) | (simp [AV.cells]; done))) | (with_reducible first | refine b_T ?_ | refine b_F ?_ | refine b_true (by assumption) ?_ | refine b_false (by assumption) ?_) | ((with_reducible refine b_true ?_ ?_); (· (decide))) | ((with_reducible refine b_false ?_ ?_); (· (decide))) | (with_reducible refine b_dec ?_ ?_ <;> intro hc hcb) | (with_reducible refine b_eq ?_ ?_ <;> intro hc hcb) | (with_reducible refine b_ne ?_ ?_ <;> intro hc hcb) | (with_reducible refine b_neq ?_ ?_ <;> intro hc hcb) | (with_reducible refine b_not ?_ ?_ <;> intro hc hcb) | (with_reducible refine b_intro ?_ ?_ <;> intro hcb) | (with_reducible first | refine ewp_cond ?_ | refine eops_if ?_ | refine ewp_block ?_ | refine ewp_exit ?_ | refine ewp_ret ?_ | refine ewp_skip ?_ | refine ewp_loop ?_ | refine hget_a0 ?_ | refine hget_b ?_ | refine hget_a ?_ | refine hput_a0 ?_ | refine hput_b ?_ | refine hput_a ?_ | refine hget_s0 ?_ | refine hget_s ?_ | refine hput_s0 ?_ | refine hput_s ?_ | refine halloc1 ?_ | refine halloc2 ?_ | refine halloc3 ?_ | refine halloc4 ?_ | refine halloc5 ?_ | refine halloc6 ?_ | refine halloc7 ?_ | refine halloc8 ?_ | refine halloc_b2 ?_ | refine halloc_b1 ?_ | refine halloc_s0 ?_ | refine halloc_h ?_ | refine ewp_range ?_ | refine ewp_draw ?_ | refine edraw_nil ?_ | refine edraw_if ?_ | refine mget_cons ?_) | with_reducible refine mget_nil ?_)
      all_goals (conv => whnf)
      refine done_here ?_
      refine ret_of hQ ?_
      rw [hcnt]
      have : min (1 + 0) (m + 1) = 1 := by omega
      rw [this]; rfl
    | els op k v n ks =>
      simp only [Cnd.kids] at hcnt
      repeat' ((conv => whnf); first | (with_reducible first | refine eops_one ?_ | refine eops_nil ?_ | refine ewp_seq ?_ | refine ewp_region ?_) | ((with_reducible refine And.intro ?_ ?_); · (first | rfl | assumption | omega | (simp; omega) | (simp [AV.cells]; done))) | (with_reducible first | refine b_T ?_ | refine b_F ?_ | refine b_true (by assumption) ?_ | refine b_false (by assumption) ?_) | ((with_reducible refine b_true ?_ ?_); (· (decide))) | ((with_reducible refine b_false ?_ ?_); (· (decide))) | (with_reducible refine b_dec ?_ ?_ <;> intro hc hcb) | (with_reducible refine b_eq ?_ ?_ <;> intro hc hcb) | (with_reducible refine b_ne ?_ ?_ <;> intro hc hcb) | (with_reducible refine b_neq ?_ ?_ <;> intro hc hcb) | (with_reducible refine b_not ?_ ?_ <;> intro hc hcb) | (with_reducible refine b_intro ?_ ?_ <;> intro hcb) | (with_reducible first | refine ewp_cond ?_ | refine eops_if ?_ | refine ewp_block ?_ | refine ewp_exit ?_ | refine ewp_ret ?_ | refine ewp_skip ?_ | refine ewp_loop ?_ | refine hget_a0 ?_ | refine hget_b ?_ | refine hget_a ?_ | refine hput_a0 ?_ | refine hput_b ?_ | refine hput_a ?_ | refine hget_s0 ?_ | refine hget_s ?_ | refine hput_s0 ?_ | refine hput_s ?_ | refine halloc1 ?_ | refine halloc2 ?_ | refine halloc3 ?_ | refine halloc4 ?_ | refine halloc5 ?_ | refine halloc6 ?_ | refine halloc7 ?_ | refine halloc8 ?_ | refine halloc_b2 ?_ | refine halloc_b1 ?_ | refine halloc_s0 ?_ | refine halloc_h ?_ | refine ewp_range ?_ | refine ewp_draw ?_ | refine edraw_nil ?_ | refine edraw_if ?_ | refine mget_cons ?_) | with_reducible refine mget_nil ?_)
      refine LoopP.of' (fun i : Nat => i ≤ ks.length ∧ (i : Int) ≤ m + 1) (fun i => [(1, .int .i64 m), (2, .lptr (.agg (Cnd.cl (.els op k v n ks))) 0), (5, .int .i64 (min (1 + Cnd.cntL (ks.take i)) (m + 1) : Nat)), (6, .int .i64 i)]) (fun i => h) (fun i => ks.length - i) 0 ⟨by simp, by omega⟩ (by
        have : (min (1 + Cnd.cntL (ks.take 0)) (m + 1) : Nat) = 1 := by simp [Cnd.cntL]
        rw [this]; exact SEnt.keep [1, 2, 5, 6]) ?_
      rintro i ⟨hi, him⟩
      have hlen : ((Cnd.cls ks).length : Int) = ks.length := by simp
      by_cases hlt : i < ks.length
      · have hd : decide ((i : Int) < (Cnd.cls ks).length) = true := by simp; omega
        have hw := i64_succ (i := i) (by omega)
        have htk := Cnd.cntL_take hlt
        have hmem : (ks[i]).cnt ≤ Cnd.cntL ks := Cnd.cntL_mem (List.getElem_mem hlt)
        by_cases hle : 1 + Cnd.cntL (ks.take i) ≤ m
        · have hd2 : decide (((min (1 + Cnd.cntL (ks.take i)) (m + 1) : Nat) : Int) ≤ m) = true := by simp; omega
          have hsub : IntKind.i64.wrap ((m : Int) - ((min (1 + Cnd.cntL (ks.take i)) (m + 1) : Nat) : Int)) = ((m - (1 + Cnd.cntL (ks.take i)) : Nat) : Int) := by
            rw [wrap_i64 (by omega) (by omega)]; omega
          repeat' (first | ((conv => whnf); first | (with_reducible first | refine eops_one ?_ | refine eops_nil ?_ | refine ewp_seq ?_ | refine ewp_region ?_) | ((with_reducible refine And.intro ?_ ?_); · (first | rfl | assumption | omega | (simp; omega) | (simp [AV.cells]; done))) | (with_reducible first | refine b_T ?_ | refine b_F ?_ | refine b_true (by assumption) ?_ | refine b_false (by assumption) ?_) | ((with_reducible refine b_true ?_ ?_); (· (decide))) | ((with_reducible refine b_false ?_ ?_); (· (decide))) | (with_reducible refine b_dec ?_ ?_ <;> intro hc hcb) | (with_reducible refine b_eq ?_ ?_ <;> intro hc hcb) | (with_reducible refine b_ne ?_ ?_ <;> intro hc hcb) | (with_reducible refine b_neq ?_ ?_ <;> intro hc hcb) | (with_reducible refine b_not ?_ ?_ <;> intro hc hcb) | (with_reducible refine b_intro ?_ ?_ <;> intro hcb) | (with_reducible first | refine ewp_cond ?_ | refine eops_if ?_ | refine ewp_block ?_ | refine ewp_exit ?_ | refine ewp_ret ?_ | refine ewp_skip ?_ | refine ewp_loop ?_ | refine hget_a0 ?_ | refine hget_b ?_ | refine hget_a ?_ | refine hput_a0 ?_ | refine hput_b ?_ | refine hput_a ?_ | refine hget_s0 ?_ | refine hget_s ?_ | refine hput_s0 ?_ | refine hput_s ?_ | refine halloc1 ?_ | refine halloc2 ?_ | refine halloc3 ?_ | refine halloc4 ?_ | refine halloc5 ?_ | refine halloc6 ?_ | refine halloc7 ?_ | refine halloc8 ?_ | refine halloc_b2 ?_ | refine halloc_b1 ?_ | refine halloc_s0 ?_ | refine halloc_h ?_ | refine ewp_range ?_ | refine ewp_draw ?_ | refine edraw_nil ?_ | refine edraw_if ?_ | refine mget_cons ?_) | with_reducible refine mget_nil ?_) | ((conv => whnf); with_reducible refine eget_cnds hlt ?_) | ((conv => whnf); with_reducible refine takeK_cl ?_))
          (conv => whnf)
          rw [hsub]
          refine nodes_S N ks[i] _ h _ (by omega) (by omega) ?_
          have hadd : IntKind.i64.wrap (((min (1 + Cnd.cntL (ks.take i)) (m + 1) : Nat) : Int) + ((min (ks[i]).cnt (m - (1 + Cnd.cntL (ks.take i)) + 1) : Nat) : Int)) = ((min (1 + Cnd.cntL (ks.take (i + 1))) (m + 1) : Nat) : Int) := by
            rw [htk, wrap_i64 (by omega) (by omega)]
            have := (ks[i]).cnt_pos
            omega
          repeat' ((conv => whnf); first | (with_reducible first | refine eops_one ?_ | refine eops_nil ?_ | refine ewp_seq ?_ | refine ewp_region ?_) | ((with_reducible refine And.intro ?_ ?_); · (first | rfl | assumption | omega | (simp; omega) | (simp [AV.cells]; done))) | (with_reducible first | refine b_T ?_ | refine b_F ?_ | refine b_true (by assumption) ?_ | refine b_false (by assumption) ?_) | ((with_reducible refine b_true ?_ ?_); (· (decide))) | ((with_reducible refine b_false ?_ ?_); (· (decide))) | (with_reducible refine b_dec ?_ ?_ <;> intro hc hcb) | (with_reducible refine b_eq ?_ ?_ <;> intro hc hcb) | (with_reducible refine b_ne ?_ ?_ <;> intro hc hcb) | (with_reducible refine b_neq ?_ ?_ <;> intro hc hcb) | (with_reducible refine b_not ?_ ?_ <;> intro hc hcb) | (with_reducible refine b_intro ?_ ?_ <;> intro hcb) | (with_reducible first | refine ewp_cond ?_ | refine eops_if ?_ | refine ewp_block ?_ | refine ewp_exit ?_ | refine ewp_ret ?_ | refine ewp_skip ?_ | refine ewp_loop ?_ | refine hget_a0 ?_ | refine hget_b ?_ | refine hget_a ?_ | refine hput_a0 ?_ | refine hput_b ?_ | refine hput_a ?_ | refine hget_s0 ?_ | refine hget_s ?_ | refine hput_s0 ?_ | refine hput_s ?_ | refine halloc1 ?_ | refine halloc2 ?_ | refine halloc3 ?_ | refine halloc4 ?_ | refine halloc5 ?_ | refine halloc6 ?_ | refine halloc7 ?_ | refine halloc8 ?_ | refine halloc_b2 ?_ | refine halloc_b1 ?_ | refine halloc_s0 ?_ | refine halloc_h ?_ | refine ewp_range ?_ | refine ewp_draw ?_ | refine edraw_nil ?_ | refine edraw_if ?_ | refine mget_cons ?_) | with_reducible refine mget_nil ?_)
          (conv => whnf)
          rw [hadd]
          have hge := Cnd.cntL_ge (l := ks) (i := i) hi
          exact LI.next' (i + 1) ⟨hlt, by omega⟩ (by omega) (by simp only [hw]; exact SEnt.keep [1, 2, 5, 6])
        · have hd2 : decide (((min (1 + Cnd.cntL (ks.take i)) (m + 1) : Nat) : Int) ≤ m) = false := by simp; omega
          repeat' ((conv => whnf); first | (with_reducible first | refine eops_one ?_ | refine eops_nil ?_ | refine ewp_seq ?_ | refine ewp_region ?_) | ((with_reducible refine And.intro ?_ ?_); · (first | rfl | assumption | omega | (simp; omega) | (simp [AV.cells]; done))) | (with_reducible first | refine b_T ?_ | refine b_F ?_ | refine b_true (by assumption) ?_ | refine b_false (by assumption) ?_) | ((with_reducible refine b_true ?_ ?_); (· (decide))) | ((with_reducible refine b_false ?_ ?_); (· (decide))) | (with_reducible refine b_dec ?_ ?_ <;> intro hc hcb) | (with_reducible refine b_eq ?_ ?_ <;> intro hc hcb) | (with_reducible refine b_ne ?_ ?_ <;> intro hc hcb) | (with_reducible refine b_neq ?_ ?_ <;> intro hc hcb) | (with_reducible refine b_not ?_ ?_ <;> intro hc hcb) | (with_reducible refine b_intro ?_ ?_ <;> intro hcb) | (with_reducible first | refine ewp_cond ?_ | refine eops_if ?_ | refine ewp_block ?_ | refine ewp_exit ?_ | refine ewp_ret ?_ | refine ewp_skip ?_ | refine ewp_loop ?_ | refine hget_a0 ?_ | refine hget_b ?_ | refine hget_a ?_ | refine hput_a0 ?_ | refine hput_b ?_ | refine hput_a ?_ | refine hget_s0 ?_ | refine hget_s ?_ | refine hput_s0 ?_ | refine hput_s ?_ | refine halloc1 ?_ | refine halloc2 ?_ | refine halloc3 ?_ | refine halloc4 ?_ | refine halloc5 ?_ | refine halloc6 ?_ | refine halloc7 ?_ | refine halloc8 ?_ | refine halloc_b2 ?_ | refine halloc_b1 ?_ | refine halloc_s0 ?_ | refine halloc_h ?_ | refine ewp_range ?_ | refine ewp_draw ?_ | refine edraw_nil ?_ | refine edraw_if ?_ | refine mget_cons ?_) | with_reducible refine mget_nil ?_)
          (conv => whnf)
          refine done_here ?_
          refine ret_of hQ ?_
          have : min (1 + Cnd.cntL (ks.take i)) (m + 1) = min (Cnd.els op k v n ks).cnt (m + 1) := by rw [hcnt]; have := Cnd.cntL_le (l := ks) (i := i); omega
          rw [this]; rfl
      · have : i = ks.length := by omega
        subst this
        have hd : decide (((ks.length : Nat) : Int) < (Cnd.cls ks).length) = false := by simp
        repeat' ((conv => whnf); first | (with_reducible first | refine eops_one ?_ | refine eops_nil ?_ | refine ewp_seq ?_ | refine ewp_region ?_) | ((with_reducible refine And.intro ?_ ?_); · (first | rfl | assumption | omega | (simp; omega) | (simp [AV.cells]; done))) | (with_reducible first | refine b_T ?_ | refine b_F ?_ | refine b_true (by assumption) ?_ | refine b_false (by assumption) ?_) | ((with_reducible refine b_true ?_ ?_); (· (decide))) | ((with_reducible refine b_false ?_ ?_); (· (decide))) | (with_reducible refine b_dec ?_ ?_ <;> intro hc hcb) | (with_reducible refine b_eq ?_ ?_ <;> intro hc hcb) | (with_reducible refine b_ne ?_ ?_ <;> intro hc hcb) | (with_reducible refine b_neq ?_ ?_ <;> intro hc hcb) | (with_reducible refine b_not ?_ ?_ <;> intro hc hcb) | (with_reducible refine b_intro ?_ ?_ <;> intro hcb) | (with_reducible first | refine ewp_cond ?_ | refine eops_if ?_ | refine ewp_block ?_ | refine ewp_exit ?_ | refine ewp_ret ?_ | refine ewp_skip ?_ | refine ewp_loop ?_ | refine hget_a0 ?_ | refine hget_b ?_ | refine hget_a ?_ | refine hput_a0 ?_ | refine hput_b ?_ | refine hput_a ?_ | refine hget_s0 ?_ | refine hget_s ?_ | refine hput_s0 ?_ | refine hput_s ?_ | refine halloc1 ?_ | refine halloc2 ?_ | refine halloc3 ?_ | refine halloc4 ?_ | refine halloc5 ?_ | refine halloc6 ?_ | refine halloc7 ?_ | refine halloc8 ?_ | refine halloc_b2 ?_ | refine halloc_b1 ?_ | refine halloc_s0 ?_ | refine halloc_h ?_ | refine ewp_range ?_ | refine ewp_draw ?_ | refine edraw_nil ?_ | refine edraw_if ?_ | refine mget_cons ?_) | with_reducible refine mget_nil ?_)
        (conv => whnf)
        refine done_here ?_
        refine ret_of hQ ?_
        rw [hcnt, List.take_length]; rfl
theorem short_S : ∀ (N : Nat) (c : Cnd) (h : AHeap) (Q : AEnd → AHeap → Prop), c.cnt ≤ N → N ≤ 9223372036854775807 → Q (.ret (.bool c.shortC)) h → S Tryz.prog Φ 46 [.agg c.cl] h Q
  | 0, c, h, Q, hc, _, _ => by have := c.cnt_pos; omega
  | N + 1, c, h, Q, hc, hN, hQ => by
    have hcnt := c.cnt_eq
    have hsc := c.shortC_eq
    refine go46 (by simp) fun hlow => ?_
    unfold ac46
    cases c with
    | nilk op k v n =>
      simp only [Cnd.kids, Cnd.shortL, Cnd.key, Cnd.val, Bool.and_true] at hsc
      repeat' ((conv => whnf); first | (with_reducible first | refine eops_one ?_ | refine eops_nil ?_ | refine ewp_seq ?_ | refine ewp_region ?_) | ((with_reducible refine And.intro ?_ ?_); · (first | rfl | assumption | omega | (simp; omega) | (simp [AV.cells]; done))) | (with_reducible first | refine b_T ?_ | refine b_F ?_ | refine b_true (by assumption) ?_ | refine b_false (by assumption) ?_) | ((with_reducible refine b_true ?_ ?_); (· (decide))) | ((with_reducible refine b_false ?_ ?_); (· (decide))) | (with_reducible refine b_dec ?_ ?_ <;> intro hc hcb) | (with_reducible refine b_eq ?_ ?_ <;> intro hc hcb) | (with_reducible refine b_ne ?_ ?_ <;> intro hc hcb) | (with_reducible refine b_neq ?_ ?_ <;> intro hc hcb) | (with_reducible refine b_not ?_ ?_ <;> intro hc hcb) | (with_reducible refine b_intro ?_ ?_ <;> intro hcb) | (with_reducible first | refine ewp_cond ?_ | refine eops_if ?_ | refine ewp_block ?_ | refine ewp_exit ?_ | refine ewp_ret ?_ | refine ewp_skip ?_ | refine ewp_loop ?_ | refine hget_a0 ?_ | refine hget_b ?_ | refine hget_a ?_ | refine hput_a0 ?_ | refine hput_b ?_ | refine hput_a ?_ | refine hget_s0 ?_ | refine hget_s ?_ | refine hput_s0 ?_ | refine hput_s ?_ | refine halloc1 ?_ | refine halloc2 ?_ | refine halloc3 ?_ | refine halloc4 ?_ | refine halloc5 ?_ | refine halloc6 ?_ | refine halloc7 ?_ | refine halloc8 ?_ | refine halloc_b2 ?_ | refine halloc_b1 ?_ | refine halloc_s0 ?_ | refine halloc_h ?_ | refine ewp_range ?_ | refine ewp_draw ?_ | refine edraw_nil ?_ | refine edraw_if ?_ | refine mget_cons ?_) | with_reducible refine mget_nil ?_)
      all_goals (try (conv => whnf))
      all_goals first
        | (refine done_here ?_; refine ret_of hQ (congrArg AV.bool ?_); rw [hsc, Bool.eq_iff_iff]; simp_all [Nat.ble_eq]; try omega)
        | (refine LoopP.of' (fun i : Nat => i = 0) (fun i => [(1, .lptr (.agg (Cnd.cl (.nilk op k v n))) 0), (3, .int .i64 i)]) (fun i => h) (fun i => 0) 0 rfl (SEnt.keep [1, 3]) ?_
           rintro i rfl
           repeat' ((conv => whnf); first | (with_reducible first | refine eops_one ?_ | refine eops_nil ?_ | refine ewp_seq ?_ | refine ewp_region ?_) | ((with_reducible refine And.intro ?_ ?_); · (first | rfl | assumption | omega | (simp; omega) | (simp [AV.cells]; done))) | (with_reducible first | refine b_T ?_ | refine b_F ?_ | refine b_true (by assumption) ?_ | refine b_false (by assumption) ?_) | ((with_reducible refine b_true ?_ ?_); (· (decide))) | ((with_reducible refine b_false ?_ ?_); (· (decide))) | (with_reducible refine b_dec ?_ ?_ <;> intro hc hcb) | (with_reducible refine b_eq ?_ ?_ <;> intro hc hcb) | (with_reducible refine b_ne ?_ ?_ <;> intro hc hcb) | (with_reducible refine b_neq ?_ ?_ <;> intro hc hcb) | (with_reducible refine b_not ?_ ?_ <;> intro hc hcb) | (with_reducible refine b_intro ?_ ?_ <;> intro hcb) | (with_reducible first | refine ewp_cond ?_ | refine eops_if ?_ | refine ewp_block ?_ | refine ewp_exit ?_ | refine ewp_ret ?_ | refine ewp_skip ?_ | refine ewp_loop ?_ | refine hget_a0 ?_ | refine hget_b ?_ | refine hget_a ?_ | refine hput_a0 ?_ | refine hput_b ?_ | refine hput_a ?_ | refine hget_s0 ?_ | refine hget_s ?_ | refine hput_s0 ?_ | refine hput_s ?_ | refine halloc1 ?_ | refine halloc2 ?_ | refine halloc3 ?_ | refine halloc4 ?_ | refine halloc5 ?_ | refine halloc6 ?_ | refine halloc7 ?_ | refine halloc8 ?_ | refine halloc_b2 ?_ | refine halloc_b1 ?_ | refine halloc_s0 ?_ | refine halloc_h ?_ | refine ewp_range ?_ | refine ewp_draw ?_ | refine edraw_nil ?_ | refine edraw_if ?_ | refine mget_cons ?_) | with_reducible refine mget_nil ?_)
           all_goals (conv => whnf)
           refine done_here ?_
           refine ret_of hQ (congrArg AV.bool ?_); rw [hsc, Bool.eq_iff_iff]; simp_all [Nat.ble_eq]; try omega)
    | els op k v n ks =>
      simp only [Cnd.kids, Cnd.key, Cnd.val] at hsc hcnt
      have hge := Cnd.cntL_ge (l := ks) (i := ks.length) (Nat.le_refl _)
      rw [List.take_length] at hge
      repeat' ((conv => whnf); first | (with_reducible first | refine eops_one ?_ | refine eops_nil ?_ | refine ewp_seq ?_ | refine ewp_region ?_) | ((with_reducible refine And.intro ?_ ?_); · (first | rfl | assumption | omega | (simp; omega) | (simp [AV.cells]; done))) | (with_reducible first | refine b_T ?_ | refine b_F ?_ | refine b_true (by assumption) ?_ | refine b_false (by assumption) ?_) | ((with_reducible refine b_true ?_ ?_); (· (decide))) | ((with_reducible refine b_false ?_ ?_); (· (decide))) | (with_reducible refine b_dec ?_ ?_ <;> intro hc hcb) | (with_reducible refine b_eq ?_ ?_ <;> intro hc hcb) | (with_reducible refine b_ne ?_ ?_ <;> intro hc hcb) | (with_reducible refine b_neq ?_ ?_ <;> intro hc hcb) | (with_reducible refine b_not ?_ ?_ <;> intro hc hcb) | (with_reducible refine b_intro ?_ ?_ <;> intro hcb) | (with_reducible first | refine ewp_cond ?_ | refine eops_if ?_ | refine ewp_block ?_ | refine ewp_exit ?_ | refine ewp_ret ?_ | refine ewp_skip ?_ | refine ewp_loop ?_ | refine hget_a0 ?_ | refine hget_b ?_ | refine hget_a ?_ | refine hput_a0 ?_ | refine hput_b ?_ | refine hput_a ?_ | refine hget_s0 ?_ | refine hget_s ?_ | refine hput_s0 ?_ | refine hput_s ?_ | refine halloc1 ?_ | refine halloc2 ?_ | refine halloc3 ?_ | refine halloc4 ?_ | refine halloc5 ?_ | refine halloc6 ?_ | refine halloc7 ?_ | refine halloc8 ?_ | refine halloc_b2 ?_ | refine halloc_b1 ?_ | refine halloc_s0 ?_ | refine halloc_h ?_ | refine ewp_range ?_ | refine ewp_draw ?_ | refine edraw_nil ?_ | refine edraw_if ?_ | refine mget_cons ?_) | with_reducible refine mget_nil ?_)
      all_goals (try (conv => whnf))
      all_goals first
        | (refine done_here ?_; refine ret_of hQ (congrArg AV.bool ?_); rw [hsc, Bool.eq_iff_iff]; simp_all [Nat.ble_eq]; try omega)
        | (refine LoopP.of' (fun i : Nat => i ≤ ks.length ∧ ∀ (j : Nat) (c : Cnd), j < i → ks[j]? = some c → c.shortC = true) (fun i => [(1, .lptr (.agg (Cnd.cl (.els op k v n ks))) 0), (3, .int .i64 i)]) (fun i => h) (fun i => ks.length - i) 0 ⟨by simp, by simp⟩ (SEnt.keep [1, 3]) ?_
           rintro i ⟨hi, hall⟩
           by_cases hlt : i < ks.length
           · have hd : decide ((i : Int) < (Cnd.cls ks).length) = true := by simp; omega
             have hw := i64_succ (i := i) (by omega)
             have hmem : (ks[i]).cnt ≤ Cnd.cntL ks := Cnd.cntL_mem (List.getElem_mem hlt)
             repeat' (first | ((conv => whnf); first | (with_reducible first | refine eops_one ?_ | refine eops_nil ?_ | refine ewp_seq ?_ | refine ewp_region ?_) | ((with_reducible refine And.intro ?_ ?_); · (first | rfl | assumption | omega | (simp; omega) | (simp [AV.cells]; done))) | (with_reducible first | refine b_T ?_ | refine b_F ?_ | refine b_true (by assumption) ?_ | refine b_false (by assumption) ?_) | ((with_reducible refine b_true ?_ ?_); (· (decide))) | ((with_reducible refine b_false ?_ ?_); (· (decide))) | (with_reducible refine b_dec ?_ ?_ <;> intro hc hcb) | (with_reducible refine b_eq ?_ ?_ <;> intro hc hcb) | (with_reducible refine b_ne ?_ ?_ <;> intro hc hcb) | (with_reducible refine b_neq ?_ ?_ <;> intro hc hcb) | (with_reducible refine b_not ?_ ?_ <;> intro hc hcb) | (with_reducible refine b_intro ?_ ?_ <;> intro hcb) | (with_reducible first | refine ewp_cond ?_ | refine eops_if ?_ | refine ewp_block ?_ | refine ewp_exit ?_ | refine ewp_ret ?_ | refine ewp_skip ?_ | refine ewp_loop ?_ | refine hget_a0 ?_ | refine hget_b ?_ | refine hget_a ?_ | refine hput_a0 ?_ | refine hput_b ?_ | refine hput_a ?_ | refine hget_s0 ?_ | refine hget_s ?_ | refine hput_s0 ?_ | refine hput_s ?_ | refine halloc1 ?_ | refine halloc2 ?_ | refine halloc3 ?_ | refine halloc4 ?_ | refine halloc5 ?_ | refine halloc6 ?_ | refine halloc7 ?_ | refine halloc8 ?_ | refine halloc_b2 ?_ | refine halloc_b1 ?_ | refine halloc_s0 ?_ | refine halloc_h ?_ | refine ewp_range ?_ | refine ewp_draw ?_ | refine edraw_nil ?_ | refine edraw_if ?_ | refine mget_cons ?_) | with_reducible refine mget_nil ?_) | ((conv => whnf); with_reducible refine eget_cnds hlt ?_) | ((conv => whnf); with_reducible refine takeK_cl ?_))
             (conv => whnf)
             refine short_S N ks[i] h _ (by omega) (by omega) ?_
             repeat' ((conv => whnf); first | (with_reducible first | refine eops_one ?_ | refine eops_nil ?_ | refine ewp_seq ?_ | refine ewp_region ?_) | ((with_reducible refine And.intro ?_ ?_); · (first | rfl | assumption | omega | (simp; omega) | (simp [AV.cells]; done))) | (with_reducible first | refine b_T ?_ | refine b_F ?_ | refine b_true (by assumption) ?_ | refine b_false (by assumption) ?_) | ((with_reducible refine b_true ?_ ?_); (· (decide))) | ((with_reducible refine b_false ?_ ?_); (· (decide))) | (with_reducible refine b_dec ?_ ?_ <;> intro hc hcb) | (with_reducible refine b_eq ?_ ?_ <;> intro hc hcb) | (with_reducible refine b_ne ?_ ?_ <;> intro hc hcb) | (with_reducible refine b_neq ?_ ?_ <;> intro hc hcb) | (with_reducible refine b_not ?_ ?_ <;> intro hc hcb) | (with_reducible refine b_intro ?_ ?_ <;> intro hcb) | (with_reducible first | refine ewp_cond ?_ | refine eops_if ?_ | refine ewp_block ?_ | refine ewp_exit ?_ | refine ewp_ret ?_ | refine ewp_skip ?_ | refine ewp_loop ?_ | refine hget_a0 ?_ | refine hget_b ?_ | refine hget_a ?_ | refine hput_a0 ?_ | refine hput_b ?_ | refine hput_a ?_ | refine hget_s0 ?_ | refine hget_s ?_ | refine hput_s0 ?_ | refine hput_s ?_ | refine halloc1 ?_ | refine halloc2 ?_ | refine halloc3 ?_ | refine halloc4 ?_ | refine halloc5 ?_ | refine halloc6 ?_ | refine halloc7 ?_ | refine halloc8 ?_ | refine halloc_b2 ?_ | refine halloc_b1 ?_ | refine halloc_s0 ?_ | refine halloc_h ?_ | refine ewp_range ?_ | refine ewp_draw ?_ | refine edraw_nil ?_ | refine edraw_if ?_ | refine mget_cons ?_) | with_reducible refine mget_nil ?_)
             all_goals (conv => whnf)
             all_goals first
               | (refine LI.next' (i + 1) ⟨hlt, fun j c hj hjc => ?_⟩ (by omega) (by simp only [hw]; exact SEnt.keep [1, 3])
                  rcases Nat.lt_or_ge j i with hji | hji
                  · exact hall j c hji hjc
                  · have : j = i := by omega
                    subst this
                    have : c = ks[j] := by simpa [hlt] using hjc.symm
                    subst this
                    simp_all)
               | (refine done_here ?_
                  refine ret_of hQ (congrArg AV.bool ?_)
                  rw [hsc, Cnd.shortL_false (List.getElem_mem hlt) (by simp_all)]; simp)
           · have : i = ks.length := by omega
             subst this
             have hd : decide (((ks.length : Nat) : Int) < (Cnd.cls ks).length) = false := by simp
             have hall2 : Cnd.shortL ks = true := Cnd.shortL_true fun j c hj => hall j c (List.getElem?_eq_some_iff.1 hj).1 hj
             repeat' ((conv => whnf); first | (with_reducible first | refine eops_one ?_ | refine eops_nil ?_ | refine ewp_seq ?_ | refine ewp_region ?_) | ((with_reducible refine And.intro ?_ ?_); · (first | rfl | assumption | omega | (simp; omega) | (simp [AV.cells]; done))) | (with_reducible first | refine b_T ?_ | refine b_F ?_ | refine b_true (by assumption) ?_ | refine b_false (by assumption) ?_) | ((with_reducible refine b_true ?_ ?_); (· (decide))) | ((with_reducible refine b_false ?_ ?_); (· (decide))) | (with_reducible refine b_dec ?_ ?_ <;> intro hc hcb) | (with_reducible refine b_eq ?_ ?_ <;> intro hc hcb) | (with_reducible refine b_ne ?_ ?_ <;> intro hc hcb) | (with_reducible refine b_neq ?_ ?_ <;> intro hc hcb) | (with_reducible refine b_not ?_ ?_ <;> intro hc hcb) | (with_reducible refine b_intro ?_ ?_ <;> intro hcb) | (with_reducible first | refine ewp_cond ?_ | refine eops_if ?_ | refine ewp_block ?_ | refine ewp_exit ?_ | refine ewp_ret ?_ | refine ewp_skip ?_ | refine ewp_loop ?_ | refine hget_a0 ?_ | refine hget_b ?_ | refine hget_a ?_ | refine hput_a0 ?_ | refine hput_b ?_ | refine hput_a ?_ | refine hget_s0 ?_ | refine hget_s ?_ | refine hput_s0 ?_ | refine hput_s ?_ | refine halloc1 ?_ | refine halloc2 ?_ | refine halloc3 ?_ | refine halloc4 ?_ | refine halloc5 ?_ | refine halloc6 ?_ | refine halloc7 ?_ | refine halloc8 ?_ | refine halloc_b2 ?_ | refine halloc_b1 ?_ | refine halloc_s0 ?_ | refine halloc_h ?_ | refine ewp_range ?_ | refine ewp_draw ?_ | refine edraw_nil ?_ | refine edraw_if ?_ | refine mget_cons ?_) | with_reducible refine mget_nil ?_)
             (conv => whnf)
             refine done_here ?_
             refine ret_of hQ (congrArg AV.bool ?_)
             rw [hsc, hall2, Bool.eq_iff_iff]; simp_all [Nat.ble_eq]; try omega)
def Cnd.fewC (c : Cnd) : Bool := decide (c.cnt ≤ 80) && c.shortC
theorem fewCond_S {c : Cnd} {h : AHeap} {Q : AEnd → AHeap → Prop} (hQ : Q (.ret (.bool c.fewC)) h) : S Tryz.prog Φ 18 [.agg c.cl] h Q := by
  refine go18 (by simp) fun hlow => ?_
  unfold ac18
  cases c with
  | nilk op k v n =>
    by_cases hc : Cnd.cnt (.nilk op k v n) ≤ 80
    · have hd : decide ((min (Cnd.cnt (.nilk op k v n)) (80 + 1) : Nat) ≤ (80 : Int)) = true := by simp; omega
      repeat' (first | ((conv => whnf); first | (with_reducible first | refine eops_one ?_ | refine eops_nil ?_ | refine ewp_seq ?_ | refine ewp_region ?_) | ((with_reducible refine And.intro ?_ ?_); · (first | rfl | assumption | omega | (simp; omega) | (simp [AV.cells]; done))) | (with_reducible first | refine b_T ?_ | refine b_F ?_ | refine b_true (by assumption) ?_ | refine b_false (by assumption) ?_) | ((with_reducible refine b_true ?_ ?_); (· (decide))) | ((with_reducible refine b_false ?_ ?_); (· (decide))) | (with_reducible refine b_dec ?_ ?_ <;> intro hc hcb) | (with_reducible refine b_eq ?_ ?_ <;> intro hc hcb) | (with_reducible refine b_ne ?_ ?_ <;> intro hc hcb) | (with_reducible refine b_neq ?_ ?_ <;> intro hc hcb) | (with_reducible refine b_not ?_ ?_ <;> intro hc hcb) | (with_reducible refine b_intro ?_ ?_ <;> intro hcb) | (with_reducible first | refine ewp_cond ?_ | refine eops_if ?_ | refine ewp_block ?_ | refine ewp_exit ?_ | refine ewp_ret ?_ | refine ewp_skip ?_ | refine ewp_loop ?_ | refine hget_a0 ?_ | refine hget_b ?_ | refine hget_a ?_ | refine hput_a0 ?_ | refine hput_b ?_ | refine hput_a ?_ | refine hget_s0 ?_ | refine hget_s ?_ | refine hput_s0 ?_ | refine hput_s ?_ | refine halloc1 ?_ | refine halloc2 ?_ | refine halloc3 ?_ | refine halloc4 ?_ | refine halloc5 ?_ | refine halloc6 ?_ | refine halloc7 ?_ | refine halloc8 ?_ | refine halloc_b2 ?_ | refine halloc_b1 ?_ | refine halloc_s0 ?_ | refine halloc_h ?_ | refine ewp_range ?_ | refine ewp_draw ?_ | refine edraw_nil ?_ | refine edraw_if ?_ | refine mget_cons ?_) | with_reducible refine mget_nil ?_) | ((conv => whnf); refine nodes_S (Cnd.cnt (.nilk op k v n)) (.nilk op k v n) 80 h _ (Nat.le_refl _) (by omega) ?_) | ((conv => whnf); refine short_S (Cnd.cnt (.nilk op k v n)) (.nilk op k v n) h _ (Nat.le_refl _) (by omega) ?_))
      all_goals (conv => whnf)
      refine done_here ?_
      refine ret_of hQ (congrArg AV.bool ?_)
      simp [Cnd.fewC, hc]
    · have hd : decide ((min (Cnd.cnt (.nilk op k v n)) (80 + 1) : Nat) ≤ (80 : Int)) = false := by simp; omega
      repeat' (first | ((conv => whnf); first | (with_reducible first | refine eops_one ?_ | refine eops_nil ?_ | refine ewp_seq ?_ | refine ewp_region ?_) | ((with_reducible refine And.intro ?_ ?_); · (first | rfl | assumption | omega | (simp; omega) | (simp [AV.cells]; done))) | (with_reducible first | refine b_T ?_ | refine b_F ?_ | refine b_true (by assumption) ?_ | refine b_false (by assumption) ?_) | ((with_reducible refine b_true ?_ ?_); (· (decide))) | ((with_reducible refine b_false ?_ ?_); (· (decide))) | (with_reducible refine b_dec ?_ ?_ <;> intro hc hcb) | (with_reducible refine b_eq ?_ ?_ <;> intro hc hcb) | (with_reducible refine b_ne ?_ ?_ <;> intro hc hcb) | (with_reducible refine b_neq ?_ ?_ <;> intro hc hcb) | (with_reducible refine b_not ?_ ?_ <;> intro hc hcb) | (with_reducible refine b_intro ?_ ?_ <;> intro hcb) | (with_reducible first | refine ewp_cond ?_ | refine eops_if ?_ | refine ewp_block ?_ | refine ewp_exit ?_ | refine ewp_ret ?_ | refine ewp_skip ?_ | refine ewp_loop ?_ | refine hget_a0 ?_ | refine hget_b ?_ | refine hget_a ?_ | refine hput_a0 ?_ | refine hput_b ?_ | refine hput_a ?_ | refine hget_s0 ?_ | refine hget_s ?_ | refine hput_s0 ?_ | refine hput_s ?_ | refine halloc1 ?_ | refine halloc2 ?_ | refine halloc3 ?_ | refine halloc4 ?_ | refine halloc5 ?_ | refine halloc6 ?_ | refine halloc7 ?_ | refine halloc8 ?_ | refine halloc_b2 ?_ | refine halloc_b1 ?_ | refine halloc_s0 ?_ | refine halloc_h ?_ | refine ewp_range ?_ | refine ewp_draw ?_ | refine edraw_nil ?_ | refine edraw_if ?_ | refine mget_cons ?_) | with_reducible refine mget_nil ?_) | ((conv => whnf); refine nodes_S (Cnd.cnt (.nilk op k v n)) (.nilk op k v n) 80 h _ (Nat.le_refl _) (by omega) ?_))
      all_goals (conv => whnf)
      refine done_here ?_
      refine ret_of hQ (congrArg AV.bool ?_)
      simp [Cnd.fewC, hc]
  | els op k v n ks =>
    by_cases hc : Cnd.cnt (.els op k v n ks) ≤ 80
    · have hd : decide ((min (Cnd.cnt (.els op k v n ks)) (80 + 1) : Nat) ≤ (80 : Int)) = true := by simp; omega
      repeat' (first | ((conv => whnf); first | (with_reducible first | refine eops_one ?_ | refine eops_nil ?_ | refine ewp_seq ?_ | refine ewp_region ?_) | ((with_reducible refine And.intro ?_ ?_); · (first | rfl | assumption | omega | (simp; omega) | (simp [AV.cells]; done))) | (with_reducible first | refine b_T ?_ | refine b_F ?_ | refine b_true (by assumption) ?_ | refine b_false (by assumption) ?_) | ((with_reducible refine b_true ?_ ?_); (· (decide))) | ((with_reducible refine b_false ?_ ?_); (· (decide))) | (with_reducible refine b_dec ?_ ?_ <;> intro hc hcb) | (with_reducible refine b_eq ?_ ?_ <;> intro hc hcb) | (with_reducible refine b_ne ?_ ?_ <;> intro hc hcb) | (with_reducible refine b_neq ?_ ?_ <;> intro hc hcb) | (with_reducible refine b_not ?_ ?_ <;> intro hc hcb) | (with_reducible refine b_intro ?_ ?_ <;> intro hcb) | (with_reducible first | refine ewp_cond ?_ | refine eops_if ?_ | refine ewp_block ?_ | refine ewp_exit ?_ | refine ewp_ret ?_ | refine ewp_skip ?_ | refine ewp_loop ?_ | refine hget_a0 ?_ | refine hget_b ?_ | refine hget_a ?_ | refine hput_a0 ?_ | refine hput_b ?_ | refine hput_a ?_ | refine hget_s0 ?_ | refine hget_s ?_ | refine hput_s0 ?_ | refine hput_s ?_ | refine halloc1 ?_ | refine halloc2 ?_ | refine halloc3 ?_ | refine halloc4 ?_ | refine halloc5 ?_ | refine halloc6 ?_ | refine halloc7 ?_ | refine halloc8 ?_ | refine halloc_b2 ?_ | refine halloc_b1 ?_ | refine halloc_s0 ?_ | refine halloc_h ?_ | refine ewp_range ?_ | refine ewp_draw ?_ | refine edraw_nil ?_ | refine edraw_if ?_ | refine mget_cons ?_) | with_reducible refine mget_nil ?_) | ((conv => whnf); refine nodes_S (Cnd.cnt (.els op k v n ks)) (.els op k v n ks) 80 h _ (Nat.le_refl _) (by omega) ?_) | ((conv => whnf); refine short_S (Cnd.cnt (.els op k v n ks)) (.els op k v n ks) h _ (Nat.le_refl _) (by omega) ?_))
      all_goals (conv => whnf)
      refine done_here ?_
      refine ret_of hQ (congrArg AV.bool ?_)
      simp [Cnd.fewC, hc]
    · have hd : decide ((min (Cnd.cnt (.els op k v n ks)) (80 + 1) : Nat) ≤ (80 : Int)) = false := by simp; omega
      repeat' (first | ((conv => whnf); first | (with_reducible first | refine eops_one ?_ | refine eops_nil ?_ | refine ewp_seq ?_ | refine ewp_region ?_) | ((with_reducible refine And.intro ?_ ?_); · (first | rfl | assumption | omega | (simp; omega) | (simp [AV.cells]; done))) | (with_reducible first | refine b_T ?_ | refine b_F ?_ | refine b_true (by assumption) ?_ | refine b_false (by assumption) ?_) | ((with_reducible refine b_true ?_ ?_); (· (decide))) | ((with_reducible refine b_false ?_ ?_); (· (decide))) | (with_reducible refine b_dec ?_ ?_ <;> intro hc hcb) | (with_reducible refine b_eq ?_ ?_ <;> intro hc hcb) | (with_reducible refine b_ne ?_ ?_ <;> intro hc hcb) | (with_reducible refine b_neq ?_ ?_ <;> intro hc hcb) | (with_reducible refine b_not ?_ ?_ <;> intro hc hcb) | (with_reducible refine b_intro ?_ ?_ <;> intro hcb) | (with_reducible first | refine ewp_cond ?_ | refine eops_if ?_ | refine ewp_block ?_ | refine ewp_exit ?_ | refine ewp_ret ?_ | refine ewp_skip ?_ | refine ewp_loop ?_ | refine hget_a0 ?_ | refine hget_b ?_ | refine hget_a ?_ | refine hput_a0 ?_ | refine hput_b ?_ | refine hput_a ?_ | refine hget_s0 ?_ | refine hget_s ?_ | refine hput_s0 ?_ | refine hput_s ?_ | refine halloc1 ?_ | refine halloc2 ?_ | refine halloc3 ?_ | refine halloc4 ?_ | refine halloc5 ?_ | refine halloc6 ?_ | refine halloc7 ?_ | refine halloc8 ?_ | refine halloc_b2 ?_ | refine halloc_b1 ?_ | refine halloc_s0 ?_ | refine halloc_h ?_ | refine ewp_range ?_ | refine ewp_draw ?_ | refine edraw_nil ?_ | refine edraw_if ?_ | refine mget_cons ?_) | with_reducible refine mget_nil ?_) | ((conv => whnf); refine nodes_S (Cnd.cnt (.els op k v n ks)) (.els op k v n ks) 80 h _ (Nat.le_refl _) (by omega) ?_))
      all_goals (conv => whnf)
      refine done_here ?_
      refine ret_of hQ (congrArg AV.bool ?_)
      simp [Cnd.fewC, hc]
end Go.QZ
end
section
namespace Go.QZ
open Go Go.Abs Go.Proofs
variable {Φ : World → Prop}
set_option maxRecDepth 100000
structure Tok where
  kind : Int
  text : List UInt8
  pos : Int
def Tok.av (t : Tok) : AV := .agg [.int .i64 t.kind, .str t.text, .int .i64 t.pos]
end Go.QZ
end
section
namespace Go.QZ
open Go Go.Abs Go.Proofs
variable {Φ : World → Prop}
set_option maxRecDepth 100000
def OutR (h : AHeap) (outv : AV) (rest : List AB) (ts : List Tok) : Prop :=
  (ts = [] ∧ outv = .nils) ∨ ∃ j, ts ≠ [] ∧ outv = .sl (h.length + (7 + j)) 0 ts.length none ∧ rest[j]? = some (.cells true 43 3 (ts.map Tok.av))
end Go.QZ
end
section
namespace Go.QZ
open Go Go.Abs Go.Proofs
variable {Φ : World → Prop}
set_option maxRecDepth 100000
def run (p : UInt8 → Bool) (s : List UInt8) (i : Nat) : Nat := i + ((s.drop i).takeWhile p).length
end Go.QZ
end
section
namespace Go.QZ
open Go Go.Abs Go.Proofs
variable {Φ : World → Prop}
set_option maxRecDepth 100000
theorem OutR.more {h : AHeap} {outv : AV} {rest l : List AB} {ts : List Tok} (ho : OutR h outv rest ts) : OutR h outv (rest ++ l) ts := by
  rcases ho with h | ⟨j, h1, h2, h3⟩
  · exact .inl h
  · exact .inr ⟨j, h1, h2, by rw [List.getElem?_append_left (List.getElem?_eq_some_iff.1 h3).1]; exact h3⟩
def fbox (k p e : Int) (t : List UInt8) : AB := .cells false 88 4 [.agg [.int .i64 k, .str t, .int .i64 p, .int .i64 e]]
end Go.QZ
end
section
namespace Go.QZ
open Go Go.Abs Go.Proofs
variable {Φ : World → Prop}
set_option maxRecDepth 100000
def resB (s : List UInt8) : Bool := s == [97, 108, 119, 97, 121, 115] || s == [97, 110, 100] || s == [110, 111, 116] || s == [111, 114] || s == [119, 104, 101, 114, 101]
def keyB (s : List UInt8) : Bool := nameB s && !resB s
end Go.QZ
end
section
namespace Go.QZ
open Go Go.Abs Go.Proofs
variable {Φ : World → Prop}
set_option maxRecDepth 100000
theorem eget_strs {l : List (List UInt8)} {i : Nat} {K : AV → Prop} (h : i < l.length) (hk : K (.str l[i])) : eget (l.map AV.str) ((i : Int)).toNat K := eget_of (by simp [h]) hk
theorem IndexStr_S {h : AHeap} {l : List (List UInt8)} {s : List UInt8} {Q : AEnd → AHeap → Prop} (hl : l.length ≤ 9223372036854775807) (hQ : ∀ n : Int, (n ≥ 0 ↔ s ∈ l) → Q (.ret (.int .i64 n)) h) : S Tryz.prog Φ 146 [.lst 1 (l.map .str), .str s] h Q := by
  have hln : ((l.map AV.str).length : Int) = l.length := by simp
  refine go146 (by simp) fun hlow => ?_
  unfold ac146
  repeat' (first | ((conv => whnf); first | (with_reducible first | refine eops_one ?_ | refine eops_nil ?_ | refine ewp_seq ?_ | refine ewp_region ?_) | ((with_reducible refine And.intro ?_ ?_); · (first | rfl | assumption | omega | (simp; omega) | (simp [AV.cells]; done))) | (with_reducible first | refine b_T ?_ | refine b_F ?_ | refine b_true (by assumption) ?_ | refine b_false (by assumption) ?_) | ((with_reducible refine b_true ?_ ?_); (· (decide))) | ((with_reducible refine b_false ?_ ?_); (· (decide))) | (with_reducible refine b_dec ?_ ?_ <;> intro hc hcb) | (with_reducible refine b_eq ?_ ?_ <;> intro hc hcb) | (with_reducible refine b_ne ?_ ?_ <;> intro hc hcb) | (with_reducible refine b_neq ?_ ?_ <;> intro hc hcb) | (with_reducible refine b_not ?_ ?_ <;> intro hc hcb) | (with_reducible refine b_intro ?_ ?_ <;> intro hcb) | (with_reducible first | refine ewp_cond ?_ | refine eops_if ?_ | refine ewp_block ?_ | refine ewp_exit ?_ | refine ewp_ret ?_ | refine ewp_skip ?_ | refine ewp_loop ?_ | refine hget_a0 ?_ | refine hget_b ?_ | refine hget_a ?_ | refine hput_a0 ?_ | refine hput_b ?_ | refine hput_a ?_ | refine hget_s0 ?_ | refine hget_s ?_ | refine hput_s0 ?_ | refine hput_s ?_ | refine halloc1 ?_ | refine halloc2 ?_ | refine halloc3 ?_ | refine halloc4 ?_ | refine halloc5 ?_ | refine halloc6 ?_ | refine halloc7 ?_ | refine halloc8 ?_ | refine halloc_b2 ?_ | refine halloc_b1 ?_ | refine halloc_s0 ?_ | refine halloc_h ?_ | refine ewp_range ?_ | refine ewp_draw ?_ | refine edraw_nil ?_ | refine edraw_if ?_ | refine mget_cons ?_) | with_reducible refine mget_nil ?_) | simp only [hln])
  refine LoopP.of (fun i : Nat => i ≤ l.length ∧ ∀ j t, j < i → l[j]? = some t → s ≠ t) (fun i => [(0, .lst 1 (l.map .str)), (1, .str s), (7, .int .i64 l.length), (8, .int .i64 i)]) (fun i => h) (fun i => l.length - i) 0 (by simp) (by first | rfl | (simp only [hln]; rfl)) rfl ?_
  rintro i ⟨hi, hall⟩
  by_cases hlt : i < l.length
  · have hw := i64_succ (i := i) (by omega)
    have hd : decide ((i : Int) < l.length) = true := by simp; omega
    repeat' (first | ((conv => whnf); first | (with_reducible first | refine eops_one ?_ | refine eops_nil ?_ | refine ewp_seq ?_ | refine ewp_region ?_) | ((with_reducible refine And.intro ?_ ?_); · (first | rfl | assumption | omega | (simp; omega) | (simp [AV.cells]; done))) | (with_reducible first | refine b_T ?_ | refine b_F ?_ | refine b_true (by assumption) ?_ | refine b_false (by assumption) ?_) | ((with_reducible refine b_true ?_ ?_); (· (decide))) | ((with_reducible refine b_false ?_ ?_); (· (decide))) | (with_reducible refine b_dec ?_ ?_ <;> intro hc hcb) | (with_reducible refine b_eq ?_ ?_ <;> intro hc hcb) | (with_reducible refine b_ne ?_ ?_ <;> intro hc hcb) | (with_reducible refine b_neq ?_ ?_ <;> intro hc hcb) | (with_reducible refine b_not ?_ ?_ <;> intro hc hcb) | (with_reducible refine b_intro ?_ ?_ <;> intro hcb) | (with_reducible first | refine ewp_cond ?_ | refine eops_if ?_ | refine ewp_block ?_ | refine ewp_exit ?_ | refine ewp_ret ?_ | refine ewp_skip ?_ | refine ewp_loop ?_ | refine hget_a0 ?_ | refine hget_b ?_ | refine hget_a ?_ | refine hput_a0 ?_ | refine hput_b ?_ | refine hput_a ?_ | refine hget_s0 ?_ | refine hget_s ?_ | refine hput_s0 ?_ | refine hput_s ?_ | refine halloc1 ?_ | refine halloc2 ?_ | refine halloc3 ?_ | refine halloc4 ?_ | refine halloc5 ?_ | refine halloc6 ?_ | refine halloc7 ?_ | refine halloc8 ?_ | refine halloc_b2 ?_ | refine halloc_b1 ?_ | refine halloc_s0 ?_ | refine halloc_h ?_ | refine ewp_range ?_ | refine ewp_draw ?_ | refine edraw_nil ?_ | refine edraw_if ?_ | refine mget_cons ?_) | with_reducible refine mget_nil ?_) | ((conv => whnf); with_reducible refine eget_strs hlt ?_))
    all_goals (conv => whnf)
    · refine done_here ?_
      exact hQ i ⟨fun _ => hc ▸ List.getElem_mem hlt, fun _ => by omega⟩
    · refine LI.next (i + 1) ⟨hlt, fun j t hj hjt => ?_⟩ (by omega) (by simp only [hw]) rfl
      rcases Nat.lt_or_ge j i with hji | hji
      · exact hall j t hji hjt
      · have : j = i := by omega
        subst this
        have : t = l[j] := by simpa [hlt] using hjt.symm
        exact this ▸ hc
  · have : i = l.length := by omega
    subst this
    have hd : decide (((l.length : Nat) : Int) < l.length) = false := by simp
    repeat' ((conv => whnf); first | (with_reducible first | refine eops_one ?_ | refine eops_nil ?_ | refine ewp_seq ?_ | refine ewp_region ?_) | ((with_reducible refine And.intro ?_ ?_); · (first | rfl | assumption | omega | (simp; omega) | (simp [AV.cells]; done))) | (with_reducible first | refine b_T ?_ | refine b_F ?_ | refine b_true (by assumption) ?_ | refine b_false (by assumption) ?_) | ((with_reducible refine b_true ?_ ?_); (· (decide))) | ((with_reducible refine b_false ?_ ?_); (· (decide))) | (with_reducible refine b_dec ?_ ?_ <;> intro hc hcb) | (with_reducible refine b_eq ?_ ?_ <;> intro hc hcb) | (with_reducible refine b_ne ?_ ?_ <;> intro hc hcb) | (with_reducible refine b_neq ?_ ?_ <;> intro hc hcb) | (with_reducible refine b_not ?_ ?_ <;> intro hc hcb) | (with_reducible refine b_intro ?_ ?_ <;> intro hcb) | (with_reducible first | refine ewp_cond ?_ | refine eops_if ?_ | refine ewp_block ?_ | refine ewp_exit ?_ | refine ewp_ret ?_ | refine ewp_skip ?_ | refine ewp_loop ?_ | refine hget_a0 ?_ | refine hget_b ?_ | refine hget_a ?_ | refine hput_a0 ?_ | refine hput_b ?_ | refine hput_a ?_ | refine hget_s0 ?_ | refine hget_s ?_ | refine hput_s0 ?_ | refine hput_s ?_ | refine halloc1 ?_ | refine halloc2 ?_ | refine halloc3 ?_ | refine halloc4 ?_ | refine halloc5 ?_ | refine halloc6 ?_ | refine halloc7 ?_ | refine halloc8 ?_ | refine halloc_b2 ?_ | refine halloc_b1 ?_ | refine halloc_s0 ?_ | refine halloc_h ?_ | refine ewp_range ?_ | refine ewp_draw ?_ | refine edraw_nil ?_ | refine edraw_if ?_ | refine mget_cons ?_) | with_reducible refine mget_nil ?_)
    all_goals (conv => whnf)
    refine done_here ?_
    refine hQ (-1) ⟨fun h => absurd h (by decide), fun hm => ?_⟩
    obtain ⟨j, hj, rfl⟩ := List.getElem_of_mem hm
    exact absurd rfl (hall j _ hj (by simp))
theorem ContainsStr_S {h : AHeap} {l : List (List UInt8)} {s : List UInt8} {Q : AEnd → AHeap → Prop} (hl : l.length ≤ 9223372036854775807) (hQ : Q (.ret (.bool (l.contains s))) h) : S Tryz.prog Φ 138 [.lst 1 (l.map .str), .str s] h Q := by
  refine go138 (by simp) fun hlow => ?_
  unfold ac138
  repeat' ((conv => whnf); first | (with_reducible first | refine eops_one ?_ | refine eops_nil ?_ | refine ewp_seq ?_ | refine ewp_region ?_) | ((with_reducible refine And.intro ?_ ?_); · (first | rfl | assumption | omega | (simp; omega) | (simp [AV.cells]; done))) | (with_reducible first | refine b_T ?_ | refine b_F ?_ | refine b_true (by assumption) ?_ | refine b_false (by assumption) ?_) | ((with_reducible refine b_true ?_ ?_); (· (decide))) | ((with_reducible refine b_false ?_ ?_); (· (decide))) | (with_reducible refine b_dec ?_ ?_ <;> intro hc hcb) | (with_reducible refine b_eq ?_ ?_ <;> intro hc hcb) | (with_reducible refine b_ne ?_ ?_ <;> intro hc hcb) | (with_reducible refine b_neq ?_ ?_ <;> intro hc hcb) | (with_reducible refine b_not ?_ ?_ <;> intro hc hcb) | (with_reducible refine b_intro ?_ ?_ <;> intro hcb) | (with_reducible first | refine ewp_cond ?_ | refine eops_if ?_ | refine ewp_block ?_ | refine ewp_exit ?_ | refine ewp_ret ?_ | refine ewp_skip ?_ | refine ewp_loop ?_ | refine hget_a0 ?_ | refine hget_b ?_ | refine hget_a ?_ | refine hput_a0 ?_ | refine hput_b ?_ | refine hput_a ?_ | refine hget_s0 ?_ | refine hget_s ?_ | refine hput_s0 ?_ | refine hput_s ?_ | refine halloc1 ?_ | refine halloc2 ?_ | refine halloc3 ?_ | refine halloc4 ?_ | refine halloc5 ?_ | refine halloc6 ?_ | refine halloc7 ?_ | refine halloc8 ?_ | refine halloc_b2 ?_ | refine halloc_b1 ?_ | refine halloc_s0 ?_ | refine halloc_h ?_ | refine ewp_range ?_ | refine ewp_draw ?_ | refine edraw_nil ?_ | refine edraw_if ?_ | refine mget_cons ?_) | with_reducible refine mget_nil ?_)
  all_goals (conv => whnf)
  refine IndexStr_S hl fun n hn => ?_
  repeat' ((conv => whnf); first | (with_reducible first | refine eops_one ?_ | refine eops_nil ?_ | refine ewp_seq ?_ | refine ewp_region ?_) | ((with_reducible refine And.intro ?_ ?_); · (first | rfl | assumption | omega | (simp; omega) | (simp [AV.cells]; done))) | (with_reducible first | refine b_T ?_ | refine b_F ?_ | refine b_true (by assumption) ?_ | refine b_false (by assumption) ?_) | ((with_reducible refine b_true ?_ ?_); (· (decide))) | ((with_reducible refine b_false ?_ ?_); (· (decide))) | (with_reducible refine b_dec ?_ ?_ <;> intro hc hcb) | (with_reducible refine b_eq ?_ ?_ <;> intro hc hcb) | (with_reducible refine b_ne ?_ ?_ <;> intro hc hcb) | (with_reducible refine b_neq ?_ ?_ <;> intro hc hcb) | (with_reducible refine b_not ?_ ?_ <;> intro hc hcb) | (with_reducible refine b_intro ?_ ?_ <;> intro hcb) | (with_reducible first | refine ewp_cond ?_ | refine eops_if ?_ | refine ewp_block ?_ | refine ewp_exit ?_ | refine ewp_ret ?_ | refine ewp_skip ?_ | refine ewp_loop ?_ | refine hget_a0 ?_ | refine hget_b ?_ | refine hget_a ?_ | refine hput_a0 ?_ | refine hput_b ?_ | refine hput_a ?_ | refine hget_s0 ?_ | refine hget_s ?_ | refine hput_s0 ?_ | refine hput_s ?_ | refine halloc1 ?_ | refine halloc2 ?_ | refine halloc3 ?_ | refine halloc4 ?_ | refine halloc5 ?_ | refine halloc6 ?_ | refine halloc7 ?_ | refine halloc8 ?_ | refine halloc_b2 ?_ | refine halloc_b1 ?_ | refine halloc_s0 ?_ | refine halloc_h ?_ | refine ewp_range ?_ | refine ewp_draw ?_ | refine edraw_nil ?_ | refine edraw_if ?_ | refine mget_cons ?_) | with_reducible refine mget_nil ?_)
  all_goals (conv => whnf)
  all_goals (refine done_here ?_; refine ret_of hQ (congrArg AV.bool ?_); rw [Bool.eq_iff_iff]; simp only [decide_eq_true_eq, List.contains_iff_mem]; exact hn)
theorem reserved_S {h : AHeap} {s : List UInt8} {Q : AEnd → AHeap → Prop} (hQ : Q (.ret (.bool (resB s))) h) : S Tryz.prog Φ 121 [.str s] h Q := by
  refine go121 (by simp) fun hlow => ?_
  unfold ac121
  repeat' ((conv => whnf); first | (with_reducible first | refine eops_one ?_ | refine eops_nil ?_ | refine ewp_seq ?_ | refine ewp_region ?_) | ((with_reducible refine And.intro ?_ ?_); · (first | rfl | assumption | omega | (simp; omega) | (simp [AV.cells]; done))) | (with_reducible first | refine b_T ?_ | refine b_F ?_ | refine b_true (by assumption) ?_ | refine b_false (by assumption) ?_) | ((with_reducible refine b_true ?_ ?_); (· (decide))) | ((with_reducible refine b_false ?_ ?_); (· (decide))) | (with_reducible refine b_dec ?_ ?_ <;> intro hc hcb) | (with_reducible refine b_eq ?_ ?_ <;> intro hc hcb) | (with_reducible refine b_ne ?_ ?_ <;> intro hc hcb) | (with_reducible refine b_neq ?_ ?_ <;> intro hc hcb) | (with_reducible refine b_not ?_ ?_ <;> intro hc hcb) | (with_reducible refine b_intro ?_ ?_ <;> intro hcb) | (with_reducible first | refine ewp_cond ?_ | refine eops_if ?_ | refine ewp_block ?_ | refine ewp_exit ?_ | refine ewp_ret ?_ | refine ewp_skip ?_ | refine ewp_loop ?_ | refine hget_a0 ?_ | refine hget_b ?_ | refine hget_a ?_ | refine hput_a0 ?_ | refine hput_b ?_ | refine hput_a ?_ | refine hget_s0 ?_ | refine hget_s ?_ | refine hput_s0 ?_ | refine hput_s ?_ | refine halloc1 ?_ | refine halloc2 ?_ | refine halloc3 ?_ | refine halloc4 ?_ | refine halloc5 ?_ | refine halloc6 ?_ | refine halloc7 ?_ | refine halloc8 ?_ | refine halloc_b2 ?_ | refine halloc_b1 ?_ | refine halloc_s0 ?_ | refine halloc_h ?_ | refine ewp_range ?_ | refine ewp_draw ?_ | refine edraw_nil ?_ | refine edraw_if ?_ | refine mget_cons ?_) | with_reducible refine mget_nil ?_)
  all_goals (conv => whnf)
  refine ContainsStr_S (l := [[97, 108, 119, 97, 121, 115], [97, 110, 100], [110, 111, 116], [111, 114], [119, 104, 101, 114, 101]]) (by simp) ?_
  repeat' ((conv => whnf); first | (with_reducible first | refine eops_one ?_ | refine eops_nil ?_ | refine ewp_seq ?_ | refine ewp_region ?_) | ((with_reducible refine And.intro ?_ ?_); · (first | rfl | assumption | omega | (simp; omega) | (simp [AV.cells]; done))) | (with_reducible first | refine b_T ?_ | refine b_F ?_ | refine b_true (by assumption) ?_ | refine b_false (by assumption) ?_) | ((with_reducible refine b_true ?_ ?_); (· (decide))) | ((with_reducible refine b_false ?_ ?_); (· (decide))) | (with_reducible refine b_dec ?_ ?_ <;> intro hc hcb) | (with_reducible refine b_eq ?_ ?_ <;> intro hc hcb) | (with_reducible refine b_ne ?_ ?_ <;> intro hc hcb) | (with_reducible refine b_neq ?_ ?_ <;> intro hc hcb) | (with_reducible refine b_not ?_ ?_ <;> intro hc hcb) | (with_reducible refine b_intro ?_ ?_ <;> intro hcb) | (with_reducible first | refine ewp_cond ?_ | refine eops_if ?_ | refine ewp_block ?_ | refine ewp_exit ?_ | refine ewp_ret ?_ | refine ewp_skip ?_ | refine ewp_loop ?_ | refine hget_a0 ?_ | refine hget_b ?_ | refine hget_a ?_ | refine hput_a0 ?_ | refine hput_b ?_ | refine hput_a ?_ | refine hget_s0 ?_ | refine hget_s ?_ | refine hput_s0 ?_ | refine hput_s ?_ | refine halloc1 ?_ | refine halloc2 ?_ | refine halloc3 ?_ | refine halloc4 ?_ | refine halloc5 ?_ | refine halloc6 ?_ | refine halloc7 ?_ | refine halloc8 ?_ | refine halloc_b2 ?_ | refine halloc_b1 ?_ | refine halloc_s0 ?_ | refine halloc_h ?_ | refine ewp_range ?_ | refine ewp_draw ?_ | refine edraw_nil ?_ | refine edraw_if ?_ | refine mget_cons ?_) | with_reducible refine mget_nil ?_)
  all_goals (conv => whnf)
  all_goals (refine done_here ?_; refine ret_of hQ (congrArg AV.bool ?_); rw [Bool.eq_iff_iff]; simp [resB, or_assoc])
theorem key_S {h : AHeap} {s : List UInt8} {Q : AEnd → AHeap → Prop} (hs : s.length ≤ 9223372036854775807) (hQ : Q (.ret (.bool (keyB s))) h) : S Tryz.prog Φ 88 [.str s] h Q := by
  refine go88 (by simp) fun hlow => ?_
  unfold ac88
  repeat' (first | ((conv => whnf); first | (with_reducible first | refine eops_one ?_ | refine eops_nil ?_ | refine ewp_seq ?_ | refine ewp_region ?_) | ((with_reducible refine And.intro ?_ ?_); · (first | rfl | assumption | omega | (simp; omega) | (simp [AV.cells]; done))) | (with_reducible first | refine b_T ?_ | refine b_F ?_ | refine b_true (by assumption) ?_ | refine b_false (by assumption) ?_) | ((with_reducible refine b_true ?_ ?_); (· (decide))) | ((with_reducible refine b_false ?_ ?_); (· (decide))) | (with_reducible refine b_dec ?_ ?_ <;> intro hc hcb) | (with_reducible refine b_eq ?_ ?_ <;> intro hc hcb) | (with_reducible refine b_ne ?_ ?_ <;> intro hc hcb) | (with_reducible refine b_neq ?_ ?_ <;> intro hc hcb) | (with_reducible refine b_not ?_ ?_ <;> intro hc hcb) | (with_reducible refine b_intro ?_ ?_ <;> intro hcb) | (with_reducible first | refine ewp_cond ?_ | refine eops_if ?_ | refine ewp_block ?_ | refine ewp_exit ?_ | refine ewp_ret ?_ | refine ewp_skip ?_ | refine ewp_loop ?_ | refine hget_a0 ?_ | refine hget_b ?_ | refine hget_a ?_ | refine hput_a0 ?_ | refine hput_b ?_ | refine hput_a ?_ | refine hget_s0 ?_ | refine hget_s ?_ | refine hput_s0 ?_ | refine hput_s ?_ | refine halloc1 ?_ | refine halloc2 ?_ | refine halloc3 ?_ | refine halloc4 ?_ | refine halloc5 ?_ | refine halloc6 ?_ | refine halloc7 ?_ | refine halloc8 ?_ | refine halloc_b2 ?_ | refine halloc_b1 ?_ | refine halloc_s0 ?_ | refine halloc_h ?_ | refine ewp_range ?_ | refine ewp_draw ?_ | refine edraw_nil ?_ | refine edraw_if ?_ | refine mget_cons ?_) | with_reducible refine mget_nil ?_) | ((conv => whnf); with_reducible refine name_S hs ?_) | ((conv => whnf); with_reducible refine reserved_S ?_))
  all_goals (conv => whnf)
  all_goals (refine done_here ?_; refine ret_of hQ ?_; refine congrArg AV.bool ?_; rw [Bool.eq_iff_iff]; simp_all [keyB])
end Go.QZ
end
section
namespace Go.QZ
open Go Go.Abs Go.Proofs
variable {Φ : World → Prop}
set_option maxRecDepth 100000
def nodeB (k : Int) (key val : List UInt8) (c : Int) (n : Nat) : Bool :=
  if k = 1 then key == [] && val == [] && c == 0 && n == 0
  else if k = 2 then keyB key && val == [] && c == 0 && n == 0
  else if k = 3 then keyB key && val != [] && decide (val.length ≤ 200) && c == 0 && n == 0
  else if k = 7 then keyB key && val == [] && decide (0 ≤ c) && decide (c ≤ 9999999) && n == 0
  else if k = 4 then key == [] && val == [] && c == 0 && n == 1
  else if k = 5 ∨ k = 6 then key == [] && val == [] && c == 0 && decide (1 < n)
  else false
set_option maxHeartbeats 1000000 in
theorem node_S {h : AHeap} {k c : Int} {key val : List UInt8} {els : List AV} {Q : AEnd → AHeap → Prop} (hs : key.length ≤ 9223372036854775807) (hQ : Q (.ret (.bool (nodeB k key val c els.length))) h) : S Tryz.prog Φ 60 [.agg [.int .i64 k, .str key, .str val, .int .i64 c, .lst 5 els]] h Q := by
  refine go60 (by simp) fun hlow => ?_
  unfold ac60
  repeat' (first | ((conv => whnf); first | (with_reducible first | refine eops_one ?_ | refine eops_nil ?_ | refine ewp_seq ?_ | refine ewp_region ?_) | ((with_reducible refine And.intro ?_ ?_); · (first | rfl | assumption | omega | (simp; omega) | (simp [AV.cells]; done))) | (with_reducible first | refine b_T ?_ | refine b_F ?_ | refine b_true (by assumption) ?_ | refine b_false (by assumption) ?_) | ((with_reducible refine b_true ?_ ?_); (· (decide))) | ((with_reducible refine b_false ?_ ?_); (· (decide))) | (with_reducible refine b_dec ?_ ?_ <;> intro hc hcb) | (with_reducible refine b_eq ?_ ?_ <;> intro hc hcb) | (with_reducible refine b_ne ?_ ?_ <;> intro hc hcb) | (with_reducible refine b_neq ?_ ?_ <;> intro hc hcb) | (with_reducible refine b_not ?_ ?_ <;> intro hc hcb) | (with_reducible refine b_intro ?_ ?_ <;> intro hcb) | (with_reducible first | refine ewp_cond ?_ | refine eops_if ?_ | refine ewp_block ?_ | refine ewp_exit ?_ | refine ewp_ret ?_ | refine ewp_skip ?_ | refine ewp_loop ?_ | refine hget_a0 ?_ | refine hget_b ?_ | refine hget_a ?_ | refine hput_a0 ?_ | refine hput_b ?_ | refine hput_a ?_ | refine hget_s0 ?_ | refine hget_s ?_ | refine hput_s0 ?_ | refine hput_s ?_ | refine halloc1 ?_ | refine halloc2 ?_ | refine halloc3 ?_ | refine halloc4 ?_ | refine halloc5 ?_ | refine halloc6 ?_ | refine halloc7 ?_ | refine halloc8 ?_ | refine halloc_b2 ?_ | refine halloc_b1 ?_ | refine halloc_s0 ?_ | refine halloc_h ?_ | refine ewp_range ?_ | refine ewp_draw ?_ | refine edraw_nil ?_ | refine edraw_if ?_ | refine mget_cons ?_) | with_reducible refine mget_nil ?_) | ((conv => whnf); with_reducible refine key_S hs ?_))
  all_goals (conv => whnf)
  all_goals (refine done_here ?_; refine ret_of hQ (congrArg AV.bool ?_); rw [Bool.eq_iff_iff])
  all_goals first
    | (simp_all [nodeB]; done)
    | (simp_all [nodeB]; omega)
end Go.QZ
end
section
namespace Go.QZ
open Go Go.Abs Go.Proofs
variable {Φ : World → Prop}
set_option maxRecDepth 100000
def tagA (t : List UInt8 × List UInt8) : AV := .agg [.str t.1, .str t.2]
theorem eget_tags {l : List (List UInt8 × List UInt8)} {i : Nat} {K : AV → Prop} (h : i < l.length) (hk : K (.agg [.str l[i].1, .str l[i].2])) : eget (l.map tagA) ((i : Int)).toNat K := eget_of (by simp [h, tagA]) hk
def getT (l : List (List UInt8 × List UInt8)) (k : List UInt8) : Option (List UInt8) := (l.find? (fun t => t.1 == k)).map (·.2)
theorem Get_S {h : AHeap} {l : List (List UInt8 × List UInt8)} {s : List UInt8} {Q : AEnd → AHeap → Prop} (hl : l.length ≤ 9223372036854775807) (hQ : Q (.ret (match getT l s with | some v => .tup [.str v, .bool true] | none => .tup [.str [], .bool false])) h) : S Tryz.prog Φ 73 [.lst 2 (l.map tagA), .str s] h Q := by
  have hln : ((l.map tagA).length : Int) = l.length := by simp
  refine go73 (by simp) fun hlow => ?_
  unfold ac73
  repeat' (first | ((conv => whnf); first | (with_reducible first | refine eops_one ?_ | refine eops_nil ?_ | refine ewp_seq ?_ | refine ewp_region ?_) | ((with_reducible refine And.intro ?_ ?_); · (first | rfl | assumption | omega | (simp; omega) | (simp [AV.cells]; done))) | (with_reducible first | refine b_T ?_ | refine b_F ?_ | refine b_true (by assumption) ?_ | refine b_false (by assumption) ?_) | ((with_reducible refine b_true ?_ ?_); (· (decide))) | ((with_reducible refine b_false ?_ ?_); (· (decide))) | (with_reducible refine b_dec ?_ ?_ <;> intro hc hcb) | (with_reducible refine b_eq ?_ ?_ <;> intro hc hcb) | (with_reducible refine b_ne ?_ ?_ <;> intro hc hcb) | (with_reducible refine b_neq ?_ ?_ <;> intro hc hcb) | (with_reducible refine b_not ?_ ?_ <;> intro hc hcb) | (with_reducible refine b_intro ?_ ?_ <;> intro hcb) | (with_reducible first | refine ewp_cond ?_ | refine eops_if ?_ | refine ewp_block ?_ | refine ewp_exit ?_ | refine ewp_ret ?_ | refine ewp_skip ?_ | refine ewp_loop ?_ | refine hget_a0 ?_ | refine hget_b ?_ | refine hget_a ?_ | refine hput_a0 ?_ | refine hput_b ?_ | refine hput_a ?_ | refine hget_s0 ?_ | refine hget_s ?_ | refine hput_s0 ?_ | refine hput_s ?_ | refine halloc1 ?_ | refine halloc2 ?_ | refine halloc3 ?_ | refine halloc4 ?_ | refine halloc5 ?_ | refine halloc6 ?_ | refine halloc7 ?_ | refine halloc8 ?_ | refine halloc_b2 ?_ | refine halloc_b1 ?_ | refine halloc_s0 ?_ | refine halloc_h ?_ | refine ewp_range ?_ | refine ewp_draw ?_ | refine edraw_nil ?_ | refine edraw_if ?_ | refine mget_cons ?_) | with_reducible refine mget_nil ?_) | simp only [hln])
  refine LoopP.of' (fun a : Nat × AHeap => a.1 ≤ l.length ∧ getT (l.drop a.1) s = getT l s ∧ ∃ rest, a.2 = h ++ rest) (fun a => [(1, .str s), (8, .lst 2 (l.map tagA)), (9, .int .i64 l.length), (10, .int .i64 a.1)]) (fun a => a.2) (fun a => l.length - a.1) (0, h) ⟨by simp, rfl, [], by simp⟩ (by first | exact SEnt.keep [1, 8, 9, 10] | (simp only [hln]; exact SEnt.keep [1, 8, 9, 10])) ?_
  rintro ⟨i, H⟩ ⟨hi, hall, rest, hH⟩
  dsimp only at hi hall hH ⊢
  by_cases hlt : i < l.length
  · have hw := i64_succ (i := i) (by omega)
    have hd : decide ((i : Int) < l.length) = true := by simp; omega
    repeat' (first | ((conv => whnf); first | (with_reducible first | refine eops_one ?_ | refine eops_nil ?_ | refine ewp_seq ?_ | refine ewp_region ?_) | ((with_reducible refine And.intro ?_ ?_); · (first | rfl | assumption | omega | (simp; omega) | (simp [AV.cells]; done))) | (with_reducible first | refine b_T ?_ | refine b_F ?_ | refine b_true (by assumption) ?_ | refine b_false (by assumption) ?_) | ((with_reducible refine b_true ?_ ?_); (· (decide))) | ((with_reducible refine b_false ?_ ?_); (· (decide))) | (with_reducible refine b_dec ?_ ?_ <;> intro hc hcb) | (with_reducible refine b_eq ?_ ?_ <;> intro hc hcb) | (with_reducible refine b_ne ?_ ?_ <;> intro hc hcb) | (with_reducible refine b_neq ?_ ?_ <;> intro hc hcb) | (with_reducible refine b_not ?_ ?_ <;> intro hc hcb) | (with_reducible refine b_intro ?_ ?_ <;> intro hcb) | (with_reducible first | refine ewp_cond ?_ | refine eops_if ?_ | refine ewp_block ?_ | refine ewp_exit ?_ | refine ewp_ret ?_ | refine ewp_skip ?_ | refine ewp_loop ?_ | refine hget_a0 ?_ | refine hget_b ?_ | refine hget_a ?_ | refine hput_a0 ?_ | refine hput_b ?_ | refine hput_a ?_ | refine hget_s0 ?_ | refine hget_s ?_ | refine hput_s0 ?_ | refine hput_s ?_ | refine halloc1 ?_ | refine halloc2 ?_ | refine halloc3 ?_ | refine halloc4 ?_ | refine halloc5 ?_ | refine halloc6 ?_ | refine halloc7 ?_ | refine halloc8 ?_ | refine halloc_b2 ?_ | refine halloc_b1 ?_ | refine halloc_s0 ?_ | refine halloc_h ?_ | refine ewp_range ?_ | refine ewp_draw ?_ | refine edraw_nil ?_ | refine edraw_if ?_ | refine mget_cons ?_) | with_reducible refine mget_nil ?_) | ((conv => whnf); with_reducible refine eget_tags hlt ?_))
    all_goals (conv => whnf)
    · rw [hH, List.append_assoc]
      refine done_drop' rfl hlow (by repeat' (first | exact .int _ _ | exact .bool _ | exact .str _ | exact .nilp | exact .nils | exact .nilf | exact .nili | exact .nilm | assumption | (refine .tup _ ?_; simp only [List.mem_cons, List.not_mem_nil, or_false, forall_eq_or_imp, forall_eq]) | (refine .agg _ ?_; simp only [List.mem_cons, List.not_mem_nil, or_false, forall_eq_or_imp, forall_eq]) | refine And.intro ?_ ?_)) ?_
      refine ret_of hQ ?_
      have e : getT l s = some l[i].2 := by rw [← hall, List.drop_eq_getElem_cons hlt]; simp only [getT, List.find?_cons, hcb, Option.map_some]
      rw [e]; rfl
    · subst hH
      refine LI.next' (i + 1, h ++ (rest ++ _)) ⟨hlt, ?_, _, rfl⟩ (by dsimp only; omega) (by simp only [hw]; rw [List.append_assoc]; exact SEnt.keep [1, 8, 9, 10])
      dsimp only; rw [← hall, List.drop_eq_getElem_cons hlt]; simp only [getT, List.find?_cons, hcb]
  · have : i = l.length := by omega
    subst this
    have hd : decide (((l.length : Nat) : Int) < l.length) = false := by simp
    repeat' ((conv => whnf); first | (with_reducible first | refine eops_one ?_ | refine eops_nil ?_ | refine ewp_seq ?_ | refine ewp_region ?_) | ((with_reducible refine And.intro ?_ ?_); · (first | rfl | assumption | omega | (simp; omega) | (simp [AV.cells]; done))) | (with_reducible first | refine b_T ?_ | refine b_F ?_ | refine b_true (by assumption) ?_ | refine b_false (by assumption) ?_) | ((with_reducible refine b_true ?_ ?_); (· (decide))) | ((with_reducible refine b_false ?_ ?_); (· (decide))) | (with_reducible refine b_dec ?_ ?_ <;> intro hc hcb) | (with_reducible refine b_eq ?_ ?_ <;> intro hc hcb) | (with_reducible refine b_ne ?_ ?_ <;> intro hc hcb) | (with_reducible refine b_neq ?_ ?_ <;> intro hc hcb) | (with_reducible refine b_not ?_ ?_ <;> intro hc hcb) | (with_reducible refine b_intro ?_ ?_ <;> intro hcb) | (with_reducible first | refine ewp_cond ?_ | refine eops_if ?_ | refine ewp_block ?_ | refine ewp_exit ?_ | refine ewp_ret ?_ | refine ewp_skip ?_ | refine ewp_loop ?_ | refine hget_a0 ?_ | refine hget_b ?_ | refine hget_a ?_ | refine hput_a0 ?_ | refine hput_b ?_ | refine hput_a ?_ | refine hget_s0 ?_ | refine hget_s ?_ | refine hput_s0 ?_ | refine hput_s ?_ | refine halloc1 ?_ | refine halloc2 ?_ | refine halloc3 ?_ | refine halloc4 ?_ | refine halloc5 ?_ | refine halloc6 ?_ | refine halloc7 ?_ | refine halloc8 ?_ | refine halloc_b2 ?_ | refine halloc_b1 ?_ | refine halloc_s0 ?_ | refine halloc_h ?_ | refine ewp_range ?_ | refine ewp_draw ?_ | refine edraw_nil ?_ | refine edraw_if ?_ | refine mget_cons ?_) | with_reducible refine mget_nil ?_)
    all_goals (conv => whnf)
    rw [hH]
    refine done_drop' rfl hlow (by repeat' (first | exact .int _ _ | exact .bool _ | exact .str _ | exact .nilp | exact .nils | exact .nilf | exact .nili | exact .nilm | assumption | (refine .tup _ ?_; simp only [List.mem_cons, List.not_mem_nil, or_false, forall_eq_or_imp, forall_eq]) | (refine .agg _ ?_; simp only [List.mem_cons, List.not_mem_nil, or_false, forall_eq_or_imp, forall_eq]) | refine And.intro ?_ ?_)) ?_
    refine ret_of hQ ?_
    rw [← hall, List.drop_length]; rfl
end Go.QZ
end
section
namespace Go.QZ
open Go Go.Abs Go.Proofs
variable {Φ : World → Prop}
set_option maxRecDepth 100000
theorem node_nil_S {h : AHeap} {k c : Int} {key val : List UInt8} {Q : AEnd → AHeap → Prop} (hs : key.length ≤ 9223372036854775807) (hQ : Q (.ret (.bool (nodeB k key val c 0))) h) : S Tryz.prog Φ 60 [.agg [.int .i64 k, .str key, .str val, .int .i64 c, .nils]] h Q := by
  refine go60 (by simp) fun hlow => ?_
  unfold ac60
  repeat' (first | ((conv => whnf); first | (with_reducible first | refine eops_one ?_ | refine eops_nil ?_ | refine ewp_seq ?_ | refine ewp_region ?_) | ((with_reducible refine And.intro ?_ ?_); · (first | rfl | assumption | omega | (simp; omega) | (simp [AV.cells]; done))) | (with_reducible first | refine b_T ?_ | refine b_F ?_ | refine b_true (by assumption) ?_ | refine b_false (by assumption) ?_) | ((with_reducible refine b_true ?_ ?_); (· (decide))) | ((with_reducible refine b_false ?_ ?_); (· (decide))) | (with_reducible refine b_dec ?_ ?_ <;> intro hc hcb) | (with_reducible refine b_eq ?_ ?_ <;> intro hc hcb) | (with_reducible refine b_ne ?_ ?_ <;> intro hc hcb) | (with_reducible refine b_neq ?_ ?_ <;> intro hc hcb) | (with_reducible refine b_not ?_ ?_ <;> intro hc hcb) | (with_reducible refine b_intro ?_ ?_ <;> intro hcb) | (with_reducible first | refine ewp_cond ?_ | refine eops_if ?_ | refine ewp_block ?_ | refine ewp_exit ?_ | refine ewp_ret ?_ | refine ewp_skip ?_ | refine ewp_loop ?_ | refine hget_a0 ?_ | refine hget_b ?_ | refine hget_a ?_ | refine hput_a0 ?_ | refine hput_b ?_ | refine hput_a ?_ | refine hget_s0 ?_ | refine hget_s ?_ | refine hput_s0 ?_ | refine hput_s ?_ | refine halloc1 ?_ | refine halloc2 ?_ | refine halloc3 ?_ | refine halloc4 ?_ | refine halloc5 ?_ | refine halloc6 ?_ | refine halloc7 ?_ | refine halloc8 ?_ | refine halloc_b2 ?_ | refine halloc_b1 ?_ | refine halloc_s0 ?_ | refine halloc_h ?_ | refine ewp_range ?_ | refine ewp_draw ?_ | refine edraw_nil ?_ | refine edraw_if ?_ | refine mget_cons ?_) | with_reducible refine mget_nil ?_) | ((conv => whnf); with_reducible refine key_S hs ?_))
  all_goals (conv => whnf)
  all_goals (refine done_here ?_; refine ret_of hQ (congrArg AV.bool ?_); rw [Bool.eq_iff_iff])
  all_goals first
    | (simp_all [nodeB]; done)
    | (simp_all [nodeB]; omega)
end Go.QZ
end
section
namespace Go.QZ
open Go Go.Abs Go.Proofs
variable {Φ : World → Prop}
set_option maxRecDepth 100000
def Cnd.nodeOK (c : Cnd) : Bool := nodeB c.op c.key c.val c.n c.kids.length
mutual
def Cnd.allC : Cnd → Bool
  | .nilk op k v n => nodeB op k v n 0
  | .els op k v n l => nodeB op k v n l.length && Cnd.allL l
def Cnd.allL : List Cnd → Bool
  | [] => true
  | c :: r => c.allC && Cnd.allL r
end
theorem Cnd.allC_eq (c : Cnd) : c.allC = (c.nodeOK && Cnd.allL c.kids) := by cases c <;> simp [Cnd.allC, Cnd.nodeOK, Cnd.kids, Cnd.allL, Cnd.op, Cnd.key, Cnd.val, Cnd.n]
theorem Cnd.allL_false {l : List Cnd} {c : Cnd} (h : c ∈ l) (hc : c.allC = false) : Cnd.allL l = false := by
  induction l with
  | nil => cases h
  | cons d r ih =>
    rw [Cnd.allL]
    rcases List.mem_cons.1 h with rfl | h
    · rw [hc]; rfl
    · rw [ih h]; simp
theorem Cnd.allL_true : ∀ {l : List Cnd}, (∀ (i : Nat) (c : Cnd), l[i]? = some c → c.allC = true) → Cnd.allL l = true
  | [], _ => by rw [Cnd.allL]
  | d :: r, h => by
    rw [Cnd.allL, h 0 d rfl, Cnd.allL_true fun i c hi => h (i + 1) c (by simpa using hi)]; rfl
theorem Cnd.shortL_mem {l : List Cnd} {c : Cnd} (h : c ∈ l) (hl : Cnd.shortL l = true) : c.shortC = true := by
  cases hc : c.shortC with
  | true => rfl
  | false => rw [Cnd.shortL_false h hc] at hl; cases hl
theorem Cnd.short_key {c : Cnd} (h : c.shortC = true) : c.key.length ≤ 300 ∧ c.val.length ≤ 300 ∧ Cnd.shortL c.kids = true := by
  rw [Cnd.shortC_eq] at h
  simp only [Bool.and_eq_true, Nat.ble_eq] at h
  exact ⟨h.1.1, h.1.2, h.2⟩
theorem nodeC_S {c : Cnd} {h : AHeap} {Q : AEnd → AHeap → Prop} (hs : c.key.length ≤ 9223372036854775807) (hQ : Q (.ret (.bool c.nodeOK)) h) : S Tryz.prog Φ 60 [.agg c.cl] h Q := by
  cases c with
  | nilk op k v n => rw [Cnd.cl]; exact node_nil_S hs hQ
  | els op k v n l =>
    rw [Cnd.cl]
    refine node_S hs ?_
    rw [Cnd.cls_len]; exact hQ
def Cnd.validC (c : Cnd) : Bool := decide (c.cnt ≤ 60) && c.allC
end Go.QZ
end
