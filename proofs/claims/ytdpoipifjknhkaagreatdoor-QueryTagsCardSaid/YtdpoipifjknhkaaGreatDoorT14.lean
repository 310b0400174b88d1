/- A part of the proof of the card in the last text. -/
import Derived.Test.YtdpoipifjknhkaaGreatDoorT08
import Derived.Test.YtdpoipifjknhkaaGreatDoorT10
import Derived.Test.YtdpoipifjknhkaaGreatDoorT13
section
namespace Go.QZ
open Go Go.Abs Go.Proofs
variable {Φ : World → Prop}
set_option maxRecDepth 100000
def Ob.refl (o : Ob) : List (List UInt8) := o.refs.getD []
def Ob.fewO (o : Ob) (m : Nat) : Bool := Nat.ble o.name.length 300 && Nat.ble o.refl.length m && Nat.ble o.tagl.length 65 && o.refl.all (fun s => Nat.ble s.length 300) && o.tagl.all (fun t => Nat.ble (t.1.length + t.2.length) 600)
theorem eget_strs' {l : List (List UInt8)} {i : Nat} {s : List UInt8} {K : AV → Prop} (h : l[i]? = some s) (hk : K (.str s)) : eget (l.map AV.str) ((i : Int)).toNat K := eget_of (by simp [h]) hk
theorem eget_tags' {l : Tags} {i : Nat} {t : List UInt8 × List UInt8} {K : AV → Prop} (h : l[i]? = some t) (hk : K (.agg [.str t.1, .str t.2])) : eget (l.map tagA) ((i : Int)).toNat K := eget_of (by simp [h, tagA]) hk
set_option maxHeartbeats 2000000 in
theorem few_S {o : Ob} {m : Nat} {h : AHeap} {Q : AEnd → AHeap → Prop} (hm : m ≤ 1000000) (hbound : ∀ t ∈ o.tagl, (t.1.length : Int) + t.2.length ≤ 9223372036854775807) (hQ : Q (.ret (.bool (o.fewO m))) h) : S Tryz.prog Φ 19 [.agg o.cl, .int .i64 m] h Q := by
  refine go19 (by simp) fun hlow => ?_
  unfold ac19
  obtain ⟨nm, k, x, y, r, t⟩ := o
  have hob := Ob.cl_eq ⟨nm, k, x, y, r, t⟩
  rw [hob]
  dsimp only at hbound ⊢
  rcases r with _ | rs <;> rcases t with _ | ts
  · repeat' ((conv => whnf); first | (with_reducible first | refine eops_one ?_ | refine eops_nil ?_ | refine ewp_seq ?_ | refine ewp_region ?_) | ((with_reducible refine And.intro ?_ ?_); · (first | rfl | assumption | omega | (simp; omega) | (simp [AV.cells]; done))) | (with_reducible first | refine b_T ?_ | refine b_F ?_ | refine b_true (by assumption) ?_ | refine b_false (by assumption) ?_) | ((with_reducible refine b_true ?_ ?_); (· (decide))) | ((with_reducible refine b_false ?_ ?_); (· (decide))) | (with_reducible refine b_dec ?_ ?_ <;> intro hc hcb) | (with_reducible refine b_eq ?_ ?_ <;> intro hc hcb) | (with_reducible refine b_ne ?_ ?_ <;> intro hc hcb) | (with_reducible refine b_neq ?_ ?_ <;> intro hc hcb) | (with_reducible refine b_not ?_ ?_ <;> intro hc hcb) | (with_reducible refine b_intro ?_ ?_ <;> intro hcb) | (with_reducible first | refine ewp_cond ?_ | refine eops_if ?_ | refine ewp_block ?_ | refine ewp_exit ?_ | refine ewp_ret ?_ | refine ewp_skip ?_ | refine ewp_loop ?_ | refine hget_a0 ?_ | refine hget_b ?_ | refine hget_a ?_ | refine hput_a0 ?_ | refine hput_b ?_ | refine hput_a ?_ | refine hget_s0 ?_ | refine hget_s ?_ | refine hput_s0 ?_ | refine hput_s ?_ | refine halloc1 ?_ | refine halloc2 ?_ | refine halloc3 ?_ | refine halloc4 ?_ | refine halloc5 ?_ | refine halloc6 ?_ | refine halloc7 ?_ | refine halloc8 ?_ | refine halloc_b2 ?_ | refine halloc_b1 ?_ | refine halloc_s0 ?_ | refine halloc_h ?_ | refine ewp_range ?_ | refine ewp_draw ?_ | refine edraw_nil ?_ | refine edraw_if ?_ | refine mget_cons ?_) | with_reducible refine mget_nil ?_)
    all_goals (try (conv => whnf))
    · refine done_here ?_
      refine ret_of hQ (congrArg AV.bool ?_)
      symm
      simp only [List.length_map] at *
      have : ¬ (nm.length ≤ 300 ∧ 0 ≤ m ∧ 0 ≤ 65) := by omega
      simp [Ob.fewO, Ob.refl, Ob.tagl, Nat.ble_eq] at *
      intros; omega
    · refine done_here ?_
      refine ret_of hQ (congrArg AV.bool ?_)
      symm
      simp only [List.length_map] at *
      have : ¬ (nm.length ≤ 300 ∧ 0 ≤ m ∧ 0 ≤ 65) := by omega
      simp [Ob.fewO, Ob.refl, Ob.tagl, Nat.ble_eq] at *
      intros; omega
    · refine LoopP.of' (fun i : Nat => i = 0) (fun i => [(2, .lptr (.agg [.str nm, .int .i64 k, .int .i64 x, .int .i64 y, strsA (none), tagsA (none)]) 0), (5, .int .i64 i)]) (fun i => h) (fun i => 0) 0 rfl (SEnt.keep [2, 5]) ?_
      rintro i rfl
      repeat' ((conv => whnf); first | (with_reducible first | refine eops_one ?_ | refine eops_nil ?_ | refine ewp_seq ?_ | refine ewp_region ?_) | ((with_reducible refine And.intro ?_ ?_); · (first | rfl | assumption | omega | (simp; omega) | (simp [AV.cells]; done))) | (with_reducible first | refine b_T ?_ | refine b_F ?_ | refine b_true (by assumption) ?_ | refine b_false (by assumption) ?_) | ((with_reducible refine b_true ?_ ?_); (· (decide))) | ((with_reducible refine b_false ?_ ?_); (· (decide))) | (with_reducible refine b_dec ?_ ?_ <;> intro hc hcb) | (with_reducible refine b_eq ?_ ?_ <;> intro hc hcb) | (with_reducible refine b_ne ?_ ?_ <;> intro hc hcb) | (with_reducible refine b_neq ?_ ?_ <;> intro hc hcb) | (with_reducible refine b_not ?_ ?_ <;> intro hc hcb) | (with_reducible refine b_intro ?_ ?_ <;> intro hcb) | (with_reducible first | refine ewp_cond ?_ | refine eops_if ?_ | refine ewp_block ?_ | refine ewp_exit ?_ | refine ewp_ret ?_ | refine ewp_skip ?_ | refine ewp_loop ?_ | refine hget_a0 ?_ | refine hget_b ?_ | refine hget_a ?_ | refine hput_a0 ?_ | refine hput_b ?_ | refine hput_a ?_ | refine hget_s0 ?_ | refine hget_s ?_ | refine hput_s0 ?_ | refine hput_s ?_ | refine halloc1 ?_ | refine halloc2 ?_ | refine halloc3 ?_ | refine halloc4 ?_ | refine halloc5 ?_ | refine halloc6 ?_ | refine halloc7 ?_ | refine halloc8 ?_ | refine halloc_b2 ?_ | refine halloc_b1 ?_ | refine halloc_s0 ?_ | refine halloc_h ?_ | refine ewp_range ?_ | refine ewp_draw ?_ | refine edraw_nil ?_ | refine edraw_if ?_ | refine mget_cons ?_) | with_reducible refine mget_nil ?_)
      all_goals (try (conv => whnf))
      refine LoopP.of' (fun i : Nat => i = 0) (fun i => [(2, .lptr (.agg [.str nm, .int .i64 k, .int .i64 x, .int .i64 y, strsA (none), tagsA (none)]) 0), (6, .int .i64 i)]) (fun i => h) (fun i => 0) 0 rfl (SEnt.keep [2, 6]) ?_
      rintro i rfl
      repeat' ((conv => whnf); first | (with_reducible first | refine eops_one ?_ | refine eops_nil ?_ | refine ewp_seq ?_ | refine ewp_region ?_) | ((with_reducible refine And.intro ?_ ?_); · (first | rfl | assumption | omega | (simp; omega) | (simp [AV.cells]; done))) | (with_reducible first | refine b_T ?_ | refine b_F ?_ | refine b_true (by assumption) ?_ | refine b_false (by assumption) ?_) | ((with_reducible refine b_true ?_ ?_); (· (decide))) | ((with_reducible refine b_false ?_ ?_); (· (decide))) | (with_reducible refine b_dec ?_ ?_ <;> intro hc hcb) | (with_reducible refine b_eq ?_ ?_ <;> intro hc hcb) | (with_reducible refine b_ne ?_ ?_ <;> intro hc hcb) | (with_reducible refine b_neq ?_ ?_ <;> intro hc hcb) | (with_reducible refine b_not ?_ ?_ <;> intro hc hcb) | (with_reducible refine b_intro ?_ ?_ <;> intro hcb) | (with_reducible first | refine ewp_cond ?_ | refine eops_if ?_ | refine ewp_block ?_ | refine ewp_exit ?_ | refine ewp_ret ?_ | refine ewp_skip ?_ | refine ewp_loop ?_ | refine hget_a0 ?_ | refine hget_b ?_ | refine hget_a ?_ | refine hput_a0 ?_ | refine hput_b ?_ | refine hput_a ?_ | refine hget_s0 ?_ | refine hget_s ?_ | refine hput_s0 ?_ | refine hput_s ?_ | refine halloc1 ?_ | refine halloc2 ?_ | refine halloc3 ?_ | refine halloc4 ?_ | refine halloc5 ?_ | refine halloc6 ?_ | refine halloc7 ?_ | refine halloc8 ?_ | refine halloc_b2 ?_ | refine halloc_b1 ?_ | refine halloc_s0 ?_ | refine halloc_h ?_ | refine ewp_range ?_ | refine ewp_draw ?_ | refine edraw_nil ?_ | refine edraw_if ?_ | refine mget_cons ?_) | with_reducible refine mget_nil ?_)
      all_goals (conv => whnf)
      refine done_here ?_
      refine ret_of hQ (congrArg AV.bool ?_)
      simp_all [Ob.fewO, Ob.refl, Ob.tagl, Nat.ble_eq, List.all_eq_true]
      all_goals (try omega)
  · repeat' ((conv => whnf); first | (with_reducible first | refine eops_one ?_ | refine eops_nil ?_ | refine ewp_seq ?_ | refine ewp_region ?_) | ((with_reducible refine And.intro ?_ ?_); · (first | rfl | assumption | omega | (simp; omega) | (simp [AV.cells]; done))) | (with_reducible first | refine b_T ?_ | refine b_F ?_ | refine b_true (by assumption) ?_ | refine b_false (by assumption) ?_) | ((with_reducible refine b_true ?_ ?_); (· (decide))) | ((with_reducible refine b_false ?_ ?_); (· (decide))) | (with_reducible refine b_dec ?_ ?_ <;> intro hc hcb) | (with_reducible refine b_eq ?_ ?_ <;> intro hc hcb) | (with_reducible refine b_ne ?_ ?_ <;> intro hc hcb) | (with_reducible refine b_neq ?_ ?_ <;> intro hc hcb) | (with_reducible refine b_not ?_ ?_ <;> intro hc hcb) | (with_reducible refine b_intro ?_ ?_ <;> intro hcb) | (with_reducible first | refine ewp_cond ?_ | refine eops_if ?_ | refine ewp_block ?_ | refine ewp_exit ?_ | refine ewp_ret ?_ | refine ewp_skip ?_ | refine ewp_loop ?_ | refine hget_a0 ?_ | refine hget_b ?_ | refine hget_a ?_ | refine hput_a0 ?_ | refine hput_b ?_ | refine hput_a ?_ | refine hget_s0 ?_ | refine hget_s ?_ | refine hput_s0 ?_ | refine hput_s ?_ | refine halloc1 ?_ | refine halloc2 ?_ | refine halloc3 ?_ | refine halloc4 ?_ | refine halloc5 ?_ | refine halloc6 ?_ | refine halloc7 ?_ | refine halloc8 ?_ | refine halloc_b2 ?_ | refine halloc_b1 ?_ | refine halloc_s0 ?_ | refine halloc_h ?_ | refine ewp_range ?_ | refine ewp_draw ?_ | refine edraw_nil ?_ | refine edraw_if ?_ | refine mget_cons ?_) | with_reducible refine mget_nil ?_)
    all_goals (try (conv => whnf))
    · refine done_here ?_
      refine ret_of hQ (congrArg AV.bool ?_)
      symm
      simp only [List.length_map] at *
      have : ¬ (nm.length ≤ 300 ∧ 0 ≤ m ∧ ts.length ≤ 65) := by omega
      simp [Ob.fewO, Ob.refl, Ob.tagl, Nat.ble_eq] at *
      intros; omega
    · refine done_here ?_
      refine ret_of hQ (congrArg AV.bool ?_)
      symm
      simp only [List.length_map] at *
      have : ¬ (nm.length ≤ 300 ∧ 0 ≤ m ∧ ts.length ≤ 65) := by omega
      simp [Ob.fewO, Ob.refl, Ob.tagl, Nat.ble_eq] at *
      intros; omega
    · refine done_here ?_
      refine ret_of hQ (congrArg AV.bool ?_)
      symm
      simp only [List.length_map] at *
      have : ¬ (nm.length ≤ 300 ∧ 0 ≤ m ∧ ts.length ≤ 65) := by omega
      simp [Ob.fewO, Ob.refl, Ob.tagl, Nat.ble_eq] at *
      intros; omega
    · refine LoopP.of' (fun i : Nat => i = 0) (fun i => [(2, .lptr (.agg [.str nm, .int .i64 k, .int .i64 x, .int .i64 y, strsA (none), tagsA (some ts)]) 0), (5, .int .i64 i)]) (fun i => h) (fun i => 0) 0 rfl (SEnt.keep [2, 5]) ?_
      rintro i rfl
      repeat' ((conv => whnf); first | (with_reducible first | refine eops_one ?_ | refine eops_nil ?_ | refine ewp_seq ?_ | refine ewp_region ?_) | ((with_reducible refine And.intro ?_ ?_); · (first | rfl | assumption | omega | (simp; omega) | (simp [AV.cells]; done))) | (with_reducible first | refine b_T ?_ | refine b_F ?_ | refine b_true (by assumption) ?_ | refine b_false (by assumption) ?_) | ((with_reducible refine b_true ?_ ?_); (· (decide))) | ((with_reducible refine b_false ?_ ?_); (· (decide))) | (with_reducible refine b_dec ?_ ?_ <;> intro hc hcb) | (with_reducible refine b_eq ?_ ?_ <;> intro hc hcb) | (with_reducible refine b_ne ?_ ?_ <;> intro hc hcb) | (with_reducible refine b_neq ?_ ?_ <;> intro hc hcb) | (with_reducible refine b_not ?_ ?_ <;> intro hc hcb) | (with_reducible refine b_intro ?_ ?_ <;> intro hcb) | (with_reducible first | refine ewp_cond ?_ | refine eops_if ?_ | refine ewp_block ?_ | refine ewp_exit ?_ | refine ewp_ret ?_ | refine ewp_skip ?_ | refine ewp_loop ?_ | refine hget_a0 ?_ | refine hget_b ?_ | refine hget_a ?_ | refine hput_a0 ?_ | refine hput_b ?_ | refine hput_a ?_ | refine hget_s0 ?_ | refine hget_s ?_ | refine hput_s0 ?_ | refine hput_s ?_ | refine halloc1 ?_ | refine halloc2 ?_ | refine halloc3 ?_ | refine halloc4 ?_ | refine halloc5 ?_ | refine halloc6 ?_ | refine halloc7 ?_ | refine halloc8 ?_ | refine halloc_b2 ?_ | refine halloc_b1 ?_ | refine halloc_s0 ?_ | refine halloc_h ?_ | refine ewp_range ?_ | refine ewp_draw ?_ | refine edraw_nil ?_ | refine edraw_if ?_ | refine mget_cons ?_) | with_reducible refine mget_nil ?_)
      all_goals (try (conv => whnf))
      refine LoopP.of' (fun i : Nat => i ≤ ts.length ∧ ∀ (j : Nat) (t : List UInt8 × List UInt8), j < i → ts[j]? = some t → t.1.length + t.2.length ≤ 600) (fun i => [(2, .lptr (.agg [.str nm, .int .i64 k, .int .i64 x, .int .i64 y, strsA (none), tagsA (some ts)]) 0), (6, .int .i64 i)]) (fun i => h) (fun i => ts.length - i) 0 ⟨by simp, by simp⟩ (SEnt.keep [2, 6]) ?_
      rintro i ⟨hi, hall⟩
      have hlt2 : ts.length ≤ 65 := by simp only [List.length_map] at *; omega
      by_cases hlt : i < ts.length
      · have hd : decide ((i : Int) < (ts.map tagA).length) = true := by simp; omega
        have hw := i64_succ (i := i) (by omega)
        obtain ⟨tt, hti⟩ : ∃ tt, ts[i]? = some tt := ⟨ts[i], by simp [hlt]⟩
        have hb := hbound tt (List.mem_of_getElem? hti)
        have hadd : IntKind.i64.wrap ((tt.1.length : Int) + tt.2.length) = ((tt.1.length + tt.2.length : Nat) : Int) := by rw [wrap_i64 (by omega) (by omega)]; omega
        repeat' (first | ((conv => whnf); first | with_reducible refine eget_tags' hti ?_ | (with_reducible first | refine eops_one ?_ | refine eops_nil ?_ | refine ewp_seq ?_ | refine ewp_region ?_) | ((with_reducible refine And.intro ?_ ?_); · (first | rfl | assumption | omega | (simp; omega) | (simp [AV.cells]; done))) | (with_reducible first | refine b_T ?_ | refine b_F ?_ | refine b_true (by assumption) ?_ | refine b_false (by assumption) ?_) | ((with_reducible refine b_true ?_ ?_); (· (decide))) | ((with_reducible refine b_false ?_ ?_); (· (decide))) | (with_reducible refine b_dec ?_ ?_ <;> intro hc hcb) | (with_reducible refine b_eq ?_ ?_ <;> intro hc hcb) | (with_reducible refine b_ne ?_ ?_ <;> intro hc hcb) | (with_reducible refine b_neq ?_ ?_ <;> intro hc hcb) | (with_reducible refine b_not ?_ ?_ <;> intro hc hcb) | (with_reducible refine b_intro ?_ ?_ <;> intro hcb) | (with_reducible first | refine ewp_cond ?_ | refine eops_if ?_ | refine ewp_block ?_ | refine ewp_exit ?_ | refine ewp_ret ?_ | refine ewp_skip ?_ | refine ewp_loop ?_ | refine hget_a0 ?_ | refine hget_b ?_ | refine hget_a ?_ | refine hput_a0 ?_ | refine hput_b ?_ | refine hput_a ?_ | refine hget_s0 ?_ | refine hget_s ?_ | refine hput_s0 ?_ | refine hput_s ?_ | refine halloc1 ?_ | refine halloc2 ?_ | refine halloc3 ?_ | refine halloc4 ?_ | refine halloc5 ?_ | refine halloc6 ?_ | refine halloc7 ?_ | refine halloc8 ?_ | refine halloc_b2 ?_ | refine halloc_b1 ?_ | refine halloc_s0 ?_ | refine halloc_h ?_ | refine ewp_range ?_ | refine ewp_draw ?_ | refine edraw_nil ?_ | refine edraw_if ?_ | refine mget_cons ?_) | with_reducible refine mget_nil ?_) | ((conv => whnf); (with_reducible apply edraw_read'); (· (repeat' (first | exact True.intro | exact rfl | ((conv => whnf); first | with_reducible refine eget_tags' hti ?_ | (with_reducible first | refine eops_one ?_ | refine eops_nil ?_ | refine ewp_seq ?_ | refine ewp_region ?_) | ((with_reducible refine And.intro ?_ ?_); · (first | rfl | assumption | omega | (simp; omega) | (simp [AV.cells]; done))) | (with_reducible first | refine b_T ?_ | refine b_F ?_ | refine b_true (by assumption) ?_ | refine b_false (by assumption) ?_) | ((with_reducible refine b_true ?_ ?_); (· (decide))) | ((with_reducible refine b_false ?_ ?_); (· (decide))) | (with_reducible refine b_dec ?_ ?_ <;> intro hc hcb) | (with_reducible refine b_eq ?_ ?_ <;> intro hc hcb) | (with_reducible refine b_ne ?_ ?_ <;> intro hc hcb) | (with_reducible refine b_neq ?_ ?_ <;> intro hc hcb) | (with_reducible refine b_not ?_ ?_ <;> intro hc hcb) | (with_reducible refine b_intro ?_ ?_ <;> intro hcb) | (with_reducible first | refine ewp_cond ?_ | refine eops_if ?_ | refine ewp_block ?_ | refine ewp_exit ?_ | refine ewp_ret ?_ | refine ewp_skip ?_ | refine ewp_loop ?_ | refine hget_a0 ?_ | refine hget_b ?_ | refine hget_a ?_ | refine hput_a0 ?_ | refine hput_b ?_ | refine hput_a ?_ | refine hget_s0 ?_ | refine hget_s ?_ | refine hput_s0 ?_ | refine hput_s ?_ | refine halloc1 ?_ | refine halloc2 ?_ | refine halloc3 ?_ | refine halloc4 ?_ | refine halloc5 ?_ | refine halloc6 ?_ | refine halloc7 ?_ | refine halloc8 ?_ | refine halloc_b2 ?_ | refine halloc_b1 ?_ | refine halloc_s0 ?_ | refine halloc_h ?_ | refine ewp_range ?_ | refine ewp_draw ?_ | refine edraw_nil ?_ | refine edraw_if ?_ | refine mget_cons ?_) | with_reducible refine mget_nil ?_) | ((conv => whnf); refine And.intro ?_ ?_)))); (· (repeat' (first | exact True.intro | exact rfl | ((conv => whnf); first | with_reducible refine eget_tags' hti ?_ | (with_reducible first | refine eops_one ?_ | refine eops_nil ?_ | refine ewp_seq ?_ | refine ewp_region ?_) | ((with_reducible refine And.intro ?_ ?_); · (first | rfl | assumption | omega | (simp; omega) | (simp [AV.cells]; done))) | (with_reducible first | refine b_T ?_ | refine b_F ?_ | refine b_true (by assumption) ?_ | refine b_false (by assumption) ?_) | ((with_reducible refine b_true ?_ ?_); (· (decide))) | ((with_reducible refine b_false ?_ ?_); (· (decide))) | (with_reducible refine b_dec ?_ ?_ <;> intro hc hcb) | (with_reducible refine b_eq ?_ ?_ <;> intro hc hcb) | (with_reducible refine b_ne ?_ ?_ <;> intro hc hcb) | (with_reducible refine b_neq ?_ ?_ <;> intro hc hcb) | (with_reducible refine b_not ?_ ?_ <;> intro hc hcb) | (with_reducible refine b_intro ?_ ?_ <;> intro hcb) | (with_reducible first | refine ewp_cond ?_ | refine eops_if ?_ | refine ewp_block ?_ | refine ewp_exit ?_ | refine ewp_ret ?_ | refine ewp_skip ?_ | refine ewp_loop ?_ | refine hget_a0 ?_ | refine hget_b ?_ | refine hget_a ?_ | refine hput_a0 ?_ | refine hput_b ?_ | refine hput_a ?_ | refine hget_s0 ?_ | refine hget_s ?_ | refine hput_s0 ?_ | refine hput_s ?_ | refine halloc1 ?_ | refine halloc2 ?_ | refine halloc3 ?_ | refine halloc4 ?_ | refine halloc5 ?_ | refine halloc6 ?_ | refine halloc7 ?_ | refine halloc8 ?_ | refine halloc_b2 ?_ | refine halloc_b1 ?_ | refine halloc_s0 ?_ | refine halloc_h ?_ | refine ewp_range ?_ | refine ewp_draw ?_ | refine edraw_nil ?_ | refine edraw_if ?_ | refine mget_cons ?_) | with_reducible refine mget_nil ?_) | ((conv => whnf); refine And.intro ?_ ?_))))) | ((conv => whnf); (with_reducible apply edraw_write'); (· (repeat' (first | exact True.intro | exact rfl | ((conv => whnf); first | with_reducible refine eget_tags' hti ?_ | (with_reducible first | refine eops_one ?_ | refine eops_nil ?_ | refine ewp_seq ?_ | refine ewp_region ?_) | ((with_reducible refine And.intro ?_ ?_); · (first | rfl | assumption | omega | (simp; omega) | (simp [AV.cells]; done))) | (with_reducible first | refine b_T ?_ | refine b_F ?_ | refine b_true (by assumption) ?_ | refine b_false (by assumption) ?_) | ((with_reducible refine b_true ?_ ?_); (· (decide))) | ((with_reducible refine b_false ?_ ?_); (· (decide))) | (with_reducible refine b_dec ?_ ?_ <;> intro hc hcb) | (with_reducible refine b_eq ?_ ?_ <;> intro hc hcb) | (with_reducible refine b_ne ?_ ?_ <;> intro hc hcb) | (with_reducible refine b_neq ?_ ?_ <;> intro hc hcb) | (with_reducible refine b_not ?_ ?_ <;> intro hc hcb) | (with_reducible refine b_intro ?_ ?_ <;> intro hcb) | (with_reducible first | refine ewp_cond ?_ | refine eops_if ?_ | refine ewp_block ?_ | refine ewp_exit ?_ | refine ewp_ret ?_ | refine ewp_skip ?_ | refine ewp_loop ?_ | refine hget_a0 ?_ | refine hget_b ?_ | refine hget_a ?_ | refine hput_a0 ?_ | refine hput_b ?_ | refine hput_a ?_ | refine hget_s0 ?_ | refine hget_s ?_ | refine hput_s0 ?_ | refine hput_s ?_ | refine halloc1 ?_ | refine halloc2 ?_ | refine halloc3 ?_ | refine halloc4 ?_ | refine halloc5 ?_ | refine halloc6 ?_ | refine halloc7 ?_ | refine halloc8 ?_ | refine halloc_b2 ?_ | refine halloc_b1 ?_ | refine halloc_s0 ?_ | refine halloc_h ?_ | refine ewp_range ?_ | refine ewp_draw ?_ | refine edraw_nil ?_ | refine edraw_if ?_ | refine mget_cons ?_) | with_reducible refine mget_nil ?_) | ((conv => whnf); refine And.intro ?_ ?_)))); (· (repeat' (first | exact True.intro | exact rfl | ((conv => whnf); first | with_reducible refine eget_tags' hti ?_ | (with_reducible first | refine eops_one ?_ | refine eops_nil ?_ | refine ewp_seq ?_ | refine ewp_region ?_) | ((with_reducible refine And.intro ?_ ?_); · (first | rfl | assumption | omega | (simp; omega) | (simp [AV.cells]; done))) | (with_reducible first | refine b_T ?_ | refine b_F ?_ | refine b_true (by assumption) ?_ | refine b_false (by assumption) ?_) | ((with_reducible refine b_true ?_ ?_); (· (decide))) | ((with_reducible refine b_false ?_ ?_); (· (decide))) | (with_reducible refine b_dec ?_ ?_ <;> intro hc hcb) | (with_reducible refine b_eq ?_ ?_ <;> intro hc hcb) | (with_reducible refine b_ne ?_ ?_ <;> intro hc hcb) | (with_reducible refine b_neq ?_ ?_ <;> intro hc hcb) | (with_reducible refine b_not ?_ ?_ <;> intro hc hcb) | (with_reducible refine b_intro ?_ ?_ <;> intro hcb) | (with_reducible first | refine ewp_cond ?_ | refine eops_if ?_ | refine ewp_block ?_ | refine ewp_exit ?_ | refine ewp_ret ?_ | refine ewp_skip ?_ | refine ewp_loop ?_ | refine hget_a0 ?_ | refine hget_b ?_ | refine hget_a ?_ | refine hput_a0 ?_ | refine hput_b ?_ | refine hput_a ?_ | refine hget_s0 ?_ | refine hget_s ?_ | refine hput_s0 ?_ | refine hput_s ?_ | refine halloc1 ?_ | refine halloc2 ?_ | refine halloc3 ?_ | refine halloc4 ?_ | refine halloc5 ?_ | refine halloc6 ?_ | refine halloc7 ?_ | refine halloc8 ?_ | refine halloc_b2 ?_ | refine halloc_b1 ?_ | refine halloc_s0 ?_ | refine halloc_h ?_ | refine ewp_range ?_ | refine ewp_draw ?_ | refine edraw_nil ?_ | refine edraw_if ?_ | refine mget_cons ?_) | with_reducible refine mget_nil ?_) | ((conv => whnf); refine And.intro ?_ ?_))))) | simp only [hadd])
        all_goals (conv => whnf)
        all_goals first
          | (refine LI.next' (i + 1) ⟨hlt, fun j t hj hjt => ?_⟩ (by omega) (by simp only [hw]; exact SEnt.keep [2, 6])
             rcases Nat.lt_or_ge j i with hji | hji
             · exact hall j t hji hjt
             · have : j = i := by omega
               subst this
               rw [hti] at hjt; cases hjt
               omega)
          | (refine done_here ?_
             refine ret_of hQ (congrArg AV.bool ?_)
             symm
             have hf : (Ob.tagl ⟨nm, k, x, y, none, some ts⟩).all (fun t => Nat.ble (t.1.length + t.2.length) 600) = false := by
               rw [List.all_eq_false]
               exact ⟨tt, List.mem_of_getElem? hti, by simp only [Nat.ble_eq]; omega⟩
             unfold Ob.fewO
             rw [hf]; simp)
      · have : i = ts.length := by omega
        subst this
        have hd : decide (((ts.length : Nat) : Int) < (ts.map tagA).length) = false := by simp
        repeat' ((conv => whnf); first | (with_reducible first | refine eops_one ?_ | refine eops_nil ?_ | refine ewp_seq ?_ | refine ewp_region ?_) | ((with_reducible refine And.intro ?_ ?_); · (first | rfl | assumption | omega | (simp; omega) | (simp [AV.cells]; done))) | (with_reducible first | refine b_T ?_ | refine b_F ?_ | refine b_true (by assumption) ?_ | refine b_false (by assumption) ?_) | ((with_reducible refine b_true ?_ ?_); (· (decide))) | ((with_reducible refine b_false ?_ ?_); (· (decide))) | (with_reducible refine b_dec ?_ ?_ <;> intro hc hcb) | (with_reducible refine b_eq ?_ ?_ <;> intro hc hcb) | (with_reducible refine b_ne ?_ ?_ <;> intro hc hcb) | (with_reducible refine b_neq ?_ ?_ <;> intro hc hcb) | (with_reducible refine b_not ?_ ?_ <;> intro hc hcb) | (with_reducible refine b_intro ?_ ?_ <;> intro hcb) | (with_reducible first | refine ewp_cond ?_ | refine eops_if ?_ | refine ewp_block ?_ | refine ewp_exit ?_ | refine ewp_ret ?_ | refine ewp_skip ?_ | refine ewp_loop ?_ | refine hget_a0 ?_ | refine hget_b ?_ | refine hget_a ?_ | refine hput_a0 ?_ | refine hput_b ?_ | refine hput_a ?_ | refine hget_s0 ?_ | refine hget_s ?_ | refine hput_s0 ?_ | refine hput_s ?_ | refine halloc1 ?_ | refine halloc2 ?_ | refine halloc3 ?_ | refine halloc4 ?_ | refine halloc5 ?_ | refine halloc6 ?_ | refine halloc7 ?_ | refine halloc8 ?_ | refine halloc_b2 ?_ | refine halloc_b1 ?_ | refine halloc_s0 ?_ | refine halloc_h ?_ | refine ewp_range ?_ | refine ewp_draw ?_ | refine edraw_nil ?_ | refine edraw_if ?_ | refine mget_cons ?_) | with_reducible refine mget_nil ?_)
        all_goals (conv => whnf)
        refine done_here ?_
        refine ret_of hQ (congrArg AV.bool ?_)
        have hf : (Ob.tagl ⟨nm, k, x, y, none, some ts⟩).all (fun t => Nat.ble (t.1.length + t.2.length) 600) = true := by
          rw [List.all_eq_true]
          intro t ht
          obtain ⟨j, hj⟩ := mem_get ht
          simp only [Nat.ble_eq]
          exact hall j t (List.getElem?_eq_some_iff.1 hj).1 hj
        unfold Ob.fewO
        rw [hf]
        simp_all [Ob.refl, Ob.tagl, Nat.ble_eq, List.all_eq_true]
        all_goals (try omega)
  · repeat' ((conv => whnf); first | (with_reducible first | refine eops_one ?_ | refine eops_nil ?_ | refine ewp_seq ?_ | refine ewp_region ?_) | ((with_reducible refine And.intro ?_ ?_); · (first | rfl | assumption | omega | (simp; omega) | (simp [AV.cells]; done))) | (with_reducible first | refine b_T ?_ | refine b_F ?_ | refine b_true (by assumption) ?_ | refine b_false (by assumption) ?_) | ((with_reducible refine b_true ?_ ?_); (· (decide))) | ((with_reducible refine b_false ?_ ?_); (· (decide))) | (with_reducible refine b_dec ?_ ?_ <;> intro hc hcb) | (with_reducible refine b_eq ?_ ?_ <;> intro hc hcb) | (with_reducible refine b_ne ?_ ?_ <;> intro hc hcb) | (with_reducible refine b_neq ?_ ?_ <;> intro hc hcb) | (with_reducible refine b_not ?_ ?_ <;> intro hc hcb) | (with_reducible refine b_intro ?_ ?_ <;> intro hcb) | (with_reducible first | refine ewp_cond ?_ | refine eops_if ?_ | refine ewp_block ?_ | refine ewp_exit ?_ | refine ewp_ret ?_ | refine ewp_skip ?_ | refine ewp_loop ?_ | refine hget_a0 ?_ | refine hget_b ?_ | refine hget_a ?_ | refine hput_a0 ?_ | refine hput_b ?_ | refine hput_a ?_ | refine hget_s0 ?_ | refine hget_s ?_ | refine hput_s0 ?_ | refine hput_s ?_ | refine halloc1 ?_ | refine halloc2 ?_ | refine halloc3 ?_ | refine halloc4 ?_ | refine halloc5 ?_ | refine halloc6 ?_ | refine halloc7 ?_ | refine halloc8 ?_ | refine halloc_b2 ?_ | refine halloc_b1 ?_ | refine halloc_s0 ?_ | refine halloc_h ?_ | refine ewp_range ?_ | refine ewp_draw ?_ | refine edraw_nil ?_ | refine edraw_if ?_ | refine mget_cons ?_) | with_reducible refine mget_nil ?_)
    all_goals (try (conv => whnf))
    · refine done_here ?_
      refine ret_of hQ (congrArg AV.bool ?_)
      symm
      simp only [List.length_map] at *
      have : ¬ (nm.length ≤ 300 ∧ rs.length ≤ m ∧ 0 ≤ 65) := by omega
      simp [Ob.fewO, Ob.refl, Ob.tagl, Nat.ble_eq] at *
      intros; omega
    · refine done_here ?_
      refine ret_of hQ (congrArg AV.bool ?_)
      symm
      simp only [List.length_map] at *
      have : ¬ (nm.length ≤ 300 ∧ rs.length ≤ m ∧ 0 ≤ 65) := by omega
      simp [Ob.fewO, Ob.refl, Ob.tagl, Nat.ble_eq] at *
      intros; omega
    · refine LoopP.of' (fun i : Nat => i ≤ rs.length ∧ ∀ (j : Nat) (s : List UInt8), j < i → rs[j]? = some s → s.length ≤ 300) (fun i => [(2, .lptr (.agg [.str nm, .int .i64 k, .int .i64 x, .int .i64 y, strsA (some rs), tagsA (none)]) 0), (5, .int .i64 i)]) (fun i => h) (fun i => rs.length - i) 0 ⟨by simp, by simp⟩ (SEnt.keep [2, 5]) ?_
      rintro i ⟨hi, hallr⟩
      have hlt3 : rs.length ≤ m := by simp only [List.length_map] at *; omega
      by_cases hlt : i < rs.length
      · have hd : decide ((i : Int) < (rs.map AV.str).length) = true := by simp; omega
        have hw := i64_succ (i := i) (by omega)
        obtain ⟨ss, hsi⟩ : ∃ ss, rs[i]? = some ss := ⟨rs[i], by simp [hlt]⟩
        repeat' (first | ((conv => whnf); first | (with_reducible first | refine eops_one ?_ | refine eops_nil ?_ | refine ewp_seq ?_ | refine ewp_region ?_) | ((with_reducible refine And.intro ?_ ?_); · (first | rfl | assumption | omega | (simp; omega) | (simp [AV.cells]; done))) | (with_reducible first | refine b_T ?_ | refine b_F ?_ | refine b_true (by assumption) ?_ | refine b_false (by assumption) ?_) | ((with_reducible refine b_true ?_ ?_); (· (decide))) | ((with_reducible refine b_false ?_ ?_); (· (decide))) | (with_reducible refine b_dec ?_ ?_ <;> intro hc hcb) | (with_reducible refine b_eq ?_ ?_ <;> intro hc hcb) | (with_reducible refine b_ne ?_ ?_ <;> intro hc hcb) | (with_reducible refine b_neq ?_ ?_ <;> intro hc hcb) | (with_reducible refine b_not ?_ ?_ <;> intro hc hcb) | (with_reducible refine b_intro ?_ ?_ <;> intro hcb) | (with_reducible first | refine ewp_cond ?_ | refine eops_if ?_ | refine ewp_block ?_ | refine ewp_exit ?_ | refine ewp_ret ?_ | refine ewp_skip ?_ | refine ewp_loop ?_ | refine hget_a0 ?_ | refine hget_b ?_ | refine hget_a ?_ | refine hput_a0 ?_ | refine hput_b ?_ | refine hput_a ?_ | refine hget_s0 ?_ | refine hget_s ?_ | refine hput_s0 ?_ | refine hput_s ?_ | refine halloc1 ?_ | refine halloc2 ?_ | refine halloc3 ?_ | refine halloc4 ?_ | refine halloc5 ?_ | refine halloc6 ?_ | refine halloc7 ?_ | refine halloc8 ?_ | refine halloc_b2 ?_ | refine halloc_b1 ?_ | refine halloc_s0 ?_ | refine halloc_h ?_ | refine ewp_range ?_ | refine ewp_draw ?_ | refine edraw_nil ?_ | refine edraw_if ?_ | refine mget_cons ?_) | with_reducible refine mget_nil ?_) | ((conv => whnf); with_reducible refine eget_strs' hsi ?_))
        all_goals (conv => whnf)
        all_goals first
          | (refine LI.next' (i + 1) ⟨hlt, fun j t hj hjt => ?_⟩ (by omega) (by simp only [hw]; exact SEnt.keep [2, 5])
             rcases Nat.lt_or_ge j i with hji | hji
             · exact hallr j t hji hjt
             · have : j = i := by omega
               subst this
               rw [hsi] at hjt; cases hjt
               omega)
          | (refine done_here ?_
             refine ret_of hQ (congrArg AV.bool ?_)
             symm
             have hf : (Ob.refl ⟨nm, k, x, y, some rs, none⟩).all (fun s => Nat.ble s.length 300) = false := by
               rw [List.all_eq_false]
               exact ⟨ss, List.mem_of_getElem? hsi, by simp only [Nat.ble_eq]; omega⟩
             unfold Ob.fewO
             rw [hf]; simp)
      have : i = rs.length := by omega
      subst this
      have hd : decide (((rs.length : Nat) : Int) < (rs.map AV.str).length) = false := by simp
      have hfr : (Ob.refl ⟨nm, k, x, y, some rs, none⟩).all (fun s => Nat.ble s.length 300) = true := by
        rw [List.all_eq_true]
        intro t ht
        obtain ⟨j, hj⟩ := mem_get ht
        simp only [Nat.ble_eq]
        exact hallr j t (List.getElem?_eq_some_iff.1 hj).1 hj
      clear hallr hlt hd hi
      have hd : decide (((rs.length : Nat) : Int) < (rs.map AV.str).length) = false := by simp
      repeat' ((conv => whnf); first | (with_reducible first | refine eops_one ?_ | refine eops_nil ?_ | refine ewp_seq ?_ | refine ewp_region ?_) | ((with_reducible refine And.intro ?_ ?_); · (first | rfl | assumption | omega | (simp; omega) | (simp [AV.cells]; done))) | (with_reducible first | refine b_T ?_ | refine b_F ?_ | refine b_true (by assumption) ?_ | refine b_false (by assumption) ?_) | ((with_reducible refine b_true ?_ ?_); (· (decide))) | ((with_reducible refine b_false ?_ ?_); (· (decide))) | (with_reducible refine b_dec ?_ ?_ <;> intro hc hcb) | (with_reducible refine b_eq ?_ ?_ <;> intro hc hcb) | (with_reducible refine b_ne ?_ ?_ <;> intro hc hcb) | (with_reducible refine b_neq ?_ ?_ <;> intro hc hcb) | (with_reducible refine b_not ?_ ?_ <;> intro hc hcb) | (with_reducible refine b_intro ?_ ?_ <;> intro hcb) | (with_reducible first | refine ewp_cond ?_ | refine eops_if ?_ | refine ewp_block ?_ | refine ewp_exit ?_ | refine ewp_ret ?_ | refine ewp_skip ?_ | refine ewp_loop ?_ | refine hget_a0 ?_ | refine hget_b ?_ | refine hget_a ?_ | refine hput_a0 ?_ | refine hput_b ?_ | refine hput_a ?_ | refine hget_s0 ?_ | refine hget_s ?_ | refine hput_s0 ?_ | refine hput_s ?_ | refine halloc1 ?_ | refine halloc2 ?_ | refine halloc3 ?_ | refine halloc4 ?_ | refine halloc5 ?_ | refine halloc6 ?_ | refine halloc7 ?_ | refine halloc8 ?_ | refine halloc_b2 ?_ | refine halloc_b1 ?_ | refine halloc_s0 ?_ | refine halloc_h ?_ | refine ewp_range ?_ | refine ewp_draw ?_ | refine edraw_nil ?_ | refine edraw_if ?_ | refine mget_cons ?_) | with_reducible refine mget_nil ?_)
      all_goals (try (conv => whnf))
      refine LoopP.of' (fun i : Nat => i = 0) (fun i => [(2, .lptr (.agg [.str nm, .int .i64 k, .int .i64 x, .int .i64 y, strsA (some rs), tagsA (none)]) 0), (6, .int .i64 i)]) (fun i => h) (fun i => 0) 0 rfl (SEnt.keep [2, 6]) ?_
      rintro i rfl
      repeat' ((conv => whnf); first | (with_reducible first | refine eops_one ?_ | refine eops_nil ?_ | refine ewp_seq ?_ | refine ewp_region ?_) | ((with_reducible refine And.intro ?_ ?_); · (first | rfl | assumption | omega | (simp; omega) | (simp [AV.cells]; done))) | (with_reducible first | refine b_T ?_ | refine b_F ?_ | refine b_true (by assumption) ?_ | refine b_false (by assumption) ?_) | ((with_reducible refine b_true ?_ ?_); (· (decide))) | ((with_reducible refine b_false ?_ ?_); (· (decide))) | (with_reducible refine b_dec ?_ ?_ <;> intro hc hcb) | (with_reducible refine b_eq ?_ ?_ <;> intro hc hcb) | (with_reducible refine b_ne ?_ ?_ <;> intro hc hcb) | (with_reducible refine b_neq ?_ ?_ <;> intro hc hcb) | (with_reducible refine b_not ?_ ?_ <;> intro hc hcb) | (with_reducible refine b_intro ?_ ?_ <;> intro hcb) | (with_reducible first | refine ewp_cond ?_ | refine eops_if ?_ | refine ewp_block ?_ | refine ewp_exit ?_ | refine ewp_ret ?_ | refine ewp_skip ?_ | refine ewp_loop ?_ | refine hget_a0 ?_ | refine hget_b ?_ | refine hget_a ?_ | refine hput_a0 ?_ | refine hput_b ?_ | refine hput_a ?_ | refine hget_s0 ?_ | refine hget_s ?_ | refine hput_s0 ?_ | refine hput_s ?_ | refine halloc1 ?_ | refine halloc2 ?_ | refine halloc3 ?_ | refine halloc4 ?_ | refine halloc5 ?_ | refine halloc6 ?_ | refine halloc7 ?_ | refine halloc8 ?_ | refine halloc_b2 ?_ | refine halloc_b1 ?_ | refine halloc_s0 ?_ | refine halloc_h ?_ | refine ewp_range ?_ | refine ewp_draw ?_ | refine edraw_nil ?_ | refine edraw_if ?_ | refine mget_cons ?_) | with_reducible refine mget_nil ?_)
      all_goals (conv => whnf)
      refine done_here ?_
      refine ret_of hQ (congrArg AV.bool ?_)
      simp_all [Ob.fewO, Ob.refl, Ob.tagl, Nat.ble_eq, List.all_eq_true]
      all_goals (try omega)
  · repeat' ((conv => whnf); first | (with_reducible first | refine eops_one ?_ | refine eops_nil ?_ | refine ewp_seq ?_ | refine ewp_region ?_) | ((with_reducible refine And.intro ?_ ?_); · (first | rfl | assumption | omega | (simp; omega) | (simp [AV.cells]; done))) | (with_reducible first | refine b_T ?_ | refine b_F ?_ | refine b_true (by assumption) ?_ | refine b_false (by assumption) ?_) | ((with_reducible refine b_true ?_ ?_); (· (decide))) | ((with_reducible refine b_false ?_ ?_); (· (decide))) | (with_reducible refine b_dec ?_ ?_ <;> intro hc hcb) | (with_reducible refine b_eq ?_ ?_ <;> intro hc hcb) | (with_reducible refine b_ne ?_ ?_ <;> intro hc hcb) | (with_reducible refine b_neq ?_ ?_ <;> intro hc hcb) | (with_reducible refine b_not ?_ ?_ <;> intro hc hcb) | (with_reducible refine b_intro ?_ ?_ <;> intro hcb) | (with_reducible first | refine ewp_cond ?_ | refine eops_if ?_ | refine ewp_block ?_ | refine ewp_exit ?_ | refine ewp_ret ?_ | refine ewp_skip ?_ | refine ewp_loop ?_ | refine hget_a0 ?_ | refine hget_b ?_ | refine hget_a ?_ | refine hput_a0 ?_ | refine hput_b ?_ | refine hput_a ?_ | refine hget_s0 ?_ | refine hget_s ?_ | refine hput_s0 ?_ | refine hput_s ?_ | refine halloc1 ?_ | refine halloc2 ?_ | refine halloc3 ?_ | refine halloc4 ?_ | refine halloc5 ?_ | refine halloc6 ?_ | refine halloc7 ?_ | refine halloc8 ?_ | refine halloc_b2 ?_ | refine halloc_b1 ?_ | refine halloc_s0 ?_ | refine halloc_h ?_ | refine ewp_range ?_ | refine ewp_draw ?_ | refine edraw_nil ?_ | refine edraw_if ?_ | refine mget_cons ?_) | with_reducible refine mget_nil ?_)
    all_goals (try (conv => whnf))
    · refine done_here ?_
      refine ret_of hQ (congrArg AV.bool ?_)
      symm
      simp only [List.length_map] at *
      have : ¬ (nm.length ≤ 300 ∧ rs.length ≤ m ∧ ts.length ≤ 65) := by omega
      simp [Ob.fewO, Ob.refl, Ob.tagl, Nat.ble_eq] at *
      intros; omega
    · refine done_here ?_
      refine ret_of hQ (congrArg AV.bool ?_)
      symm
      simp only [List.length_map] at *
      have : ¬ (nm.length ≤ 300 ∧ rs.length ≤ m ∧ ts.length ≤ 65) := by omega
      simp [Ob.fewO, Ob.refl, Ob.tagl, Nat.ble_eq] at *
      intros; omega
    · refine done_here ?_
      refine ret_of hQ (congrArg AV.bool ?_)
      symm
      simp only [List.length_map] at *
      have : ¬ (nm.length ≤ 300 ∧ rs.length ≤ m ∧ ts.length ≤ 65) := by omega
      simp [Ob.fewO, Ob.refl, Ob.tagl, Nat.ble_eq] at *
      intros; omega
    · refine LoopP.of' (fun i : Nat => i ≤ rs.length ∧ ∀ (j : Nat) (s : List UInt8), j < i → rs[j]? = some s → s.length ≤ 300) (fun i => [(2, .lptr (.agg [.str nm, .int .i64 k, .int .i64 x, .int .i64 y, strsA (some rs), tagsA (some ts)]) 0), (5, .int .i64 i)]) (fun i => h) (fun i => rs.length - i) 0 ⟨by simp, by simp⟩ (SEnt.keep [2, 5]) ?_
      rintro i ⟨hi, hallr⟩
      have hlt3 : rs.length ≤ m := by simp only [List.length_map] at *; omega
      by_cases hlt : i < rs.length
      · have hd : decide ((i : Int) < (rs.map AV.str).length) = true := by simp; omega
        have hw := i64_succ (i := i) (by omega)
        obtain ⟨ss, hsi⟩ : ∃ ss, rs[i]? = some ss := ⟨rs[i], by simp [hlt]⟩
        repeat' (first | ((conv => whnf); first | (with_reducible first | refine eops_one ?_ | refine eops_nil ?_ | refine ewp_seq ?_ | refine ewp_region ?_) | ((with_reducible refine And.intro ?_ ?_); · (first | rfl | assumption | omega | (simp; omega) | (simp [AV.cells]; done))) | (with_reducible first | refine b_T ?_ | refine b_F ?_ | refine b_true (by assumption) ?_ | refine b_false (by assumption) ?_) | ((with_reducible refine b_true ?_ ?_); (· (decide))) | ((with_reducible refine b_false ?_ ?_); (· (decide))) | (with_reducible refine b_dec ?_ ?_ <;> intro hc hcb) | (with_reducible refine b_eq ?_ ?_ <;> intro hc hcb) | (with_reducible refine b_ne ?_ ?_ <;> intro hc hcb) | (with_reducible refine b_neq ?_ ?_ <;> intro hc hcb) | (with_reducible refine b_not ?_ ?_ <;> intro hc hcb) | (with_reducible refine b_intro ?_ ?_ <;> intro hcb) | (with_reducible first | refine ewp_cond ?_ | refine eops_if ?_ | refine ewp_block ?_ | refine ewp_exit ?_ | refine ewp_ret ?_ | refine ewp_skip ?_ | refine ewp_loop ?_ | refine hget_a0 ?_ | refine hget_b ?_ | refine hget_a ?_ | refine hput_a0 ?_ | refine hput_b ?_ | refine hput_a ?_ | refine hget_s0 ?_ | refine hget_s ?_ | refine hput_s0 ?_ | refine hput_s ?_ | refine halloc1 ?_ | refine halloc2 ?_ | refine halloc3 ?_ | refine halloc4 ?_ | refine halloc5 ?_ | refine halloc6 ?_ | refine halloc7 ?_ | refine halloc8 ?_ | refine halloc_b2 ?_ | refine halloc_b1 ?_ | refine halloc_s0 ?_ | refine halloc_h ?_ | refine ewp_range ?_ | refine ewp_draw ?_ | refine edraw_nil ?_ | refine edraw_if ?_ | refine mget_cons ?_) | with_reducible refine mget_nil ?_) | ((conv => whnf); with_reducible refine eget_strs' hsi ?_))
        all_goals (conv => whnf)
        all_goals first
          | (refine LI.next' (i + 1) ⟨hlt, fun j t hj hjt => ?_⟩ (by omega) (by simp only [hw]; exact SEnt.keep [2, 5])
             rcases Nat.lt_or_ge j i with hji | hji
             · exact hallr j t hji hjt
             · have : j = i := by omega
               subst this
               rw [hsi] at hjt; cases hjt
               omega)
          | (refine done_here ?_
             refine ret_of hQ (congrArg AV.bool ?_)
             symm
             have hf : (Ob.refl ⟨nm, k, x, y, some rs, some ts⟩).all (fun s => Nat.ble s.length 300) = false := by
               rw [List.all_eq_false]
               exact ⟨ss, List.mem_of_getElem? hsi, by simp only [Nat.ble_eq]; omega⟩
             unfold Ob.fewO
             rw [hf]; simp)
      have : i = rs.length := by omega
      subst this
      have hd : decide (((rs.length : Nat) : Int) < (rs.map AV.str).length) = false := by simp
      have hfr : (Ob.refl ⟨nm, k, x, y, some rs, some ts⟩).all (fun s => Nat.ble s.length 300) = true := by
        rw [List.all_eq_true]
        intro t ht
        obtain ⟨j, hj⟩ := mem_get ht
        simp only [Nat.ble_eq]
        exact hallr j t (List.getElem?_eq_some_iff.1 hj).1 hj
      clear hallr hlt hd hi
      have hd : decide (((rs.length : Nat) : Int) < (rs.map AV.str).length) = false := by simp
      repeat' ((conv => whnf); first | (with_reducible first | refine eops_one ?_ | refine eops_nil ?_ | refine ewp_seq ?_ | refine ewp_region ?_) | ((with_reducible refine And.intro ?_ ?_); · (first | rfl | assumption | omega | (simp; omega) | (simp [AV.cells]; done))) | (with_reducible first | refine b_T ?_ | refine b_F ?_ | refine b_true (by assumption) ?_ | refine b_false (by assumption) ?_) | ((with_reducible refine b_true ?_ ?_); (· (decide))) | ((with_reducible refine b_false ?_ ?_); (· (decide))) | (with_reducible refine b_dec ?_ ?_ <;> intro hc hcb) | (with_reducible refine b_eq ?_ ?_ <;> intro hc hcb) | (with_reducible refine b_ne ?_ ?_ <;> intro hc hcb) | (with_reducible refine b_neq ?_ ?_ <;> intro hc hcb) | (with_reducible refine b_not ?_ ?_ <;> intro hc hcb) | (with_reducible refine b_intro ?_ ?_ <;> intro hcb) | (with_reducible first | refine ewp_cond ?_ | refine eops_if ?_ | refine ewp_block ?_ | refine ewp_exit ?_ | refine ewp_ret ?_ | refine ewp_skip ?_ | refine ewp_loop ?_ | refine hget_a0 ?_ | refine hget_b ?_ | refine hget_a ?_ | refine hput_a0 ?_ | refine hput_b ?_ | refine hput_a ?_ | refine hget_s0 ?_ | refine hget_s ?_ | refine hput_s0 ?_ | refine hput_s ?_ | refine halloc1 ?_ | refine halloc2 ?_ | refine halloc3 ?_ | refine halloc4 ?_ | refine halloc5 ?_ | refine halloc6 ?_ | refine halloc7 ?_ | refine halloc8 ?_ | refine halloc_b2 ?_ | refine halloc_b1 ?_ | refine halloc_s0 ?_ | refine halloc_h ?_ | refine ewp_range ?_ | refine ewp_draw ?_ | refine edraw_nil ?_ | refine edraw_if ?_ | refine mget_cons ?_) | with_reducible refine mget_nil ?_)
      all_goals (try (conv => whnf))
      refine LoopP.of' (fun i : Nat => i ≤ ts.length ∧ ∀ (j : Nat) (t : List UInt8 × List UInt8), j < i → ts[j]? = some t → t.1.length + t.2.length ≤ 600) (fun i => [(2, .lptr (.agg [.str nm, .int .i64 k, .int .i64 x, .int .i64 y, strsA (some rs), tagsA (some ts)]) 0), (6, .int .i64 i)]) (fun i => h) (fun i => ts.length - i) 0 ⟨by simp, by simp⟩ (SEnt.keep [2, 6]) ?_
      rintro i ⟨hi, hall⟩
      have hlt2 : ts.length ≤ 65 := by simp only [List.length_map] at *; omega
      by_cases hlt : i < ts.length
      · have hd : decide ((i : Int) < (ts.map tagA).length) = true := by simp; omega
        have hw := i64_succ (i := i) (by omega)
        obtain ⟨tt, hti⟩ : ∃ tt, ts[i]? = some tt := ⟨ts[i], by simp [hlt]⟩
        have hb := hbound tt (List.mem_of_getElem? hti)
        have hadd : IntKind.i64.wrap ((tt.1.length : Int) + tt.2.length) = ((tt.1.length + tt.2.length : Nat) : Int) := by rw [wrap_i64 (by omega) (by omega)]; omega
        repeat' (first | ((conv => whnf); first | with_reducible refine eget_tags' hti ?_ | (with_reducible first | refine eops_one ?_ | refine eops_nil ?_ | refine ewp_seq ?_ | refine ewp_region ?_) | ((with_reducible refine And.intro ?_ ?_); · (first | rfl | assumption | omega | (simp; omega) | (simp [AV.cells]; done))) | (with_reducible first | refine b_T ?_ | refine b_F ?_ | refine b_true (by assumption) ?_ | refine b_false (by assumption) ?_) | ((with_reducible refine b_true ?_ ?_); (· (decide))) | ((with_reducible refine b_false ?_ ?_); (· (decide))) | (with_reducible refine b_dec ?_ ?_ <;> intro hc hcb) | (with_reducible refine b_eq ?_ ?_ <;> intro hc hcb) | (with_reducible refine b_ne ?_ ?_ <;> intro hc hcb) | (with_reducible refine b_neq ?_ ?_ <;> intro hc hcb) | (with_reducible refine b_not ?_ ?_ <;> intro hc hcb) | (with_reducible refine b_intro ?_ ?_ <;> intro hcb) | (with_reducible first | refine ewp_cond ?_ | refine eops_if ?_ | refine ewp_block ?_ | refine ewp_exit ?_ | refine ewp_ret ?_ | refine ewp_skip ?_ | refine ewp_loop ?_ | refine hget_a0 ?_ | refine hget_b ?_ | refine hget_a ?_ | refine hput_a0 ?_ | refine hput_b ?_ | refine hput_a ?_ | refine hget_s0 ?_ | refine hget_s ?_ | refine hput_s0 ?_ | refine hput_s ?_ | refine halloc1 ?_ | refine halloc2 ?_ | refine halloc3 ?_ | refine halloc4 ?_ | refine halloc5 ?_ | refine halloc6 ?_ | refine halloc7 ?_ | refine halloc8 ?_ | refine halloc_b2 ?_ | refine halloc_b1 ?_ | refine halloc_s0 ?_ | refine halloc_h ?_ | refine ewp_range ?_ | refine ewp_draw ?_ | refine edraw_nil ?_ | refine edraw_if ?_ | refine mget_cons ?_) | with_reducible refine mget_nil ?_) | ((conv => whnf); (with_reducible apply edraw_read'); (· (repeat' (first | exact True.intro | exact rfl | ((conv => whnf); first | with_reducible refine eget_tags' hti ?_ | (with_reducible first | refine eops_one ?_ | refine eops_nil ?_ | refine ewp_seq ?_ | refine ewp_region ?_) | ((with_reducible refine And.intro ?_ ?_); · (first | rfl | assumption | omega | (simp; omega) | (simp [AV.cells]; done))) | (with_reducible first | refine b_T ?_ | refine b_F ?_ | refine b_true (by assumption) ?_ | refine b_false (by assumption) ?_) | ((with_reducible refine b_true ?_ ?_); (· (decide))) | ((with_reducible refine b_false ?_ ?_); (· (decide))) | (with_reducible refine b_dec ?_ ?_ <;> intro hc hcb) | (with_reducible refine b_eq ?_ ?_ <;> intro hc hcb) | (with_reducible refine b_ne ?_ ?_ <;> intro hc hcb) | (with_reducible refine b_neq ?_ ?_ <;> intro hc hcb) | (with_reducible refine b_not ?_ ?_ <;> intro hc hcb) | (with_reducible refine b_intro ?_ ?_ <;> intro hcb) | (with_reducible first | refine ewp_cond ?_ | refine eops_if ?_ | refine ewp_block ?_ | refine ewp_exit ?_ | refine ewp_ret ?_ | refine ewp_skip ?_ | refine ewp_loop ?_ | refine hget_a0 ?_ | refine hget_b ?_ | refine hget_a ?_ | refine hput_a0 ?_ | refine hput_b ?_ | refine hput_a ?_ | refine hget_s0 ?_ | refine hget_s ?_ | refine hput_s0 ?_ | refine hput_s ?_ | refine halloc1 ?_ | refine halloc2 ?_ | refine halloc3 ?_ | refine halloc4 ?_ | refine halloc5 ?_ | refine halloc6 ?_ | refine halloc7 ?_ | refine halloc8 ?_ | refine halloc_b2 ?_ | refine halloc_b1 ?_ | refine halloc_s0 ?_ | refine halloc_h ?_ | refine ewp_range ?_ | refine ewp_draw ?_ | refine edraw_nil ?_ | refine edraw_if ?_ | refine mget_cons ?_) | with_reducible refine mget_nil ?_) | ((conv => whnf); refine And.intro ?_ ?_)))); (· (repeat' (first | exact True.intro | exact rfl | ((conv => whnf); first | with_reducible refine eget_tags' hti ?_ | (with_reducible first | refine eops_one ?_ | refine eops_nil ?_ | refine ewp_seq ?_ | refine ewp_region ?_) | ((with_reducible refine And.intro ?_ ?_); · (first | rfl | assumption | omega | (simp; omega) | (simp [AV.cells]; done))) | (with_reducible first | refine b_T ?_ | refine b_F ?_ | refine b_true (by assumption) ?_ | refine b_false (by assumption) ?_) | ((with_reducible refine b_true ?_ ?_); (· (decide))) | ((with_reducible refine b_false ?_ ?_); (· (decide))) | (with_reducible refine b_dec ?_ ?_ <;> intro hc hcb) | (with_reducible refine b_eq ?_ ?_ <;> intro hc hcb) | (with_reducible refine b_ne ?_ ?_ <;> intro hc hcb) | (with_reducible refine b_neq ?_ ?_ <;> intro hc hcb) | (with_reducible refine b_not ?_ ?_ <;> intro hc hcb) | (with_reducible refine b_intro ?_ ?_ <;> intro hcb) | (with_reducible first | refine ewp_cond ?_ | refine eops_if ?_ | refine ewp_block ?_ | refine ewp_exit ?_ | refine ewp_ret ?_ | refine ewp_skip ?_ | refine ewp_loop ?_ | refine hget_a0 ?_ | refine hget_b ?_ | refine hget_a ?_ | refine hput_a0 ?_ | refine hput_b ?_ | refine hput_a ?_ | refine hget_s0 ?_ | refine hget_s ?_ | refine hput_s0 ?_ | refine hput_s ?_ | refine halloc1 ?_ | refine halloc2 ?_ | refine halloc3 ?_ | refine halloc4 ?_ | refine halloc5 ?_ | refine halloc6 ?_ | refine halloc7 ?_ | refine halloc8 ?_ | refine halloc_b2 ?_ | refine halloc_b1 ?_ | refine halloc_s0 ?_ | refine halloc_h ?_ | refine ewp_range ?_ | refine ewp_draw ?_ | refine edraw_nil ?_ | refine edraw_if ?_ | refine mget_cons ?_) | with_reducible refine mget_nil ?_) | ((conv => whnf); refine And.intro ?_ ?_))))) | ((conv => whnf); (with_reducible apply edraw_write'); (· (repeat' (first | exact True.intro | exact rfl | ((conv => whnf); first | with_reducible refine eget_tags' hti ?_ | (with_reducible first | refine eops_one ?_ | refine eops_nil ?_ | refine ewp_seq ?_ | refine ewp_region ?_) | ((with_reducible refine And.intro ?_ ?_); · (first | rfl | assumption | omega | (simp; omega) | (simp [AV.cells]; done))) | (with_reducible first | refine b_T ?_ | refine b_F ?_ | refine b_true (by assumption) ?_ | refine b_false (by assumption) ?_) | ((with_reducible refine b_true ?_ ?_); (· (decide))) | ((with_reducible refine b_false ?_ ?_); (· (decide))) | (with_reducible refine b_dec ?_ ?_ <;> intro hc hcb) | (with_reducible refine b_eq ?_ ?_ <;> intro hc hcb) | (with_reducible refine b_ne ?_ ?_ <;> intro hc hcb) | (with_reducible refine b_neq ?_ ?_ <;> intro hc hcb) | (with_reducible refine b_not ?_ ?_ <;> intro hc hcb) | (with_reducible refine b_intro ?_ ?_ <;> intro hcb) | (with_reducible first | refine ewp_cond ?_ | refine eops_if ?_ | refine ewp_block ?_ | refine ewp_exit ?_ | refine ewp_ret ?_ | refine ewp_skip ?_ | refine ewp_loop ?_ | refine hget_a0 ?_ | refine hget_b ?_ | refine hget_a ?_ | refine hput_a0 ?_ | refine hput_b ?_ | refine hput_a ?_ | refine hget_s0 ?_ | refine hget_s ?_ | refine hput_s0 ?_ | refine hput_s ?_ | refine halloc1 ?_ | refine halloc2 ?_ | refine halloc3 ?_ | refine halloc4 ?_ | refine halloc5 ?_ | refine halloc6 ?_ | refine halloc7 ?_ | refine halloc8 ?_ | refine halloc_b2 ?_ | refine halloc_b1 ?_ | refine halloc_s0 ?_ | refine halloc_h ?_ | refine ewp_range ?_ | refine ewp_draw ?_ | refine edraw_nil ?_ | refine edraw_if ?_ | refine mget_cons ?_) | with_reducible refine mget_nil ?_) | ((conv => whnf); refine And.intro ?_ ?_)))); (· (repeat' (first | exact True.intro | exact rfl | ((conv => whnf); first | with_reducible refine eget_tags' hti ?_ | (with_reducible first | refine eops_one ?_ | refine eops_nil ?_ | refine ewp_seq ?_ | refine ewp_region ?_) | ((with_reducible refine And.intro ?_ ?_); · (first | rfl | assumption | omega | (simp; omega) | (simp [AV.cells]; done))) | (with_reducible first | refine b_T ?_ | refine b_F ?_ | refine b_true (by assumption) ?_ | refine b_false (by assumption) ?_) | ((with_reducible refine b_true ?_ ?_); (· (decide))) | ((with_reducible refine b_false ?_ ?_); (· (decide))) | (with_reducible refine b_dec ?_ ?_ <;> intro hc hcb) | (with_reducible refine b_eq ?_ ?_ <;> intro hc hcb) | (with_reducible refine b_ne ?_ ?_ <;> intro hc hcb) | (with_reducible refine b_neq ?_ ?_ <;> intro hc hcb) | (with_reducible refine b_not ?_ ?_ <;> intro hc hcb) | (with_reducible refine b_intro ?_ ?_ <;> intro hcb) | (with_reducible first | refine ewp_cond ?_ | refine eops_if ?_ | refine ewp_block ?_ | refine ewp_exit ?_ | refine ewp_ret ?_ | refine ewp_skip ?_ | refine ewp_loop ?_ | refine hget_a0 ?_ | refine hget_b ?_ | refine hget_a ?_ | refine hput_a0 ?_ | refine hput_b ?_ | refine hput_a ?_ | refine hget_s0 ?_ | refine hget_s ?_ | refine hput_s0 ?_ | refine hput_s ?_ | refine halloc1 ?_ | refine halloc2 ?_ | refine halloc3 ?_ | refine halloc4 ?_ | refine halloc5 ?_ | refine halloc6 ?_ | refine halloc7 ?_ | refine halloc8 ?_ | refine halloc_b2 ?_ | refine halloc_b1 ?_ | refine halloc_s0 ?_ | refine halloc_h ?_ | refine ewp_range ?_ | refine ewp_draw ?_ | refine edraw_nil ?_ | refine edraw_if ?_ | refine mget_cons ?_) | with_reducible refine mget_nil ?_) | ((conv => whnf); refine And.intro ?_ ?_))))) | simp only [hadd])
        all_goals (conv => whnf)
        all_goals first
          | (refine LI.next' (i + 1) ⟨hlt, fun j t hj hjt => ?_⟩ (by omega) (by simp only [hw]; exact SEnt.keep [2, 6])
             rcases Nat.lt_or_ge j i with hji | hji
             · exact hall j t hji hjt
             · have : j = i := by omega
               subst this
               rw [hti] at hjt; cases hjt
               omega)
          | (refine done_here ?_
             refine ret_of hQ (congrArg AV.bool ?_)
             symm
             have hf : (Ob.tagl ⟨nm, k, x, y, some rs, some ts⟩).all (fun t => Nat.ble (t.1.length + t.2.length) 600) = false := by
               rw [List.all_eq_false]
               exact ⟨tt, List.mem_of_getElem? hti, by simp only [Nat.ble_eq]; omega⟩
             unfold Ob.fewO
             rw [hf]; simp)
      · have : i = ts.length := by omega
        subst this
        have hd : decide (((ts.length : Nat) : Int) < (ts.map tagA).length) = false := by simp
        repeat' ((conv => whnf); first | (with_reducible first | refine eops_one ?_ | refine eops_nil ?_ | refine ewp_seq ?_ | refine ewp_region ?_) | ((with_reducible refine And.intro ?_ ?_); · (first | rfl | assumption | omega | (simp; omega) | (simp [AV.cells]; done))) | (with_reducible first | refine b_T ?_ | refine b_F ?_ | refine b_true (by assumption) ?_ | refine b_false (by assumption) ?_) | ((with_reducible refine b_true ?_ ?_); (· (decide))) | ((with_reducible refine b_false ?_ ?_); (· (decide))) | (with_reducible refine b_dec ?_ ?_ <;> intro hc hcb) | (with_reducible refine b_eq ?_ ?_ <;> intro hc hcb) | (with_reducible refine b_ne ?_ ?_ <;> intro hc hcb) | (with_reducible refine b_neq ?_ ?_ <;> intro hc hcb) | (with_reducible refine b_not ?_ ?_ <;> intro hc hcb) | (with_reducible refine b_intro ?_ ?_ <;> intro hcb) | (with_reducible first | refine ewp_cond ?_ | refine eops_if ?_ | refine ewp_block ?_ | refine ewp_exit ?_ | refine ewp_ret ?_ | refine ewp_skip ?_ | refine ewp_loop ?_ | refine hget_a0 ?_ | refine hget_b ?_ | refine hget_a ?_ | refine hput_a0 ?_ | refine hput_b ?_ | refine hput_a ?_ | refine hget_s0 ?_ | refine hget_s ?_ | refine hput_s0 ?_ | refine hput_s ?_ | refine halloc1 ?_ | refine halloc2 ?_ | refine halloc3 ?_ | refine halloc4 ?_ | refine halloc5 ?_ | refine halloc6 ?_ | refine halloc7 ?_ | refine halloc8 ?_ | refine halloc_b2 ?_ | refine halloc_b1 ?_ | refine halloc_s0 ?_ | refine halloc_h ?_ | refine ewp_range ?_ | refine ewp_draw ?_ | refine edraw_nil ?_ | refine edraw_if ?_ | refine mget_cons ?_) | with_reducible refine mget_nil ?_)
        all_goals (conv => whnf)
        refine done_here ?_
        refine ret_of hQ (congrArg AV.bool ?_)
        have hf : (Ob.tagl ⟨nm, k, x, y, some rs, some ts⟩).all (fun t => Nat.ble (t.1.length + t.2.length) 600) = true := by
          rw [List.all_eq_true]
          intro t ht
          obtain ⟨j, hj⟩ := mem_get ht
          simp only [Nat.ble_eq]
          exact hall j t (List.getElem?_eq_some_iff.1 hj).1 hj
        unfold Ob.fewO
        rw [hf]
        simp_all [Ob.refl, Ob.tagl, Nat.ble_eq, List.all_eq_true]
        all_goals (try omega)
end Go.QZ
end
section
namespace Go.QZ
open Go Go.Abs Go.Proofs
variable {Φ : World → Prop}
set_option maxRecDepth 100000
def puQ : FuncId → List AV → Option AV
  | 36, [.str s] => bif Nat.ble s.length 9223372036854775807 then some (.bool (nameB s)) else none
  | 61, [] => some (.agg clsL)
  | 89, [.str s, .int .u8 c] => some (.int .i64 (Lib.indexByte s c.toNat.toUInt8))
  | 70, [.str s] => bif Nat.ble s.length 140737488355328 then some (unqA s) else none
  | 16, [.str s] => bif Nat.ble s.length 70368744177000 then some (.str (quoS s)) else none
  | 31, [] => some (.lst 1 [.str [97, 110, 121], .str [110, 111, 100, 101], .str [119, 97, 121], .str [97, 114, 101, 97], .str [114, 111, 117, 116, 101], .str [116, 117, 114, 110]])
  | 30, [.int .i64 (.ofNat n)] => bif Nat.blt n 100 then some (.str (dec2 n)) else none
  | 78, [.str s] => bif Nat.ble s.length 18 then (match Lib.atoi s with
    | some n => some (.tup [.int .i64 n, .nili])
    | none => none) else none
  | 76, [.str s, .fn 77 [] []] => some (.bool (!(s.all fun b => digN b.toNat)))
  | _, _ => none
theorem puQ_ok (f : FuncId) (args : List AV) (v : AV) (hv : puQ f args = some v) (h : AHeap) : S Tryz.prog Φ f args h fun r h' => r = .ret v ∧ h' = h := by
  have bb : ∀ {c : Bool} {x : AV}, (bif c then some x else none) = some v → c = true ∧ x = v := by
    intro c x hx; cases c with
    | false => cases hx
    | true => cases hx; exact ⟨rfl, rfl⟩
  unfold puQ at hv
  split at hv
  · obtain ⟨h1, rfl⟩ := bb hv; exact name_S (Nat.le_of_ble_eq_true h1) ⟨rfl, rfl⟩
  · cases hv; exact classes_S ⟨rfl, rfl⟩
  · cases hv; exact indexByte_S ⟨rfl, rfl⟩
  · obtain ⟨h1, rfl⟩ := bb hv; exact unquoted_S (Nat.le_of_ble_eq_true h1) ⟨rfl, rfl⟩
  · obtain ⟨h1, rfl⟩ := bb hv; exact quote_S (Nat.le_of_ble_eq_true h1) ⟨rfl, rfl⟩
  · cases hv; exact words_S ⟨rfl, rfl⟩
  · rename_i n
    obtain ⟨h1, rfl⟩ := bb hv
    have hn : n < 100 := by rw [CH.blt] at h1; simpa using h1
    have := itoa_small_S (Φ := Φ) (h := h) (n := n) (Q := fun r h' => r = .ret (.str (dec2 n)) ∧ h' = h) hn ⟨by rw [dec2_eq hn], rfl⟩
    exact this
  · rename_i s
    cases hb : Nat.ble s.length 18 with
    | false => rw [hb] at hv; cases hv
    | true =>
      rw [hb] at hv
      simp only [cond_true] at hv
      split at hv
      · rename_i n hn; cases hv; exact atoi_ok_S (Nat.le_of_ble_eq_true hb) hn ⟨rfl, rfl⟩
      · cases hv
  · cases hv; exact digits_S ⟨rfl, rfl⟩
  · cases hv
def extQ : FuncId → List AV → CH → Option Out
  | 33, [x, .str sep], H => match vstrs H x with
    | some l => bif Nat.ble l.length 140737488355328 && Nat.ble (Lib.join l sep).length 140737488355328 then some (.ok (.str (Lib.join l sep)) H) else none
    | none => none
  | _, _, _ => none
theorem extQ_ok (f : FuncId) (args : List AV) (H : CH) (o : Out) (he : extQ f args H = some o) (hw : H.wf) : COk Tryz.prog Φ f args H o := by
  unfold extQ at he
  split at he
  · rename_i x sep
    split at he
    · rename_i l hl
      cases hb : (Nat.ble l.length 140737488355328 && Nat.ble (Lib.join l sep).length 140737488355328) with
      | false => rw [hb] at he; cases he
      | true =>
        rw [hb] at he; cases he
        simp only [Bool.and_eq_true, Nat.ble_eq] at hb
        exact ⟨hw, Mono.refl _, join_S (vstrs_sound hw hl) hb.1 hb.2 ⟨rfl, rfl⟩⟩
    · cases he
  · cases he
def freshQ (f : FuncId) (args : List AV) : Bool := match f, args with
  | 79, [_, .fn 75 _ _] | 79, [_, .fn 74 _ _] => true
  | _, _ => [12, 22, 28, 34, 35, 48, 55, 56, 60, 88, 121].any (Nat.beq f)
end Go.QZ
end
section
namespace Go.QZ
open Go Go.Abs Go.Proofs
variable {Φ : World → Prop}
set_option maxRecDepth 100000
theorem head_run : (Go.Abs.run extQ puQ freshQ (tblOf evL) 100000 60 (.call 9 []) ⟨0, []⟩).isRet (.bool true) = true := by kernel_rfl
theorem head_S {h : AHeap} {Q : AEnd → AHeap → Prop} (hQ : Q (.ret (.bool true)) h) : S Tryz.prog Φ 9 [] h Q := by
  refine S.more (Φ := fun _ => True) (fun _ _ => trivial) ?_
  refine (S_of_run (v := .bool true) True.later extQ_ok puQ_ok (tblOf_ok evL_ok) 60 head_run rfl rfl h).mono ?_
  rintro r h' ⟨rfl, rfl⟩
  exact hQ
end Go.QZ
end
section
namespace Go.QZ
open Go Go.Abs Go.Proofs
variable {Φ : World → Prop}
set_option maxRecDepth 100000
def Cnd.of (op : Int) (l : List Cnd) : Cnd := .els op [] [] 0 l
theorem stoK_cl {c : Cnd} {K : Prop} (h : K) : stoK (.agg c.cl) 5 K := by
  refine stoK_of rfl ?_ h
  cases c <;> simp [AV.cells, Cnd.cl]
theorem stoK_ob {o : Ob} {K : Prop} (h : K) : stoK (.agg o.cl) 6 K := by
  refine stoK_of rfl ?_ h
  rw [Ob.cl_eq]; rfl
theorem fewC_parts {c : Cnd} (h : c.fewC = true) : c.cnt ≤ 80 ∧ c.shortC = true := by
  unfold Cnd.fewC at h
  simpa using h
theorem fewO_parts {o : Ob} {m : Nat} (h : o.fewO m = true) : o.tagl.length ≤ 65 ∧ ∀ t ∈ o.tagl, t.2.length ≤ 281474976710656 := by
  unfold Ob.fewO at h
  simp only [Bool.and_eq_true, Nat.ble_eq, List.all_eq_true] at h
  exact ⟨h.1.1.2, fun t ht => by have := h.2 t ht; omega⟩
end Go.QZ
end
section
namespace Go.QZ
open Go Go.Abs Go.Proofs
variable {Φ : World → Prop}
set_option maxRecDepth 100000
mutual
def Cnd.ment (k : List UInt8) : Cnd → Bool
  | .nilk _ key _ _ => key == k
  | .els _ key _ _ l => key == k || Cnd.mentL k l
def Cnd.mentL (k : List UInt8) : List Cnd → Bool
  | [] => false
  | c :: r => c.ment k || Cnd.mentL k r
end
theorem Cnd.mentL_eq (k : List UInt8) : ∀ l : List Cnd, Cnd.mentL k l = l.any fun c => c.ment k
  | [] => by rw [Cnd.mentL]; rfl
  | c :: r => by rw [Cnd.mentL, Cnd.mentL_eq k r]; rfl
theorem Cnd.ment_eq (k : List UInt8) (c : Cnd) : c.ment k = (c.key == k || c.kids.any fun c => c.ment k) := by
  cases c <;> simp [Cnd.ment, Cnd.kids, Cnd.key, Cnd.mentL_eq]
theorem mentions_S : ∀ (N : Nat) (c : Cnd) (s : List UInt8) (h : AHeap) (Q : AEnd → AHeap → Prop), c.cnt ≤ N → N ≤ 9223372036854775807 → Q (.ret (.bool (c.ment s))) h → S Tryz.prog Φ 23 [.agg c.cl, .str s] h Q
  | 0, c, s, h, Q, hc, _, _ => by have := c.cnt_pos; omega
  | N + 1, c, s, h, Q, hc, hN, hQ => by
    have hcnt := c.cnt_eq
    have hme := c.ment_eq s
    refine go23 (by simp) fun hlow => ?_
    unfold ac23
    cases c with
    | nilk op k v n =>
      simp only [Cnd.kids, Cnd.key, List.any_nil, Bool.or_false] at hme
      cases hk : (k == s) with
      | true =>
        repeat' ((conv => whnf); first | (with_reducible first | refine eops_one ?_ | refine eops_nil ?_ | refine ewp_seq ?_ | refine ewp_region ?_) | ((with_reducible refine And.intro ?_ ?_); · (first | rfl | assumption | omega | (simp; omega) | (simp [AV.cells]; done))) | (with_reducible first | refine b_T ?_ | refine b_F ?_ | refine b_true (by assumption) ?_ | refine b_false (by assumption) ?_) | ((with_reducible refine b_true ?_ ?_); (· (decide))) | ((with_reducible refine b_false ?_ ?_); (· (decide))) | (with_reducible refine b_dec ?_ ?_ <;> intro hc hcb) | (with_reducible refine b_eq ?_ ?_ <;> intro hc hcb) | (with_reducible refine b_ne ?_ ?_ <;> intro hc hcb) | (with_reducible refine b_neq ?_ ?_ <;> intro hc hcb) | (with_reducible refine b_not ?_ ?_ <;> intro hc hcb) | (with_reducible refine b_intro ?_ ?_ <;> intro hcb) | (with_reducible first | refine ewp_cond ?_ | refine eops_if ?_ | refine ewp_block ?_ | refine ewp_exit ?_ | refine ewp_ret ?_ | refine ewp_skip ?_ | refine ewp_loop ?_ | refine hget_a0 ?_ | refine hget_b ?_ | refine hget_a ?_ | refine hput_a0 ?_ | refine hput_b ?_ | refine hput_a ?_ | refine hget_s0 ?_ | refine hget_s ?_ | refine hput_s0 ?_ | refine hput_s ?_ | refine halloc1 ?_ | refine halloc2 ?_ | refine halloc3 ?_ | refine halloc4 ?_ | refine halloc5 ?_ | refine halloc6 ?_ | refine halloc7 ?_ | refine halloc8 ?_ | refine halloc_b2 ?_ | refine halloc_b1 ?_ | refine halloc_s0 ?_ | refine halloc_h ?_ | refine ewp_range ?_ | refine ewp_draw ?_ | refine edraw_nil ?_ | refine edraw_if ?_ | refine mget_cons ?_) | with_reducible refine mget_nil ?_)
        all_goals (conv => whnf)
        exact done_here (ret_of hQ (congrArg AV.bool (by rw [hme, hk])))
      | false =>
        repeat' ((conv => whnf); first | (with_reducible first | refine eops_one ?_ | refine eops_nil ?_ | refine ewp_seq ?_ | refine ewp_region ?_) | ((with_reducible refine And.intro ?_ ?_); · (first | rfl | assumption | omega | (simp; omega) | (simp [AV.cells]; done))) | (with_reducible first | refine b_T ?_ | refine b_F ?_ | refine b_true (by assumption) ?_ | refine b_false (by assumption) ?_) | ((with_reducible refine b_true ?_ ?_); (· (decide))) | ((with_reducible refine b_false ?_ ?_); (· (decide))) | (with_reducible refine b_dec ?_ ?_ <;> intro hc hcb) | (with_reducible refine b_eq ?_ ?_ <;> intro hc hcb) | (with_reducible refine b_ne ?_ ?_ <;> intro hc hcb) | (with_reducible refine b_neq ?_ ?_ <;> intro hc hcb) | (with_reducible refine b_not ?_ ?_ <;> intro hc hcb) | (with_reducible refine b_intro ?_ ?_ <;> intro hcb) | (with_reducible first | refine ewp_cond ?_ | refine eops_if ?_ | refine ewp_block ?_ | refine ewp_exit ?_ | refine ewp_ret ?_ | refine ewp_skip ?_ | refine ewp_loop ?_ | refine hget_a0 ?_ | refine hget_b ?_ | refine hget_a ?_ | refine hput_a0 ?_ | refine hput_b ?_ | refine hput_a ?_ | refine hget_s0 ?_ | refine hget_s ?_ | refine hput_s0 ?_ | refine hput_s ?_ | refine halloc1 ?_ | refine halloc2 ?_ | refine halloc3 ?_ | refine halloc4 ?_ | refine halloc5 ?_ | refine halloc6 ?_ | refine halloc7 ?_ | refine halloc8 ?_ | refine halloc_b2 ?_ | refine halloc_b1 ?_ | refine halloc_s0 ?_ | refine halloc_h ?_ | refine ewp_range ?_ | refine ewp_draw ?_ | refine edraw_nil ?_ | refine edraw_if ?_ | refine mget_cons ?_) | with_reducible refine mget_nil ?_)
        refine LoopP.of' (fun i : Nat => i = 0) (fun i => [(1, .str s), (2, .lptr (.agg (Cnd.cl (.nilk op k v n))) 0), (5, .int .i64 i)]) (fun i => h) (fun i => 0) 0 rfl (SEnt.keep [1, 2, 5]) ?_
        rintro i rfl
        repeat' ((conv => whnf); first | (with_reducible first | refine eops_one ?_ | refine eops_nil ?_ | refine ewp_seq ?_ | refine ewp_region ?_) | ((with_reducible refine And.intro ?_ ?_); · (first | rfl | assumption | omega | (simp; omega) | (simp [AV.cells]; done))) | (with_reducible first | refine b_T ?_ | refine b_F ?_ | refine b_true (by assumption) ?_ | refine b_false (by assumption) ?_) | ((with_reducible refine b_true ?_ ?_); (· (decide))) | ((with_reducible refine b_false ?_ ?_); (· (decide))) | (with_reducible refine b_dec ?_ ?_ <;> intro hc hcb) | (with_reducible refine b_eq ?_ ?_ <;> intro hc hcb) | (with_reducible refine b_ne ?_ ?_ <;> intro hc hcb) | (with_reducible refine b_neq ?_ ?_ <;> intro hc hcb) | (with_reducible refine b_not ?_ ?_ <;> intro hc hcb) | (with_reducible refine b_intro ?_ ?_ <;> intro hcb) | (with_reducible first | refine ewp_cond ?_ | refine eops_if ?_ | refine ewp_block ?_ | refine ewp_exit ?_ | refine ewp_ret ?_ | refine ewp_skip ?_ | refine ewp_loop ?_ | refine hget_a0 ?_ | refine hget_b ?_ | refine hget_a ?_ | refine hput_a0 ?_ | refine hput_b ?_ | refine hput_a ?_ | refine hget_s0 ?_ | refine hget_s ?_ | refine hput_s0 ?_ | refine hput_s ?_ | refine halloc1 ?_ | refine halloc2 ?_ | refine halloc3 ?_ | refine halloc4 ?_ | refine halloc5 ?_ | refine halloc6 ?_ | refine halloc7 ?_ | refine halloc8 ?_ | refine halloc_b2 ?_ | refine halloc_b1 ?_ | refine halloc_s0 ?_ | refine halloc_h ?_ | refine ewp_range ?_ | refine ewp_draw ?_ | refine edraw_nil ?_ | refine edraw_if ?_ | refine mget_cons ?_) | with_reducible refine mget_nil ?_)
        all_goals (conv => whnf)
        exact done_here (ret_of hQ (congrArg AV.bool (by rw [hme, hk])))
    | els op k v n ks =>
      simp only [Cnd.kids, Cnd.key] at hme hcnt
      have hge := Cnd.cntL_ge (l := ks) (i := ks.length) (Nat.le_refl _)
      rw [List.take_length] at hge
      cases hk : (k == s) with
      | true =>
        repeat' ((conv => whnf); first | (with_reducible first | refine eops_one ?_ | refine eops_nil ?_ | refine ewp_seq ?_ | refine ewp_region ?_) | ((with_reducible refine And.intro ?_ ?_); · (first | rfl | assumption | omega | (simp; omega) | (simp [AV.cells]; done))) | (with_reducible first | refine b_T ?_ | refine b_F ?_ | refine b_true (by assumption) ?_ | refine b_false (by assumption) ?_) | ((with_reducible refine b_true ?_ ?_); (· (decide))) | ((with_reducible refine b_false ?_ ?_); (· (decide))) | (with_reducible refine b_dec ?_ ?_ <;> intro hc hcb) | (with_reducible refine b_eq ?_ ?_ <;> intro hc hcb) | (with_reducible refine b_ne ?_ ?_ <;> intro hc hcb) | (with_reducible refine b_neq ?_ ?_ <;> intro hc hcb) | (with_reducible refine b_not ?_ ?_ <;> intro hc hcb) | (with_reducible refine b_intro ?_ ?_ <;> intro hcb) | (with_reducible first | refine ewp_cond ?_ | refine eops_if ?_ | refine ewp_block ?_ | refine ewp_exit ?_ | refine ewp_ret ?_ | refine ewp_skip ?_ | refine ewp_loop ?_ | refine hget_a0 ?_ | refine hget_b ?_ | refine hget_a ?_ | refine hput_a0 ?_ | refine hput_b ?_ | refine hput_a ?_ | refine hget_s0 ?_ | refine hget_s ?_ | refine hput_s0 ?_ | refine hput_s ?_ | refine halloc1 ?_ | refine halloc2 ?_ | refine halloc3 ?_ | refine halloc4 ?_ | refine halloc5 ?_ | refine halloc6 ?_ | refine halloc7 ?_ | refine halloc8 ?_ | refine halloc_b2 ?_ | refine halloc_b1 ?_ | refine halloc_s0 ?_ | refine halloc_h ?_ | refine ewp_range ?_ | refine ewp_draw ?_ | refine edraw_nil ?_ | refine edraw_if ?_ | refine mget_cons ?_) | with_reducible refine mget_nil ?_)
        all_goals (conv => whnf)
        exact done_here (ret_of hQ (congrArg AV.bool (by rw [hme, hk]; rfl)))
      | false =>
        repeat' ((conv => whnf); first | (with_reducible first | refine eops_one ?_ | refine eops_nil ?_ | refine ewp_seq ?_ | refine ewp_region ?_) | ((with_reducible refine And.intro ?_ ?_); · (first | rfl | assumption | omega | (simp; omega) | (simp [AV.cells]; done))) | (with_reducible first | refine b_T ?_ | refine b_F ?_ | refine b_true (by assumption) ?_ | refine b_false (by assumption) ?_) | ((with_reducible refine b_true ?_ ?_); (· (decide))) | ((with_reducible refine b_false ?_ ?_); (· (decide))) | (with_reducible refine b_dec ?_ ?_ <;> intro hc hcb) | (with_reducible refine b_eq ?_ ?_ <;> intro hc hcb) | (with_reducible refine b_ne ?_ ?_ <;> intro hc hcb) | (with_reducible refine b_neq ?_ ?_ <;> intro hc hcb) | (with_reducible refine b_not ?_ ?_ <;> intro hc hcb) | (with_reducible refine b_intro ?_ ?_ <;> intro hcb) | (with_reducible first | refine ewp_cond ?_ | refine eops_if ?_ | refine ewp_block ?_ | refine ewp_exit ?_ | refine ewp_ret ?_ | refine ewp_skip ?_ | refine ewp_loop ?_ | refine hget_a0 ?_ | refine hget_b ?_ | refine hget_a ?_ | refine hput_a0 ?_ | refine hput_b ?_ | refine hput_a ?_ | refine hget_s0 ?_ | refine hget_s ?_ | refine hput_s0 ?_ | refine hput_s ?_ | refine halloc1 ?_ | refine halloc2 ?_ | refine halloc3 ?_ | refine halloc4 ?_ | refine halloc5 ?_ | refine halloc6 ?_ | refine halloc7 ?_ | refine halloc8 ?_ | refine halloc_b2 ?_ | refine halloc_b1 ?_ | refine halloc_s0 ?_ | refine halloc_h ?_ | refine ewp_range ?_ | refine ewp_draw ?_ | refine edraw_nil ?_ | refine edraw_if ?_ | refine mget_cons ?_) | with_reducible refine mget_nil ?_)
        refine LoopP.of' (fun i : Nat => i ≤ ks.length ∧ ∀ (j : Nat) (c : Cnd), j < i → ks[j]? = some c → c.ment s = false) (fun i => [(1, .str s), (2, .lptr (.agg (Cnd.cl (.els op k v n ks))) 0), (5, .int .i64 i)]) (fun i => h) (fun i => ks.length - i) 0 ⟨by omega, fun _ _ h => absurd h (by omega)⟩ (SEnt.keep [1, 2, 5]) ?_
        rintro i ⟨hi, hall⟩
        by_cases hlt : i < ks.length
        · have hd : decide ((i : Int) < (Cnd.cls ks).length) = true := by simp; omega
          have hw := i64_succ (i := i) (by omega)
          have hmem : (ks[i]).cnt ≤ Cnd.cntL ks := Cnd.cntL_mem (List.getElem_mem hlt)
          have hF : ∀ H : AHeap, S Tryz.prog Φ 23 [.agg (ks[i]).cl, .str s] H fun r h' => r = .ret (.bool ((ks[i]).ment s)) ∧ h' = H := fun H => mentions_S N ks[i] s H _ (by omega) (by omega) ⟨rfl, rfl⟩
          cases hm : (ks[i]).ment s with
          | true =>
            rw [hm] at hF
            repeat' (first | ((conv => whnf); first | (with_reducible first | refine eops_one ?_ | refine eops_nil ?_ | refine ewp_seq ?_ | refine ewp_region ?_) | ((with_reducible refine And.intro ?_ ?_); · (first | rfl | assumption | omega | (simp; omega) | (simp [AV.cells]; done))) | (with_reducible first | refine b_T ?_ | refine b_F ?_ | refine b_true (by assumption) ?_ | refine b_false (by assumption) ?_) | ((with_reducible refine b_true ?_ ?_); (· (decide))) | ((with_reducible refine b_false ?_ ?_); (· (decide))) | (with_reducible refine b_dec ?_ ?_ <;> intro hc hcb) | (with_reducible refine b_eq ?_ ?_ <;> intro hc hcb) | (with_reducible refine b_ne ?_ ?_ <;> intro hc hcb) | (with_reducible refine b_neq ?_ ?_ <;> intro hc hcb) | (with_reducible refine b_not ?_ ?_ <;> intro hc hcb) | (with_reducible refine b_intro ?_ ?_ <;> intro hcb) | (with_reducible first | refine ewp_cond ?_ | refine eops_if ?_ | refine ewp_block ?_ | refine ewp_exit ?_ | refine ewp_ret ?_ | refine ewp_skip ?_ | refine ewp_loop ?_ | refine hget_a0 ?_ | refine hget_b ?_ | refine hget_a ?_ | refine hput_a0 ?_ | refine hput_b ?_ | refine hput_a ?_ | refine hget_s0 ?_ | refine hget_s ?_ | refine hput_s0 ?_ | refine hput_s ?_ | refine halloc1 ?_ | refine halloc2 ?_ | refine halloc3 ?_ | refine halloc4 ?_ | refine halloc5 ?_ | refine halloc6 ?_ | refine halloc7 ?_ | refine halloc8 ?_ | refine halloc_b2 ?_ | refine halloc_b1 ?_ | refine halloc_s0 ?_ | refine halloc_h ?_ | refine ewp_range ?_ | refine ewp_draw ?_ | refine edraw_nil ?_ | refine edraw_if ?_ | refine mget_cons ?_) | with_reducible refine mget_nil ?_) | ((conv => whnf); with_reducible refine eget_cnds hlt ?_) | ((conv => whnf); with_reducible refine takeK_cl ?_) | ((conv => whnf); with_reducible refine (hF _).mono ?_; rintro r h' ⟨rfl, rfl⟩))
            all_goals (conv => whnf)
            refine done_here (ret_of hQ (congrArg AV.bool ?_))
            rw [hme, hk, List.any_eq_true.2 ⟨_, List.getElem_mem hlt, hm⟩]; rfl
          | false =>
            rw [hm] at hF
            repeat' (first | ((conv => whnf); first | (with_reducible first | refine eops_one ?_ | refine eops_nil ?_ | refine ewp_seq ?_ | refine ewp_region ?_) | ((with_reducible refine And.intro ?_ ?_); · (first | rfl | assumption | omega | (simp; omega) | (simp [AV.cells]; done))) | (with_reducible first | refine b_T ?_ | refine b_F ?_ | refine b_true (by assumption) ?_ | refine b_false (by assumption) ?_) | ((with_reducible refine b_true ?_ ?_); (· (decide))) | ((with_reducible refine b_false ?_ ?_); (· (decide))) | (with_reducible refine b_dec ?_ ?_ <;> intro hc hcb) | (with_reducible refine b_eq ?_ ?_ <;> intro hc hcb) | (with_reducible refine b_ne ?_ ?_ <;> intro hc hcb) | (with_reducible refine b_neq ?_ ?_ <;> intro hc hcb) | (with_reducible refine b_not ?_ ?_ <;> intro hc hcb) | (with_reducible refine b_intro ?_ ?_ <;> intro hcb) | (with_reducible first | refine ewp_cond ?_ | refine eops_if ?_ | refine ewp_block ?_ | refine ewp_exit ?_ | refine ewp_ret ?_ | refine ewp_skip ?_ | refine ewp_loop ?_ | refine hget_a0 ?_ | refine hget_b ?_ | refine hget_a ?_ | refine hput_a0 ?_ | refine hput_b ?_ | refine hput_a ?_ | refine hget_s0 ?_ | refine hget_s ?_ | refine hput_s0 ?_ | refine hput_s ?_ | refine halloc1 ?_ | refine halloc2 ?_ | refine halloc3 ?_ | refine halloc4 ?_ | refine halloc5 ?_ | refine halloc6 ?_ | refine halloc7 ?_ | refine halloc8 ?_ | refine halloc_b2 ?_ | refine halloc_b1 ?_ | refine halloc_s0 ?_ | refine halloc_h ?_ | refine ewp_range ?_ | refine ewp_draw ?_ | refine edraw_nil ?_ | refine edraw_if ?_ | refine mget_cons ?_) | with_reducible refine mget_nil ?_) | ((conv => whnf); with_reducible refine eget_cnds hlt ?_) | ((conv => whnf); with_reducible refine takeK_cl ?_) | ((conv => whnf); with_reducible refine (hF _).mono ?_; rintro r h' ⟨rfl, rfl⟩))
            all_goals (conv => whnf)
            refine LI.next' (i + 1) ⟨hlt, fun j c hj hjc => ?_⟩ (by omega) (by simp only [hw]; exact SEnt.keep [1, 2, 5])
            rcases Nat.lt_or_ge j i with hji | hji
            · exact hall j c hji hjc
            · have : j = i := by omega
              subst this
              have : c = ks[j] := by simpa [hlt] using hjc.symm
              subst this
              exact hm
        · have : i = ks.length := by omega
          subst this
          have hd : decide (((ks.length : Nat) : Int) < (Cnd.cls ks).length) = false := by simp
          repeat' ((conv => whnf); first | (with_reducible first | refine eops_one ?_ | refine eops_nil ?_ | refine ewp_seq ?_ | refine ewp_region ?_) | ((with_reducible refine And.intro ?_ ?_); · (first | rfl | assumption | omega | (simp; omega) | (simp [AV.cells]; done))) | (with_reducible first | refine b_T ?_ | refine b_F ?_ | refine b_true (by assumption) ?_ | refine b_false (by assumption) ?_) | ((with_reducible refine b_true ?_ ?_); (· (decide))) | ((with_reducible refine b_false ?_ ?_); (· (decide))) | (with_reducible refine b_dec ?_ ?_ <;> intro hc hcb) | (with_reducible refine b_eq ?_ ?_ <;> intro hc hcb) | (with_reducible refine b_ne ?_ ?_ <;> intro hc hcb) | (with_reducible refine b_neq ?_ ?_ <;> intro hc hcb) | (with_reducible refine b_not ?_ ?_ <;> intro hc hcb) | (with_reducible refine b_intro ?_ ?_ <;> intro hcb) | (with_reducible first | refine ewp_cond ?_ | refine eops_if ?_ | refine ewp_block ?_ | refine ewp_exit ?_ | refine ewp_ret ?_ | refine ewp_skip ?_ | refine ewp_loop ?_ | refine hget_a0 ?_ | refine hget_b ?_ | refine hget_a ?_ | refine hput_a0 ?_ | refine hput_b ?_ | refine hput_a ?_ | refine hget_s0 ?_ | refine hget_s ?_ | refine hput_s0 ?_ | refine hput_s ?_ | refine halloc1 ?_ | refine halloc2 ?_ | refine halloc3 ?_ | refine halloc4 ?_ | refine halloc5 ?_ | refine halloc6 ?_ | refine halloc7 ?_ | refine halloc8 ?_ | refine halloc_b2 ?_ | refine halloc_b1 ?_ | refine halloc_s0 ?_ | refine halloc_h ?_ | refine ewp_range ?_ | refine ewp_draw ?_ | refine edraw_nil ?_ | refine edraw_if ?_ | refine mget_cons ?_) | with_reducible refine mget_nil ?_)
          (conv => whnf)
          refine done_here (ret_of hQ (congrArg AV.bool ?_))
          rw [hme, hk, List.any_eq_false.2 fun c hc => ?_]; rfl
          obtain ⟨j, hj, rfl⟩ := List.getElem_of_mem hc
          simpa using hall j _ hj (by simp [hj])
theorem getT_filter {T : Tags} {p : List UInt8 → Bool} {k : List UInt8} (hp : p k = true) : getT (T.filter fun t => p t.1) k = getT T k := by
  unfold getT
  congr 1
  induction T with
  | nil => rfl
  | cons t T ih =>
    by_cases hk : t.1 = k
    · rw [List.filter_cons_of_pos (by rw [hk]; exact hp), List.find?_cons_of_pos (by simpa using hk), List.find?_cons_of_pos (by simpa using hk)]
    · rw [List.find?_cons_of_neg (by simpa using hk)]
      cases hpt : p t.1 with
      | true => rw [List.filter_cons_of_pos (p := fun t : List UInt8 × List UInt8 => p t.1) hpt, List.find?_cons_of_neg (by simpa using hk)]; exact ih
      | false => rw [List.filter_cons_of_neg (by simp [hpt])]; exact ih
theorem holds_filter (p : List UInt8 → Bool) (T : Tags) : ∀ (N : Nat) (c : Cnd), c.cnt ≤ N → (∀ k, c.ment k = true → p k = true) → c.holdsC (T.filter fun t => p t.1) = c.holdsC T
  | 0, c, hc, _ => by have := c.cnt_pos; omega
  | N + 1, c, hc, hp => by
    have hcnt := c.cnt_eq
    rw [Cnd.holdsC_eq, Cnd.holdsC_eq]
    have hkids : ∀ d ∈ c.kids, d.holdsC (T.filter fun t => p t.1) = d.holdsC T := fun d hd =>
      holds_filter p T N d (by have := Cnd.cntL_mem hd; omega) fun k hk => hp k (by rw [Cnd.ment_eq, List.any_eq_true.2 ⟨d, hd, hk⟩, Bool.or_true])
    have h1 : (c.kids.any fun d => d.holdsC (T.filter fun t => p t.1)) = c.kids.any fun d => d.holdsC T := by
      rw [Bool.eq_iff_iff, List.any_eq_true, List.any_eq_true]
      exact ⟨fun ⟨d, hd, h⟩ => ⟨d, hd, by rw [← hkids d hd]; exact h⟩, fun ⟨d, hd, h⟩ => ⟨d, hd, by rw [hkids d hd]; exact h⟩⟩
    have h2 : (c.kids.all fun d => d.holdsC (T.filter fun t => p t.1)) = c.kids.all fun d => d.holdsC T := by
      rw [Bool.eq_iff_iff, List.all_eq_true, List.all_eq_true]
      exact ⟨fun h d hd => by rw [← hkids d hd]; exact h d hd, fun h d hd => by rw [hkids d hd]; exact h d hd⟩
    have h3 : getT (T.filter fun t => p t.1) c.key = getT T c.key := getT_filter (hp _ (by rw [Cnd.ment_eq]; simp))
    rw [h1, h2]
    unfold hNode
    rw [h3]
end Go.QZ
end
