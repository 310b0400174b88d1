/- A part of the proof of the card in the last text. -/
import Derived.Lib.Builder
import Derived.WalkKit
import Derived.Shelf.Strings.Builder1
import Derived.Shelf.Strings.OnBuilder
import Derived.Lib.IndexAny
import Derived.Lib.SmallJoins
import Derived.Lib.ItoaNum
import Derived.Shelf.GgClosure.StringsIndexFunc
import Derived.Laws.RangeAny
import Derived.Lib.AtoiErrMem
import Derived.Test.YtdpoipifjknhkaaGreatDoorT05
import Derived.Test.YtdpoipifjknhkaaGreatDoorT06
import Derived.Test.YtdpoipifjknhkaaGreatDoorT07
import Derived.Test.YtdpoipifjknhkaaGreatDoorT08
import Derived.Test.YtdpoipifjknhkaaGreatDoorT09
section
namespace Go.QZ
open Go Go.Proofs Go.Shelf Go.RowKit
set_option maxRecDepth 100000
theorem bld_info : ∃ j, Tryz.prog.info? 92 = some j ∧ j.size = 2 := by
  have h : (Tryz.prog.info? 92).map (·.size) = some 2 := by kernel_rfl
  obtain ⟨j, hj, hs⟩ := Option.map_eq_some_iff.1 h
  exact ⟨j, hj, hs⟩
theorem bld_lies : liesAt Tryz.prog Tryz.prog.depth 92 (2 / Tryz.prog.cellsOf 92) 0 92 1 = true := by kernel_rfl
set_option maxHeartbeats 1000000 in
theorem copyCheck_used (b : Nat) (w : World) (h0 : w.cell? ⟨b, 0, none⟩ = some (.pointer (some ⟨b, 0, none⟩))) :
    Calls Tryz.prog 71 #[.pointer (some ⟨b, 0, none⟩)] w fun e w' => e = .returned (.tuple #[]) ∧ w' = w := by
  obtain ⟨j, hj, hjs⟩ := bld_info
  go_enter Tryz.func71, Tryz.ntmps71
  go_wp2
  rw [Lib.run_neq_ptr_same w _ Tryz.underlying89 hj]
  go_wp2
  go_end0
  exact ⟨rfl, rfl⟩
set_option maxHeartbeats 1000000 in
theorem copyCheck_fresh (b : Nat) (w : World) (h0 : w.cell? ⟨b, 0, none⟩ = some (.pointer none)) (hsh : w.shape? b = some (92, 2)) (hfz : w.frozen? ⟨b, 0, none⟩ = false) :
    Calls Tryz.prog 71 #[.pointer (some ⟨b, 0, none⟩)] w fun e w' => e = .returned (.tuple #[]) ∧ w' = w.setCell ⟨b, 0, none⟩ (.pointer (some ⟨b, 0, none⟩)) := by
  obtain ⟨j, hj, hjs⟩ := bld_info
  go_enter Tryz.func71, Tryz.ntmps71
  go_wp2
  rw [Lib.run_to_unsafe w ⟨b, 0, none⟩ Tryz.underlying89 Tryz.underlying132 hj (by rw [hjs]; decide) hsh (Nat.zero_lt_succ 1)]
  simp only [Result.andThen]
  rw [Oper.upon_value]
  go_wp2
  rw [run_callFunc_extern Tryz.func103 (by kernel_rfl) (by kernel_rfl) (by kernel_rfl) (e := Extern.AbiNoEscape.same) (by kernel_rfl)]
  rw [Lib.run_noEscape]
  simp only [Result.andThen]
  rw [Oper.upon_value]
  go_wp2
  rw [Lib.run_from_unsafe w ⟨b, 0, none⟩ Tryz.underlying132 Tryz.underlying89 hj hsh bld_lies]
  simp only [Result.andThen]
  rw [Oper.upon_value]
  go_wp2
  go_end0
  exact ⟨rfl, rfl⟩
set_option maxHeartbeats 2000000 in
theorem String_row (b g cap : Nat) (p : Value) (cur : Array Value) (l : List UInt8) (w : World) (hbk : w.heap[b]? = some (.cells #[p, .slice (some ⟨g, 0, none⟩) l.length cap] 92 (0, 0))) (hg : w.heap[g]? = some (.cells cur 5 (0, 0)))
    (h0 : l ≠ []) (hnc : l.length ≤ cap) (hl : l.length ≤ 9223372036854775807) (hsz : l.length ≤ cur.size) (hcur : ∀ (j : Nat) (x : UInt8), l[j]? = some x → cur[j]? = some (.int .u8 x.toNat)) :
    Calls Tryz.prog 44 #[.pointer (some ⟨b, 0, none⟩)] w fun e w' => e = .returned (.string ⟨l.toArray⟩) ∧ w' = w.drew.freeze ⟨g, 0, none⟩ l.length := by
  have hl0 : l.length ≠ 0 := by simpa using h0
  have c1 : w.drew.cell? ⟨b, 1, none⟩ = some (.slice (some ⟨g, 0, none⟩) l.length cap) := by
    have : w.drew.heap[b]? = some (.cells #[p, .slice (some ⟨g, 0, none⟩) l.length cap] 92 (0, 0)) := hbk
    rw [Lib.cell_of_heap this]; rfl
  have hSD : (Builtin.unsafeSliceData_ #[90] 115 #[.slice (some ⟨g, 0, none⟩) l.length cap]).run Tryz.prog w.drew = .ok (.pointer (some ⟨g, 0, none⟩)) w.drew :=
    Lib.run_unsafeSliceData_row _ _ _ _ _ _ (by omega)
  have hg' : w.drew.heap[g]? = some (.cells cur 5 (0, 0)) := hg
  have hUS : (Builtin.unsafeString_ #[115, 3] 9 #[.pointer (some ⟨g, 0, none⟩), .int .i64 l.length]).run Tryz.prog w.drew = .ok (.string ⟨l.toArray⟩) (w.drew.freeze ⟨g, 0, none⟩ l.length) := by
    refine Lib.run_unsafeString_row w.drew 115 3 9 5 Tryz.underlying115 (by kernel_rfl) g cur.size (by simp [World.shape?, hg']) l h0 hsz hl ?_
    intro j x hx
    rw [Abs.addr_add g 0 j, Lib.cell_of_heap hg']
    simpa using hcur j x hx
  clear hl hnc hsz hcur hl0
  have mixed : Tryz.prog.follows .mixedOrders = true := by kernel_rfl
  go_enter Tryz.func44, Tryz.ntmps44
  go_wp2
  go_region_o
  all_goals (go_wp2; go_ret; exact ⟨rfl, rfl⟩)
set_option maxHeartbeats 2000000 in
theorem String_nil (b : Nat) (p : Value) (w : World) (hbk : w.heap[b]? = some (.cells #[p, .slice none 0 0] 92 (0, 0))) :
    Calls Tryz.prog 44 #[.pointer (some ⟨b, 0, none⟩)] w fun e w' => e = .returned (.string ⟨#[]⟩) ∧ w' = w.drew := by
  have hUS : ∀ (W : World) (q : Option Addr), (Builtin.unsafeString_ #[115, 3] 9 #[.pointer q, .int .i64 0]).run Tryz.prog W = .ok (.string .empty) W := fun W q => Lib.run_unsafeString_none W _ _ _ q
  have c1 : w.drew.cell? ⟨b, 1, none⟩ = some (.slice none 0 0) := by
    have : w.drew.heap[b]? = some (.cells #[p, .slice none 0 0] 92 (0, 0)) := hbk
    rw [Lib.cell_of_heap this]; rfl
  have hSD : (Builtin.unsafeSliceData_ #[90] 115 #[.slice none 0 0]).run Tryz.prog w.drew = .ok (.pointer none) w.drew := rfl
  have mixed : Tryz.prog.follows .mixedOrders = true := by kernel_rfl
  go_enter Tryz.func44, Tryz.ntmps44
  go_wp2
  go_region_o
  all_goals (go_wp2; go_ret; exact ⟨rfl, rfl⟩)
end Go.QZ
end
section
namespace Go.QZ
open Go Go.Abs Go.Proofs
variable {Φ : World → Prop}
set_option maxRecDepth 100000
theorem indexByte_S {h : AHeap} {s : List UInt8} {c : Int} {Q : AEnd → AHeap → Prop} (hQ : Q (.ret (.int .i64 (Lib.indexByte s c.toNat.toUInt8))) h) : S Tryz.prog Φ 89 [.str s, .int .u8 c] h Q := by
  refine S_lib ⟨_, Tryz.func89, by kernel_rfl, by kernel_rfl⟩ ?_ hQ
  intro g w vs R V
  obtain ⟨u, v, rfl, hu, hv⟩ := VRs.two V
  rw [hu.str_inv, hv.int_inv]
  refine (Tryz.strings_IndexByte _ _ w).mono ?_
  rintro e w' ⟨rfl, rfl⟩
  exact ⟨RowKit.Below.refl _ _, _, rfl, fun _ _ => .int _ _⟩
theorem toU8_toNat (b : UInt8) : ((b.toNat : Int)).toNat.toUInt8 = b := by simp
theorem indexByte_S' {h : AHeap} {s : List UInt8} {b : UInt8} {Q : AEnd → AHeap → Prop} (hQ : Q (.ret (.int .i64 (Lib.indexByte s b))) h) : S Tryz.prog Φ 89 [.str s, .int .u8 b.toNat] h Q :=
  indexByte_S (by rw [toU8_toNat]; exact hQ)
def cls0 (n : Nat) : Int := if (97 ≤ n ∧ n ≤ 122) ∨ (65 ≤ n ∧ n ≤ 90) then 3 else if 48 ≤ n ∧ n ≤ 57 then 4 else if [32, 9, 10].any (fun b : UInt8 => b.toNat == n) = true then 1 else
  if [59, 44, 46, 58, 40, 41, 123, 125, 91, 93, 61, 60, 62, 47, 45].any (fun b : UInt8 => b.toNat == n) = true then 6 else 0
def clsN (n : Nat) : Int := if n = 35 then 2 else if n = 95 then 5 else if n = 34 then 7 else cls0 n
def clsL : List AV := (List.range 256).map fun n => .int .u8 (clsN n)
@[simp] theorem clsL_len : clsL.length = 256 := by simp [clsL]
def part0 (i : Nat) : List AV := (List.range 256).map fun n => .int .u8 (bif n < i then cls0 n else 0)
@[simp] theorem part0_len (i : Nat) : (part0 i).length = 256 := by simp [part0]
theorem part0_set {i : Nat} (h : i < 256) : (part0 i).set i (.int .u8 (cls0 i)) = part0 (i + 1) := by
  apply List.ext_getElem?
  intro k
  by_cases hk : k = i
  · subst hk; simp [part0, h]
  · rw [List.getElem?_set_ne (Ne.symm hk)]
    simp only [part0, List.getElem?_map]
    have : ∀ n, n ≠ i → (bif decide (n < i) then cls0 n else 0) = (bif decide (n < i + 1) then cls0 n else 0) := fun n hn => by
      have : decide (n < i + 1) = decide (n < i) := by simp; omega
      rw [this]
    rcases Nat.lt_or_ge k 256 with h1 | h1
    · rw [List.getElem?_range h1]; simp only [Option.map_some]; rw [this k hk]
    · rw [List.getElem?_eq_none (by simpa using h1)]; rfl
theorem indexByte_ge (l : List UInt8) (n : Nat) (h : n < 256) : (0 ≤ Lib.indexByte l ((n : Int).toNat.toUInt8)) ↔ l.any (fun b => b.toNat == n) = true := by
  have e := Lib.contains_iff_indexByte l (n : Int).toNat.toUInt8
  have e2 : l.contains (n : Int).toNat.toUInt8 = l.any (fun b => b.toNat == n) := by
    rw [List.contains_eq_any_beq]
    congr 1; funext b
    rw [Int.toNat_natCast, Bool.eq_iff_iff]
    simp only [beq_iff_eq]
    constructor
    · intro e; rw [← e]; simp; omega
    · intro e; rw [← e]; simp
  rw [← e2, e]; simp
theorem part0_same {i : Nat} (h : i < 256) (hc : cls0 i = 0) : part0 i = part0 (i + 1) := by
  rw [← part0_set h, hc]
  apply List.ext_getElem?
  intro k
  by_cases hk : k = i
  · subst hk; simp [part0, h]
  · rw [List.getElem?_set_ne (Ne.symm hk)]
theorem part_cls : (((part0 256).set (0 + Int.toNat 35 * 1) (.int .u8 2)).set (0 + Int.toNat 95 * 1) (.int .u8 5)).set (0 + Int.toNat 34 * 1) (.int .u8 7) = clsL := by
  apply List.ext_getElem?
  intro k
  simp only [List.getElem?_set, part0, clsL, List.length_set, List.length_map, List.length_range]
  rcases Nat.lt_or_ge k 256 with h | h
  · simp only [List.getElem?_map, List.getElem?_range h, Option.map_some]
    show (if 34 = k then _ else if 95 = k then _ else if 35 = k then _ else _) = _
    unfold clsN
    by_cases h1 : k = 34
    · subst h1; rfl
    · by_cases h2 : k = 95
      · subst h2; rfl
      · by_cases h3 : k = 35
        · subst h3; rfl
        · rw [if_neg (Ne.symm h1), if_neg (Ne.symm h2), if_neg (Ne.symm h3), if_neg h3, if_neg h2, if_neg h1]
          simp [h]
  · have e : ∀ j, j < 256 → ¬ j = k := fun j hj e => by omega
    show (if 34 = k then _ else if 95 = k then _ else if 35 = k then _ else _) = _
    rw [if_neg (e 34 (by omega)), if_neg (e 95 (by omega)), if_neg (e 35 (by omega))]
    rw [List.getElem?_eq_none (by simpa using h), List.getElem?_eq_none (by simpa using h)]
theorem low_cls {n : Nat} : Low n (.agg clsL) := by
  refine .agg _ fun a ha => ?_
  simp only [clsL, List.mem_map] at ha
  obtain ⟨_, _, rfl⟩ := ha
  exact .int _ _
set_option maxHeartbeats 1000000 in
theorem classes_S {h : AHeap} {Q : AEnd → AHeap → Prop} (hQ : Q (.ret (.agg clsL)) h) : S Tryz.prog Φ 61 [] h Q := by
  refine go61 (by simp) fun hlow => ?_
  unfold ac61
  repeat' ((conv => whnf); first | (with_reducible first | refine eops_one ?_ | refine eops_nil ?_ | refine ewp_seq ?_ | refine ewp_region ?_) | ((with_reducible refine And.intro ?_ ?_); · (first | rfl | assumption | omega | (simp; omega) | (simp [AV.cells]; done))) | (with_reducible first | refine b_T ?_ | refine b_F ?_ | refine b_true (by assumption) ?_ | refine b_false (by assumption) ?_) | ((with_reducible refine b_true ?_ ?_); (· (decide))) | ((with_reducible refine b_false ?_ ?_); (· (decide))) | (with_reducible refine b_dec ?_ ?_ <;> intro hc hcb) | (with_reducible refine b_eq ?_ ?_ <;> intro hc hcb) | (with_reducible refine b_ne ?_ ?_ <;> intro hc hcb) | (with_reducible refine b_neq ?_ ?_ <;> intro hc hcb) | (with_reducible refine b_not ?_ ?_ <;> intro hc hcb) | (with_reducible refine b_intro ?_ ?_ <;> intro hcb) | (with_reducible first | refine ewp_cond ?_ | refine eops_if ?_ | refine ewp_block ?_ | refine ewp_exit ?_ | refine ewp_ret ?_ | refine ewp_skip ?_ | refine ewp_loop ?_ | refine hget_a0 ?_ | refine hget_b ?_ | refine hget_a ?_ | refine hput_a0 ?_ | refine hput_b ?_ | refine hput_a ?_ | refine hget_s0 ?_ | refine hget_s ?_ | refine hput_s0 ?_ | refine hput_s ?_ | refine halloc1 ?_ | refine halloc2 ?_ | refine halloc3 ?_ | refine halloc4 ?_ | refine halloc5 ?_ | refine halloc6 ?_ | refine halloc7 ?_ | refine halloc8 ?_ | refine halloc_b2 ?_ | refine halloc_b1 ?_ | refine halloc_s0 ?_ | refine halloc_h ?_ | refine ewp_range ?_ | refine ewp_draw ?_ | refine edraw_nil ?_ | refine edraw_if ?_ | refine mget_cons ?_) | with_reducible refine mget_nil ?_)
  refine LoopP.of (fun i : Nat => i ≤ 256) (fun i => [(0, .ptr h.length 0 0), (1, .ptr (h.length + 1) 0 0), (4, .int .i64 i)]) (fun i => h ++ [.cells false 106 256 [.agg (List.replicate 256 (.int .u8 0))], .cells false 106 256 [.agg (part0 i)]]) (fun i => 256 - i) 0 (by simp) rfl ?_ ?_
  · rfl
  · intro i hi
    by_cases hlt : i < 256
    · have hw := u8_nat (i := i) (by omega)
      have hd : decide ((i : Int) < 256) = true := by simp; omega
      have h1 := indexByte_ge [32, 9, 10] i hlt
      have h2 := indexByte_ge [59, 44, 46, 58, 40, 41, 123, 125, 91, 93, 61, 60, 62, 47, 45] i hlt
      have key : ∀ c, cls0 i = c → (part0 i).set (0 + ((i : Nat) : Int).toNat * 1) (.int .u8 c) = part0 (i + 1) := by
        rintro c rfl; rw [show 0 + ((i : Nat) : Int).toNat * 1 = i by simp]; exact part0_set hlt
      repeat' ((conv => whnf); first | (with_reducible first | refine eops_one ?_ | refine eops_nil ?_ | refine ewp_seq ?_ | refine ewp_region ?_) | ((with_reducible refine And.intro ?_ ?_); · (first | rfl | assumption | omega | (simp; omega) | (simp [AV.cells]; done))) | (with_reducible first | refine b_T ?_ | refine b_F ?_ | refine b_true (by assumption) ?_ | refine b_false (by assumption) ?_) | ((with_reducible refine b_true ?_ ?_); (· (decide))) | ((with_reducible refine b_false ?_ ?_); (· (decide))) | (with_reducible refine b_dec ?_ ?_ <;> intro hc hcb) | (with_reducible refine b_eq ?_ ?_ <;> intro hc hcb) | (with_reducible refine b_ne ?_ ?_ <;> intro hc hcb) | (with_reducible refine b_neq ?_ ?_ <;> intro hc hcb) | (with_reducible refine b_not ?_ ?_ <;> intro hc hcb) | (with_reducible refine b_intro ?_ ?_ <;> intro hcb) | (with_reducible first | refine ewp_cond ?_ | refine eops_if ?_ | refine ewp_block ?_ | refine ewp_exit ?_ | refine ewp_ret ?_ | refine ewp_skip ?_ | refine ewp_loop ?_ | refine hget_a0 ?_ | refine hget_b ?_ | refine hget_a ?_ | refine hput_a0 ?_ | refine hput_b ?_ | refine hput_a ?_ | refine hget_s0 ?_ | refine hget_s ?_ | refine hput_s0 ?_ | refine hput_s ?_ | refine halloc1 ?_ | refine halloc2 ?_ | refine halloc3 ?_ | refine halloc4 ?_ | refine halloc5 ?_ | refine halloc6 ?_ | refine halloc7 ?_ | refine halloc8 ?_ | refine halloc_b2 ?_ | refine halloc_b1 ?_ | refine halloc_s0 ?_ | refine halloc_h ?_ | refine ewp_range ?_ | refine ewp_draw ?_ | refine edraw_nil ?_ | refine edraw_if ?_ | refine mget_cons ?_ | refine mget_nil ?_ | refine indexByte_S ?_) | with_reducible refine vput_set ?_)
      all_goals (conv => whnf)
      all_goals (refine LI.next (i + 1) (by omega) (by omega) ?_ ?_)
      all_goals (try (simp only [i64_succ (show i + 1 ≤ 9223372036854775807 by omega)]; done))
      all_goals simp only [hw, ge_iff_le, h1, h2] at *
      all_goals first
        | (exfalso; omega)
        | (rw [key _ (by unfold cls0; repeat' (first | rfl | rw [if_pos (by first | assumption | omega)] | rw [if_neg (by first | assumption | omega)]))])
        | (rw [part0_same hlt (by unfold cls0; repeat' (first | rfl | rw [if_pos (by first | assumption | omega)] | rw [if_neg (by first | assumption | omega)]))])
    · have : i = 256 := by omega
      subst this
      have hd : decide (((256 : Nat) : Int) < 256) = false := by simp
      repeat' ((conv => whnf); first | (with_reducible first | refine eops_one ?_ | refine eops_nil ?_ | refine ewp_seq ?_ | refine ewp_region ?_) | ((with_reducible refine And.intro ?_ ?_); · (first | rfl | assumption | omega | (simp; omega) | (simp [AV.cells]; done))) | (with_reducible first | refine b_T ?_ | refine b_F ?_ | refine b_true (by assumption) ?_ | refine b_false (by assumption) ?_) | ((with_reducible refine b_true ?_ ?_); (· (decide))) | ((with_reducible refine b_false ?_ ?_); (· (decide))) | (with_reducible refine b_dec ?_ ?_ <;> intro hc hcb) | (with_reducible refine b_eq ?_ ?_ <;> intro hc hcb) | (with_reducible refine b_ne ?_ ?_ <;> intro hc hcb) | (with_reducible refine b_neq ?_ ?_ <;> intro hc hcb) | (with_reducible refine b_not ?_ ?_ <;> intro hc hcb) | (with_reducible refine b_intro ?_ ?_ <;> intro hcb) | (with_reducible first | refine ewp_cond ?_ | refine eops_if ?_ | refine ewp_block ?_ | refine ewp_exit ?_ | refine ewp_ret ?_ | refine ewp_skip ?_ | refine ewp_loop ?_ | refine hget_a0 ?_ | refine hget_b ?_ | refine hget_a ?_ | refine hput_a0 ?_ | refine hput_b ?_ | refine hput_a ?_ | refine hget_s0 ?_ | refine hget_s ?_ | refine hput_s0 ?_ | refine hput_s ?_ | refine halloc1 ?_ | refine halloc2 ?_ | refine halloc3 ?_ | refine halloc4 ?_ | refine halloc5 ?_ | refine halloc6 ?_ | refine halloc7 ?_ | refine halloc8 ?_ | refine halloc_b2 ?_ | refine halloc_b1 ?_ | refine halloc_s0 ?_ | refine halloc_h ?_ | refine ewp_range ?_ | refine ewp_draw ?_ | refine edraw_nil ?_ | refine edraw_if ?_ | refine mget_cons ?_ | refine mget_nil ?_) | with_reducible refine vput_set ?_)
      (conv => whnf)
      refine pbig_all (by simp) ?_
      rw [part_cls]
      repeat' ((conv => whnf); first | (with_reducible first | refine eops_one ?_ | refine eops_nil ?_ | refine ewp_seq ?_ | refine ewp_region ?_) | ((with_reducible refine And.intro ?_ ?_); · (first | rfl | assumption | omega | (simp; omega) | (simp [AV.cells]; done))) | (with_reducible first | refine b_T ?_ | refine b_F ?_ | refine b_true (by assumption) ?_ | refine b_false (by assumption) ?_) | ((with_reducible refine b_true ?_ ?_); (· (decide))) | ((with_reducible refine b_false ?_ ?_); (· (decide))) | (with_reducible refine b_dec ?_ ?_ <;> intro hc hcb) | (with_reducible refine b_eq ?_ ?_ <;> intro hc hcb) | (with_reducible refine b_ne ?_ ?_ <;> intro hc hcb) | (with_reducible refine b_neq ?_ ?_ <;> intro hc hcb) | (with_reducible refine b_not ?_ ?_ <;> intro hc hcb) | (with_reducible refine b_intro ?_ ?_ <;> intro hcb) | (with_reducible first | refine ewp_cond ?_ | refine eops_if ?_ | refine ewp_block ?_ | refine ewp_exit ?_ | refine ewp_ret ?_ | refine ewp_skip ?_ | refine ewp_loop ?_ | refine hget_a0 ?_ | refine hget_b ?_ | refine hget_a ?_ | refine hput_a0 ?_ | refine hput_b ?_ | refine hput_a ?_ | refine hget_s0 ?_ | refine hget_s ?_ | refine hput_s0 ?_ | refine hput_s ?_ | refine halloc1 ?_ | refine halloc2 ?_ | refine halloc3 ?_ | refine halloc4 ?_ | refine halloc5 ?_ | refine halloc6 ?_ | refine halloc7 ?_ | refine halloc8 ?_ | refine halloc_b2 ?_ | refine halloc_b1 ?_ | refine halloc_s0 ?_ | refine halloc_h ?_ | refine ewp_range ?_ | refine ewp_draw ?_ | refine edraw_nil ?_ | refine edraw_if ?_ | refine mget_cons ?_ | refine mget_nil ?_) | with_reducible refine vput_all (by simp) ?_ | with_reducible refine pbig_all (by simp) ?_)
      exact done_drop' rfl hlow low_cls hQ
theorem eget_cls {i : Nat} {K : AV → Prop} (hk : i < 256 ∧ K (.int .u8 (clsN i))) : eget (AV.agg clsL).cells i K := by
  refine eget_of (a := .int .u8 (clsN i)) ?_ hk.2
  simp [AV.cells, clsL, hk.1]
attribute [irreducible] clsL
end Go.QZ
end
section
namespace Go.QZ
open Go Go.Abs Go.Proofs
variable {Φ : World → Prop}
set_option maxRecDepth 100000
def letB (b : UInt8) : Bool := (97 ≤ b.toNat && b.toNat ≤ 122) || (65 ≤ b.toNat && b.toNat ≤ 90)
def digB (b : UInt8) : Bool := 48 ≤ b.toNat && b.toNat ≤ 57
def wordB (b : UInt8) : Bool := letB b || digB b || b.toNat == 95
def nameB (s : List UInt8) : Bool := (match s with | [] => false | b :: _ => letB b) && s.all wordB && s.length ≤ 24
theorem cls_let (b : UInt8) : clsN b.toNat = 3 ↔ letB b = true := by
  unfold clsN cls0 letB
  simp only [Bool.or_eq_true, Bool.and_eq_true, decide_eq_true_eq]
  repeat' split
  all_goals (try simp at *)
  all_goals (try omega)
theorem cls_dig (b : UInt8) : clsN b.toNat = 4 ↔ digB b = true := by
  unfold clsN cls0 digB
  simp only [Bool.and_eq_true, decide_eq_true_eq]
  repeat' split
  all_goals (try simp at *)
  all_goals (try omega)
theorem cls_und (b : UInt8) : clsN b.toNat = 5 ↔ b.toNat = 95 := by
  unfold clsN cls0
  repeat' split
  all_goals (try simp at *)
  all_goals (try omega)
theorem nameB_false {s : List UInt8} {i : Nat} (h : i < s.length) (hn : wordB s[i] = false ∨ (i = 0 ∧ letB s[i] = false)) : nameB s = false := by
  unfold nameB
  cases s with
  | nil => rfl
  | cons a l =>
    rcases hn with hn | ⟨rfl, hn⟩
    · have : (a :: l).all wordB = false := by rw [List.all_eq_false]; exact ⟨_, List.getElem_mem h, by simp [hn]⟩
      simp [this]
    · simp at hn; simp [hn]
theorem nameB_true {s : List UInt8} (hall : ∀ j b, j < s.length → s[j]? = some b → wordB b = true ∧ (j = 0 → letB b = true)) (hne : s ≠ []) : nameB s = decide ((s.length : Int) ≤ 24) := by
  unfold nameB
  cases s with
  | nil => exact absurd rfl hne
  | cons a l =>
    have h0 := (hall 0 a (by simp) rfl).2 rfl
    have : (a :: l).all wordB = true := by
      rw [List.all_eq_true]; intro x hx
      obtain ⟨j, hj, rfl⟩ := List.getElem_of_mem hx
      exact (hall j _ hj (by simp)).1
    rw [this]; simp [h0]; omega
theorem name_S {h : AHeap} {s : List UInt8} {Q : AEnd → AHeap → Prop} (hs : s.length ≤ 9223372036854775807) (hQ : Q (.ret (.bool (nameB s))) h) : S Tryz.prog Φ 36 [.str s] h Q := by
  refine go36 (by simp) fun hlow => ?_
  unfold ac36
  repeat' ((conv => whnf); first | (with_reducible first | refine eops_one ?_ | refine eops_nil ?_ | refine ewp_seq ?_ | refine ewp_region ?_) | ((with_reducible refine And.intro ?_ ?_); · (first | rfl | assumption | omega | (simp; omega) | (simp [AV.cells]; done))) | (with_reducible first | refine b_T ?_ | refine b_F ?_ | refine b_true (by assumption) ?_ | refine b_false (by assumption) ?_) | ((with_reducible refine b_true ?_ ?_); (· (decide))) | ((with_reducible refine b_false ?_ ?_); (· (decide))) | (with_reducible refine b_dec ?_ ?_ <;> intro hc hcb) | (with_reducible refine b_eq ?_ ?_ <;> intro hc hcb) | (with_reducible refine b_ne ?_ ?_ <;> intro hc hcb) | (with_reducible refine b_neq ?_ ?_ <;> intro hc hcb) | (with_reducible refine b_not ?_ ?_ <;> intro hc hcb) | (with_reducible refine b_intro ?_ ?_ <;> intro hcb) | (with_reducible first | refine ewp_cond ?_ | refine eops_if ?_ | refine ewp_block ?_ | refine ewp_exit ?_ | refine ewp_ret ?_ | refine ewp_skip ?_ | refine ewp_loop ?_ | refine hget_a0 ?_ | refine hget_b ?_ | refine hget_a ?_ | refine hput_a0 ?_ | refine hput_b ?_ | refine hput_a ?_ | refine hget_s0 ?_ | refine hget_s ?_ | refine hput_s0 ?_ | refine hput_s ?_ | refine halloc1 ?_ | refine halloc2 ?_ | refine halloc3 ?_ | refine halloc4 ?_ | refine halloc5 ?_ | refine halloc6 ?_ | refine halloc7 ?_ | refine halloc8 ?_ | refine halloc_b2 ?_ | refine halloc_b1 ?_ | refine halloc_s0 ?_ | refine halloc_h ?_ | refine ewp_range ?_ | refine ewp_draw ?_ | refine edraw_nil ?_ | refine edraw_if ?_ | refine mget_cons ?_ | refine mget_nil ?_ | refine classes_S ?_) | with_reducible refine vput_all (by simp) ?_)
  refine LoopP.of (fun i : Nat => i ≤ s.length ∧ ∀ j b, j < i → s[j]? = some b → wordB b = true ∧ (j = 0 → letB b = true)) (fun i => [(0, .str s), (3, .ptr h.length 0 0), (8, .int .i64 s.length), (9, .int .i64 i)]) (fun i => h ++ [.cells false 106 256 [.agg clsL]]) (fun i => s.length - i) 0 (by simp) rfl ?_ ?_
  · rfl
  · rintro i ⟨hi, hall⟩
    by_cases hlt : i < s.length
    · have hb := s[i].toNat_lt
      have hd : decide ((i : Int) < s.length) = true := by simp; omega
      repeat' ((conv => whnf); first | (with_reducible first | refine eops_one ?_ | refine eops_nil ?_ | refine ewp_seq ?_ | refine ewp_region ?_) | ((with_reducible refine And.intro ?_ ?_); · (first | rfl | assumption | omega | (simp; omega) | (simp [AV.cells]; done))) | (with_reducible first | refine b_T ?_ | refine b_F ?_ | refine b_true (by assumption) ?_ | refine b_false (by assumption) ?_) | ((with_reducible refine b_true ?_ ?_); (· (decide))) | ((with_reducible refine b_false ?_ ?_); (· (decide))) | (with_reducible refine b_dec ?_ ?_ <;> intro hc hcb) | (with_reducible refine b_eq ?_ ?_ <;> intro hc hcb) | (with_reducible refine b_ne ?_ ?_ <;> intro hc hcb) | (with_reducible refine b_neq ?_ ?_ <;> intro hc hcb) | (with_reducible refine b_not ?_ ?_ <;> intro hc hcb) | (with_reducible refine b_intro ?_ ?_ <;> intro hcb) | (with_reducible first | refine ewp_cond ?_ | refine eops_if ?_ | refine ewp_block ?_ | refine ewp_exit ?_ | refine ewp_ret ?_ | refine ewp_skip ?_ | refine ewp_loop ?_ | refine hget_a0 ?_ | refine hget_b ?_ | refine hget_a ?_ | refine hput_a0 ?_ | refine hput_b ?_ | refine hput_a ?_ | refine hget_s0 ?_ | refine hget_s ?_ | refine hput_s0 ?_ | refine hput_s ?_ | refine halloc1 ?_ | refine halloc2 ?_ | refine halloc3 ?_ | refine halloc4 ?_ | refine halloc5 ?_ | refine halloc6 ?_ | refine halloc7 ?_ | refine halloc8 ?_ | refine halloc_b2 ?_ | refine halloc_b1 ?_ | refine halloc_s0 ?_ | refine halloc_h ?_ | refine ewp_range ?_ | refine ewp_draw ?_ | refine edraw_nil ?_ | refine edraw_if ?_ | refine mget_cons ?_ | refine mget_nil ?_ | refine eget_cls ?_) | with_reducible refine sget_nat hlt ?_)
      all_goals (conv => whnf)
      all_goals (try simp only [Nat.zero_add, Int.toNat_natCast, Nat.mul_one, ne_eq, cls_let, cls_dig, cls_und] at *)
      all_goals first
        | (refine LI.next (i + 1) ⟨hlt, fun j b hj hjb => ?_⟩ (by omega) (by first | rfl | simp only [i64_succ (i := i) (by omega)]) rfl
           rcases Nat.lt_or_ge j i with hji | hji
           · exact hall j b hji hjb
           · have : j = i := by omega
             subst this
             have : b = s[j] := by simpa [hlt] using hjb.symm
             subst this
             exact ⟨by simp_all [wordB], fun h0 => by first | assumption | (exfalso; omega)⟩)
        | (refine done_drop' rfl hlow (by repeat' (first | exact .int _ _ | exact .bool _ | exact .str _ | exact .nilp | exact .nils | exact .nilf | exact .nili | exact .nilm | assumption | (refine .tup _ ?_; simp only [List.mem_cons, List.not_mem_nil, or_false, forall_eq_or_imp, forall_eq]) | (refine .agg _ ?_; simp only [List.mem_cons, List.not_mem_nil, or_false, forall_eq_or_imp, forall_eq]) | refine And.intro ?_ ?_)) ?_
           refine ret_of hQ ?_
           have : nameB s = false := by
             refine nameB_false hlt ?_
             simp_all [wordB]
             try omega
           rw [this]; rfl)
    · have : i = s.length := by omega
      subst this
      have hd : decide (((s.length : Nat) : Int) < s.length) = false := by simp
      repeat' ((conv => whnf); first | (with_reducible first | refine eops_one ?_ | refine eops_nil ?_ | refine ewp_seq ?_ | refine ewp_region ?_) | ((with_reducible refine And.intro ?_ ?_); · (first | rfl | assumption | omega | (simp; omega) | (simp [AV.cells]; done))) | (with_reducible first | refine b_T ?_ | refine b_F ?_ | refine b_true (by assumption) ?_ | refine b_false (by assumption) ?_) | ((with_reducible refine b_true ?_ ?_); (· (decide))) | ((with_reducible refine b_false ?_ ?_); (· (decide))) | (with_reducible refine b_dec ?_ ?_ <;> intro hc hcb) | (with_reducible refine b_eq ?_ ?_ <;> intro hc hcb) | (with_reducible refine b_ne ?_ ?_ <;> intro hc hcb) | (with_reducible refine b_neq ?_ ?_ <;> intro hc hcb) | (with_reducible refine b_not ?_ ?_ <;> intro hc hcb) | (with_reducible refine b_intro ?_ ?_ <;> intro hcb) | (with_reducible first | refine ewp_cond ?_ | refine eops_if ?_ | refine ewp_block ?_ | refine ewp_exit ?_ | refine ewp_ret ?_ | refine ewp_skip ?_ | refine ewp_loop ?_ | refine hget_a0 ?_ | refine hget_b ?_ | refine hget_a ?_ | refine hput_a0 ?_ | refine hput_b ?_ | refine hput_a ?_ | refine hget_s0 ?_ | refine hget_s ?_ | refine hput_s0 ?_ | refine hput_s ?_ | refine halloc1 ?_ | refine halloc2 ?_ | refine halloc3 ?_ | refine halloc4 ?_ | refine halloc5 ?_ | refine halloc6 ?_ | refine halloc7 ?_ | refine halloc8 ?_ | refine halloc_b2 ?_ | refine halloc_b1 ?_ | refine halloc_s0 ?_ | refine halloc_h ?_ | refine ewp_range ?_ | refine ewp_draw ?_ | refine edraw_nil ?_ | refine edraw_if ?_ | refine mget_cons ?_) | with_reducible refine mget_nil ?_)
      · ((conv => whnf); refine done_drop' rfl hlow (by repeat' (first | exact .int _ _ | exact .bool _ | exact .str _ | exact .nilp | exact .nils | exact .nilf | exact .nili | exact .nilm | assumption | (refine .tup _ ?_; simp only [List.mem_cons, List.not_mem_nil, or_false, forall_eq_or_imp, forall_eq]) | (refine .agg _ ?_; simp only [List.mem_cons, List.not_mem_nil, or_false, forall_eq_or_imp, forall_eq]) | refine And.intro ?_ ?_)) ?_)
        refine ret_of hQ ?_
        rw [nameB_true hall hc]
        simp [tupOf]
      · ((conv => whnf); refine done_drop' rfl hlow (by repeat' (first | exact .int _ _ | exact .bool _ | exact .str _ | exact .nilp | exact .nils | exact .nilf | exact .nili | exact .nilm | assumption | (refine .tup _ ?_; simp only [List.mem_cons, List.not_mem_nil, or_false, forall_eq_or_imp, forall_eq]) | (refine .agg _ ?_; simp only [List.mem_cons, List.not_mem_nil, or_false, forall_eq_or_imp, forall_eq]) | refine And.intro ?_ ?_)) ?_)
        refine ret_of hQ ?_
        rw [hc]; rfl
end Go.QZ
end
section
namespace Go.QZ
open Go Go.Abs Go.Proofs
variable {Φ : World → Prop}
set_option maxRecDepth 100000
theorem cell_at {w : World} {b : Nat} {cs : Array Value} {T : TypeId} {fr : Nat × Nat} (h : w.heap[b]? = some (.cells cs T fr)) (o : Nat) : w.cell? ⟨b, o, none⟩ = cs[o]? := cell_of_heap h o
theorem copyCheck_S {h : AHeap} {r : Nat} {a bv : AV} {Q : AEnd → AHeap → Prop} (hr : h[r]? = some (.cells false 92 2 [.agg [a, bv]])) (ha : a = .nilp ∨ a = .ptr r 0 0)
    (hQ : hput h r (.cells false 92 2 [.agg [.ptr r 0 0, bv]]) fun h' => Q (.ret (.tup [])) h') : S Tryz.prog Φ 71 [.ptr r 0 0] h Q := by
  rw [hput_eq] at hQ
  refine ⟨⟨_, Tryz.func71, by kernel_rfl, by kernel_rfl⟩, fun g w vs R V => ?_⟩
  obtain ⟨u, rfl, hu⟩ := VRs.one V
  have hrl := R.lt hr
  obtain ⟨_, he, _, _, cs, hb, hsz, _, hgr, f, hf⟩ := R.blk r _ hr
  have hcp : g.cpn r = 1 := by have := hgr rfl; simpa using this.symm
  have hs2 : cs.size = 2 := by rw [hsz, hcp, he]
  obtain ⟨q0, q1, q2⟩ := hf 0 _ 0 a rfl rfl
  simp only [Nat.zero_mul, Nat.add_zero] at q0
  have hu : u = .pointer (some ⟨g.loc r, 0, none⟩) := by cases hu; simp
  subst hu
  have c0 : w.cell? ⟨g.loc r, 0, none⟩ = some (f 0 0) := by rw [cell_at hb]; exact q0
  rcases ha with rfl | rfl
  · have hf0 : f 0 0 = .pointer none := by generalize f 0 0 = q at q2; cases q2; rfl
    rw [hf0] at c0
    refine (copyCheck_fresh (g.loc r) w c0 (by simp [World.shape?, hb, hs2]) (by simp [World.frozen?, hb])).mono ?_
    rintro e w' ⟨rfl, rfl⟩
    obtain ⟨w', hrun, R', E'⟩ := R.store_own (P := Tryz.prog) (t := 89) (i := 0) (o := 0) hr rfl (x := .ptr r 0 0) rfl (VR.ptr r 0 0 hrl) (by kernel_rfl) (by simp [AV.cells])
    have hw : w' = w.setCell ⟨g.loc r, 0, none⟩ (.pointer (some ⟨g.loc r, 0, none⟩)) := by
      obtain ⟨ti, hti, htz⟩ := info_of_size (P := Tryz.prog) (t := 89) (k := 1) (by kernel_rfl)
      have h2 : (storeVar 89 ⟨g.loc r, 0 * g.esz r + 0, none⟩ (.pointer (some ⟨g.loc r, 0 * g.esz r + 0, none⟩))).run Tryz.prog w = .ok () (w.setCell ⟨g.loc r, 0, none⟩ (.pointer (some ⟨g.loc r, 0, none⟩))) := by
        simp only [Nat.zero_mul, Nat.add_zero]
        have hadd : (⟨g.loc r, 0, none⟩ : Addr).add 0 = ⟨g.loc r, 0, none⟩ := rfl
        have hst : (store ⟨g.loc r, 0, none⟩ (.pointer (some ⟨g.loc r, 0, none⟩))).run Tryz.prog w = .ok () (w.setCell ⟨g.loc r, 0, none⟩ (.pointer (some ⟨g.loc r, 0, none⟩))) := by
          rw [run_store Tryz.prog w _ _ _ rfl, c0]
          simp [World.frozen?, hb]
        simp [storeVar, Abs.run_sizeOf hti, htz, Value.cells, storeCells, hadd, hst]
      rw [h2] at hrun
      injection hrun with _ e; exact e.symm
    subst hw
    exact ⟨g, _, _, hQ, R', .tup [] [] rfl (by simp), E', by simp⟩
  · have hf0 : f 0 0 = .pointer (some ⟨g.loc r, 0, none⟩) := by generalize f 0 0 = q at q2; cases q2; simp
    rw [hf0] at c0
    refine (copyCheck_used (g.loc r) w c0).mono ?_
    rintro e w' ⟨rfl, hw⟩
    subst hw
    have : h.set r (.cells false 92 2 [.agg [.ptr r 0 0, bv]]) = h := by
      apply List.ext_getElem?
      intro k
      by_cases hk : r = k
      · subst hk; rw [List.getElem?_set_self hrl]; exact hr.symm
      · rw [List.getElem?_set_ne hk]
    rw [this] at hQ
    exact ⟨g, h, _, hQ, R, .tup [] [] rfl (by simp), Ext.refl _ _ _, Nat.le_refl _⟩
theorem String_nil_S {h : AHeap} {r : Nat} {a : AV} {Q : AEnd → AHeap → Prop} (hr : h[r]? = some (.cells false 92 2 [.agg [a, .nils]])) (hQ : Q (.ret (.str [])) h) : S Tryz.prog Φ 44 [.ptr r 0 0] h Q := by
  refine ⟨⟨_, Tryz.func44, by kernel_rfl, by kernel_rfl⟩, fun g w vs R V => ?_⟩
  obtain ⟨u, rfl, hu⟩ := VRs.one V
  obtain ⟨_, he, _, _, cs, hb, hsz, _, hgr, f, hf⟩ := R.blk r _ hr
  have hcp : g.cpn r = 1 := by have := hgr rfl; simpa using this.symm
  have hs2 : cs.size = 2 := by rw [hsz, hcp, he]
  obtain ⟨q0, _, _⟩ := hf 0 _ 0 a rfl rfl
  obtain ⟨p0, _, p2⟩ := hf 0 _ 1 .nils rfl rfl
  rw [he] at q0 p0
  have hu : u = .pointer (some ⟨g.loc r, 0, none⟩) := by cases hu; simp
  subst hu
  have hf1 : f 0 1 = .slice none 0 0 := by generalize f 0 1 = q at p2; cases p2; rfl
  have hcs : cs = #[f 0 0, .slice none 0 0] := by
    rw [← hf1]
    apply Array.ext_getElem?
    intro k
    rcases k with _ | _ | k
    · simpa using q0
    · simpa using p0
    · rw [Array.getElem?_eq_none (by omega), Array.getElem?_eq_none (by simp)]
  rw [hcs] at hb
  refine (String_nil (g.loc r) (f 0 0) w hb).mono ?_
  rintro e w' ⟨rfl, rfl⟩
  obtain ⟨R', E'⟩ := R.beside (below_drew w)
  exact ⟨g, h, _, hQ, R', .str [], E', Nat.le_refl _⟩
theorem String_row_S {h : AHeap} {r r' : Nat} {a : AV} {l : List UInt8} {Q : AEnd → AHeap → Prop} (hr : h[r]? = some (.cells false 92 2 [.agg [a, .sl r' 0 l.length none]])) (hr' : h[r']? = some (.cells true 5 1 (bytesA l))) (h0 : l ≠ []) (hl : l.length ≤ 9223372036854775807)
    (hQ : Q (.ret (.str l)) (h.set r' .dead)) : S Tryz.prog Φ 44 [.ptr r 0 0] h Q := by
  refine ⟨⟨_, Tryz.func44, by kernel_rfl, by kernel_rfl⟩, fun g w vs R V => ?_⟩
  obtain ⟨u, rfl, hu⟩ := VRs.one V
  obtain ⟨_, he, _, _, cs, hb, hsz, _, hgr, f, hf⟩ := R.blk r _ hr
  have hcp : g.cpn r = 1 := by have := hgr rfl; simpa using this.symm
  have hs2 : cs.size = 2 := by rw [hsz, hcp, he]
  obtain ⟨q0, _, _⟩ := hf 0 _ 0 a rfl rfl
  obtain ⟨p0, _, p2⟩ := hf 0 _ 1 _ rfl rfl
  rw [he] at q0 p0
  have hu : u = .pointer (some ⟨g.loc r, 0, none⟩) := by cases hu; simp
  subst hu
  obtain ⟨c, hc1, hf1⟩ : ∃ c, l.length ≤ c ∧ f 0 1 = .slice (some ⟨g.loc r', 0, none⟩) l.length c := by
    generalize f 0 1 = q at p2
    cases p2 with
    | sl _ _ _ _ c h1 h2 h3 h4 => exact ⟨c, h2, by simp⟩
  have hcs : cs = #[f 0 0, .slice (some ⟨g.loc r', 0, none⟩) l.length c] := by
    rw [← hf1]
    apply Array.ext_getElem?
    intro k
    rcases k with _ | _ | k
    · simpa using q0
    · simpa using p0
    · rw [Array.getElem?_eq_none (by omega), Array.getElem?_eq_none (by simp)]
  rw [hcs] at hb
  obtain ⟨k0, ke, _, _, ds, kb, ksz, kcap, _, fb, hfb⟩ := R.blk r' _ hr'
  have hlt : g.loc r' < w.heap.size := (Array.getElem?_eq_some_iff.1 kb).1
  refine (String_row (g.loc r) (g.loc r') c (f 0 0) ds l w hb kb h0 hc1 hl ?_ ?_).mono ?_
  · rw [ksz, ke]; simpa using kcap
  · intro j x hx
    have := hfb j (.int .u8 x.toNat) 0 (.int .u8 x.toNat) (by simp [bytesA, hx]) rfl
    rw [ke] at this
    simp only [Nat.mul_one, Nat.add_zero] at this
    rw [this.1]
    have := this.2.2
    generalize fb j 0 = q at this
    cases this; rfl
  · rintro e w' ⟨rfl, rfl⟩
    obtain ⟨R1, E1⟩ := R.beside (below_drew w)
    have hn : l.length ≠ 0 := by simpa using h0
    obtain ⟨R2, E2⟩ := R1.update hr' rfl (w' := w.drew.freeze ⟨g.loc r', 0, none⟩ l.length) (b' := .dead)
      (fun k hk => by simp only [World.freeze, if_neg hn, Array.getElem?_modify]; rw [if_neg (Ne.symm hk)])
      (by simp only [World.freeze, if_neg hn]; simp) (by simp only [World.freeze, if_neg hn]) (by simp only [World.freeze, if_neg hn]) (by simp only [World.freeze, if_neg hn]) (fun _ => trivial)
    exact ⟨g, _, _, hQ, R2, .str l, E1.trans E2 (Nat.le_refl _), by simp⟩
def bH (h : AHeap) (k : Nat) (l : List UInt8) : AHeap := match l with
  | [] => h ++ .cells false 92 2 [.agg [.nilp, .nils]] :: List.replicate k .dead
  | _ :: _ => h ++ .cells false 92 2 [.agg [.ptr h.length 0 0, .sl (h.length + (k + 1)) 0 l.length none]] :: (List.replicate k .dead ++ [.cells true 5 1 (bytesA l)])
theorem bH_new {h : AHeap} : bH h 0 [] = h ++ [.cells false 92 2 [.agg [.nilp, .nils]]] := rfl
theorem bH_snoc {h : AHeap} {k : Nat} {x : UInt8} {l new : List UInt8} (hn : new ≠ []) : bH h k (x :: l ++ new) = h ++ .cells false 92 2 [.agg [.ptr h.length 0 0, .sl (h.length + (k + 1)) 0 ((bytesA (x :: l)).length + new.length) none]] :: (List.replicate k .dead ++ [.cells true 5 1 (bytesA (x :: l) ++ bytesA new)]) := by
  rw [← bytesA_app]; simp [bH]; omega
set_option maxHeartbeats 400000 in
theorem WriteByte_S {h : AHeap} {k : Nat} {l : List UInt8} {c : Int} {Q : AEnd → AHeap → Prop} (hl : l.length + 1 ≤ 140737488355328) (h0 : 0 ≤ c) (h1 : c < 256) (hQ : ∀ k, Q (.ret .nili) (bH h k (l ++ [c.toNat.toUInt8]))) :
    S Tryz.prog Φ 42 [.ptr h.length 0 0, .int .u8 c] (bH h k l) Q := by
  have hc : AV.int .u8 c = .int .u8 (c.toNat.toUInt8.toNat : Int) := by congr 1; simp; omega
  cases l with
  | nil =>
    have hr : (h ++ .cells false 92 2 [.agg [.nilp, .nils]] :: List.replicate k .dead)[h.length]? = some (.cells false 92 2 [.agg [.nilp, .nils]]) := by simp
    simp only [bH]
    refine go42 (by simp) fun hlow => ?_
    unfold ac42
    repeat' ((conv => whnf); first | (with_reducible first | refine eops_one ?_ | refine eops_nil ?_ | refine ewp_seq ?_ | refine ewp_region ?_) | ((with_reducible refine And.intro ?_ ?_); · (first | rfl | assumption | omega | (simp; omega) | (simp [AV.cells]; done))) | (with_reducible first | refine b_T ?_ | refine b_F ?_ | refine b_true (by assumption) ?_ | refine b_false (by assumption) ?_) | ((with_reducible refine b_true ?_ ?_); (· (decide))) | ((with_reducible refine b_false ?_ ?_); (· (decide))) | (with_reducible refine b_dec ?_ ?_ <;> intro hc hcb) | (with_reducible refine b_eq ?_ ?_ <;> intro hc hcb) | (with_reducible refine b_ne ?_ ?_ <;> intro hc hcb) | (with_reducible refine b_neq ?_ ?_ <;> intro hc hcb) | (with_reducible refine b_not ?_ ?_ <;> intro hc hcb) | (with_reducible refine b_intro ?_ ?_ <;> intro hcb) | (with_reducible first | refine ewp_cond ?_ | refine eops_if ?_ | refine ewp_block ?_ | refine ewp_exit ?_ | refine ewp_ret ?_ | refine ewp_skip ?_ | refine ewp_loop ?_ | refine hget_a0 ?_ | refine hget_b ?_ | refine hget_a ?_ | refine hput_a0 ?_ | refine hput_b ?_ | refine hput_a ?_ | refine hget_s0 ?_ | refine hget_s ?_ | refine hput_s0 ?_ | refine hput_s ?_ | refine halloc1 ?_ | refine halloc2 ?_ | refine halloc3 ?_ | refine halloc4 ?_ | refine halloc5 ?_ | refine halloc6 ?_ | refine halloc7 ?_ | refine halloc8 ?_ | refine halloc_b2 ?_ | refine halloc_b1 ?_ | refine halloc_s0 ?_ | refine halloc_h ?_ | refine ewp_range ?_ | refine ewp_draw ?_ | refine edraw_nil ?_ | refine edraw_if ?_ | refine mget_cons ?_ | refine mget_nil ?_) | with_reducible refine copyCheck_S hr (.inl rfl) ?_)
    ((conv => whnf); refine done_here ?_)
    rw [hc]
    exact hQ k
  | cons x l =>
    have hr : (h ++ .cells false 92 2 [.agg [.ptr h.length 0 0, .sl (h.length + (k + 1)) 0 (x :: l).length none]] :: (List.replicate k .dead ++ [.cells true 5 1 (bytesA (x :: l))]))[h.length]? = some (.cells false 92 2 [.agg [.ptr h.length 0 0, .sl (h.length + (k + 1)) 0 (x :: l).length none]]) := by simp
    have hn : (x :: l).length = (bytesA (x :: l)).length := by simp
    have hb : ((bytesA (x :: l)).length + [AV.int .u8 c].length) * 1 ≤ 140737488355328 := by simpa using hl
    have hb' : (bytesA (x :: l)).length + [AV.int .u8 c].length ≤ 9223372036854775807 := by simp at hl ⊢; omega
    have hq := hQ (k + 1)
    rw [bH_snoc (by simp)] at hq
    simp only [bH]
    refine go42 (by simp) fun hlow => ?_
    unfold ac42
    repeat' ((conv => whnf); first | (with_reducible first | refine eops_one ?_ | refine eops_nil ?_ | refine ewp_seq ?_ | refine ewp_region ?_) | ((with_reducible refine And.intro ?_ ?_); · (first | rfl | assumption | omega | (simp; omega) | (simp [AV.cells]; done))) | (with_reducible first | refine b_T ?_ | refine b_F ?_ | refine b_true (by assumption) ?_ | refine b_false (by assumption) ?_) | ((with_reducible refine b_true ?_ ?_); (· (decide))) | ((with_reducible refine b_false ?_ ?_); (· (decide))) | (with_reducible refine b_dec ?_ ?_ <;> intro hc hcb) | (with_reducible refine b_eq ?_ ?_ <;> intro hc hcb) | (with_reducible refine b_ne ?_ ?_ <;> intro hc hcb) | (with_reducible refine b_neq ?_ ?_ <;> intro hc hcb) | (with_reducible refine b_not ?_ ?_ <;> intro hc hcb) | (with_reducible refine b_intro ?_ ?_ <;> intro hcb) | (with_reducible first | refine ewp_cond ?_ | refine eops_if ?_ | refine ewp_block ?_ | refine ewp_exit ?_ | refine ewp_ret ?_ | refine ewp_skip ?_ | refine ewp_loop ?_ | refine hget_a0 ?_ | refine hget_b ?_ | refine hget_a ?_ | refine hput_a0 ?_ | refine hput_b ?_ | refine hput_a ?_ | refine hget_s0 ?_ | refine hget_s ?_ | refine hput_s0 ?_ | refine hput_s ?_ | refine halloc1 ?_ | refine halloc2 ?_ | refine halloc3 ?_ | refine halloc4 ?_ | refine halloc5 ?_ | refine halloc6 ?_ | refine halloc7 ?_ | refine halloc8 ?_ | refine halloc_b2 ?_ | refine halloc_b1 ?_ | refine halloc_s0 ?_ | refine halloc_h ?_ | refine ewp_range ?_ | refine ewp_draw ?_ | refine edraw_nil ?_ | refine edraw_if ?_ | refine mget_cons ?_ | refine mget_nil ?_) | with_reducible refine copyCheck_S hr (.inr rfl) ?_)
    ((conv => whnf); refine done_here ?_)
    rw [hc]
    exact hq
theorem WriteByte_S' {h : AHeap} {k : Nat} {l : List UInt8} {b : UInt8} {Q : AEnd → AHeap → Prop} (hl : l.length + 1 ≤ 140737488355328) (hQ : ∀ k, Q (.ret .nili) (bH h k (l ++ [b]))) :
    S Tryz.prog Φ 42 [.ptr h.length 0 0, .int .u8 b.toNat] (bH h k l) Q := by
  have := b.toNat_lt
  exact WriteByte_S hl (by omega) (by omega) (by rw [toU8_toNat]; exact hQ)
set_option maxHeartbeats 400000 in
theorem WriteString_S {h : AHeap} {k : Nat} {l s : List UInt8} {Q : AEnd → AHeap → Prop} (hl : l.length + s.length ≤ 140737488355328) (hs : s ≠ []) (hQ : ∀ k, Q (.ret (.tup [.int .i64 s.length, .nili])) (bH h k (l ++ s))) :
    S Tryz.prog Φ 43 [.ptr h.length 0 0, .str s] (bH h k l) Q := by
  cases l with
  | nil =>
    have hr : (h ++ .cells false 92 2 [.agg [.nilp, .nils]] :: List.replicate k .dead)[h.length]? = some (.cells false 92 2 [.agg [.nilp, .nils]]) := by simp
    have hb : (s.map fun b => AV.int .u8 b.toNat).length * 1 ≤ 140737488355328 := by simpa using hl
    have hb' : (s.map fun b => AV.int .u8 b.toNat).length ≤ 9223372036854775807 := by simp at hl ⊢; omega
    have hq := hQ k
    simp only [bH] at hq ⊢
    obtain ⟨b, s, rfl⟩ := List.exists_cons_of_ne_nil hs
    refine go43 (by simp) fun hlow => ?_
    unfold ac43
    repeat' ((conv => whnf); first | (with_reducible first | refine eops_one ?_ | refine eops_nil ?_ | refine ewp_seq ?_ | refine ewp_region ?_) | ((with_reducible refine And.intro ?_ ?_); · (first | rfl | assumption | omega | (simp; omega) | (simp [AV.cells]; done))) | (with_reducible first | refine b_T ?_ | refine b_F ?_ | refine b_true (by assumption) ?_ | refine b_false (by assumption) ?_) | ((with_reducible refine b_true ?_ ?_); (· (decide))) | ((with_reducible refine b_false ?_ ?_); (· (decide))) | (with_reducible refine b_dec ?_ ?_ <;> intro hc hcb) | (with_reducible refine b_eq ?_ ?_ <;> intro hc hcb) | (with_reducible refine b_ne ?_ ?_ <;> intro hc hcb) | (with_reducible refine b_neq ?_ ?_ <;> intro hc hcb) | (with_reducible refine b_not ?_ ?_ <;> intro hc hcb) | (with_reducible refine b_intro ?_ ?_ <;> intro hcb) | (with_reducible first | refine ewp_cond ?_ | refine eops_if ?_ | refine ewp_block ?_ | refine ewp_exit ?_ | refine ewp_ret ?_ | refine ewp_skip ?_ | refine ewp_loop ?_ | refine hget_a0 ?_ | refine hget_b ?_ | refine hget_a ?_ | refine hput_a0 ?_ | refine hput_b ?_ | refine hput_a ?_ | refine hget_s0 ?_ | refine hget_s ?_ | refine hput_s0 ?_ | refine hput_s ?_ | refine halloc1 ?_ | refine halloc2 ?_ | refine halloc3 ?_ | refine halloc4 ?_ | refine halloc5 ?_ | refine halloc6 ?_ | refine halloc7 ?_ | refine halloc8 ?_ | refine halloc_b2 ?_ | refine halloc_b1 ?_ | refine halloc_s0 ?_ | refine halloc_h ?_ | refine ewp_range ?_ | refine ewp_draw ?_ | refine edraw_nil ?_ | refine edraw_if ?_ | refine mget_cons ?_ | refine mget_nil ?_) | with_reducible refine copyCheck_S hr (.inl rfl) ?_)
    ((conv => whnf); refine done_here ?_)
    refine (cast ?_ hq)
    simp [bytesA, tupOf]
  | cons x l =>
    have hr : (h ++ .cells false 92 2 [.agg [.ptr h.length 0 0, .sl (h.length + (k + 1)) 0 (x :: l).length none]] :: (List.replicate k .dead ++ [.cells true 5 1 (bytesA (x :: l))]))[h.length]? = some (.cells false 92 2 [.agg [.ptr h.length 0 0, .sl (h.length + (k + 1)) 0 (x :: l).length none]]) := by simp
    have hn : (x :: l).length = (bytesA (x :: l)).length := by simp
    have hb : ((bytesA (x :: l)).length + (s.map fun b => AV.int .u8 b.toNat).length) * 1 ≤ 140737488355328 := by simpa using hl
    have hb' : (bytesA (x :: l)).length + (s.map fun b => AV.int .u8 b.toNat).length ≤ 9223372036854775807 := by simp at hl ⊢; omega
    have hq := hQ (k + 1)
    rw [bH_snoc hs] at hq
    simp only [bH]
    refine go43 (by simp) fun hlow => ?_
    unfold ac43
    repeat' ((conv => whnf); first | (with_reducible first | refine eops_one ?_ | refine eops_nil ?_ | refine ewp_seq ?_ | refine ewp_region ?_) | ((with_reducible refine And.intro ?_ ?_); · (first | rfl | assumption | omega | (simp; omega) | (simp [AV.cells]; done))) | (with_reducible first | refine b_T ?_ | refine b_F ?_ | refine b_true (by assumption) ?_ | refine b_false (by assumption) ?_) | ((with_reducible refine b_true ?_ ?_); (· (decide))) | ((with_reducible refine b_false ?_ ?_); (· (decide))) | (with_reducible refine b_dec ?_ ?_ <;> intro hc hcb) | (with_reducible refine b_eq ?_ ?_ <;> intro hc hcb) | (with_reducible refine b_ne ?_ ?_ <;> intro hc hcb) | (with_reducible refine b_neq ?_ ?_ <;> intro hc hcb) | (with_reducible refine b_not ?_ ?_ <;> intro hc hcb) | (with_reducible refine b_intro ?_ ?_ <;> intro hcb) | (with_reducible first | refine ewp_cond ?_ | refine eops_if ?_ | refine ewp_block ?_ | refine ewp_exit ?_ | refine ewp_ret ?_ | refine ewp_skip ?_ | refine ewp_loop ?_ | refine hget_a0 ?_ | refine hget_b ?_ | refine hget_a ?_ | refine hput_a0 ?_ | refine hput_b ?_ | refine hput_a ?_ | refine hget_s0 ?_ | refine hget_s ?_ | refine hput_s0 ?_ | refine hput_s ?_ | refine halloc1 ?_ | refine halloc2 ?_ | refine halloc3 ?_ | refine halloc4 ?_ | refine halloc5 ?_ | refine halloc6 ?_ | refine halloc7 ?_ | refine halloc8 ?_ | refine halloc_b2 ?_ | refine halloc_b1 ?_ | refine halloc_s0 ?_ | refine halloc_h ?_ | refine ewp_range ?_ | refine ewp_draw ?_ | refine edraw_nil ?_ | refine edraw_if ?_ | refine mget_cons ?_ | refine mget_nil ?_) | with_reducible refine copyCheck_S hr (.inr rfl) ?_)
    ((conv => whnf); refine done_here ?_)
    refine (cast ?_ hq)
    simp [bytesA, tupOf]
theorem String_S {h : AHeap} {k : Nat} {l : List UInt8} {Q : AEnd → AHeap → Prop} (hl : l.length ≤ 9223372036854775807) (hQ : ∀ n, Q (.ret (.str l)) (h ++ List.replicate n .dead)) : S Tryz.prog Φ 44 [.ptr h.length 0 0] (bH h k l) Q := by
  cases l with
  | nil =>
    simp only [bH]
    refine S.kill_own ?_ hQ
    exact String_nil_S (a := .nilp) (by simp) ⟨rfl, _, rfl⟩
  | cons x l =>
    simp only [bH]
    refine S.kill_own ?_ hQ
    refine String_row_S (a := .ptr h.length 0 0) (r' := h.length + (k + 1)) (by simp) ?_ (by simp) hl ⟨rfl, ?_⟩
    · rw [List.getElem?_append_right (by omega)]
      simp
    · refine ⟨(.cells false 92 2 [.agg [.ptr h.length 0 0, .sl (h.length + (k + 1)) 0 (x :: l).length none]] :: (List.replicate k .dead ++ [.cells true 5 1 (bytesA (x :: l))])).set (k + 1) .dead, ?_⟩
      rw [List.set_append_right _ _ (by omega)]
      simp
theorem bH_app (h : AHeap) (k : Nat) (l : List UInt8) : ∃ l', bH h k l = h ++ l' := by cases l <;> exact ⟨_, rfl⟩
theorem done_bH {n : Nat} {v : AV} {h : AHeap} {k : Nat} {l : List UInt8} {Q : AV → AHeap → Prop} (hn : h.length = n) (hl : HLow n h) (hv : Low n v) (hQ : Q v h) : ∃ v' h', FEnt Φ n v (bH h k l) v' h' ∧ Q v' h' := by
  obtain ⟨l', e⟩ := bH_app h k l
  rw [e]; exact done_drop' hn hl hv hQ
theorem i9 (b : UInt8) : ((b.toNat : Int) = 9) ↔ b = 9 := ⟨fun h => UInt8.toNat_inj.1 (by simp; omega), fun h => by subst h; rfl⟩
theorem i10 (b : UInt8) : ((b.toNat : Int) = 10) ↔ b = 10 := ⟨fun h => UInt8.toNat_inj.1 (by simp; omega), fun h => by subst h; rfl⟩
theorem i32 (b : UInt8) : ((b.toNat : Int) = 32) ↔ b = 32 := ⟨fun h => UInt8.toNat_inj.1 (by simp; omega), fun h => by subst h; rfl⟩
theorem i34 (b : UInt8) : ((b.toNat : Int) = 34) ↔ b = 34 := ⟨fun h => UInt8.toNat_inj.1 (by simp; omega), fun h => by subst h; rfl⟩
theorem i92 (b : UInt8) : ((b.toNat : Int) = 92) ↔ b = 92 := ⟨fun h => UInt8.toNat_inj.1 (by simp; omega), fun h => by subst h; rfl⟩
end Go.QZ
end
section
namespace Go.QZ
open Go Go.Abs Go.Proofs
variable {Φ : World → Prop}
set_option maxRecDepth 100000
def esc (d : UInt8) : Option UInt8 := if d = 92 then some 92 else if d = 34 then some 34 else if d = 110 then some 10 else none
def unqGo : List UInt8 → List UInt8 → Nat → Option (List UInt8 × Nat)
  | [], _, _ => none
  | c :: rest, acc, i => if c = 34 then some (acc, i + 1) else if c = 10 then none else if c = 92 then
      (match rest with
      | [] => none
      | d :: rest' => match esc d with
        | some e => unqGo rest' (acc ++ [e]) (i + 2)
        | none => none)
    else unqGo rest (acc ++ [c]) (i + 1)
def unqEsc (rest acc : List UInt8) (i : Nat) : Option (List UInt8 × Nat) := match rest with
  | [] => none
  | d :: rest' => match esc d with
    | some e => unqGo rest' (acc ++ [e]) (i + 2)
    | none => none
theorem unqGo_cons (c : UInt8) (rest acc : List UInt8) (i : Nat) : unqGo (c :: rest) acc i = if c = 34 then some (acc, i + 1) else if c = 10 then none else if c = 92 then unqEsc rest acc i
    else unqGo rest (acc ++ [c]) (i + 1) := by cases rest <;> rfl
def unq (s : List UInt8) : Option (List UInt8 × Nat) := unqGo (s.drop 1) [] 1
def unqA (s : List UInt8) : AV := match unq s with
  | some (t, n) => .tup [.str t, .int .i64 n]
  | none => .tup [.str [], .int .i64 0]
theorem index_esc (d : UInt8) : (esc d = none ∧ Lib.indexByte [92, 34, 110] d = -1) ∨ (∃ e, esc d = some e ∧ ∃ k : Nat, Lib.indexByte [92, 34, 110] d = k ∧ ([92, 34, 10] : List UInt8)[k]? = some e) := by
  unfold esc
  by_cases h1 : d = 92
  · subst h1; exact .inr ⟨92, rfl, 0, rfl, rfl⟩
  · by_cases h2 : d = 34
    · subst h2; exact .inr ⟨34, rfl, 1, rfl, rfl⟩
    · by_cases h3 : d = 110
      · subst h3; exact .inr ⟨10, rfl, 2, rfl, rfl⟩
      · refine .inl ⟨by simp [h1, h2, h3], ?_⟩
        simp [Lib.indexByte, Ne.symm h1, Ne.symm h2, Ne.symm h3]
theorem unqA_none {s : List UInt8} (h : unq s = none) : unqA s = .tup [.str [], .int .i64 0] := by unfold unqA; rw [h]
theorem unqA_some {s t : List UInt8} {n : Nat} (h : unq s = some (t, n)) : unqA s = .tup [.str t, .int .i64 n] := by unfold unqA; rw [h]
set_option maxHeartbeats 2000000 in
theorem unquoted_S {h : AHeap} {s : List UInt8} {Q : AEnd → AHeap → Prop} (hs : s.length ≤ 140737488355328) (hQ : Q (.ret (unqA s)) h) : S Tryz.prog Φ 70 [.str s] h Q := by
  refine go70 (by simp) fun hlow => ?_
  unfold ac70
  repeat' ((conv => whnf); first | (with_reducible first | refine eops_one ?_ | refine eops_nil ?_ | refine ewp_seq ?_ | refine ewp_region ?_) | ((with_reducible refine And.intro ?_ ?_); · (first | rfl | assumption | omega | (simp; omega) | (simp [AV.cells]; done))) | (with_reducible first | refine b_T ?_ | refine b_F ?_ | refine b_true (by assumption) ?_ | refine b_false (by assumption) ?_) | ((with_reducible refine b_true ?_ ?_); (· (decide))) | ((with_reducible refine b_false ?_ ?_); (· (decide))) | (with_reducible refine b_dec ?_ ?_ <;> intro hc hcb) | (with_reducible refine b_eq ?_ ?_ <;> intro hc hcb) | (with_reducible refine b_ne ?_ ?_ <;> intro hc hcb) | (with_reducible refine b_neq ?_ ?_ <;> intro hc hcb) | (with_reducible refine b_not ?_ ?_ <;> intro hc hcb) | (with_reducible refine b_intro ?_ ?_ <;> intro hcb) | (with_reducible first | refine ewp_cond ?_ | refine eops_if ?_ | refine ewp_block ?_ | refine ewp_exit ?_ | refine ewp_ret ?_ | refine ewp_skip ?_ | refine ewp_loop ?_ | refine hget_a0 ?_ | refine hget_b ?_ | refine hget_a ?_ | refine hput_a0 ?_ | refine hput_b ?_ | refine hput_a ?_ | refine hget_s0 ?_ | refine hget_s ?_ | refine hput_s0 ?_ | refine hput_s ?_ | refine halloc1 ?_ | refine halloc2 ?_ | refine halloc3 ?_ | refine halloc4 ?_ | refine halloc5 ?_ | refine halloc6 ?_ | refine halloc7 ?_ | refine halloc8 ?_ | refine halloc_b2 ?_ | refine halloc_b1 ?_ | refine halloc_s0 ?_ | refine halloc_h ?_ | refine ewp_range ?_ | refine ewp_draw ?_ | refine edraw_nil ?_ | refine edraw_if ?_ | refine mget_cons ?_) | with_reducible refine mget_nil ?_)
  refine LoopP.of (fun a : Nat × Nat × List UInt8 => 1 ≤ a.1 ∧ a.2.2.length + 1 ≤ a.1 ∧ a.1 ≤ s.length + 1 ∧ unqGo (s.drop a.1) a.2.2 a.1 = unq s) (fun a => [(0, .str s), (4, .ptr h.length 0 0), (5, .int .i64 a.1)]) (fun a => bH h a.2.1 a.2.2) (fun a => s.length + 1 - a.1) (1, 0, []) ⟨by omega, by simp, by omega, rfl⟩ rfl rfl ?_
  rintro ⟨i, k, acc⟩ ⟨h1, hacc, hi, hu⟩
  dsimp only at h1 hacc hi hu ⊢
  by_cases hlt : i < s.length
  · have hw := i64_succ (i := i) (by omega)
    have hw2 := i64_succ (i := i + 1) (by omega)
    have hd : decide ((i : Int) < s.length) = true := by simp; omega
    rw [List.drop_eq_getElem_cons hlt, unqGo_cons] at hu
    by_cases hlt2 : i + 1 < s.length
    · have hd2 : decide (((i + 1 : Nat) : Int) < s.length) = true := by simp; omega
      have hdr := List.drop_eq_getElem_cons hlt2
      rcases index_esc s[i + 1] with ⟨he, hx⟩ | ⟨e, he, k0, hx, hk0⟩
      · rw [show unqEsc (s.drop (i + 1)) acc i = none by rw [hdr]; simp [unqEsc, he]] at hu
        clear hdr
        repeat' ((conv => whnf); first | (with_reducible first | refine eops_one ?_ | refine eops_nil ?_ | refine ewp_seq ?_ | refine ewp_region ?_) | ((with_reducible refine And.intro ?_ ?_); · (first | rfl | assumption | omega | (simp; omega) | (simp [AV.cells]; done))) | (with_reducible first | refine b_T ?_ | refine b_F ?_ | refine b_true (by assumption) ?_ | refine b_false (by assumption) ?_) | ((with_reducible refine b_true ?_ ?_); (· (decide))) | ((with_reducible refine b_false ?_ ?_); (· (decide))) | (with_reducible refine b_dec ?_ ?_ <;> intro hc hcb) | (with_reducible refine b_eq ?_ ?_ <;> intro hc hcb) | (with_reducible refine b_ne ?_ ?_ <;> intro hc hcb) | (with_reducible refine b_neq ?_ ?_ <;> intro hc hcb) | (with_reducible refine b_not ?_ ?_ <;> intro hc hcb) | (with_reducible refine b_intro ?_ ?_ <;> intro hcb) | (with_reducible first | refine ewp_cond ?_ | refine eops_if ?_ | refine ewp_block ?_ | refine ewp_exit ?_ | refine ewp_ret ?_ | refine ewp_skip ?_ | refine ewp_loop ?_ | refine hget_a0 ?_ | refine hget_b ?_ | refine hget_a ?_ | refine hput_a0 ?_ | refine hput_b ?_ | refine hput_a ?_ | refine hget_s0 ?_ | refine hget_s ?_ | refine hput_s0 ?_ | refine hput_s ?_ | refine halloc1 ?_ | refine halloc2 ?_ | refine halloc3 ?_ | refine halloc4 ?_ | refine halloc5 ?_ | refine halloc6 ?_ | refine halloc7 ?_ | refine halloc8 ?_ | refine halloc_b2 ?_ | refine halloc_b1 ?_ | refine halloc_s0 ?_ | refine halloc_h ?_ | refine ewp_range ?_ | refine ewp_draw ?_ | refine edraw_nil ?_ | refine edraw_if ?_ | refine mget_cons ?_ | refine mget_nil ?_) | with_reducible refine sget_nat hlt ?_ | with_reducible refine sget_nat hlt2 ?_ | with_reducible refine indexByte_S' ?_ | with_reducible refine String_S (by omega) (fun n => ?_) | with_reducible refine WriteByte_S' (by omega) (fun k' => ?_) | simp only [hw, hw2, hx])
        all_goals (conv => whnf)
        all_goals (try simp only [i34, i10, i92, ne_eq] at *)
        all_goals first
          | (exfalso; simp only [hw] at *; omega)
          | (exfalso; simp only [hw, hx] at *; omega)
          | (refine done_bH rfl hlow (by repeat' (first | exact .int _ _ | exact .bool _ | exact .str _ | exact .nilp | exact .nils | exact .nilf | exact .nili | exact .nilm | assumption | (refine .tup _ ?_; simp only [List.mem_cons, List.not_mem_nil, or_false, forall_eq_or_imp, forall_eq]) | (refine .agg _ ?_; simp only [List.mem_cons, List.not_mem_nil, or_false, forall_eq_or_imp, forall_eq]) | refine And.intro ?_ ?_)) ?_; refine ret_of hQ ?_; rw [unqA_none (by rw [← hu]; simp_all)]; rfl)
          | (refine done_drop' rfl hlow (by repeat' (first | exact .int _ _ | exact .bool _ | exact .str _ | exact .nilp | exact .nils | exact .nilf | exact .nili | exact .nilm | assumption | (refine .tup _ ?_; simp only [List.mem_cons, List.not_mem_nil, or_false, forall_eq_or_imp, forall_eq]) | (refine .agg _ ?_; simp only [List.mem_cons, List.not_mem_nil, or_false, forall_eq_or_imp, forall_eq]) | refine And.intro ?_ ?_)) ?_; refine ret_of hQ ?_; rw [unqA_some (by rw [← hu, if_pos (by assumption)])]; rfl)
          | (refine LI.next (i + 1, _, acc ++ [s[i]]) ⟨by omega, by simp; omega, by omega, ?_⟩ (by dsimp only; omega) (by first | rfl | simp only [hw] | simp only [hw, hw2]) rfl
             rw [← hu]; simp_all; done)
          | (refine LI.next (i + 2, _, acc ++ [e]) ⟨by omega, by simp; omega, by omega, ?_⟩ (by dsimp only; omega) (by first | rfl | simp only [hw, hw2]) rfl
             rw [← hu]; simp_all; done)
      · rw [show unqEsc (s.drop (i + 1)) acc i = unqGo (s.drop (i + 2)) (acc ++ [e]) (i + 2) by rw [hdr]; simp [unqEsc, he]] at hu
        clear hdr
        have hk : (0 : Int) ≤ k0 := by omega
        have hk1 : ([92, 34, 10] : List UInt8)[((k0 : Nat) : Int).toNat]? = some e := by simpa using hk0
        have hk' : decide ((k0 : Int) < 0) = false := by simp
        repeat' ((conv => whnf); first | (with_reducible first | refine eops_one ?_ | refine eops_nil ?_ | refine ewp_seq ?_ | refine ewp_region ?_) | ((with_reducible refine And.intro ?_ ?_); · (first | rfl | assumption | omega | (simp; omega) | (simp [AV.cells]; done))) | (with_reducible first | refine b_T ?_ | refine b_F ?_ | refine b_true (by assumption) ?_ | refine b_false (by assumption) ?_) | ((with_reducible refine b_true ?_ ?_); (· (decide))) | ((with_reducible refine b_false ?_ ?_); (· (decide))) | (with_reducible refine b_dec ?_ ?_ <;> intro hc hcb) | (with_reducible refine b_eq ?_ ?_ <;> intro hc hcb) | (with_reducible refine b_ne ?_ ?_ <;> intro hc hcb) | (with_reducible refine b_neq ?_ ?_ <;> intro hc hcb) | (with_reducible refine b_not ?_ ?_ <;> intro hc hcb) | (with_reducible refine b_intro ?_ ?_ <;> intro hcb) | (with_reducible first | refine ewp_cond ?_ | refine eops_if ?_ | refine ewp_block ?_ | refine ewp_exit ?_ | refine ewp_ret ?_ | refine ewp_skip ?_ | refine ewp_loop ?_ | refine hget_a0 ?_ | refine hget_b ?_ | refine hget_a ?_ | refine hput_a0 ?_ | refine hput_b ?_ | refine hput_a ?_ | refine hget_s0 ?_ | refine hget_s ?_ | refine hput_s0 ?_ | refine hput_s ?_ | refine halloc1 ?_ | refine halloc2 ?_ | refine halloc3 ?_ | refine halloc4 ?_ | refine halloc5 ?_ | refine halloc6 ?_ | refine halloc7 ?_ | refine halloc8 ?_ | refine halloc_b2 ?_ | refine halloc_b1 ?_ | refine halloc_s0 ?_ | refine halloc_h ?_ | refine ewp_range ?_ | refine ewp_draw ?_ | refine edraw_nil ?_ | refine edraw_if ?_ | refine mget_cons ?_ | refine mget_nil ?_) | with_reducible refine sget_nat hlt ?_ | with_reducible refine sget_nat hlt2 ?_ | with_reducible refine indexByte_S' ?_ | with_reducible refine String_S (by omega) (fun n => ?_) | with_reducible refine WriteByte_S' (by omega) (fun k' => ?_) | simp only [hw, hw2, hx] | with_reducible refine sget_of hk1 ?_)
        all_goals (conv => whnf)
        all_goals (try simp only [i34, i10, i92, ne_eq] at *)
        all_goals first
          | (exfalso; simp only [hw] at *; omega)
          | (exfalso; simp only [hw, hx] at *; omega)
          | (refine done_bH rfl hlow (by repeat' (first | exact .int _ _ | exact .bool _ | exact .str _ | exact .nilp | exact .nils | exact .nilf | exact .nili | exact .nilm | assumption | (refine .tup _ ?_; simp only [List.mem_cons, List.not_mem_nil, or_false, forall_eq_or_imp, forall_eq]) | (refine .agg _ ?_; simp only [List.mem_cons, List.not_mem_nil, or_false, forall_eq_or_imp, forall_eq]) | refine And.intro ?_ ?_)) ?_; refine ret_of hQ ?_; rw [unqA_none (by rw [← hu]; simp_all)]; rfl)
          | (refine done_drop' rfl hlow (by repeat' (first | exact .int _ _ | exact .bool _ | exact .str _ | exact .nilp | exact .nils | exact .nilf | exact .nili | exact .nilm | assumption | (refine .tup _ ?_; simp only [List.mem_cons, List.not_mem_nil, or_false, forall_eq_or_imp, forall_eq]) | (refine .agg _ ?_; simp only [List.mem_cons, List.not_mem_nil, or_false, forall_eq_or_imp, forall_eq]) | refine And.intro ?_ ?_)) ?_; refine ret_of hQ ?_; rw [unqA_some (by rw [← hu, if_pos (by assumption)])]; rfl)
          | (refine LI.next (i + 1, _, acc ++ [s[i]]) ⟨by omega, by simp; omega, by omega, ?_⟩ (by dsimp only; omega) (by first | rfl | simp only [hw] | simp only [hw, hw2]) rfl
             rw [← hu]; simp_all; done)
          | (refine LI.next (i + 2, _, acc ++ [e]) ⟨by omega, by simp; omega, by omega, ?_⟩ (by dsimp only; omega) (by first | rfl | simp only [hw, hw2]) rfl
             rw [← hu]; simp_all; done)
    · have hd2 : decide (((i + 1 : Nat) : Int) < s.length) = false := by simp; omega
      have hdr : s.drop (i + 1) = [] := by rw [List.drop_eq_nil_iff]; omega
      rw [hdr, show unqEsc [] acc i = none by rfl] at hu
      repeat' ((conv => whnf); first | (with_reducible first | refine eops_one ?_ | refine eops_nil ?_ | refine ewp_seq ?_ | refine ewp_region ?_) | ((with_reducible refine And.intro ?_ ?_); · (first | rfl | assumption | omega | (simp; omega) | (simp [AV.cells]; done))) | (with_reducible first | refine b_T ?_ | refine b_F ?_ | refine b_true (by assumption) ?_ | refine b_false (by assumption) ?_) | ((with_reducible refine b_true ?_ ?_); (· (decide))) | ((with_reducible refine b_false ?_ ?_); (· (decide))) | (with_reducible refine b_dec ?_ ?_ <;> intro hc hcb) | (with_reducible refine b_eq ?_ ?_ <;> intro hc hcb) | (with_reducible refine b_ne ?_ ?_ <;> intro hc hcb) | (with_reducible refine b_neq ?_ ?_ <;> intro hc hcb) | (with_reducible refine b_not ?_ ?_ <;> intro hc hcb) | (with_reducible refine b_intro ?_ ?_ <;> intro hcb) | (with_reducible first | refine ewp_cond ?_ | refine eops_if ?_ | refine ewp_block ?_ | refine ewp_exit ?_ | refine ewp_ret ?_ | refine ewp_skip ?_ | refine ewp_loop ?_ | refine hget_a0 ?_ | refine hget_b ?_ | refine hget_a ?_ | refine hput_a0 ?_ | refine hput_b ?_ | refine hput_a ?_ | refine hget_s0 ?_ | refine hget_s ?_ | refine hput_s0 ?_ | refine hput_s ?_ | refine halloc1 ?_ | refine halloc2 ?_ | refine halloc3 ?_ | refine halloc4 ?_ | refine halloc5 ?_ | refine halloc6 ?_ | refine halloc7 ?_ | refine halloc8 ?_ | refine halloc_b2 ?_ | refine halloc_b1 ?_ | refine halloc_s0 ?_ | refine halloc_h ?_ | refine ewp_range ?_ | refine ewp_draw ?_ | refine edraw_nil ?_ | refine edraw_if ?_ | refine mget_cons ?_ | refine mget_nil ?_) | with_reducible refine sget_nat hlt ?_ | with_reducible refine String_S (by omega) (fun n => ?_) | with_reducible refine WriteByte_S' (by omega) (fun k' => ?_) | simp only [hw, hw2])
      all_goals (conv => whnf)
      all_goals (try simp only [i34, i10, i92, ne_eq] at *)
      all_goals first
        | (exfalso; simp only [hw] at *; omega)
        | (refine done_bH rfl hlow (by repeat' (first | exact .int _ _ | exact .bool _ | exact .str _ | exact .nilp | exact .nils | exact .nilf | exact .nili | exact .nilm | assumption | (refine .tup _ ?_; simp only [List.mem_cons, List.not_mem_nil, or_false, forall_eq_or_imp, forall_eq]) | (refine .agg _ ?_; simp only [List.mem_cons, List.not_mem_nil, or_false, forall_eq_or_imp, forall_eq]) | refine And.intro ?_ ?_)) ?_; refine ret_of hQ ?_; rw [unqA_none (by rw [← hu]; simp_all)]; rfl)
        | (refine done_drop' rfl hlow (by repeat' (first | exact .int _ _ | exact .bool _ | exact .str _ | exact .nilp | exact .nils | exact .nilf | exact .nili | exact .nilm | assumption | (refine .tup _ ?_; simp only [List.mem_cons, List.not_mem_nil, or_false, forall_eq_or_imp, forall_eq]) | (refine .agg _ ?_; simp only [List.mem_cons, List.not_mem_nil, or_false, forall_eq_or_imp, forall_eq]) | refine And.intro ?_ ?_)) ?_; refine ret_of hQ ?_; rw [unqA_some (by rw [← hu, if_pos (by assumption)])]; rfl)
        | skip
      refine LI.next (i + 1, _, acc ++ [s[i]]) ⟨by omega, by simp; omega, by omega, ?_⟩ (by dsimp only; omega) rfl rfl
      rw [← hu, hdr]; simp_all
  · have hd : decide ((i : Int) < s.length) = false := by simp; omega
    have hdr : s.drop i = [] := by rw [List.drop_eq_nil_iff]; omega
    rw [hdr] at hu
    repeat' ((conv => whnf); first | (with_reducible first | refine eops_one ?_ | refine eops_nil ?_ | refine ewp_seq ?_ | refine ewp_region ?_) | ((with_reducible refine And.intro ?_ ?_); · (first | rfl | assumption | omega | (simp; omega) | (simp [AV.cells]; done))) | (with_reducible first | refine b_T ?_ | refine b_F ?_ | refine b_true (by assumption) ?_ | refine b_false (by assumption) ?_) | ((with_reducible refine b_true ?_ ?_); (· (decide))) | ((with_reducible refine b_false ?_ ?_); (· (decide))) | (with_reducible refine b_dec ?_ ?_ <;> intro hc hcb) | (with_reducible refine b_eq ?_ ?_ <;> intro hc hcb) | (with_reducible refine b_ne ?_ ?_ <;> intro hc hcb) | (with_reducible refine b_neq ?_ ?_ <;> intro hc hcb) | (with_reducible refine b_not ?_ ?_ <;> intro hc hcb) | (with_reducible refine b_intro ?_ ?_ <;> intro hcb) | (with_reducible first | refine ewp_cond ?_ | refine eops_if ?_ | refine ewp_block ?_ | refine ewp_exit ?_ | refine ewp_ret ?_ | refine ewp_skip ?_ | refine ewp_loop ?_ | refine hget_a0 ?_ | refine hget_b ?_ | refine hget_a ?_ | refine hput_a0 ?_ | refine hput_b ?_ | refine hput_a ?_ | refine hget_s0 ?_ | refine hget_s ?_ | refine hput_s0 ?_ | refine hput_s ?_ | refine halloc1 ?_ | refine halloc2 ?_ | refine halloc3 ?_ | refine halloc4 ?_ | refine halloc5 ?_ | refine halloc6 ?_ | refine halloc7 ?_ | refine halloc8 ?_ | refine halloc_b2 ?_ | refine halloc_b1 ?_ | refine halloc_s0 ?_ | refine halloc_h ?_ | refine ewp_range ?_ | refine ewp_draw ?_ | refine edraw_nil ?_ | refine edraw_if ?_ | refine mget_cons ?_) | with_reducible refine mget_nil ?_)
    all_goals (conv => whnf)
    refine done_bH rfl hlow (by repeat' (first | exact .int _ _ | exact .bool _ | exact .str _ | exact .nilp | exact .nils | exact .nilf | exact .nili | exact .nilm | assumption | (refine .tup _ ?_; simp only [List.mem_cons, List.not_mem_nil, or_false, forall_eq_or_imp, forall_eq]) | (refine .agg _ ?_; simp only [List.mem_cons, List.not_mem_nil, or_false, forall_eq_or_imp, forall_eq]) | refine And.intro ?_ ?_)) ?_
    refine ret_of hQ ?_
    rw [unqA_none (by rw [← hu]; rfl)]; rfl
end Go.QZ
end
section
namespace Go.QZ
open Go Go.Abs Go.Proofs
variable {Φ : World → Prop}
set_option maxRecDepth 100000
def quo1 (b : UInt8) : List UInt8 := if b = 10 then [92, 110] else if b = 34 ∨ b = 92 then [92, b] else [b]
def quoS (s : List UInt8) : List UInt8 := 34 :: (s.flatMap quo1 ++ [34])
theorem quo1_len (b : UInt8) : (quo1 b).length ≤ 2 := by
  unfold quo1; repeat' split
  all_goals simp
theorem quo_len (s : List UInt8) : (s.flatMap quo1).length ≤ 2 * s.length := by
  induction s with
  | nil => simp
  | cons a l ih => have := quo1_len a; simp only [List.flatMap_cons, List.length_append, List.length_cons]; omega
theorem quo_take {s : List UInt8} {i : Nat} (h : i < s.length) : (s.take (i + 1)).flatMap quo1 = (s.take i).flatMap quo1 ++ quo1 s[i] := by
  rw [List.take_succ_eq_append_getElem h, List.flatMap_append]; simp
theorem take_len (s : List UInt8) (i : Nat) : ((s.take i).flatMap quo1).length ≤ 2 * s.length := by
  have := quo_len (s.take i); have := List.length_take_le i s; have := List.length_take_le' i s; omega
set_option maxHeartbeats 1000000 in
theorem quote_S {h : AHeap} {s : List UInt8} {Q : AEnd → AHeap → Prop} (hs : s.length ≤ 70368744177000) (hQ : Q (.ret (.str (quoS s))) h) : S Tryz.prog Φ 16 [.str s] h Q := by
  refine go16 (by simp) fun hlow => ?_
  unfold ac16
  repeat' ((conv => whnf); first | (with_reducible first | refine eops_one ?_ | refine eops_nil ?_ | refine ewp_seq ?_ | refine ewp_region ?_) | ((with_reducible refine And.intro ?_ ?_); · (first | rfl | assumption | omega | (simp; omega) | (simp [AV.cells]; done))) | (with_reducible first | refine b_T ?_ | refine b_F ?_ | refine b_true (by assumption) ?_ | refine b_false (by assumption) ?_) | ((with_reducible refine b_true ?_ ?_); (· (decide))) | ((with_reducible refine b_false ?_ ?_); (· (decide))) | (with_reducible refine b_dec ?_ ?_ <;> intro hc hcb) | (with_reducible refine b_eq ?_ ?_ <;> intro hc hcb) | (with_reducible refine b_ne ?_ ?_ <;> intro hc hcb) | (with_reducible refine b_neq ?_ ?_ <;> intro hc hcb) | (with_reducible refine b_not ?_ ?_ <;> intro hc hcb) | (with_reducible refine b_intro ?_ ?_ <;> intro hcb) | (with_reducible first | refine ewp_cond ?_ | refine eops_if ?_ | refine ewp_block ?_ | refine ewp_exit ?_ | refine ewp_ret ?_ | refine ewp_skip ?_ | refine ewp_loop ?_ | refine hget_a0 ?_ | refine hget_b ?_ | refine hget_a ?_ | refine hput_a0 ?_ | refine hput_b ?_ | refine hput_a ?_ | refine hget_s0 ?_ | refine hget_s ?_ | refine hput_s0 ?_ | refine hput_s ?_ | refine halloc1 ?_ | refine halloc2 ?_ | refine halloc3 ?_ | refine halloc4 ?_ | refine halloc5 ?_ | refine halloc6 ?_ | refine halloc7 ?_ | refine halloc8 ?_ | refine halloc_b2 ?_ | refine halloc_b1 ?_ | refine halloc_s0 ?_ | refine halloc_h ?_ | refine ewp_range ?_ | refine ewp_draw ?_ | refine edraw_nil ?_ | refine edraw_if ?_ | refine mget_cons ?_ | refine mget_nil ?_) | (rw [← bH_new]; refine WriteByte_S' (b := 34) (by simp) fun k' => ?_))
  refine LoopP.of (fun a : Nat × Nat => a.1 ≤ s.length) (fun a => [(0, .str s), (3, .ptr h.length 0 0), (8, .int .i64 s.length), (9, .int .i64 a.1)]) (fun a => bH h a.2 (34 :: (s.take a.1).flatMap quo1)) (fun a => s.length - a.1) (0, k') (by simp) rfl (by simp) ?_
  rintro ⟨i, k⟩ hi
  dsimp only at hi ⊢
  have hb := take_len s i
  by_cases hlt : i < s.length
  · have hd : decide ((i : Int) < s.length) = true := by simp; omega
    have hw := i64_succ (i := i) (by omega)
    have hq := quo_take hlt
    repeat' ((conv => whnf); first | (with_reducible first | refine eops_one ?_ | refine eops_nil ?_ | refine ewp_seq ?_ | refine ewp_region ?_) | ((with_reducible refine And.intro ?_ ?_); · (first | rfl | assumption | omega | (simp; omega) | (simp [AV.cells]; done))) | (with_reducible first | refine b_T ?_ | refine b_F ?_ | refine b_true (by assumption) ?_ | refine b_false (by assumption) ?_) | ((with_reducible refine b_true ?_ ?_); (· (decide))) | ((with_reducible refine b_false ?_ ?_); (· (decide))) | (with_reducible refine b_dec ?_ ?_ <;> intro hc hcb) | (with_reducible refine b_eq ?_ ?_ <;> intro hc hcb) | (with_reducible refine b_ne ?_ ?_ <;> intro hc hcb) | (with_reducible refine b_neq ?_ ?_ <;> intro hc hcb) | (with_reducible refine b_not ?_ ?_ <;> intro hc hcb) | (with_reducible refine b_intro ?_ ?_ <;> intro hcb) | (with_reducible first | refine ewp_cond ?_ | refine eops_if ?_ | refine ewp_block ?_ | refine ewp_exit ?_ | refine ewp_ret ?_ | refine ewp_skip ?_ | refine ewp_loop ?_ | refine hget_a0 ?_ | refine hget_b ?_ | refine hget_a ?_ | refine hput_a0 ?_ | refine hput_b ?_ | refine hput_a ?_ | refine hget_s0 ?_ | refine hget_s ?_ | refine hput_s0 ?_ | refine hput_s ?_ | refine halloc1 ?_ | refine halloc2 ?_ | refine halloc3 ?_ | refine halloc4 ?_ | refine halloc5 ?_ | refine halloc6 ?_ | refine halloc7 ?_ | refine halloc8 ?_ | refine halloc_b2 ?_ | refine halloc_b1 ?_ | refine halloc_s0 ?_ | refine halloc_h ?_ | refine ewp_range ?_ | refine ewp_draw ?_ | refine edraw_nil ?_ | refine edraw_if ?_ | refine mget_cons ?_ | refine mget_nil ?_) | with_reducible refine sget_nat hlt ?_ | with_reducible refine WriteByte_S' (by simp only [List.length_cons, List.length_append, List.length_nil]; omega) (fun k' => ?_) | (refine WriteByte_S' (b := 92) (by simp only [List.length_cons, List.length_append, List.length_nil]; omega) (fun k' => ?_)) | with_reducible refine WriteString_S (by simp only [List.length_cons, List.length_append, List.length_nil]; omega) (by simp) (fun k' => ?_))
    all_goals (conv => whnf)
    all_goals (simp only [i34, i10, i92, ne_eq] at *)
    all_goals (refine LI.next (i + 1, by assumption) hlt (by dsimp only; omega) (by first | rfl | simp only [hw]) ?_)
    all_goals (simp_all [quo1])
  · have : i = s.length := by omega
    subst this
    have hd : decide (((s.length : Nat) : Int) < s.length) = false := by simp
    rw [List.take_length] at hb ⊢
    repeat' ((conv => whnf); first | (with_reducible first | refine eops_one ?_ | refine eops_nil ?_ | refine ewp_seq ?_ | refine ewp_region ?_) | ((with_reducible refine And.intro ?_ ?_); · (first | rfl | assumption | omega | (simp; omega) | (simp [AV.cells]; done))) | (with_reducible first | refine b_T ?_ | refine b_F ?_ | refine b_true (by assumption) ?_ | refine b_false (by assumption) ?_) | ((with_reducible refine b_true ?_ ?_); (· (decide))) | ((with_reducible refine b_false ?_ ?_); (· (decide))) | (with_reducible refine b_dec ?_ ?_ <;> intro hc hcb) | (with_reducible refine b_eq ?_ ?_ <;> intro hc hcb) | (with_reducible refine b_ne ?_ ?_ <;> intro hc hcb) | (with_reducible refine b_neq ?_ ?_ <;> intro hc hcb) | (with_reducible refine b_not ?_ ?_ <;> intro hc hcb) | (with_reducible refine b_intro ?_ ?_ <;> intro hcb) | (with_reducible first | refine ewp_cond ?_ | refine eops_if ?_ | refine ewp_block ?_ | refine ewp_exit ?_ | refine ewp_ret ?_ | refine ewp_skip ?_ | refine ewp_loop ?_ | refine hget_a0 ?_ | refine hget_b ?_ | refine hget_a ?_ | refine hput_a0 ?_ | refine hput_b ?_ | refine hput_a ?_ | refine hget_s0 ?_ | refine hget_s ?_ | refine hput_s0 ?_ | refine hput_s ?_ | refine halloc1 ?_ | refine halloc2 ?_ | refine halloc3 ?_ | refine halloc4 ?_ | refine halloc5 ?_ | refine halloc6 ?_ | refine halloc7 ?_ | refine halloc8 ?_ | refine halloc_b2 ?_ | refine halloc_b1 ?_ | refine halloc_s0 ?_ | refine halloc_h ?_ | refine ewp_range ?_ | refine ewp_draw ?_ | refine edraw_nil ?_ | refine edraw_if ?_ | refine mget_cons ?_ | refine mget_nil ?_) | (refine WriteByte_S' (b := 34) (by simp only [List.length_cons]; omega) fun k' => ?_) | with_reducible refine String_S (by simp only [List.length_cons, List.length_append, List.length_nil]; omega) (fun n => ?_))
    ((conv => whnf); refine done_drop' rfl hlow (by repeat' (first | exact .int _ _ | exact .bool _ | exact .str _ | exact .nilp | exact .nils | exact .nilf | exact .nili | exact .nilm | assumption | (refine .tup _ ?_; simp only [List.mem_cons, List.not_mem_nil, or_false, forall_eq_or_imp, forall_eq]) | (refine .agg _ ?_; simp only [List.mem_cons, List.not_mem_nil, or_false, forall_eq_or_imp, forall_eq]) | refine And.intro ?_ ?_)) ?_)
    exact hQ
end Go.QZ
end
section
namespace Go.Abs
open Go.RowKit
def Stays (F : World → Prop) (w : World) : Prop := ∀ W, Below w.heap.size w W → F W
theorem Stays.later {F : World → Prop} (b : Nat) (w w' : World) (h : Stays F w) (hb : w.heap.size ≤ b) (k : Below b w w') : Stays F w' := fun W hW =>
  h W ((k.mono hb).trans (hW.mono k.size))
theorem Rel.stays {F : World → Prop} {g : Gh} {h : AHeap} {w : World} (R : Rel (Stays F) g h w) : F w := R.ok.1 w (R.below.mono R.ok.2)
theorem True.later (b : Nat) (w w' : World) (_ : True) (_ : w.heap.size ≤ b) (_ : Below b w w') : True := trivial
def StrsAt (w : World) (u : Value) (l : List (List UInt8)) : Prop :=
  (l = [] ∧ ∃ a c, u = .slice a 0 c) ∨ ∃ b off c, u = .slice (some ⟨b, off, none⟩) l.length c ∧ l.length ≤ c ∧ b < w.heap.size ∧ ∀ (j : Nat) (s : List UInt8), l[j]? = some s → w.cell? ⟨b, off + j, none⟩ = some (.string ⟨s.toArray⟩)
def strsIn (h : AHeap) (x : AV) (l : List (List UInt8)) : Prop :=
  match x with
  | .lst sz els => sz = 1 ∧ els = l.map AV.str
  | .nils => l = []
  | .sl r i m _ => match h[r]? with
    | some (.cells _ _ sz els) => sz = 1 ∧ i + m ≤ els.length ∧ (els.drop i).take m = l.map AV.str
    | _ => False
  | _ => False
theorem cell_lt {w : World} {b o : Nat} {v : Value} (h : w.cell? ⟨b, o, none⟩ = some v) : b < w.heap.size := by
  unfold World.cell? at h
  rcases Nat.lt_or_ge b w.heap.size with hb | hb
  · exact hb
  · have : w.heap[b]? = none := Array.getElem?_eq_none hb
    simp [this] at h
theorem strsAt {Φ : World → Prop} {g : Gh} {h : AHeap} {w : World} (R : Rel Φ g h w) {x : AV} {u : Value} (V : VR g h.length w x u) {l : List (List UInt8)} (hs : strsIn h x l) : StrsAt w u l := by
  unfold strsIn at hs
  split at hs
  · rename_i sz els
    obtain ⟨rfl, he⟩ := hs
    cases V with
    | lst0 _ p c =>
      left
      have : l = [] := by cases l <;> simp at he ⊢
      subst this; exact ⟨rfl, p, c, rfl⟩
    | lst _ _ b off c f hc h0 h1 h2 =>
      subst he
      cases l with
      | nil => exact .inl ⟨rfl, _, _, rfl⟩
      | cons s0 l0 =>
        right
        have key : ∀ (j : Nat) (s : List UInt8), (s0 :: l0)[j]? = some s → w.cell? ⟨b, off + j, none⟩ = some (.string ⟨s.toArray⟩) := by
          intro j s hj
          have he : ((s0 :: l0).map AV.str)[j]? = some (.str s) := by rw [List.getElem?_map, hj]; rfl
          have ha := (h1 j (.str s) 0 (.str s) he rfl).2.1
          have hv := h2 j (.str s) 0 (.str s) he rfl
          rw [Nat.mul_one, Nat.add_zero] at ha
          rw [ha]
          generalize f j 0 = q at hv
          cases hv; rfl
        exact ⟨b, off, c, by simp, by simpa using hc, cell_lt (key 0 s0 rfl), key⟩
  · subst hs
    cases V
    exact .inl ⟨rfl, none, 0, rfl⟩
  · rename_i r i m cc
    split at hs
    · rename_i gr T sz els hr
      obtain ⟨rfl, him, hel⟩ := hs
      obtain ⟨_, hez, _, h3, cs, hb, _, _, _, f, hf⟩ := R.blk r _ hr
      have hlen : l.length = m := by have := congrArg List.length hel; simp at this; omega
      cases V with
      | sl _ _ _ _ c hrl hm hc hk =>
        cases l with
        | nil => simp at hlen; subst hlen; exact .inl ⟨rfl, _, _, rfl⟩
        | cons s0 l0 =>
          right
          subst hlen
          have key : ∀ (j : Nat) (s : List UInt8), (s0 :: l0)[j]? = some s → w.cell? ⟨g.loc r, i * g.esz r + j, none⟩ = some (.string ⟨s.toArray⟩) := by
            intro j s hj
            have hjl : j < (s0 :: l0).length := (List.getElem?_eq_some_iff.1 hj).1
            have he : els[i + j]? = some (.str s) := by
              have h1 := congrArg (·[j]?) hel
              simp only [List.getElem?_map, hj, Option.map_some] at h1
              rw [List.getElem?_take_of_lt hjl, List.getElem?_drop] at h1
              exact h1
            obtain ⟨q1, _, q3⟩ := hf (i + j) (.str s) 0 (.str s) he rfl
            rw [cell_of_heap hb]
            rw [hez] at q1 ⊢
            rw [show i * 1 + j = (i + j) * 1 + 0 by omega, q1]
            generalize f (i + j) 0 = q at q3
            cases q3; rfl
          exact ⟨g.loc r, i * g.esz r, c, rfl, hm, cell_lt (key 0 s0 rfl), key⟩
    · exact hs.elim
  · exact hs.elim
def gh0 (w : World) : Gh := { loc := fun _ => 0, esz := fun _ => 0, cpn := fun _ => 0, imm := fun _ _ => False, base := w.heap.size, w0 := w, dfr := fun _ => False }
theorem rel0 {Φ : World → Prop} {w : World} (h : Φ w) : Rel Φ (gh0 w) [] w :=
  ⟨fun r b hr => by simp at hr, fun r s b c hr => by simp at hr, fun b o hi => hi.elim, Below.refl _ _, Nat.le_refl _, ⟨h, Nat.le_refl _⟩, fun b hb => hb.elim⟩
theorem S.calls {P : Program} {Φ : World → Prop} {f : FuncId} {args : List AV} {v : AV} {w : World} {vs : List Value} (hs : S P Φ f args [] fun r _ => r = .ret v) (hΦ : Φ w) (V : VRs (gh0 w) 0 w args vs) :
    Calls P f vs.toArray w fun e w' => ∃ u g n, e = .returned u ∧ VR g n w' v u ∧ Below w.heap.size w w' := by
  refine (hs.run (gh0 w) w vs (rel0 hΦ) V).mono ?_
  rintro e w' ⟨g1, h1, r, rfl, R1, E1, X1, _⟩
  have hb : Below w.heap.size w w' := by
    have := R1.below
    rw [X1.base, X1.w0] at this; exact this
  cases e with
  | returned u => exact ⟨u, g1, _, rfl, E1, hb⟩
  | panicked c => exact E1.elim
  | outgrown => exact E1.elim
def digN (x : Nat) : Bool := 48 ≤ x && x ≤ 57
theorem idx_digits (s : ByteArray) : ∀ (f pos : Nat), s.size - pos ≤ f → (0 ≤ Lib.idxFuncFrom (fun x => !digN x) true s f pos ↔ ∃ (k : Nat) (hk : k < s.size), pos ≤ k ∧ digN s[k].toNat = false)
  | 0, pos, h => by
    simp only [Lib.idxFuncFrom]
    constructor
    · intro h; omega
    · rintro ⟨k, hk, h1, _⟩; omega
  | f + 1, pos, h => by
    unfold Lib.idxFuncFrom
    by_cases hp : pos < s.size
    · rw [if_pos hp]
      by_cases ha : (s[pos]'hp).toNat < 128
      · rw [decode_ascii s pos hp ha]
        dsimp only
        cases hd : digN (s[pos]'hp).toNat with
        | false => simp only [Bool.not_false, if_true]; exact ⟨fun _ => ⟨pos, hp, Nat.le_refl _, hd⟩, fun _ => by omega⟩
        | true =>
          simp only [Bool.not_true, Bool.false_eq_true, if_false]
          rw [idx_digits s f (pos + 1) (by omega)]
          constructor
          · rintro ⟨k, hk, h1, h2⟩; exact ⟨k, hk, by omega, h2⟩
          · rintro ⟨k, hk, h1, h2⟩
            have : k ≠ pos := by intro e; subst e; rw [hd] at h2; cases h2
            exact ⟨k, hk, by omega, h2⟩
      · have hh := decode_high s pos hp (by omega)
        have hn : digN (Utf8.decode s pos).1 = false := by simp [digN]; omega
        rw [if_pos (by rw [hn]; rfl)]
        constructor
        · intro _; exact ⟨pos, hp, Nat.le_refl _, by simp [digN]; omega⟩
        · intro _; omega
    · rw [if_neg hp]
      constructor
      · intro h; omega
      · rintro ⟨k, hk, h1, _⟩; omega
theorem idxFunc_digits (l : List UInt8) : decide (0 ≤ Lib.idxFunc (fun x => !digN x) true ⟨l.toArray⟩) = !(l.all fun b => digN b.toNat) := by
  unfold Lib.idxFunc
  have h := idx_digits ⟨l.toArray⟩ (ByteArray.mk l.toArray).size 0 (by omega)
  rw [Bool.eq_iff_iff]
  simp only [decide_eq_true_eq, h, Bool.not_eq_true', List.all_eq_false]
  constructor
  · rintro ⟨k, hk, _, h2⟩
    have e : (ByteArray.mk l.toArray)[k] = l[k]'hk := rfl
    rw [e] at h2
    exact ⟨_, List.getElem_mem (l := l) (n := k) hk, by simpa using h2⟩
  · rintro ⟨x, hx, h2⟩
    obtain ⟨k, hk, rfl⟩ := List.getElem_of_mem hx
    have e : (ByteArray.mk l.toArray)[k]'hk = l[k] := rfl
    exact ⟨k, hk, Nat.zero_le _, by rw [e]; simpa using h2⟩
def strL : List AV → Option (List (List UInt8))
  | [] => some []
  | .str s :: r => match strL r with
    | some l => some (s :: l)
    | none => none
  | _ => none
theorem strL_eq : ∀ {l : List AV} {r : List (List UInt8)}, strL l = some r → l = r.map AV.str
  | [], r, h => by cases h; rfl
  | a :: l, r, h => by
    unfold strL at h
    split at h
    · rename_i h2; cases h2
    · rename_i s r' he
      cases he
      split at h
      · rename_i l' hl; cases h; rw [strL_eq hl]; rfl
      · cases h
    · cases h
def vstrs (H : CH) (x : AV) : Option (List (List UInt8)) :=
  match x with
  | .lst sz els => bif Nat.beq sz 1 then strL els else none
  | .nils => some []
  | .sl r i m _ => match H.get r with
    | some (.b (.cells _ _ sz els)) => bif Nat.beq sz 1 && Nat.ble (i + m) els.length then strL ((els.drop i).take m) else none
    | _ => none
  | _ => none
theorem vstrs_sound {P : Program} {H : CH} (hw : H.wf) {x : AV} {l : List (List UInt8)} (h : vstrs H x = some l) : strsIn (H.heap P) x l := by
  unfold vstrs at h
  unfold strsIn
  split at h
  · rename_i sz els
    cases hb : Nat.beq sz 1 with
    | false => rw [hb] at h; cases h
    | true => rw [hb] at h; exact ⟨beqT hb, strL_eq h⟩
  · cases h; rfl
  · split at h
    · rename_i gr T sz els hg
      cases hb : (Nat.beq sz 1 && Nat.ble _ els.length) with
      | false => rw [hb] at h; cases h
      | true =>
        rw [hb] at h
        simp only [Bool.and_eq_true, Nat.ble_eq] at hb
        simp only [CH.heap_get hw hg, CB.toAB]
        exact ⟨beqT hb.1, hb.2, strL_eq h⟩
    · cases h
  · cases h
def dec2 (n : Nat) : List UInt8 := bif Nat.blt n 10 then [UInt8.ofNat (48 + n)] else [UInt8.ofNat (48 + n / 10), UInt8.ofNat (48 + n % 10)]
theorem dec2_eq {n : Nat} (h : n < 100) : Lib.decDigits n = dec2 n := by
  unfold dec2
  rw [Lib.decDigits, CH.blt]
  by_cases h1 : n < 10
  · simp [h1]
  · have : n / 10 < 10 := by omega
    rw [Lib.decDigits]
    simp [h1, this]
end Go.Abs
end
section
namespace Go.QZ
open Go Go.Abs Go.Proofs
variable {Φ : World → Prop}
set_option maxRecDepth 100000
theorem join_S {h : AHeap} {x : AV} {l : List (List UInt8)} {sep : List UInt8} {Q : AEnd → AHeap → Prop} (hx : strsIn h x l) (hl : l.length ≤ 140737488355328) (hj : (Lib.join l sep).length ≤ 140737488355328) (hQ : Q (.ret (.str (Lib.join l sep))) h) :
    S Tryz.prog Φ 33 [x, .str sep] h Q := by
  refine S_lib ⟨_, Tryz.func33, by kernel_rfl, by kernel_rfl⟩ ?_ hQ
  intro g w vs R V
  obtain ⟨u, v, rfl, hu, hv⟩ := VRs.two V
  rw [hv.str_inv]
  rcases strsAt R hu hx with ⟨rfl, a, c, rfl⟩ | ⟨b, off, c, rfl, hc, hb, hcell⟩
  · refine (Tryz.strings_Join_none a c _ w).mono ?_
    rintro e w' ⟨rfl, rfl⟩
    exact ⟨RowKit.Below.refl _ _, _, rfl, fun _ _ => .str _⟩
  · have e1 : (l.map fun s => ByteArray.mk s.toArray).map (fun x => x.data.toList) = l := by simp [Function.comp_def]
    have e2 : (l.map fun s => ByteArray.mk s.toArray).length = l.length := by simp
    have key := Tryz.strings_Join b off c (l.map fun s => ByteArray.mk s.toArray) ⟨sep.toArray⟩ w (fun j x hx => by
      rw [List.getElem?_map] at hx
      obtain ⟨s, hs, rfl⟩ := Option.map_eq_some_iff.1 hx
      exact hcell j s hs) hb (by rw [e2]; exact hl) (by rw [e2]; exact hc) (by rw [e1]; simpa using hj)
    rw [e1, e2] at key
    refine key.mono ?_
    rintro e w' ⟨rfl, hbel⟩
    exact ⟨hbel, _, rfl, fun _ _ => .str _⟩
theorem itoa_small_S {h : AHeap} {n : Nat} {Q : AEnd → AHeap → Prop} (hn : n < 100) (hQ : Q (.ret (.str (Lib.decDigits n))) h) : S Tryz.prog Φ 30 [.int .i64 n] h Q := by
  refine S_lib ⟨_, Tryz.func30, by kernel_rfl, by kernel_rfl⟩ ?_ hQ
  intro g w vs R V
  obtain ⟨u, rfl, hu⟩ := VRs.one V
  rw [hu.int_inv]
  refine (Tryz.strconv_Itoa_small n hn w).mono ?_
  rintro e w' ⟨rfl, rfl⟩
  exact ⟨RowKit.Below.refl _ _, _, rfl, fun _ _ => .str _⟩
def LibV (w : World) : Prop := Lib.TabIs Tryz.prog w "internal/strconv.uint64pow10" IntKind.u64 Lib.pow10Tab ∧ (∃ tp p, w.var? Tryz.prog "strconv.ErrSyntax" = some #[.iface tp p]) ∧ ∃ tp p, w.var? Tryz.prog "strconv.ErrRange" = some #[.iface tp p]
def atoiA (s : List UInt8) (v : AV) : Prop :=
  (∃ n, Lib.atoiAll s = .ok n ∧ v = .tup [.int .i64 n, .nili]) ∨ ((∀ n, Lib.atoiAll s ≠ .ok n) ∧ ∃ n t, v = .tup [.int .i64 n, .iface t .any])
theorem atoi_S {h : AHeap} {s : List UInt8} {Q : AEnd → AHeap → Prop} (hs : s.length ≤ 281474976710656) (hQ : ∀ v, atoiA s v → Q (.ret v) h) : S Tryz.prog (Stays LibV) 78 [.str s] h Q := by
  have hs' : (ByteArray.mk s.toArray).size ≤ 281474976710656 := by simpa [ByteArray.size] using hs
  cases ha : Lib.atoiAll s with
  | ok n =>
    refine S_lib ⟨_, Tryz.func78, by kernel_rfl, by kernel_rfl⟩ ?_ (hQ _ (.inl ⟨n, ha, rfl⟩))
    intro g w vs R V
    obtain ⟨u, rfl, hu⟩ := VRs.one V
    rw [hu.str_inv]
    refine (Tryz.strconv_Atoi_ok ⟨s.toArray⟩ (by omega) n (by simpa using ha) w).mono ?_
    rintro e w' ⟨rfl, rfl | ⟨t, rfl⟩⟩
    · exact ⟨RowKit.Below.refl _ _, _, rfl, fun _ _ => .tup [.int .i64 n, .nili] [.int .i64 n, .nilIface] rfl (VRs.cons (.int _ _) (VRs.cons .nili .nil)).2⟩
    · exact ⟨Lib.bytesWorld_below _ _ _, _, rfl, fun _ _ => .tup [.int .i64 n, .nili] [.int .i64 n, .nilIface] rfl (VRs.cons (.int _ _) (VRs.cons .nili .nil)).2⟩
  | range =>
    refine S_lib (v := .tup [.int .i64 (Lib.atoiSat s), .iface 151 .any]) ⟨_, Tryz.func78, by kernel_rfl, by kernel_rfl⟩ ?_ (hQ _ (.inr ⟨(by rw [ha]; intro n hn; cases hn), _, _, rfl⟩))
    intro g w vs R V
    obtain ⟨u, rfl, hu⟩ := VRs.one V
    rw [hu.str_inv]
    obtain ⟨tp, p, hv⟩ := R.stays.2.2
    refine (Tryz.strconv_Atoi_range_var ⟨s.toArray⟩ hs' (by simpa using ha) tp p w hv).mono ?_
    rintro e w' ⟨N, rfl, _, _, hb⟩
    exact ⟨hb, _, rfl, fun _ _ => .tup [.int .i64 _, .iface _ .any] [.int .i64 _, .iface _ _] rfl (VRs.cons (.int _ _) (VRs.cons (.iface _ _ _ (.any _)) .nil)).2⟩
  | _ =>
    refine S_lib (v := .tup [.int .i64 0, .iface 151 .any]) ⟨_, Tryz.func78, by kernel_rfl, by kernel_rfl⟩ ?_ (hQ _ (.inr ⟨(by rw [ha]; intro n hn; cases hn), 0, _, rfl⟩))
    intro g w vs R V
    obtain ⟨u, rfl, hu⟩ := VRs.one V
    rw [hu.str_inv]
    obtain ⟨tp, p, hv⟩ := R.stays.2.1
    refine (Any.strconv_Atoi_syntax_var Tryz.laysC172 ⟨s.toArray⟩ hs' (by simpa using ha) tp p w hv).mono ?_
    rintro e w' ⟨N, rfl, _, _, hb⟩
    exact ⟨hb, _, rfl, fun _ _ => .tup [.int .i64 0, .iface _ .any] [.int .i64 0, .iface _ _] rfl (VRs.cons (.int _ _) (VRs.cons (.iface _ _ _ (.any _)) .nil)).2⟩
theorem atoi_ok_S {h : AHeap} {s : List UInt8} {n : Int} {Q : AEnd → AHeap → Prop} (hs : s.length ≤ 18) (ha : Lib.atoi s = some n) (hQ : Q (.ret (.tup [.int .i64 n, .nili])) h) : S Tryz.prog Φ 78 [.str s] h Q := by
  refine S_lib ⟨_, Tryz.func78, by kernel_rfl, by kernel_rfl⟩ ?_ hQ
  intro g w vs R V
  obtain ⟨u, rfl, hu⟩ := VRs.one V
  rw [hu.str_inv]
  refine (Tryz.strconv_Atoi ⟨s.toArray⟩ n (by simpa [ByteArray.size] using hs) (by simpa using ha) w).mono ?_
  rintro e w' ⟨rfl, t, rfl⟩
  exact ⟨Lib.bytesWorld_below _ _ _, _, rfl, fun _ _ => .tup [.int .i64 n, .nili] [.int .i64 n, .nilIface] rfl (VRs.cons (.int _ _) (VRs.cons .nili .nil)).2⟩
theorem words_S {h : AHeap} {Q : AEnd → AHeap → Prop} (hQ : Q (.ret (.lst 1 [.str [97, 110, 121], .str [110, 111, 100, 101], .str [119, 97, 121], .str [97, 114, 101, 97], .str [114, 111, 117, 116, 101], .str [116, 117, 114, 110]])) h) : S Tryz.prog Φ 31 [] h Q := by
  refine go31 (by simp) fun hlow => ?_
  unfold ac31
  repeat' ((conv => whnf); first | (with_reducible first | refine eops_one ?_ | refine eops_nil ?_ | refine ewp_seq ?_ | refine ewp_region ?_) | ((with_reducible refine And.intro ?_ ?_); · (first | rfl | assumption | omega | (simp; omega) | (simp [AV.cells]; done))) | (with_reducible first | refine b_T ?_ | refine b_F ?_ | refine b_true (by assumption) ?_ | refine b_false (by assumption) ?_) | ((with_reducible refine b_true ?_ ?_); (· (decide))) | ((with_reducible refine b_false ?_ ?_); (· (decide))) | (with_reducible refine b_dec ?_ ?_ <;> intro hc hcb) | (with_reducible refine b_eq ?_ ?_ <;> intro hc hcb) | (with_reducible refine b_ne ?_ ?_ <;> intro hc hcb) | (with_reducible refine b_neq ?_ ?_ <;> intro hc hcb) | (with_reducible refine b_not ?_ ?_ <;> intro hc hcb) | (with_reducible refine b_intro ?_ ?_ <;> intro hcb) | (with_reducible first | refine ewp_cond ?_ | refine eops_if ?_ | refine ewp_block ?_ | refine ewp_exit ?_ | refine ewp_ret ?_ | refine ewp_skip ?_ | refine ewp_loop ?_ | refine hget_a0 ?_ | refine hget_b ?_ | refine hget_a ?_ | refine hput_a0 ?_ | refine hput_b ?_ | refine hput_a ?_ | refine hget_s0 ?_ | refine hget_s ?_ | refine hput_s0 ?_ | refine hput_s ?_ | refine halloc1 ?_ | refine halloc2 ?_ | refine halloc3 ?_ | refine halloc4 ?_ | refine halloc5 ?_ | refine halloc6 ?_ | refine halloc7 ?_ | refine halloc8 ?_ | refine halloc_b2 ?_ | refine halloc_b1 ?_ | refine halloc_s0 ?_ | refine halloc_h ?_ | refine ewp_range ?_ | refine ewp_draw ?_ | refine edraw_nil ?_ | refine edraw_if ?_ | refine mget_cons ?_) | with_reducible refine mget_nil ?_)
  all_goals (conv => whnf)
  exact done_here hQ
theorem nodigit_S {h : AHeap} {x : Nat} {Q : AEnd → AHeap → Prop} (hQ : Q (.ret (.bool (!digN x))) h) : S Tryz.prog Φ 77 [.int .i32 x] h Q := by
  refine go77 (by simp) fun hlow => ?_
  unfold ac77
  repeat' ((conv => whnf); first | (with_reducible first | refine eops_one ?_ | refine eops_nil ?_ | refine ewp_seq ?_ | refine ewp_region ?_) | ((with_reducible refine And.intro ?_ ?_); · (first | rfl | assumption | omega | (simp; omega) | (simp [AV.cells]; done))) | (with_reducible first | refine b_T ?_ | refine b_F ?_ | refine b_true (by assumption) ?_ | refine b_false (by assumption) ?_) | ((with_reducible refine b_true ?_ ?_); (· (decide))) | ((with_reducible refine b_false ?_ ?_); (· (decide))) | (with_reducible refine b_dec ?_ ?_ <;> intro hc hcb) | (with_reducible refine b_eq ?_ ?_ <;> intro hc hcb) | (with_reducible refine b_ne ?_ ?_ <;> intro hc hcb) | (with_reducible refine b_neq ?_ ?_ <;> intro hc hcb) | (with_reducible refine b_not ?_ ?_ <;> intro hc hcb) | (with_reducible refine b_intro ?_ ?_ <;> intro hcb) | (with_reducible first | refine ewp_cond ?_ | refine eops_if ?_ | refine ewp_block ?_ | refine ewp_exit ?_ | refine ewp_ret ?_ | refine ewp_skip ?_ | refine ewp_loop ?_ | refine hget_a0 ?_ | refine hget_b ?_ | refine hget_a ?_ | refine hput_a0 ?_ | refine hput_b ?_ | refine hput_a ?_ | refine hget_s0 ?_ | refine hget_s ?_ | refine hput_s0 ?_ | refine hput_s ?_ | refine halloc1 ?_ | refine halloc2 ?_ | refine halloc3 ?_ | refine halloc4 ?_ | refine halloc5 ?_ | refine halloc6 ?_ | refine halloc7 ?_ | refine halloc8 ?_ | refine halloc_b2 ?_ | refine halloc_b1 ?_ | refine halloc_s0 ?_ | refine halloc_h ?_ | refine ewp_range ?_ | refine ewp_draw ?_ | refine edraw_nil ?_ | refine edraw_if ?_ | refine mget_cons ?_) | with_reducible refine mget_nil ?_)
  all_goals (conv => whnf)
  all_goals (refine done_here ?_; refine ret_of hQ (congrArg AV.bool ?_))
  all_goals (rw [Bool.eq_iff_iff]; simp_all [digN]; try omega)
theorem digits_S {h : AHeap} {s : List UInt8} {Q : AEnd → AHeap → Prop} (hQ : Q (.ret (.bool (!(s.all fun b => digN b.toNat)))) h) : S Tryz.prog Φ 76 [.str s, .fn 77 [] []] h Q := by
  refine S_lib ⟨_, Tryz.func76, by kernel_rfl, by kernel_rfl⟩ ?_ hQ
  intro g w vs R V
  obtain ⟨u, v, rfl, hu, hv⟩ := VRs.two V
  rw [hu.str_inv]
  have hv : v = .func (.func 77) #[] #[] := by
    cases hv with
    | fn _ _ _ vs us h1 h2 =>
      have e1 : vs = [] := by cases vs <;> simp at h1 ⊢
      have e2 : us = [] := by cases us <;> simp at h2 ⊢
      rw [e1, e2]
  rw [hv]
  refine (Tryz.strings_ContainsFunc_grows 77 #[] ?_ (fun x => !digN x) ⟨s.toArray⟩ w ?_).mono ?_
  · intro args w
    simp only [callFunc, Sem.run_bind, Sem.run_pure, Result.andThen_ok, run_program]
    rw [show (Tryz.prog).funcs[77]? = some Tryz.f77 from Tryz.func77]
    rfl
  · intro W x _ _
    have := S.calls (P := Tryz.prog) (Φ := fun _ => True) (w := W) (vs := [.int .i32 x]) (nodigit_S (x := x) rfl) trivial (VRs.cons (.int _ _) .nil)
    refine this.mono ?_
    rintro e w' ⟨u, g, n, rfl, hu, hb⟩
    rw [hu.bool_inv]
    exact ⟨rfl, hb⟩
  · rintro e w' ⟨rfl, hb⟩
    rw [idxFunc_digits]
    exact ⟨hb, _, rfl, fun _ _ => .bool _⟩
end Go.QZ
end
