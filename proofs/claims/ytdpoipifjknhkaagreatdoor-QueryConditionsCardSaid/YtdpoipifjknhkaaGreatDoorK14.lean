/- A part of the proof of the card in the last text. -/
import Derived.ProofKit
import Derived.OpenShut
import Derived.Deep.Slices
import Derived.ReadAgain
import Derived.ChangeSame
import Derived.ChangeBears
import Derived.SizedLaws
import Derived.Test.YtdpoipifjknhkaaGreatDoorRows
import Derived.LaidMore
import Derived.Deep.DeepWitnessRowRef
import Derived.Lib.LaidTab
import Derived.Test.YtdpoipifjknhkaaGreatDoorK10
import Derived.Test.YtdpoipifjknhkaaGreatDoorK13
section
namespace Go.QZ
open Go Go.Abs Go.Proofs
variable {Φ : World → Prop}
set_option maxRecDepth 100000
abbrev Tags := List (List UInt8 × List UInt8)
def tagsA : Option Tags → AV
  | none => .nils
  | some l => .lst 2 (l.map tagA)
def strsA : Option (List (List UInt8)) → AV
  | none => .nils
  | some l => .lst 1 (l.map AV.str)
structure Ob where
  name : List UInt8
  kind : Int
  x : Int
  y : Int
  refs : Option (List (List UInt8))
  tags : Option Tags
def Ob.cl (o : Ob) : List AV := [.str o.name, .int .i64 o.kind, .int .i64 o.x, .int .i64 o.y, strsA o.refs, tagsA o.tags]
def Ob.tagl (o : Ob) : Tags := o.tags.getD []
theorem get_nil_S {h : AHeap} {s : List UInt8} {Q : AEnd → AHeap → Prop} (hQ : Q (.ret (.tup [.str [], .bool false])) h) : S Tryz.prog Φ 73 [.nils, .str s] h Q := by
  refine go73 (by simp) fun hlow => ?_
  unfold ac73
  repeat' ((conv => whnf); first | (with_reducible first | refine eops_one ?_ | refine eops_nil ?_ | refine ewp_seq ?_ | refine ewp_region ?_) | ((with_reducible refine And.intro ?_ ?_); · (first | rfl | assumption | omega | (simp; omega) | (simp [AV.cells]; done))) | (with_reducible first | refine b_T ?_ | refine b_F ?_ | refine b_true (by assumption) ?_ | refine b_false (by assumption) ?_) | ((with_reducible refine b_true ?_ ?_); (· (decide))) | ((with_reducible refine b_false ?_ ?_); (· (decide))) | (with_reducible refine b_dec ?_ ?_ <;> intro hc hcb) | (with_reducible refine b_eq ?_ ?_ <;> intro hc hcb) | (with_reducible refine b_ne ?_ ?_ <;> intro hc hcb) | (with_reducible refine b_neq ?_ ?_ <;> intro hc hcb) | (with_reducible refine b_not ?_ ?_ <;> intro hc hcb) | (with_reducible refine b_intro ?_ ?_ <;> intro hcb) | (with_reducible first | refine ewp_cond ?_ | refine eops_if ?_ | refine ewp_block ?_ | refine ewp_exit ?_ | refine ewp_ret ?_ | refine ewp_skip ?_ | refine ewp_loop ?_ | refine hget_a0 ?_ | refine hget_b ?_ | refine hget_a ?_ | refine hput_a0 ?_ | refine hput_b ?_ | refine hput_a ?_ | refine hget_s0 ?_ | refine hget_s ?_ | refine hput_s0 ?_ | refine hput_s ?_ | refine halloc1 ?_ | refine halloc2 ?_ | refine halloc3 ?_ | refine halloc4 ?_ | refine halloc5 ?_ | refine halloc6 ?_ | refine halloc7 ?_ | refine halloc8 ?_ | refine halloc_b2 ?_ | refine halloc_b1 ?_ | refine halloc_s0 ?_ | refine halloc_h ?_ | refine ewp_range ?_ | refine ewp_draw ?_ | refine edraw_nil ?_ | refine edraw_if ?_ | refine mget_cons ?_) | with_reducible refine mget_nil ?_)
  refine LoopP.of' (fun i : Nat => i = 0) (fun i => [(1, .str s), (8, .nils), (9, .int .i64 0), (10, .int .i64 i)]) (fun i => h) (fun i => 0) 0 rfl (SEnt.keep [1, 8, 9, 10]) ?_
  rintro i rfl
  repeat' ((conv => whnf); first | (with_reducible first | refine eops_one ?_ | refine eops_nil ?_ | refine ewp_seq ?_ | refine ewp_region ?_) | ((with_reducible refine And.intro ?_ ?_); · (first | rfl | assumption | omega | (simp; omega) | (simp [AV.cells]; done))) | (with_reducible first | refine b_T ?_ | refine b_F ?_ | refine b_true (by assumption) ?_ | refine b_false (by assumption) ?_) | ((with_reducible refine b_true ?_ ?_); (· (decide))) | ((with_reducible refine b_false ?_ ?_); (· (decide))) | (with_reducible refine b_dec ?_ ?_ <;> intro hc hcb) | (with_reducible refine b_eq ?_ ?_ <;> intro hc hcb) | (with_reducible refine b_ne ?_ ?_ <;> intro hc hcb) | (with_reducible refine b_neq ?_ ?_ <;> intro hc hcb) | (with_reducible refine b_not ?_ ?_ <;> intro hc hcb) | (with_reducible refine b_intro ?_ ?_ <;> intro hcb) | (with_reducible first | refine ewp_cond ?_ | refine eops_if ?_ | refine ewp_block ?_ | refine ewp_exit ?_ | refine ewp_ret ?_ | refine ewp_skip ?_ | refine ewp_loop ?_ | refine hget_a0 ?_ | refine hget_b ?_ | refine hget_a ?_ | refine hput_a0 ?_ | refine hput_b ?_ | refine hput_a ?_ | refine hget_s0 ?_ | refine hget_s ?_ | refine hput_s0 ?_ | refine hput_s ?_ | refine halloc1 ?_ | refine halloc2 ?_ | refine halloc3 ?_ | refine halloc4 ?_ | refine halloc5 ?_ | refine halloc6 ?_ | refine halloc7 ?_ | refine halloc8 ?_ | refine halloc_b2 ?_ | refine halloc_b1 ?_ | refine halloc_s0 ?_ | refine halloc_h ?_ | refine ewp_range ?_ | refine ewp_draw ?_ | refine edraw_nil ?_ | refine edraw_if ?_ | refine mget_cons ?_) | with_reducible refine mget_nil ?_)
  all_goals (conv => whnf)
  exact done_here hQ
def getA (T : Tags) (k : List UInt8) : AV := match getT T k with
  | some v => .tup [.str v, .bool true]
  | none => .tup [.str [], .bool false]
theorem getO_S {h : AHeap} {t : Option Tags} {s : List UInt8} {Q : AEnd → AHeap → Prop} (hl : (t.getD []).length ≤ 9223372036854775807) (hQ : Q (.ret (getA (t.getD []) s)) h) : S Tryz.prog Φ 73 [tagsA t, .str s] h Q := by
  cases t with
  | none => exact get_nil_S hQ
  | some l => exact Get_S hl hQ
def moreB (v : List UInt8) (n : Int) : Bool := v.all (fun b => digN b.toNat) && Nat.ble v.length 7 && (match Lib.atoiAll v with
  | .ok m => decide (n < m)
  | _ => false)
def hNode (T : Tags) (op : Int) (key val : List UInt8) (n : Int) (anyK allK : Bool) : Bool :=
  if op = 2 then (getT T key).isSome else if op = 3 then getT T key == some val else if op = 7 then (match getT T key with
    | some v => moreB v n
    | none => false)
  else if op = 4 then !allK else if op = 5 then allK else if op = 6 then anyK else true
mutual
def Cnd.holdsC (T : Tags) : Cnd → Bool
  | .nilk op k v n => hNode T op k v n false true
  | .els op k v n l => hNode T op k v n (Cnd.anyH T l) (Cnd.allH T l)
def Cnd.anyH (T : Tags) : List Cnd → Bool
  | [] => false
  | c :: r => c.holdsC T || Cnd.anyH T r
def Cnd.allH (T : Tags) : List Cnd → Bool
  | [] => true
  | c :: r => c.holdsC T && Cnd.allH T r
end
theorem Cnd.anyH_eq (T : Tags) : ∀ l : List Cnd, Cnd.anyH T l = l.any fun c => c.holdsC T
  | [] => by rw [Cnd.anyH]; rfl
  | c :: r => by rw [Cnd.anyH, Cnd.anyH_eq T r]; rfl
theorem Cnd.allH_eq (T : Tags) : ∀ l : List Cnd, Cnd.allH T l = l.all fun c => c.holdsC T
  | [] => by rw [Cnd.allH]; rfl
  | c :: r => by rw [Cnd.allH, Cnd.allH_eq T r]; rfl
theorem Cnd.holdsC_eq (T : Tags) (c : Cnd) : c.holdsC T = hNode T c.op c.key c.val c.n (c.kids.any fun c => c.holdsC T) (c.kids.all fun c => c.holdsC T) := by
  cases c <;> simp [Cnd.holdsC, Cnd.kids, Cnd.op, Cnd.key, Cnd.val, Cnd.n, Cnd.anyH_eq, Cnd.allH_eq]
abbrev kidF (o : Ob) : AV := .fn 74 [] [.lptr (.agg o.cl) 0]
theorem takeK_ob {o : Ob} {K : List AV → Prop} (h : K o.cl) : takeK 6 (AV.agg o.cl).cells K := by
  obtain ⟨nm, k, x, y, r, t⟩ := o
  cases r <;> cases t <;> exact h
theorem Ob.cl_eq (o : Ob) : o.cl = [.str o.name, .int .i64 o.kind, .int .i64 o.x, .int .i64 o.y, strsA o.refs, tagsA o.tags] := rfl
attribute [irreducible] Ob.cl
theorem kid1_S {c : Cnd} {o : Ob} {h : AHeap} {b : Bool} (fin : S Tryz.prog Φ 48 [.agg c.cl, .agg o.cl] h fun r h' => r = .ret (.bool b) ∧ h' = h) : S Tryz.prog Φ 74 [.agg c.cl, .lptr (.agg o.cl) 0] h fun r h' => r = .ret (.bool b) ∧ h' = h := by
  refine go74 (by simp) fun hlow => ?_
  unfold ac74
  cases c with
  | nilk op k v n =>
    repeat' (first | ((conv => whnf); first | (with_reducible first | refine eops_one ?_ | refine eops_nil ?_ | refine ewp_seq ?_ | refine ewp_region ?_) | ((with_reducible refine And.intro ?_ ?_); · (first | rfl | assumption | omega | (simp; omega) | (simp [AV.cells]; done))) | (with_reducible first | refine b_T ?_ | refine b_F ?_ | refine b_true (by assumption) ?_ | refine b_false (by assumption) ?_) | ((with_reducible refine b_true ?_ ?_); (· (decide))) | ((with_reducible refine b_false ?_ ?_); (· (decide))) | (with_reducible refine b_dec ?_ ?_ <;> intro hc hcb) | (with_reducible refine b_eq ?_ ?_ <;> intro hc hcb) | (with_reducible refine b_ne ?_ ?_ <;> intro hc hcb) | (with_reducible refine b_neq ?_ ?_ <;> intro hc hcb) | (with_reducible refine b_not ?_ ?_ <;> intro hc hcb) | (with_reducible refine b_intro ?_ ?_ <;> intro hcb) | (with_reducible first | refine ewp_cond ?_ | refine eops_if ?_ | refine ewp_block ?_ | refine ewp_exit ?_ | refine ewp_ret ?_ | refine ewp_skip ?_ | refine ewp_loop ?_ | refine hget_a0 ?_ | refine hget_b ?_ | refine hget_a ?_ | refine hput_a0 ?_ | refine hput_b ?_ | refine hput_a ?_ | refine hget_s0 ?_ | refine hget_s ?_ | refine hput_s0 ?_ | refine hput_s ?_ | refine halloc1 ?_ | refine halloc2 ?_ | refine halloc3 ?_ | refine halloc4 ?_ | refine halloc5 ?_ | refine halloc6 ?_ | refine halloc7 ?_ | refine halloc8 ?_ | refine halloc_b2 ?_ | refine halloc_b1 ?_ | refine halloc_s0 ?_ | refine halloc_h ?_ | refine ewp_range ?_ | refine ewp_draw ?_ | refine edraw_nil ?_ | refine edraw_if ?_ | refine mget_cons ?_) | with_reducible refine mget_nil ?_) | ((conv => whnf); with_reducible refine takeK_ob ?_))
    all_goals (conv => whnf)
    refine fin.mono ?_
    rintro r h' ⟨rfl, rfl⟩
    repeat' ((conv => whnf); first | (with_reducible first | refine eops_one ?_ | refine eops_nil ?_ | refine ewp_seq ?_ | refine ewp_region ?_) | ((with_reducible refine And.intro ?_ ?_); · (first | rfl | assumption | omega | (simp; omega) | (simp [AV.cells]; done))) | (with_reducible first | refine b_T ?_ | refine b_F ?_ | refine b_true (by assumption) ?_ | refine b_false (by assumption) ?_) | ((with_reducible refine b_true ?_ ?_); (· (decide))) | ((with_reducible refine b_false ?_ ?_); (· (decide))) | (with_reducible refine b_dec ?_ ?_ <;> intro hc hcb) | (with_reducible refine b_eq ?_ ?_ <;> intro hc hcb) | (with_reducible refine b_ne ?_ ?_ <;> intro hc hcb) | (with_reducible refine b_neq ?_ ?_ <;> intro hc hcb) | (with_reducible refine b_not ?_ ?_ <;> intro hc hcb) | (with_reducible refine b_intro ?_ ?_ <;> intro hcb) | (with_reducible first | refine ewp_cond ?_ | refine eops_if ?_ | refine ewp_block ?_ | refine ewp_exit ?_ | refine ewp_ret ?_ | refine ewp_skip ?_ | refine ewp_loop ?_ | refine hget_a0 ?_ | refine hget_b ?_ | refine hget_a ?_ | refine hput_a0 ?_ | refine hput_b ?_ | refine hput_a ?_ | refine hget_s0 ?_ | refine hget_s ?_ | refine hput_s0 ?_ | refine hput_s ?_ | refine halloc1 ?_ | refine halloc2 ?_ | refine halloc3 ?_ | refine halloc4 ?_ | refine halloc5 ?_ | refine halloc6 ?_ | refine halloc7 ?_ | refine halloc8 ?_ | refine halloc_b2 ?_ | refine halloc_b1 ?_ | refine halloc_s0 ?_ | refine halloc_h ?_ | refine ewp_range ?_ | refine ewp_draw ?_ | refine edraw_nil ?_ | refine edraw_if ?_ | refine mget_cons ?_) | with_reducible refine mget_nil ?_)
    all_goals (conv => whnf)
    exact done_here ⟨rfl, rfl⟩
  | els op k v n l =>
    repeat' (first | ((conv => whnf); first | (with_reducible first | refine eops_one ?_ | refine eops_nil ?_ | refine ewp_seq ?_ | refine ewp_region ?_) | ((with_reducible refine And.intro ?_ ?_); · (first | rfl | assumption | omega | (simp; omega) | (simp [AV.cells]; done))) | (with_reducible first | refine b_T ?_ | refine b_F ?_ | refine b_true (by assumption) ?_ | refine b_false (by assumption) ?_) | ((with_reducible refine b_true ?_ ?_); (· (decide))) | ((with_reducible refine b_false ?_ ?_); (· (decide))) | (with_reducible refine b_dec ?_ ?_ <;> intro hc hcb) | (with_reducible refine b_eq ?_ ?_ <;> intro hc hcb) | (with_reducible refine b_ne ?_ ?_ <;> intro hc hcb) | (with_reducible refine b_neq ?_ ?_ <;> intro hc hcb) | (with_reducible refine b_not ?_ ?_ <;> intro hc hcb) | (with_reducible refine b_intro ?_ ?_ <;> intro hcb) | (with_reducible first | refine ewp_cond ?_ | refine eops_if ?_ | refine ewp_block ?_ | refine ewp_exit ?_ | refine ewp_ret ?_ | refine ewp_skip ?_ | refine ewp_loop ?_ | refine hget_a0 ?_ | refine hget_b ?_ | refine hget_a ?_ | refine hput_a0 ?_ | refine hput_b ?_ | refine hput_a ?_ | refine hget_s0 ?_ | refine hget_s ?_ | refine hput_s0 ?_ | refine hput_s ?_ | refine halloc1 ?_ | refine halloc2 ?_ | refine halloc3 ?_ | refine halloc4 ?_ | refine halloc5 ?_ | refine halloc6 ?_ | refine halloc7 ?_ | refine halloc8 ?_ | refine halloc_b2 ?_ | refine halloc_b1 ?_ | refine halloc_s0 ?_ | refine halloc_h ?_ | refine ewp_range ?_ | refine ewp_draw ?_ | refine edraw_nil ?_ | refine edraw_if ?_ | refine mget_cons ?_) | with_reducible refine mget_nil ?_) | ((conv => whnf); with_reducible refine takeK_ob ?_))
    all_goals (conv => whnf)
    refine fin.mono ?_
    rintro r h' ⟨rfl, rfl⟩
    repeat' ((conv => whnf); first | (with_reducible first | refine eops_one ?_ | refine eops_nil ?_ | refine ewp_seq ?_ | refine ewp_region ?_) | ((with_reducible refine And.intro ?_ ?_); · (first | rfl | assumption | omega | (simp; omega) | (simp [AV.cells]; done))) | (with_reducible first | refine b_T ?_ | refine b_F ?_ | refine b_true (by assumption) ?_ | refine b_false (by assumption) ?_) | ((with_reducible refine b_true ?_ ?_); (· (decide))) | ((with_reducible refine b_false ?_ ?_); (· (decide))) | (with_reducible refine b_dec ?_ ?_ <;> intro hc hcb) | (with_reducible refine b_eq ?_ ?_ <;> intro hc hcb) | (with_reducible refine b_ne ?_ ?_ <;> intro hc hcb) | (with_reducible refine b_neq ?_ ?_ <;> intro hc hcb) | (with_reducible refine b_not ?_ ?_ <;> intro hc hcb) | (with_reducible refine b_intro ?_ ?_ <;> intro hcb) | (with_reducible first | refine ewp_cond ?_ | refine eops_if ?_ | refine ewp_block ?_ | refine ewp_exit ?_ | refine ewp_ret ?_ | refine ewp_skip ?_ | refine ewp_loop ?_ | refine hget_a0 ?_ | refine hget_b ?_ | refine hget_a ?_ | refine hput_a0 ?_ | refine hput_b ?_ | refine hput_a ?_ | refine hget_s0 ?_ | refine hget_s ?_ | refine hput_s0 ?_ | refine hput_s ?_ | refine halloc1 ?_ | refine halloc2 ?_ | refine halloc3 ?_ | refine halloc4 ?_ | refine halloc5 ?_ | refine halloc6 ?_ | refine halloc7 ?_ | refine halloc8 ?_ | refine halloc_b2 ?_ | refine halloc_b1 ?_ | refine halloc_s0 ?_ | refine halloc_h ?_ | refine ewp_range ?_ | refine ewp_draw ?_ | refine edraw_nil ?_ | refine edraw_if ?_ | refine mget_cons ?_) | with_reducible refine mget_nil ?_)
    all_goals (conv => whnf)
    exact done_here ⟨rfl, rfl⟩
theorem kid2_S {c : Cnd} {o : Ob} {h : AHeap} {b : Bool} {r : Nat} {gr : Bool} {T : Nat} (hr : h[r]? = some (.cells gr T 1 [kidF o])) (fin : S Tryz.prog Φ 74 [.agg c.cl, .lptr (.agg o.cl) 0] h fun r h' => r = .ret (.bool b) ∧ h' = h) :
    S Tryz.prog Φ 75 [.agg c.cl, .ptr r 0 0] h fun r h' => r = .ret (.bool (!b)) ∧ h' = h := by
  refine go75 (by simp) fun hlow => ?_
  unfold ac75
  cases c with
  | nilk op k v n =>
    repeat' (first | ((conv => whnf); first | (with_reducible first | refine eops_one ?_ | refine eops_nil ?_ | refine ewp_seq ?_ | refine ewp_region ?_) | ((with_reducible refine And.intro ?_ ?_); · (first | rfl | assumption | omega | (simp; omega) | (simp [AV.cells]; done))) | (with_reducible first | refine b_T ?_ | refine b_F ?_ | refine b_true (by assumption) ?_ | refine b_false (by assumption) ?_) | ((with_reducible refine b_true ?_ ?_); (· (decide))) | ((with_reducible refine b_false ?_ ?_); (· (decide))) | (with_reducible refine b_dec ?_ ?_ <;> intro hc hcb) | (with_reducible refine b_eq ?_ ?_ <;> intro hc hcb) | (with_reducible refine b_ne ?_ ?_ <;> intro hc hcb) | (with_reducible refine b_neq ?_ ?_ <;> intro hc hcb) | (with_reducible refine b_not ?_ ?_ <;> intro hc hcb) | (with_reducible refine b_intro ?_ ?_ <;> intro hcb) | (with_reducible first | refine ewp_cond ?_ | refine eops_if ?_ | refine ewp_block ?_ | refine ewp_exit ?_ | refine ewp_ret ?_ | refine ewp_skip ?_ | refine ewp_loop ?_ | refine hget_a0 ?_ | refine hget_b ?_ | refine hget_a ?_ | refine hput_a0 ?_ | refine hput_b ?_ | refine hput_a ?_ | refine hget_s0 ?_ | refine hget_s ?_ | refine hput_s0 ?_ | refine hput_s ?_ | refine halloc1 ?_ | refine halloc2 ?_ | refine halloc3 ?_ | refine halloc4 ?_ | refine halloc5 ?_ | refine halloc6 ?_ | refine halloc7 ?_ | refine halloc8 ?_ | refine halloc_b2 ?_ | refine halloc_b1 ?_ | refine halloc_s0 ?_ | refine halloc_h ?_ | refine ewp_range ?_ | refine ewp_draw ?_ | refine edraw_nil ?_ | refine edraw_if ?_ | refine mget_cons ?_) | with_reducible refine mget_nil ?_) | ((conv => whnf); with_reducible refine hget_of hr ?_))
    all_goals (conv => whnf)
    refine fin.mono ?_
    rintro r h' ⟨rfl, rfl⟩
    repeat' ((conv => whnf); first | (with_reducible first | refine eops_one ?_ | refine eops_nil ?_ | refine ewp_seq ?_ | refine ewp_region ?_) | ((with_reducible refine And.intro ?_ ?_); · (first | rfl | assumption | omega | (simp; omega) | (simp [AV.cells]; done))) | (with_reducible first | refine b_T ?_ | refine b_F ?_ | refine b_true (by assumption) ?_ | refine b_false (by assumption) ?_) | ((with_reducible refine b_true ?_ ?_); (· (decide))) | ((with_reducible refine b_false ?_ ?_); (· (decide))) | (with_reducible refine b_dec ?_ ?_ <;> intro hc hcb) | (with_reducible refine b_eq ?_ ?_ <;> intro hc hcb) | (with_reducible refine b_ne ?_ ?_ <;> intro hc hcb) | (with_reducible refine b_neq ?_ ?_ <;> intro hc hcb) | (with_reducible refine b_not ?_ ?_ <;> intro hc hcb) | (with_reducible refine b_intro ?_ ?_ <;> intro hcb) | (with_reducible first | refine ewp_cond ?_ | refine eops_if ?_ | refine ewp_block ?_ | refine ewp_exit ?_ | refine ewp_ret ?_ | refine ewp_skip ?_ | refine ewp_loop ?_ | refine hget_a0 ?_ | refine hget_b ?_ | refine hget_a ?_ | refine hput_a0 ?_ | refine hput_b ?_ | refine hput_a ?_ | refine hget_s0 ?_ | refine hget_s ?_ | refine hput_s0 ?_ | refine hput_s ?_ | refine halloc1 ?_ | refine halloc2 ?_ | refine halloc3 ?_ | refine halloc4 ?_ | refine halloc5 ?_ | refine halloc6 ?_ | refine halloc7 ?_ | refine halloc8 ?_ | refine halloc_b2 ?_ | refine halloc_b1 ?_ | refine halloc_s0 ?_ | refine halloc_h ?_ | refine ewp_range ?_ | refine ewp_draw ?_ | refine edraw_nil ?_ | refine edraw_if ?_ | refine mget_cons ?_) | with_reducible refine mget_nil ?_)
    all_goals (conv => whnf)
    exact done_here ⟨rfl, rfl⟩
  | els op k v n l =>
    repeat' (first | ((conv => whnf); first | (with_reducible first | refine eops_one ?_ | refine eops_nil ?_ | refine ewp_seq ?_ | refine ewp_region ?_) | ((with_reducible refine And.intro ?_ ?_); · (first | rfl | assumption | omega | (simp; omega) | (simp [AV.cells]; done))) | (with_reducible first | refine b_T ?_ | refine b_F ?_ | refine b_true (by assumption) ?_ | refine b_false (by assumption) ?_) | ((with_reducible refine b_true ?_ ?_); (· (decide))) | ((with_reducible refine b_false ?_ ?_); (· (decide))) | (with_reducible refine b_dec ?_ ?_ <;> intro hc hcb) | (with_reducible refine b_eq ?_ ?_ <;> intro hc hcb) | (with_reducible refine b_ne ?_ ?_ <;> intro hc hcb) | (with_reducible refine b_neq ?_ ?_ <;> intro hc hcb) | (with_reducible refine b_not ?_ ?_ <;> intro hc hcb) | (with_reducible refine b_intro ?_ ?_ <;> intro hcb) | (with_reducible first | refine ewp_cond ?_ | refine eops_if ?_ | refine ewp_block ?_ | refine ewp_exit ?_ | refine ewp_ret ?_ | refine ewp_skip ?_ | refine ewp_loop ?_ | refine hget_a0 ?_ | refine hget_b ?_ | refine hget_a ?_ | refine hput_a0 ?_ | refine hput_b ?_ | refine hput_a ?_ | refine hget_s0 ?_ | refine hget_s ?_ | refine hput_s0 ?_ | refine hput_s ?_ | refine halloc1 ?_ | refine halloc2 ?_ | refine halloc3 ?_ | refine halloc4 ?_ | refine halloc5 ?_ | refine halloc6 ?_ | refine halloc7 ?_ | refine halloc8 ?_ | refine halloc_b2 ?_ | refine halloc_b1 ?_ | refine halloc_s0 ?_ | refine halloc_h ?_ | refine ewp_range ?_ | refine ewp_draw ?_ | refine edraw_nil ?_ | refine edraw_if ?_ | refine mget_cons ?_) | with_reducible refine mget_nil ?_) | ((conv => whnf); with_reducible refine hget_of hr ?_))
    all_goals (conv => whnf)
    refine fin.mono ?_
    rintro r h' ⟨rfl, rfl⟩
    repeat' ((conv => whnf); first | (with_reducible first | refine eops_one ?_ | refine eops_nil ?_ | refine ewp_seq ?_ | refine ewp_region ?_) | ((with_reducible refine And.intro ?_ ?_); · (first | rfl | assumption | omega | (simp; omega) | (simp [AV.cells]; done))) | (with_reducible first | refine b_T ?_ | refine b_F ?_ | refine b_true (by assumption) ?_ | refine b_false (by assumption) ?_) | ((with_reducible refine b_true ?_ ?_); (· (decide))) | ((with_reducible refine b_false ?_ ?_); (· (decide))) | (with_reducible refine b_dec ?_ ?_ <;> intro hc hcb) | (with_reducible refine b_eq ?_ ?_ <;> intro hc hcb) | (with_reducible refine b_ne ?_ ?_ <;> intro hc hcb) | (with_reducible refine b_neq ?_ ?_ <;> intro hc hcb) | (with_reducible refine b_not ?_ ?_ <;> intro hc hcb) | (with_reducible refine b_intro ?_ ?_ <;> intro hcb) | (with_reducible first | refine ewp_cond ?_ | refine eops_if ?_ | refine ewp_block ?_ | refine ewp_exit ?_ | refine ewp_ret ?_ | refine ewp_skip ?_ | refine ewp_loop ?_ | refine hget_a0 ?_ | refine hget_b ?_ | refine hget_a ?_ | refine hput_a0 ?_ | refine hput_b ?_ | refine hput_a ?_ | refine hget_s0 ?_ | refine hget_s ?_ | refine hput_s0 ?_ | refine hput_s ?_ | refine halloc1 ?_ | refine halloc2 ?_ | refine halloc3 ?_ | refine halloc4 ?_ | refine halloc5 ?_ | refine halloc6 ?_ | refine halloc7 ?_ | refine halloc8 ?_ | refine halloc_b2 ?_ | refine halloc_b1 ?_ | refine halloc_s0 ?_ | refine halloc_h ?_ | refine ewp_range ?_ | refine ewp_draw ?_ | refine edraw_nil ?_ | refine edraw_if ?_ | refine mget_cons ?_) | with_reducible refine mget_nil ?_)
    all_goals (conv => whnf)
    exact done_here ⟨rfl, rfl⟩
theorem getA_parts (T : Tags) (k v : List UInt8) (n : Int) (hv : ∀ t ∈ T, t.2.length ≤ 281474976710656) : ∃ w b, getA T k = .tup [.str w, .bool b] ∧ w.length ≤ 281474976710656 ∧ (getT T k).isSome = b ∧ (getT T k == some v) = (b && (w == v)) ∧ (match getT T k with
    | some w => moreB w n
    | none => false) = (b && moreB w n) := by
  unfold getA
  cases hg : getT T k with
  | none => exact ⟨[], false, rfl, by simp, rfl, rfl, rfl⟩
  | some w =>
    refine ⟨w, true, rfl, ?_, rfl, ?_, ?_⟩
    · unfold getT at hg
      obtain ⟨t, h1, rfl⟩ := Option.map_eq_some_iff.1 hg
      exact hv t (List.mem_of_find?_eq_some h1)
    · simp
    · simp
theorem moreB_ok {w : List UInt8} {n m : Int} (h : Lib.atoiAll w = .ok m) : moreB w n = (w.all (fun b => digN b.toNat) && Nat.ble w.length 7 && decide (n < m)) := by unfold moreB; rw [h]
theorem moreB_no {w : List UInt8} {n : Int} (h : ∀ m, Lib.atoiAll w ≠ .ok m) : moreB w n = false := by
  unfold moreB
  cases ha : Lib.atoiAll w with
  | ok m => exact absurd ha (h m)
  | range => simp
  | _ => simp
set_option maxHeartbeats 2000000 in
theorem holds_S : ∀ (N : Nat) (c : Cnd) (o : Ob) (h : AHeap) (Q : AEnd → AHeap → Prop), c.cnt ≤ N → N ≤ 9223372036854775807 → o.tagl.length ≤ 9223372036854775807 → (∀ t ∈ o.tagl, t.2.length ≤ 281474976710656) → Q (.ret (.bool (c.holdsC o.tagl))) h →
    S Tryz.prog (Stays LibV) 48 [.agg c.cl, .agg o.cl] h Q
  | 0, c, o, h, Q, hc, _, _, _, _ => by have := c.cnt_pos; omega
  | N + 1, c, o, h, Q, hc, hN, ht, hv, hQ => by
    have hcnt := c.cnt_eq
    have hhc := c.holdsC_eq o.tagl
    obtain ⟨w, b, hgA, hwl, hp1, hp2, hp3⟩ := getA_parts o.tagl c.key c.val c.n hv
    have hAt : ∀ {h : AHeap} {Q : AEnd → AHeap → Prop}, (∀ v, atoiA w v → Q (.ret v) h) → S Tryz.prog (Stays LibV) 78 [.str w] h Q := fun hQ => atoi_S hwl hQ
    refine go48 (by simp) fun hlow => ?_
    unfold ac48
    have hob := o.cl_eq
    cases c with
    | nilk op k v n =>
      simp only [Cnd.kids, List.any_nil, List.all_nil, Cnd.op, Cnd.key, Cnd.val, Cnd.n] at hhc hgA hp1 hp2 hp3
      have hfA : ∀ (b : AV) (H : AHeap), S Tryz.prog (Stays LibV) 79 [.nils, .fn 75 [] [b]] H fun r h' => r = .ret (.bool false) ∧ h' = H := fun b H => conC_nil_S ⟨rfl, rfl⟩
      have hfB : ∀ (b : AV) (H : AHeap), S Tryz.prog (Stays LibV) 79 [.nils, .fn 74 [] [b]] H fun r h' => r = .ret (.bool false) ∧ h' = H := fun b H => conC_nil_S ⟨rfl, rfl⟩
      rw [hob]
      have hn : hNode o.tagl op k v n false true = if op = 2 then b else if op = 3 then (b && (w == v)) else if op = 7 then (b && moreB w n) else if op = 4 then false else if op = 5 then true else if op = 6 then false else true := by
        unfold hNode; rw [hp1, hp2, hp3]; rfl
      repeat' (first | ((conv => whnf); first | (with_reducible first | refine eops_one ?_ | refine eops_nil ?_ | refine ewp_seq ?_ | refine ewp_region ?_) | ((with_reducible refine And.intro ?_ ?_); · (first | rfl | assumption | omega | (simp; omega) | (simp [AV.cells]; done))) | (with_reducible first | refine b_T ?_ | refine b_F ?_ | refine b_true (by assumption) ?_ | refine b_false (by assumption) ?_) | ((with_reducible refine b_true ?_ ?_); (· (decide))) | ((with_reducible refine b_false ?_ ?_); (· (decide))) | (with_reducible refine b_dec ?_ ?_ <;> intro hc hcb) | (with_reducible refine b_eq ?_ ?_ <;> intro hc hcb) | (with_reducible refine b_ne ?_ ?_ <;> intro hc hcb) | (with_reducible refine b_neq ?_ ?_ <;> intro hc hcb) | (with_reducible refine b_not ?_ ?_ <;> intro hc hcb) | (with_reducible refine b_intro ?_ ?_ <;> intro hcb) | (with_reducible first | refine ewp_cond ?_ | refine eops_if ?_ | refine ewp_block ?_ | refine ewp_exit ?_ | refine ewp_ret ?_ | refine ewp_skip ?_ | refine ewp_loop ?_ | refine hget_a0 ?_ | refine hget_b ?_ | refine hget_a ?_ | refine hput_a0 ?_ | refine hput_b ?_ | refine hput_a ?_ | refine hget_s0 ?_ | refine hget_s ?_ | refine hput_s0 ?_ | refine hput_s ?_ | refine halloc1 ?_ | refine halloc2 ?_ | refine halloc3 ?_ | refine halloc4 ?_ | refine halloc5 ?_ | refine halloc6 ?_ | refine halloc7 ?_ | refine halloc8 ?_ | refine halloc_b2 ?_ | refine halloc_b1 ?_ | refine halloc_s0 ?_ | refine halloc_h ?_ | refine ewp_range ?_ | refine ewp_draw ?_ | refine edraw_nil ?_ | refine edraw_if ?_ | refine mget_cons ?_) | with_reducible refine mget_nil ?_) | ((conv => whnf); refine getO_S (t := o.tags) ht ?_) | ((conv => whnf); refine force_intro ?_))
      rw [show o.tags.getD [] = o.tagl from rfl, hgA]
      repeat' (first | ((conv => whnf); first | (with_reducible first | refine eops_one ?_ | refine eops_nil ?_ | refine ewp_seq ?_ | refine ewp_region ?_) | ((with_reducible refine And.intro ?_ ?_); · (first | rfl | assumption | omega | (simp; omega) | (simp [AV.cells]; done))) | (with_reducible first | refine b_T ?_ | refine b_F ?_ | refine b_true (by assumption) ?_ | refine b_false (by assumption) ?_) | ((with_reducible refine b_true ?_ ?_); (· (decide))) | ((with_reducible refine b_false ?_ ?_); (· (decide))) | (with_reducible refine b_dec ?_ ?_ <;> intro hc hcb) | (with_reducible refine b_eq ?_ ?_ <;> intro hc hcb) | (with_reducible refine b_ne ?_ ?_ <;> intro hc hcb) | (with_reducible refine b_neq ?_ ?_ <;> intro hc hcb) | (with_reducible refine b_not ?_ ?_ <;> intro hc hcb) | (with_reducible refine b_intro ?_ ?_ <;> intro hcb) | (with_reducible first | refine ewp_cond ?_ | refine eops_if ?_ | refine ewp_block ?_ | refine ewp_exit ?_ | refine ewp_ret ?_ | refine ewp_skip ?_ | refine ewp_loop ?_ | refine hget_a0 ?_ | refine hget_b ?_ | refine hget_a ?_ | refine hput_a0 ?_ | refine hput_b ?_ | refine hput_a ?_ | refine hget_s0 ?_ | refine hget_s ?_ | refine hput_s0 ?_ | refine hput_s ?_ | refine halloc1 ?_ | refine halloc2 ?_ | refine halloc3 ?_ | refine halloc4 ?_ | refine halloc5 ?_ | refine halloc6 ?_ | refine halloc7 ?_ | refine halloc8 ?_ | refine halloc_b2 ?_ | refine halloc_b1 ?_ | refine halloc_s0 ?_ | refine halloc_h ?_ | refine ewp_range ?_ | refine ewp_draw ?_ | refine edraw_nil ?_ | refine edraw_if ?_ | refine mget_cons ?_) | with_reducible refine mget_nil ?_) | ((conv => whnf); with_reducible refine digits_S ?_) | ((conv => whnf); (with_reducible refine hAt ?_); rintro _ (⟨m, ha, rfl⟩ | ⟨ha, m, t, rfl⟩)) | ((conv => whnf); first | (with_reducible refine (hfA _ _).mono ?_; rintro r h' ⟨rfl, rfl⟩) | (with_reducible refine (hfB _ _).mono ?_; rintro r h' ⟨rfl, rfl⟩)) | ((conv => whnf); (with_reducible apply edraw_read'); (· (repeat' (first | exact True.intro | exact rfl | ((conv => whnf); first | (with_reducible refine (hfA _ _).mono ?_; rintro r h' ⟨rfl, rfl⟩) | (with_reducible refine (hfB _ _).mono ?_; rintro r h' ⟨rfl, rfl⟩) | (with_reducible first | refine eops_one ?_ | refine eops_nil ?_ | refine ewp_seq ?_ | refine ewp_region ?_) | ((with_reducible refine And.intro ?_ ?_); · (first | rfl | assumption | omega | (simp; omega) | (simp [AV.cells]; done))) | (with_reducible first | refine b_T ?_ | refine b_F ?_ | refine b_true (by assumption) ?_ | refine b_false (by assumption) ?_) | ((with_reducible refine b_true ?_ ?_); (· (decide))) | ((with_reducible refine b_false ?_ ?_); (· (decide))) | (with_reducible refine b_dec ?_ ?_ <;> intro hc hcb) | (with_reducible refine b_eq ?_ ?_ <;> intro hc hcb) | (with_reducible refine b_ne ?_ ?_ <;> intro hc hcb) | (with_reducible refine b_neq ?_ ?_ <;> intro hc hcb) | (with_reducible refine b_not ?_ ?_ <;> intro hc hcb) | (with_reducible refine b_intro ?_ ?_ <;> intro hcb) | (with_reducible first | refine ewp_cond ?_ | refine eops_if ?_ | refine ewp_block ?_ | refine ewp_exit ?_ | refine ewp_ret ?_ | refine ewp_skip ?_ | refine ewp_loop ?_ | refine hget_a0 ?_ | refine hget_b ?_ | refine hget_a ?_ | refine hput_a0 ?_ | refine hput_b ?_ | refine hput_a ?_ | refine hget_s0 ?_ | refine hget_s ?_ | refine hput_s0 ?_ | refine hput_s ?_ | refine halloc1 ?_ | refine halloc2 ?_ | refine halloc3 ?_ | refine halloc4 ?_ | refine halloc5 ?_ | refine halloc6 ?_ | refine halloc7 ?_ | refine halloc8 ?_ | refine halloc_b2 ?_ | refine halloc_b1 ?_ | refine halloc_s0 ?_ | refine halloc_h ?_ | refine ewp_range ?_ | refine ewp_draw ?_ | refine edraw_nil ?_ | refine edraw_if ?_ | refine mget_cons ?_) | with_reducible refine mget_nil ?_) | ((conv => whnf); refine And.intro ?_ ?_)))); (· (repeat' (first | exact True.intro | exact rfl | ((conv => whnf); first | (with_reducible refine (hfA _ _).mono ?_; rintro r h' ⟨rfl, rfl⟩) | (with_reducible refine (hfB _ _).mono ?_; rintro r h' ⟨rfl, rfl⟩) | (with_reducible first | refine eops_one ?_ | refine eops_nil ?_ | refine ewp_seq ?_ | refine ewp_region ?_) | ((with_reducible refine And.intro ?_ ?_); · (first | rfl | assumption | omega | (simp; omega) | (simp [AV.cells]; done))) | (with_reducible first | refine b_T ?_ | refine b_F ?_ | refine b_true (by assumption) ?_ | refine b_false (by assumption) ?_) | ((with_reducible refine b_true ?_ ?_); (· (decide))) | ((with_reducible refine b_false ?_ ?_); (· (decide))) | (with_reducible refine b_dec ?_ ?_ <;> intro hc hcb) | (with_reducible refine b_eq ?_ ?_ <;> intro hc hcb) | (with_reducible refine b_ne ?_ ?_ <;> intro hc hcb) | (with_reducible refine b_neq ?_ ?_ <;> intro hc hcb) | (with_reducible refine b_not ?_ ?_ <;> intro hc hcb) | (with_reducible refine b_intro ?_ ?_ <;> intro hcb) | (with_reducible first | refine ewp_cond ?_ | refine eops_if ?_ | refine ewp_block ?_ | refine ewp_exit ?_ | refine ewp_ret ?_ | refine ewp_skip ?_ | refine ewp_loop ?_ | refine hget_a0 ?_ | refine hget_b ?_ | refine hget_a ?_ | refine hput_a0 ?_ | refine hput_b ?_ | refine hput_a ?_ | refine hget_s0 ?_ | refine hget_s ?_ | refine hput_s0 ?_ | refine hput_s ?_ | refine halloc1 ?_ | refine halloc2 ?_ | refine halloc3 ?_ | refine halloc4 ?_ | refine halloc5 ?_ | refine halloc6 ?_ | refine halloc7 ?_ | refine halloc8 ?_ | refine halloc_b2 ?_ | refine halloc_b1 ?_ | refine halloc_s0 ?_ | refine halloc_h ?_ | refine ewp_range ?_ | refine ewp_draw ?_ | refine edraw_nil ?_ | refine edraw_if ?_ | refine mget_cons ?_) | with_reducible refine mget_nil ?_) | ((conv => whnf); refine And.intro ?_ ?_))))) | ((conv => whnf); (with_reducible apply edraw_write'); (· (repeat' (first | exact True.intro | exact rfl | ((conv => whnf); first | (with_reducible refine (hfA _ _).mono ?_; rintro r h' ⟨rfl, rfl⟩) | (with_reducible refine (hfB _ _).mono ?_; rintro r h' ⟨rfl, rfl⟩) | (with_reducible first | refine eops_one ?_ | refine eops_nil ?_ | refine ewp_seq ?_ | refine ewp_region ?_) | ((with_reducible refine And.intro ?_ ?_); · (first | rfl | assumption | omega | (simp; omega) | (simp [AV.cells]; done))) | (with_reducible first | refine b_T ?_ | refine b_F ?_ | refine b_true (by assumption) ?_ | refine b_false (by assumption) ?_) | ((with_reducible refine b_true ?_ ?_); (· (decide))) | ((with_reducible refine b_false ?_ ?_); (· (decide))) | (with_reducible refine b_dec ?_ ?_ <;> intro hc hcb) | (with_reducible refine b_eq ?_ ?_ <;> intro hc hcb) | (with_reducible refine b_ne ?_ ?_ <;> intro hc hcb) | (with_reducible refine b_neq ?_ ?_ <;> intro hc hcb) | (with_reducible refine b_not ?_ ?_ <;> intro hc hcb) | (with_reducible refine b_intro ?_ ?_ <;> intro hcb) | (with_reducible first | refine ewp_cond ?_ | refine eops_if ?_ | refine ewp_block ?_ | refine ewp_exit ?_ | refine ewp_ret ?_ | refine ewp_skip ?_ | refine ewp_loop ?_ | refine hget_a0 ?_ | refine hget_b ?_ | refine hget_a ?_ | refine hput_a0 ?_ | refine hput_b ?_ | refine hput_a ?_ | refine hget_s0 ?_ | refine hget_s ?_ | refine hput_s0 ?_ | refine hput_s ?_ | refine halloc1 ?_ | refine halloc2 ?_ | refine halloc3 ?_ | refine halloc4 ?_ | refine halloc5 ?_ | refine halloc6 ?_ | refine halloc7 ?_ | refine halloc8 ?_ | refine halloc_b2 ?_ | refine halloc_b1 ?_ | refine halloc_s0 ?_ | refine halloc_h ?_ | refine ewp_range ?_ | refine ewp_draw ?_ | refine edraw_nil ?_ | refine edraw_if ?_ | refine mget_cons ?_) | with_reducible refine mget_nil ?_) | ((conv => whnf); refine And.intro ?_ ?_)))); (· (repeat' (first | exact True.intro | exact rfl | ((conv => whnf); first | (with_reducible refine (hfA _ _).mono ?_; rintro r h' ⟨rfl, rfl⟩) | (with_reducible refine (hfB _ _).mono ?_; rintro r h' ⟨rfl, rfl⟩) | (with_reducible first | refine eops_one ?_ | refine eops_nil ?_ | refine ewp_seq ?_ | refine ewp_region ?_) | ((with_reducible refine And.intro ?_ ?_); · (first | rfl | assumption | omega | (simp; omega) | (simp [AV.cells]; done))) | (with_reducible first | refine b_T ?_ | refine b_F ?_ | refine b_true (by assumption) ?_ | refine b_false (by assumption) ?_) | ((with_reducible refine b_true ?_ ?_); (· (decide))) | ((with_reducible refine b_false ?_ ?_); (· (decide))) | (with_reducible refine b_dec ?_ ?_ <;> intro hc hcb) | (with_reducible refine b_eq ?_ ?_ <;> intro hc hcb) | (with_reducible refine b_ne ?_ ?_ <;> intro hc hcb) | (with_reducible refine b_neq ?_ ?_ <;> intro hc hcb) | (with_reducible refine b_not ?_ ?_ <;> intro hc hcb) | (with_reducible refine b_intro ?_ ?_ <;> intro hcb) | (with_reducible first | refine ewp_cond ?_ | refine eops_if ?_ | refine ewp_block ?_ | refine ewp_exit ?_ | refine ewp_ret ?_ | refine ewp_skip ?_ | refine ewp_loop ?_ | refine hget_a0 ?_ | refine hget_b ?_ | refine hget_a ?_ | refine hput_a0 ?_ | refine hput_b ?_ | refine hput_a ?_ | refine hget_s0 ?_ | refine hget_s ?_ | refine hput_s0 ?_ | refine hput_s ?_ | refine halloc1 ?_ | refine halloc2 ?_ | refine halloc3 ?_ | refine halloc4 ?_ | refine halloc5 ?_ | refine halloc6 ?_ | refine halloc7 ?_ | refine halloc8 ?_ | refine halloc_b2 ?_ | refine halloc_b1 ?_ | refine halloc_s0 ?_ | refine halloc_h ?_ | refine ewp_range ?_ | refine ewp_draw ?_ | refine edraw_nil ?_ | refine edraw_if ?_ | refine mget_cons ?_) | with_reducible refine mget_nil ?_) | ((conv => whnf); refine And.intro ?_ ?_))))))
      all_goals (try (conv => whnf))
      all_goals (refine done_drop' rfl hlow (.bool _) ?_; refine ret_of hQ (congrArg AV.bool ?_); rw [hhc])
      all_goals (rw [hn]; clear hn hp1 hp2 hp3 hhc hgA hfA hfB hob hAt hQ hcnt hv ht)
      all_goals first | (simp_all; done) | (rw [moreB_ok ha, Bool.eq_iff_iff]; simp_all [Nat.ble_eq]; done) | (rw [moreB_ok ha, Bool.eq_iff_iff]; simp_all [Nat.ble_eq]; omega) | (rw [moreB_no ha]; simp_all; done) | (rw [moreB_ok ha, Bool.eq_iff_iff]; simp_all [Nat.ble_eq]; intro hx; obtain ⟨x, h1, h2⟩ := hc; rw [hx x h1] at h2; cases h2)
    | els op k v n ks =>
      simp only [Cnd.kids, Cnd.op, Cnd.key, Cnd.val, Cnd.n] at hhc hgA hp1 hp2 hp3 hcnt
      have hge := Cnd.cntL_ge (l := ks) (i := ks.length) (Nat.le_refl _)
      rw [List.take_length] at hge
      have ih : ∀ (i : Nat) (c : Cnd) (H : AHeap), ks[i]? = some c → S Tryz.prog (Stays LibV) 48 [.agg c.cl, .agg o.cl] H fun r h' => r = .ret (.bool (c.holdsC o.tagl)) ∧ h' = H := fun i c H hi =>
        holds_S N c o H _ (by have := Cnd.cntL_mem (List.mem_of_getElem? hi); omega) (by omega) ht hv ⟨rfl, rfl⟩
      have hfB : ∀ (x : AV) (H : AHeap), x = .lptr (.agg o.cl) 0 → S Tryz.prog (Stays LibV) 79 [.lst 5 (Cnd.cls ks), .fn 74 [] [x]] H fun r h' => r = .ret (.bool (ks.any fun c => c.holdsC o.tagl)) ∧ h' = H := by
        rintro x H rfl
        refine conC_S (fun _ => H) (fun i => match ks[i]? with | some c => c.holdsC o.tagl | none => false) (by omega) ?_ ?_ ?_
        · intro i c hi _
          rw [hi]
          exact kid1_S (ih i c H hi)
        · intro k1 h1 h2 _
          have hk1 : ks[k1]? = some ks[k1] := by simp [h1]
          rw [hk1] at h2
          refine ⟨?_, rfl⟩
          congr 2; symm
          exact List.any_eq_true.2 ⟨_, List.getElem_mem h1, h2⟩
        · intro h1
          refine ⟨?_, rfl⟩
          congr 2; symm
          rw [List.any_eq_false]
          intro c hm
          obtain ⟨i, hi, rfl⟩ := List.getElem_of_mem hm
          have := h1 i hi
          rw [List.getElem?_eq_getElem hi] at this
          simpa using this
      have hfA : ∀ (r : Nat) (H : AHeap) (gr : Bool) (T' : Nat) (f : AV), H[r]? = some (.cells gr T' 1 [f]) → f = kidF o → S Tryz.prog (Stays LibV) 79 [.lst 5 (Cnd.cls ks), .fn 75 [] [.ptr r 0 0]] H fun r h' => r = .ret (.bool (!(ks.all fun c => c.holdsC o.tagl))) ∧ h' = H := by
        rintro r H gr T' f hr rfl
        refine conC_S (fun _ => H) (fun i => match ks[i]? with | some c => !(c.holdsC o.tagl) | none => false) (by omega) ?_ ?_ ?_
        · intro i c hi _
          rw [hi]
          exact kid2_S hr (kid1_S (ih i c H hi))
        · intro k1 h1 h2 _
          have hk1 : ks[k1]? = some ks[k1] := by simp [h1]
          rw [hk1] at h2
          refine ⟨?_, rfl⟩
          congr 2; symm
          rw [Bool.not_eq_true', List.all_eq_false]
          exact ⟨_, List.getElem_mem h1, by simpa using h2⟩
        · intro h1
          refine ⟨?_, rfl⟩
          congr 2; symm
          rw [Bool.not_eq_false', List.all_eq_true]
          intro c hm
          obtain ⟨i, hi, rfl⟩ := List.getElem_of_mem hm
          have := h1 i hi
          rw [List.getElem?_eq_getElem hi] at this
          simpa using this
      have hfA := hfA h.length (h ++ [.cells false 51 1 [kidF o]]) false 51 (kidF o) (by simp) rfl
      have hfB := hfB (.lptr (.agg o.cl) 0) (h ++ [.cells false 51 1 [kidF o]]) rfl
      unfold kidF at hfA hfB
      rw [hob]
      rw [hob] at hfA hfB
      have hn : hNode o.tagl op k v n (ks.any fun c => c.holdsC o.tagl) (ks.all fun c => c.holdsC o.tagl) = if op = 2 then b else if op = 3 then (b && (w == v)) else if op = 7 then (b && moreB w n) else if op = 4 then !(ks.all fun c => c.holdsC o.tagl) else if op = 5 then (ks.all fun c => c.holdsC o.tagl) else if op = 6 then (ks.any fun c => c.holdsC o.tagl) else true := by
        unfold hNode; rw [hp1, hp2, hp3]
      repeat' (first | ((conv => whnf); first | (with_reducible first | refine eops_one ?_ | refine eops_nil ?_ | refine ewp_seq ?_ | refine ewp_region ?_) | ((with_reducible refine And.intro ?_ ?_); · (first | rfl | assumption | omega | (simp; omega) | (simp [AV.cells]; done))) | (with_reducible first | refine b_T ?_ | refine b_F ?_ | refine b_true (by assumption) ?_ | refine b_false (by assumption) ?_) | ((with_reducible refine b_true ?_ ?_); (· (decide))) | ((with_reducible refine b_false ?_ ?_); (· (decide))) | (with_reducible refine b_dec ?_ ?_ <;> intro hc hcb) | (with_reducible refine b_eq ?_ ?_ <;> intro hc hcb) | (with_reducible refine b_ne ?_ ?_ <;> intro hc hcb) | (with_reducible refine b_neq ?_ ?_ <;> intro hc hcb) | (with_reducible refine b_not ?_ ?_ <;> intro hc hcb) | (with_reducible refine b_intro ?_ ?_ <;> intro hcb) | (with_reducible first | refine ewp_cond ?_ | refine eops_if ?_ | refine ewp_block ?_ | refine ewp_exit ?_ | refine ewp_ret ?_ | refine ewp_skip ?_ | refine ewp_loop ?_ | refine hget_a0 ?_ | refine hget_b ?_ | refine hget_a ?_ | refine hput_a0 ?_ | refine hput_b ?_ | refine hput_a ?_ | refine hget_s0 ?_ | refine hget_s ?_ | refine hput_s0 ?_ | refine hput_s ?_ | refine halloc1 ?_ | refine halloc2 ?_ | refine halloc3 ?_ | refine halloc4 ?_ | refine halloc5 ?_ | refine halloc6 ?_ | refine halloc7 ?_ | refine halloc8 ?_ | refine halloc_b2 ?_ | refine halloc_b1 ?_ | refine halloc_s0 ?_ | refine halloc_h ?_ | refine ewp_range ?_ | refine ewp_draw ?_ | refine edraw_nil ?_ | refine edraw_if ?_ | refine mget_cons ?_) | with_reducible refine mget_nil ?_) | ((conv => whnf); refine getO_S (t := o.tags) ht ?_) | ((conv => whnf); refine force_intro ?_))
      rw [show o.tags.getD [] = o.tagl from rfl, hgA]
      repeat' (first | ((conv => whnf); first | (with_reducible first | refine eops_one ?_ | refine eops_nil ?_ | refine ewp_seq ?_ | refine ewp_region ?_) | ((with_reducible refine And.intro ?_ ?_); · (first | rfl | assumption | omega | (simp; omega) | (simp [AV.cells]; done))) | (with_reducible first | refine b_T ?_ | refine b_F ?_ | refine b_true (by assumption) ?_ | refine b_false (by assumption) ?_) | ((with_reducible refine b_true ?_ ?_); (· (decide))) | ((with_reducible refine b_false ?_ ?_); (· (decide))) | (with_reducible refine b_dec ?_ ?_ <;> intro hc hcb) | (with_reducible refine b_eq ?_ ?_ <;> intro hc hcb) | (with_reducible refine b_ne ?_ ?_ <;> intro hc hcb) | (with_reducible refine b_neq ?_ ?_ <;> intro hc hcb) | (with_reducible refine b_not ?_ ?_ <;> intro hc hcb) | (with_reducible refine b_intro ?_ ?_ <;> intro hcb) | (with_reducible first | refine ewp_cond ?_ | refine eops_if ?_ | refine ewp_block ?_ | refine ewp_exit ?_ | refine ewp_ret ?_ | refine ewp_skip ?_ | refine ewp_loop ?_ | refine hget_a0 ?_ | refine hget_b ?_ | refine hget_a ?_ | refine hput_a0 ?_ | refine hput_b ?_ | refine hput_a ?_ | refine hget_s0 ?_ | refine hget_s ?_ | refine hput_s0 ?_ | refine hput_s ?_ | refine halloc1 ?_ | refine halloc2 ?_ | refine halloc3 ?_ | refine halloc4 ?_ | refine halloc5 ?_ | refine halloc6 ?_ | refine halloc7 ?_ | refine halloc8 ?_ | refine halloc_b2 ?_ | refine halloc_b1 ?_ | refine halloc_s0 ?_ | refine halloc_h ?_ | refine ewp_range ?_ | refine ewp_draw ?_ | refine edraw_nil ?_ | refine edraw_if ?_ | refine mget_cons ?_) | with_reducible refine mget_nil ?_) | ((conv => whnf); with_reducible refine digits_S ?_) | ((conv => whnf); (with_reducible refine hAt ?_); rintro _ (⟨m, ha, rfl⟩ | ⟨ha, m, t, rfl⟩)) | ((conv => whnf); first | (with_reducible refine hfA.mono ?_; rintro r h' ⟨rfl, rfl⟩) | (with_reducible refine hfB.mono ?_; rintro r h' ⟨rfl, rfl⟩)) | ((conv => whnf); (with_reducible apply edraw_read'); (· (repeat' (first | exact True.intro | exact rfl | ((conv => whnf); first | (with_reducible refine hfA.mono ?_; rintro r h' ⟨rfl, rfl⟩) | (with_reducible refine hfB.mono ?_; rintro r h' ⟨rfl, rfl⟩)) | ((conv => whnf); first | (with_reducible first | refine eops_one ?_ | refine eops_nil ?_ | refine ewp_seq ?_ | refine ewp_region ?_) | ((with_reducible refine And.intro ?_ ?_); · (first | rfl | assumption | omega | (simp; omega) | (simp [AV.cells]; done))) | (with_reducible first | refine b_T ?_ | refine b_F ?_ | refine b_true (by assumption) ?_ | refine b_false (by assumption) ?_) | ((with_reducible refine b_true ?_ ?_); (· (decide))) | ((with_reducible refine b_false ?_ ?_); (· (decide))) | (with_reducible refine b_dec ?_ ?_ <;> intro hc hcb) | (with_reducible refine b_eq ?_ ?_ <;> intro hc hcb) | (with_reducible refine b_ne ?_ ?_ <;> intro hc hcb) | (with_reducible refine b_neq ?_ ?_ <;> intro hc hcb) | (with_reducible refine b_not ?_ ?_ <;> intro hc hcb) | (with_reducible refine b_intro ?_ ?_ <;> intro hcb) | (with_reducible first | refine ewp_cond ?_ | refine eops_if ?_ | refine ewp_block ?_ | refine ewp_exit ?_ | refine ewp_ret ?_ | refine ewp_skip ?_ | refine ewp_loop ?_ | refine hget_a0 ?_ | refine hget_b ?_ | refine hget_a ?_ | refine hput_a0 ?_ | refine hput_b ?_ | refine hput_a ?_ | refine hget_s0 ?_ | refine hget_s ?_ | refine hput_s0 ?_ | refine hput_s ?_ | refine halloc1 ?_ | refine halloc2 ?_ | refine halloc3 ?_ | refine halloc4 ?_ | refine halloc5 ?_ | refine halloc6 ?_ | refine halloc7 ?_ | refine halloc8 ?_ | refine halloc_b2 ?_ | refine halloc_b1 ?_ | refine halloc_s0 ?_ | refine halloc_h ?_ | refine ewp_range ?_ | refine ewp_draw ?_ | refine edraw_nil ?_ | refine edraw_if ?_ | refine mget_cons ?_) | with_reducible refine mget_nil ?_) | ((conv => whnf); refine And.intro ?_ ?_)))); (· (repeat' (first | exact True.intro | exact rfl | ((conv => whnf); first | (with_reducible refine hfA.mono ?_; rintro r h' ⟨rfl, rfl⟩) | (with_reducible refine hfB.mono ?_; rintro r h' ⟨rfl, rfl⟩)) | ((conv => whnf); first | (with_reducible first | refine eops_one ?_ | refine eops_nil ?_ | refine ewp_seq ?_ | refine ewp_region ?_) | ((with_reducible refine And.intro ?_ ?_); · (first | rfl | assumption | omega | (simp; omega) | (simp [AV.cells]; done))) | (with_reducible first | refine b_T ?_ | refine b_F ?_ | refine b_true (by assumption) ?_ | refine b_false (by assumption) ?_) | ((with_reducible refine b_true ?_ ?_); (· (decide))) | ((with_reducible refine b_false ?_ ?_); (· (decide))) | (with_reducible refine b_dec ?_ ?_ <;> intro hc hcb) | (with_reducible refine b_eq ?_ ?_ <;> intro hc hcb) | (with_reducible refine b_ne ?_ ?_ <;> intro hc hcb) | (with_reducible refine b_neq ?_ ?_ <;> intro hc hcb) | (with_reducible refine b_not ?_ ?_ <;> intro hc hcb) | (with_reducible refine b_intro ?_ ?_ <;> intro hcb) | (with_reducible first | refine ewp_cond ?_ | refine eops_if ?_ | refine ewp_block ?_ | refine ewp_exit ?_ | refine ewp_ret ?_ | refine ewp_skip ?_ | refine ewp_loop ?_ | refine hget_a0 ?_ | refine hget_b ?_ | refine hget_a ?_ | refine hput_a0 ?_ | refine hput_b ?_ | refine hput_a ?_ | refine hget_s0 ?_ | refine hget_s ?_ | refine hput_s0 ?_ | refine hput_s ?_ | refine halloc1 ?_ | refine halloc2 ?_ | refine halloc3 ?_ | refine halloc4 ?_ | refine halloc5 ?_ | refine halloc6 ?_ | refine halloc7 ?_ | refine halloc8 ?_ | refine halloc_b2 ?_ | refine halloc_b1 ?_ | refine halloc_s0 ?_ | refine halloc_h ?_ | refine ewp_range ?_ | refine ewp_draw ?_ | refine edraw_nil ?_ | refine edraw_if ?_ | refine mget_cons ?_) | with_reducible refine mget_nil ?_) | ((conv => whnf); refine And.intro ?_ ?_))))) | ((conv => whnf); (with_reducible apply edraw_write'); (· (repeat' (first | exact True.intro | exact rfl | ((conv => whnf); first | (with_reducible refine hfA.mono ?_; rintro r h' ⟨rfl, rfl⟩) | (with_reducible refine hfB.mono ?_; rintro r h' ⟨rfl, rfl⟩)) | ((conv => whnf); first | (with_reducible first | refine eops_one ?_ | refine eops_nil ?_ | refine ewp_seq ?_ | refine ewp_region ?_) | ((with_reducible refine And.intro ?_ ?_); · (first | rfl | assumption | omega | (simp; omega) | (simp [AV.cells]; done))) | (with_reducible first | refine b_T ?_ | refine b_F ?_ | refine b_true (by assumption) ?_ | refine b_false (by assumption) ?_) | ((with_reducible refine b_true ?_ ?_); (· (decide))) | ((with_reducible refine b_false ?_ ?_); (· (decide))) | (with_reducible refine b_dec ?_ ?_ <;> intro hc hcb) | (with_reducible refine b_eq ?_ ?_ <;> intro hc hcb) | (with_reducible refine b_ne ?_ ?_ <;> intro hc hcb) | (with_reducible refine b_neq ?_ ?_ <;> intro hc hcb) | (with_reducible refine b_not ?_ ?_ <;> intro hc hcb) | (with_reducible refine b_intro ?_ ?_ <;> intro hcb) | (with_reducible first | refine ewp_cond ?_ | refine eops_if ?_ | refine ewp_block ?_ | refine ewp_exit ?_ | refine ewp_ret ?_ | refine ewp_skip ?_ | refine ewp_loop ?_ | refine hget_a0 ?_ | refine hget_b ?_ | refine hget_a ?_ | refine hput_a0 ?_ | refine hput_b ?_ | refine hput_a ?_ | refine hget_s0 ?_ | refine hget_s ?_ | refine hput_s0 ?_ | refine hput_s ?_ | refine halloc1 ?_ | refine halloc2 ?_ | refine halloc3 ?_ | refine halloc4 ?_ | refine halloc5 ?_ | refine halloc6 ?_ | refine halloc7 ?_ | refine halloc8 ?_ | refine halloc_b2 ?_ | refine halloc_b1 ?_ | refine halloc_s0 ?_ | refine halloc_h ?_ | refine ewp_range ?_ | refine ewp_draw ?_ | refine edraw_nil ?_ | refine edraw_if ?_ | refine mget_cons ?_) | with_reducible refine mget_nil ?_) | ((conv => whnf); refine And.intro ?_ ?_)))); (· (repeat' (first | exact True.intro | exact rfl | ((conv => whnf); first | (with_reducible refine hfA.mono ?_; rintro r h' ⟨rfl, rfl⟩) | (with_reducible refine hfB.mono ?_; rintro r h' ⟨rfl, rfl⟩)) | ((conv => whnf); first | (with_reducible first | refine eops_one ?_ | refine eops_nil ?_ | refine ewp_seq ?_ | refine ewp_region ?_) | ((with_reducible refine And.intro ?_ ?_); · (first | rfl | assumption | omega | (simp; omega) | (simp [AV.cells]; done))) | (with_reducible first | refine b_T ?_ | refine b_F ?_ | refine b_true (by assumption) ?_ | refine b_false (by assumption) ?_) | ((with_reducible refine b_true ?_ ?_); (· (decide))) | ((with_reducible refine b_false ?_ ?_); (· (decide))) | (with_reducible refine b_dec ?_ ?_ <;> intro hc hcb) | (with_reducible refine b_eq ?_ ?_ <;> intro hc hcb) | (with_reducible refine b_ne ?_ ?_ <;> intro hc hcb) | (with_reducible refine b_neq ?_ ?_ <;> intro hc hcb) | (with_reducible refine b_not ?_ ?_ <;> intro hc hcb) | (with_reducible refine b_intro ?_ ?_ <;> intro hcb) | (with_reducible first | refine ewp_cond ?_ | refine eops_if ?_ | refine ewp_block ?_ | refine ewp_exit ?_ | refine ewp_ret ?_ | refine ewp_skip ?_ | refine ewp_loop ?_ | refine hget_a0 ?_ | refine hget_b ?_ | refine hget_a ?_ | refine hput_a0 ?_ | refine hput_b ?_ | refine hput_a ?_ | refine hget_s0 ?_ | refine hget_s ?_ | refine hput_s0 ?_ | refine hput_s ?_ | refine halloc1 ?_ | refine halloc2 ?_ | refine halloc3 ?_ | refine halloc4 ?_ | refine halloc5 ?_ | refine halloc6 ?_ | refine halloc7 ?_ | refine halloc8 ?_ | refine halloc_b2 ?_ | refine halloc_b1 ?_ | refine halloc_s0 ?_ | refine halloc_h ?_ | refine ewp_range ?_ | refine ewp_draw ?_ | refine edraw_nil ?_ | refine edraw_if ?_ | refine mget_cons ?_) | with_reducible refine mget_nil ?_) | ((conv => whnf); refine And.intro ?_ ?_))))))
      all_goals (try (conv => whnf))
      all_goals (refine done_drop' rfl hlow (.bool _) ?_; refine ret_of hQ (congrArg AV.bool ?_); rw [hhc])
      all_goals (rw [hn]; clear hn hp1 hp2 hp3 hhc hgA hfA hfB hob hAt hQ hcnt hv ht ih)
      all_goals first | (simp_all; done) | (rw [moreB_ok ha, Bool.eq_iff_iff]; simp_all [Nat.ble_eq]; done) | (rw [moreB_ok ha, Bool.eq_iff_iff]; simp_all [Nat.ble_eq]; omega) | (rw [moreB_no ha]; simp_all; done) | (rw [moreB_ok ha, Bool.eq_iff_iff]; simp_all [Nat.ble_eq]; intro hx; obtain ⟨x, h1, h2⟩ := hc; rw [hx x h1] at h2; cases h2)
theorem holdsP_S {c : Cnd} {o : Ob} {h : AHeap} {Q : AEnd → AHeap → Prop} (hcn : c.cnt ≤ 9223372036854775807) (hsh : c.shortC = true) (ht : o.tagl.length ≤ 9223372036854775807) (hv : ∀ t ∈ o.tagl, t.2.length ≤ 281474976710656) (hQ : Q (.ret (.bool (c.validC && c.holdsC o.tagl))) h) :
    S Tryz.prog (Stays LibV) 22 [.agg c.cl, .agg o.cl] h Q := by
  refine go22 (by simp) fun hlow => ?_
  unfold ac22
  have hob := o.cl_eq
  rw [hob]
  cases c with
  | nilk op k v n =>
    have hh : ∀ Q : AEnd → AHeap → Prop, Q (.ret (.bool (Cnd.holdsC o.tagl (.nilk op k v n)))) h → S Tryz.prog (Stays LibV) 48 [.agg (Cnd.cl (.nilk op k v n)), .agg [.str o.name, .int .i64 o.kind, .int .i64 o.x, .int .i64 o.y, strsA o.refs, tagsA o.tags]] h Q := fun Q hq => by rw [← hob]; exact holds_S (Cnd.cnt (.nilk op k v n)) (.nilk op k v n) o h Q (Nat.le_refl _) (by omega) ht hv hq
    cases hb : Cnd.validC (.nilk op k v n) with
    | true =>
      repeat' (first | ((conv => whnf); first | (with_reducible first | refine eops_one ?_ | refine eops_nil ?_ | refine ewp_seq ?_ | refine ewp_region ?_) | ((with_reducible refine And.intro ?_ ?_); · (first | rfl | assumption | omega | (simp; omega) | (simp [AV.cells]; done))) | (with_reducible first | refine b_T ?_ | refine b_F ?_ | refine b_true (by assumption) ?_ | refine b_false (by assumption) ?_) | ((with_reducible refine b_true ?_ ?_); (· (decide))) | ((with_reducible refine b_false ?_ ?_); (· (decide))) | (with_reducible refine b_dec ?_ ?_ <;> intro hc hcb) | (with_reducible refine b_eq ?_ ?_ <;> intro hc hcb) | (with_reducible refine b_ne ?_ ?_ <;> intro hc hcb) | (with_reducible refine b_neq ?_ ?_ <;> intro hc hcb) | (with_reducible refine b_not ?_ ?_ <;> intro hc hcb) | (with_reducible refine b_intro ?_ ?_ <;> intro hcb) | (with_reducible first | refine ewp_cond ?_ | refine eops_if ?_ | refine ewp_block ?_ | refine ewp_exit ?_ | refine ewp_ret ?_ | refine ewp_skip ?_ | refine ewp_loop ?_ | refine hget_a0 ?_ | refine hget_b ?_ | refine hget_a ?_ | refine hput_a0 ?_ | refine hput_b ?_ | refine hput_a ?_ | refine hget_s0 ?_ | refine hget_s ?_ | refine hput_s0 ?_ | refine hput_s ?_ | refine halloc1 ?_ | refine halloc2 ?_ | refine halloc3 ?_ | refine halloc4 ?_ | refine halloc5 ?_ | refine halloc6 ?_ | refine halloc7 ?_ | refine halloc8 ?_ | refine halloc_b2 ?_ | refine halloc_b1 ?_ | refine halloc_s0 ?_ | refine halloc_h ?_ | refine ewp_range ?_ | refine ewp_draw ?_ | refine edraw_nil ?_ | refine edraw_if ?_ | refine mget_cons ?_) | with_reducible refine mget_nil ?_) | ((conv => whnf); refine valid_S (c := .nilk op k v n) hcn hsh ?_) | ((conv => whnf); refine force_intro ?_))
      all_goals (try rw [hb])
      repeat' (first | ((conv => whnf); first | (with_reducible first | refine eops_one ?_ | refine eops_nil ?_ | refine ewp_seq ?_ | refine ewp_region ?_) | ((with_reducible refine And.intro ?_ ?_); · (first | rfl | assumption | omega | (simp; omega) | (simp [AV.cells]; done))) | (with_reducible first | refine b_T ?_ | refine b_F ?_ | refine b_true (by assumption) ?_ | refine b_false (by assumption) ?_) | ((with_reducible refine b_true ?_ ?_); (· (decide))) | ((with_reducible refine b_false ?_ ?_); (· (decide))) | (with_reducible refine b_dec ?_ ?_ <;> intro hc hcb) | (with_reducible refine b_eq ?_ ?_ <;> intro hc hcb) | (with_reducible refine b_ne ?_ ?_ <;> intro hc hcb) | (with_reducible refine b_neq ?_ ?_ <;> intro hc hcb) | (with_reducible refine b_not ?_ ?_ <;> intro hc hcb) | (with_reducible refine b_intro ?_ ?_ <;> intro hcb) | (with_reducible first | refine ewp_cond ?_ | refine eops_if ?_ | refine ewp_block ?_ | refine ewp_exit ?_ | refine ewp_ret ?_ | refine ewp_skip ?_ | refine ewp_loop ?_ | refine hget_a0 ?_ | refine hget_b ?_ | refine hget_a ?_ | refine hput_a0 ?_ | refine hput_b ?_ | refine hput_a ?_ | refine hget_s0 ?_ | refine hget_s ?_ | refine hput_s0 ?_ | refine hput_s ?_ | refine halloc1 ?_ | refine halloc2 ?_ | refine halloc3 ?_ | refine halloc4 ?_ | refine halloc5 ?_ | refine halloc6 ?_ | refine halloc7 ?_ | refine halloc8 ?_ | refine halloc_b2 ?_ | refine halloc_b1 ?_ | refine halloc_s0 ?_ | refine halloc_h ?_ | refine ewp_range ?_ | refine ewp_draw ?_ | refine edraw_nil ?_ | refine edraw_if ?_ | refine mget_cons ?_) | with_reducible refine mget_nil ?_) | ((conv => whnf); refine force_intro ?_))
      all_goals (conv => whnf)
      refine hh _ ?_
      repeat' ((conv => whnf); first | (with_reducible first | refine eops_one ?_ | refine eops_nil ?_ | refine ewp_seq ?_ | refine ewp_region ?_) | ((with_reducible refine And.intro ?_ ?_); · (first | rfl | assumption | omega | (simp; omega) | (simp [AV.cells]; done))) | (with_reducible first | refine b_T ?_ | refine b_F ?_ | refine b_true (by assumption) ?_ | refine b_false (by assumption) ?_) | ((with_reducible refine b_true ?_ ?_); (· (decide))) | ((with_reducible refine b_false ?_ ?_); (· (decide))) | (with_reducible refine b_dec ?_ ?_ <;> intro hc hcb) | (with_reducible refine b_eq ?_ ?_ <;> intro hc hcb) | (with_reducible refine b_ne ?_ ?_ <;> intro hc hcb) | (with_reducible refine b_neq ?_ ?_ <;> intro hc hcb) | (with_reducible refine b_not ?_ ?_ <;> intro hc hcb) | (with_reducible refine b_intro ?_ ?_ <;> intro hcb) | (with_reducible first | refine ewp_cond ?_ | refine eops_if ?_ | refine ewp_block ?_ | refine ewp_exit ?_ | refine ewp_ret ?_ | refine ewp_skip ?_ | refine ewp_loop ?_ | refine hget_a0 ?_ | refine hget_b ?_ | refine hget_a ?_ | refine hput_a0 ?_ | refine hput_b ?_ | refine hput_a ?_ | refine hget_s0 ?_ | refine hget_s ?_ | refine hput_s0 ?_ | refine hput_s ?_ | refine halloc1 ?_ | refine halloc2 ?_ | refine halloc3 ?_ | refine halloc4 ?_ | refine halloc5 ?_ | refine halloc6 ?_ | refine halloc7 ?_ | refine halloc8 ?_ | refine halloc_b2 ?_ | refine halloc_b1 ?_ | refine halloc_s0 ?_ | refine halloc_h ?_ | refine ewp_range ?_ | refine ewp_draw ?_ | refine edraw_nil ?_ | refine edraw_if ?_ | refine mget_cons ?_) | with_reducible refine mget_nil ?_)
      all_goals (conv => whnf)
      refine done_here ?_
      exact ret_of hQ (congrArg AV.bool (by rw [hb]; rfl))
    | false =>
      repeat' (first | ((conv => whnf); first | (with_reducible first | refine eops_one ?_ | refine eops_nil ?_ | refine ewp_seq ?_ | refine ewp_region ?_) | ((with_reducible refine And.intro ?_ ?_); · (first | rfl | assumption | omega | (simp; omega) | (simp [AV.cells]; done))) | (with_reducible first | refine b_T ?_ | refine b_F ?_ | refine b_true (by assumption) ?_ | refine b_false (by assumption) ?_) | ((with_reducible refine b_true ?_ ?_); (· (decide))) | ((with_reducible refine b_false ?_ ?_); (· (decide))) | (with_reducible refine b_dec ?_ ?_ <;> intro hc hcb) | (with_reducible refine b_eq ?_ ?_ <;> intro hc hcb) | (with_reducible refine b_ne ?_ ?_ <;> intro hc hcb) | (with_reducible refine b_neq ?_ ?_ <;> intro hc hcb) | (with_reducible refine b_not ?_ ?_ <;> intro hc hcb) | (with_reducible refine b_intro ?_ ?_ <;> intro hcb) | (with_reducible first | refine ewp_cond ?_ | refine eops_if ?_ | refine ewp_block ?_ | refine ewp_exit ?_ | refine ewp_ret ?_ | refine ewp_skip ?_ | refine ewp_loop ?_ | refine hget_a0 ?_ | refine hget_b ?_ | refine hget_a ?_ | refine hput_a0 ?_ | refine hput_b ?_ | refine hput_a ?_ | refine hget_s0 ?_ | refine hget_s ?_ | refine hput_s0 ?_ | refine hput_s ?_ | refine halloc1 ?_ | refine halloc2 ?_ | refine halloc3 ?_ | refine halloc4 ?_ | refine halloc5 ?_ | refine halloc6 ?_ | refine halloc7 ?_ | refine halloc8 ?_ | refine halloc_b2 ?_ | refine halloc_b1 ?_ | refine halloc_s0 ?_ | refine halloc_h ?_ | refine ewp_range ?_ | refine ewp_draw ?_ | refine edraw_nil ?_ | refine edraw_if ?_ | refine mget_cons ?_) | with_reducible refine mget_nil ?_) | ((conv => whnf); refine valid_S (c := .nilk op k v n) hcn hsh ?_) | ((conv => whnf); refine force_intro ?_))
      all_goals (try rw [hb])
      repeat' (first | ((conv => whnf); first | (with_reducible first | refine eops_one ?_ | refine eops_nil ?_ | refine ewp_seq ?_ | refine ewp_region ?_) | ((with_reducible refine And.intro ?_ ?_); · (first | rfl | assumption | omega | (simp; omega) | (simp [AV.cells]; done))) | (with_reducible first | refine b_T ?_ | refine b_F ?_ | refine b_true (by assumption) ?_ | refine b_false (by assumption) ?_) | ((with_reducible refine b_true ?_ ?_); (· (decide))) | ((with_reducible refine b_false ?_ ?_); (· (decide))) | (with_reducible refine b_dec ?_ ?_ <;> intro hc hcb) | (with_reducible refine b_eq ?_ ?_ <;> intro hc hcb) | (with_reducible refine b_ne ?_ ?_ <;> intro hc hcb) | (with_reducible refine b_neq ?_ ?_ <;> intro hc hcb) | (with_reducible refine b_not ?_ ?_ <;> intro hc hcb) | (with_reducible refine b_intro ?_ ?_ <;> intro hcb) | (with_reducible first | refine ewp_cond ?_ | refine eops_if ?_ | refine ewp_block ?_ | refine ewp_exit ?_ | refine ewp_ret ?_ | refine ewp_skip ?_ | refine ewp_loop ?_ | refine hget_a0 ?_ | refine hget_b ?_ | refine hget_a ?_ | refine hput_a0 ?_ | refine hput_b ?_ | refine hput_a ?_ | refine hget_s0 ?_ | refine hget_s ?_ | refine hput_s0 ?_ | refine hput_s ?_ | refine halloc1 ?_ | refine halloc2 ?_ | refine halloc3 ?_ | refine halloc4 ?_ | refine halloc5 ?_ | refine halloc6 ?_ | refine halloc7 ?_ | refine halloc8 ?_ | refine halloc_b2 ?_ | refine halloc_b1 ?_ | refine halloc_s0 ?_ | refine halloc_h ?_ | refine ewp_range ?_ | refine ewp_draw ?_ | refine edraw_nil ?_ | refine edraw_if ?_ | refine mget_cons ?_) | with_reducible refine mget_nil ?_) | ((conv => whnf); refine force_intro ?_))
      all_goals (conv => whnf)
      refine done_here ?_
      exact ret_of hQ (congrArg AV.bool (by rw [hb]; rfl))
  | els op k v n ks =>
    have hh : ∀ Q : AEnd → AHeap → Prop, Q (.ret (.bool (Cnd.holdsC o.tagl (.els op k v n ks)))) h → S Tryz.prog (Stays LibV) 48 [.agg (Cnd.cl (.els op k v n ks)), .agg [.str o.name, .int .i64 o.kind, .int .i64 o.x, .int .i64 o.y, strsA o.refs, tagsA o.tags]] h Q := fun Q hq => by rw [← hob]; exact holds_S (Cnd.cnt (.els op k v n ks)) (.els op k v n ks) o h Q (Nat.le_refl _) (by omega) ht hv hq
    cases hb : Cnd.validC (.els op k v n ks) with
    | true =>
      repeat' (first | ((conv => whnf); first | (with_reducible first | refine eops_one ?_ | refine eops_nil ?_ | refine ewp_seq ?_ | refine ewp_region ?_) | ((with_reducible refine And.intro ?_ ?_); · (first | rfl | assumption | omega | (simp; omega) | (simp [AV.cells]; done))) | (with_reducible first | refine b_T ?_ | refine b_F ?_ | refine b_true (by assumption) ?_ | refine b_false (by assumption) ?_) | ((with_reducible refine b_true ?_ ?_); (· (decide))) | ((with_reducible refine b_false ?_ ?_); (· (decide))) | (with_reducible refine b_dec ?_ ?_ <;> intro hc hcb) | (with_reducible refine b_eq ?_ ?_ <;> intro hc hcb) | (with_reducible refine b_ne ?_ ?_ <;> intro hc hcb) | (with_reducible refine b_neq ?_ ?_ <;> intro hc hcb) | (with_reducible refine b_not ?_ ?_ <;> intro hc hcb) | (with_reducible refine b_intro ?_ ?_ <;> intro hcb) | (with_reducible first | refine ewp_cond ?_ | refine eops_if ?_ | refine ewp_block ?_ | refine ewp_exit ?_ | refine ewp_ret ?_ | refine ewp_skip ?_ | refine ewp_loop ?_ | refine hget_a0 ?_ | refine hget_b ?_ | refine hget_a ?_ | refine hput_a0 ?_ | refine hput_b ?_ | refine hput_a ?_ | refine hget_s0 ?_ | refine hget_s ?_ | refine hput_s0 ?_ | refine hput_s ?_ | refine halloc1 ?_ | refine halloc2 ?_ | refine halloc3 ?_ | refine halloc4 ?_ | refine halloc5 ?_ | refine halloc6 ?_ | refine halloc7 ?_ | refine halloc8 ?_ | refine halloc_b2 ?_ | refine halloc_b1 ?_ | refine halloc_s0 ?_ | refine halloc_h ?_ | refine ewp_range ?_ | refine ewp_draw ?_ | refine edraw_nil ?_ | refine edraw_if ?_ | refine mget_cons ?_) | with_reducible refine mget_nil ?_) | ((conv => whnf); refine valid_S (c := .els op k v n ks) hcn hsh ?_) | ((conv => whnf); refine force_intro ?_))
      all_goals (try rw [hb])
      repeat' (first | ((conv => whnf); first | (with_reducible first | refine eops_one ?_ | refine eops_nil ?_ | refine ewp_seq ?_ | refine ewp_region ?_) | ((with_reducible refine And.intro ?_ ?_); · (first | rfl | assumption | omega | (simp; omega) | (simp [AV.cells]; done))) | (with_reducible first | refine b_T ?_ | refine b_F ?_ | refine b_true (by assumption) ?_ | refine b_false (by assumption) ?_) | ((with_reducible refine b_true ?_ ?_); (· (decide))) | ((with_reducible refine b_false ?_ ?_); (· (decide))) | (with_reducible refine b_dec ?_ ?_ <;> intro hc hcb) | (with_reducible refine b_eq ?_ ?_ <;> intro hc hcb) | (with_reducible refine b_ne ?_ ?_ <;> intro hc hcb) | (with_reducible refine b_neq ?_ ?_ <;> intro hc hcb) | (with_reducible refine b_not ?_ ?_ <;> intro hc hcb) | (with_reducible refine b_intro ?_ ?_ <;> intro hcb) | (with_reducible first | refine ewp_cond ?_ | refine eops_if ?_ | refine ewp_block ?_ | refine ewp_exit ?_ | refine ewp_ret ?_ | refine ewp_skip ?_ | refine ewp_loop ?_ | refine hget_a0 ?_ | refine hget_b ?_ | refine hget_a ?_ | refine hput_a0 ?_ | refine hput_b ?_ | refine hput_a ?_ | refine hget_s0 ?_ | refine hget_s ?_ | refine hput_s0 ?_ | refine hput_s ?_ | refine halloc1 ?_ | refine halloc2 ?_ | refine halloc3 ?_ | refine halloc4 ?_ | refine halloc5 ?_ | refine halloc6 ?_ | refine halloc7 ?_ | refine halloc8 ?_ | refine halloc_b2 ?_ | refine halloc_b1 ?_ | refine halloc_s0 ?_ | refine halloc_h ?_ | refine ewp_range ?_ | refine ewp_draw ?_ | refine edraw_nil ?_ | refine edraw_if ?_ | refine mget_cons ?_) | with_reducible refine mget_nil ?_) | ((conv => whnf); refine force_intro ?_))
      all_goals (conv => whnf)
      refine hh _ ?_
      repeat' ((conv => whnf); first | (with_reducible first | refine eops_one ?_ | refine eops_nil ?_ | refine ewp_seq ?_ | refine ewp_region ?_) | ((with_reducible refine And.intro ?_ ?_); · (first | rfl | assumption | omega | (simp; omega) | (simp [AV.cells]; done))) | (with_reducible first | refine b_T ?_ | refine b_F ?_ | refine b_true (by assumption) ?_ | refine b_false (by assumption) ?_) | ((with_reducible refine b_true ?_ ?_); (· (decide))) | ((with_reducible refine b_false ?_ ?_); (· (decide))) | (with_reducible refine b_dec ?_ ?_ <;> intro hc hcb) | (with_reducible refine b_eq ?_ ?_ <;> intro hc hcb) | (with_reducible refine b_ne ?_ ?_ <;> intro hc hcb) | (with_reducible refine b_neq ?_ ?_ <;> intro hc hcb) | (with_reducible refine b_not ?_ ?_ <;> intro hc hcb) | (with_reducible refine b_intro ?_ ?_ <;> intro hcb) | (with_reducible first | refine ewp_cond ?_ | refine eops_if ?_ | refine ewp_block ?_ | refine ewp_exit ?_ | refine ewp_ret ?_ | refine ewp_skip ?_ | refine ewp_loop ?_ | refine hget_a0 ?_ | refine hget_b ?_ | refine hget_a ?_ | refine hput_a0 ?_ | refine hput_b ?_ | refine hput_a ?_ | refine hget_s0 ?_ | refine hget_s ?_ | refine hput_s0 ?_ | refine hput_s ?_ | refine halloc1 ?_ | refine halloc2 ?_ | refine halloc3 ?_ | refine halloc4 ?_ | refine halloc5 ?_ | refine halloc6 ?_ | refine halloc7 ?_ | refine halloc8 ?_ | refine halloc_b2 ?_ | refine halloc_b1 ?_ | refine halloc_s0 ?_ | refine halloc_h ?_ | refine ewp_range ?_ | refine ewp_draw ?_ | refine edraw_nil ?_ | refine edraw_if ?_ | refine mget_cons ?_) | with_reducible refine mget_nil ?_)
      all_goals (conv => whnf)
      refine done_here ?_
      exact ret_of hQ (congrArg AV.bool (by rw [hb]; rfl))
    | false =>
      repeat' (first | ((conv => whnf); first | (with_reducible first | refine eops_one ?_ | refine eops_nil ?_ | refine ewp_seq ?_ | refine ewp_region ?_) | ((with_reducible refine And.intro ?_ ?_); · (first | rfl | assumption | omega | (simp; omega) | (simp [AV.cells]; done))) | (with_reducible first | refine b_T ?_ | refine b_F ?_ | refine b_true (by assumption) ?_ | refine b_false (by assumption) ?_) | ((with_reducible refine b_true ?_ ?_); (· (decide))) | ((with_reducible refine b_false ?_ ?_); (· (decide))) | (with_reducible refine b_dec ?_ ?_ <;> intro hc hcb) | (with_reducible refine b_eq ?_ ?_ <;> intro hc hcb) | (with_reducible refine b_ne ?_ ?_ <;> intro hc hcb) | (with_reducible refine b_neq ?_ ?_ <;> intro hc hcb) | (with_reducible refine b_not ?_ ?_ <;> intro hc hcb) | (with_reducible refine b_intro ?_ ?_ <;> intro hcb) | (with_reducible first | refine ewp_cond ?_ | refine eops_if ?_ | refine ewp_block ?_ | refine ewp_exit ?_ | refine ewp_ret ?_ | refine ewp_skip ?_ | refine ewp_loop ?_ | refine hget_a0 ?_ | refine hget_b ?_ | refine hget_a ?_ | refine hput_a0 ?_ | refine hput_b ?_ | refine hput_a ?_ | refine hget_s0 ?_ | refine hget_s ?_ | refine hput_s0 ?_ | refine hput_s ?_ | refine halloc1 ?_ | refine halloc2 ?_ | refine halloc3 ?_ | refine halloc4 ?_ | refine halloc5 ?_ | refine halloc6 ?_ | refine halloc7 ?_ | refine halloc8 ?_ | refine halloc_b2 ?_ | refine halloc_b1 ?_ | refine halloc_s0 ?_ | refine halloc_h ?_ | refine ewp_range ?_ | refine ewp_draw ?_ | refine edraw_nil ?_ | refine edraw_if ?_ | refine mget_cons ?_) | with_reducible refine mget_nil ?_) | ((conv => whnf); refine valid_S (c := .els op k v n ks) hcn hsh ?_) | ((conv => whnf); refine force_intro ?_))
      all_goals (try rw [hb])
      repeat' (first | ((conv => whnf); first | (with_reducible first | refine eops_one ?_ | refine eops_nil ?_ | refine ewp_seq ?_ | refine ewp_region ?_) | ((with_reducible refine And.intro ?_ ?_); · (first | rfl | assumption | omega | (simp; omega) | (simp [AV.cells]; done))) | (with_reducible first | refine b_T ?_ | refine b_F ?_ | refine b_true (by assumption) ?_ | refine b_false (by assumption) ?_) | ((with_reducible refine b_true ?_ ?_); (· (decide))) | ((with_reducible refine b_false ?_ ?_); (· (decide))) | (with_reducible refine b_dec ?_ ?_ <;> intro hc hcb) | (with_reducible refine b_eq ?_ ?_ <;> intro hc hcb) | (with_reducible refine b_ne ?_ ?_ <;> intro hc hcb) | (with_reducible refine b_neq ?_ ?_ <;> intro hc hcb) | (with_reducible refine b_not ?_ ?_ <;> intro hc hcb) | (with_reducible refine b_intro ?_ ?_ <;> intro hcb) | (with_reducible first | refine ewp_cond ?_ | refine eops_if ?_ | refine ewp_block ?_ | refine ewp_exit ?_ | refine ewp_ret ?_ | refine ewp_skip ?_ | refine ewp_loop ?_ | refine hget_a0 ?_ | refine hget_b ?_ | refine hget_a ?_ | refine hput_a0 ?_ | refine hput_b ?_ | refine hput_a ?_ | refine hget_s0 ?_ | refine hget_s ?_ | refine hput_s0 ?_ | refine hput_s ?_ | refine halloc1 ?_ | refine halloc2 ?_ | refine halloc3 ?_ | refine halloc4 ?_ | refine halloc5 ?_ | refine halloc6 ?_ | refine halloc7 ?_ | refine halloc8 ?_ | refine halloc_b2 ?_ | refine halloc_b1 ?_ | refine halloc_s0 ?_ | refine halloc_h ?_ | refine ewp_range ?_ | refine ewp_draw ?_ | refine edraw_nil ?_ | refine edraw_if ?_ | refine mget_cons ?_) | with_reducible refine mget_nil ?_) | ((conv => whnf); refine force_intro ?_))
      all_goals (conv => whnf)
      refine done_here ?_
      exact ret_of hQ (congrArg AV.bool (by rw [hb]; rfl))
end Go.QZ
end
section
namespace Go.Abs
open Go.ChangeShapes Go.WideShapes Go.ChangeAt Go.RowKit Go.Deep
def gI (w : World) : Gh := { loc := fun _ => 0, esz := fun _ => 0, cpn := fun _ => 0, imm := fun b o => ∃ v, w.cell? ⟨b, o, none⟩ = some v, base := w.heap.size, w0 := w, dfr := fun _ => False }
theorem relI {Φ : World → Prop} {w : World} (h : Φ w) : Rel Φ (gI w) [] w :=
  ⟨fun r b hr => by simp at hr, fun r s b c hr => by simp at hr, fun b o hi => hi, Below.refl _ _, Nat.le_refl _, ⟨h, Nat.le_refl _⟩, fun b hb => hb.elim⟩
theorem S.callsI {P : Program} {Φ : World → Prop} {f : FuncId} {args : List AV} {v : AV} {w : World} {vs : List Value} (hs : S P Φ f args [] fun r _ => r = .ret v) (hΦ : Φ w) (V : VRs (gI w) 0 w args vs) :
    Calls P f vs.toArray w fun e w' => ∃ u g n, e = .returned u ∧ VR g n w' v u ∧ Below w.heap.size w w' := by
  refine (hs.run (gI w) w vs (relI hΦ) V).mono ?_
  rintro e w' ⟨g1, h1, r, rfl, R1, E1, X1, _⟩
  have hb : Below w.heap.size w w' := by
    have := R1.below
    rw [X1.base, X1.w0] at this; exact this
  cases e with
  | returned u => exact ⟨u, g1, _, rfl, E1, hb⟩
  | panicked c => exact E1.elim
  | outgrown => exact E1.elim
section
variable {H : Type} {enc : TypeId × Value → H} {P : Program} {w : World} {base : Nat} {spare : Nat → Bool} {held : Bool}
def Wt (P : Program) (t : TypeId) (d : DataW H) : Prop := ∀ n ∈ d.weights P t, n ≤ reachBytes
theorem weights_all {e : TypeId} {d : DataW H} : ∀ {l : List (DataW H)}, d ∈ l → ∀ n ∈ d.weights P e, n ∈ DataW.weightsAll P e l
  | c :: r, h, n, hn => by
    simp only [DataW.weightsAll, List.mem_append]
    rcases List.mem_cons.1 h with rfl | h
    · exact .inl hn
    · exact .inr (weights_all h n hn)
theorem Wt.part {t : TypeId} {fs : Array Field} {ds : List (DataW H)} (ht : P.underlying t = some (.struct fs)) (h : Wt P t (.agg ds)) {i : Nat} {t' : TypeId} {d : DataW H} (hi : (fs.toList.map (·.type))[i]? = some t') (hd : ds[i]? = some d) : Wt P t' d := fun n hn => by
  refine h n ?_
  simp only [DataW.weights, ht]
  exact DataW.weights_mem_each hi hd n hn
theorem Wt.elem {t e : TypeId} {ds sp : List (DataW H)} (ht : P.underlying t = some (.slice e)) (h : Wt P t (.slice ds sp)) {d : DataW H} (hd : d ∈ ds) : Wt P e d := fun n hn => by
  refine h n ?_
  simp only [DataW.weights, ht, List.mem_cons, List.mem_append]
  exact .inr (.inl (weights_all hd n hn))
theorem Wt.row {t e : TypeId} {ds sp : List (DataW H)} (ht : P.underlying t = some (.slice e)) (h : Wt P t (.slice ds sp)) : ds.length * P.bytesOf e ≤ reachBytes := by
  have := h ((ds.length + sp.length) * P.bytesOf e) (by simp only [DataW.weights, ht, List.mem_cons]; exact .inl trivial)
  exact Nat.le_trans (Nat.mul_le_mul_right _ (by omega)) this
structure Rd (w : World) (xs : List AV) (cs : List Value) : Prop where
  vr : VRs (gI w) 0 w xs cs
  one : ∀ v ∈ cs, v.oneCell' = true
theorem Rd.nil : Rd w [] [] := ⟨VRs.nil, by simp⟩
theorem Rd.append {xs bs : List AV} {cs ds : List Value} (h : Rd w xs cs) (k : Rd w bs ds) : Rd w (xs ++ bs) (cs ++ ds) := by
  refine ⟨h.vr.append k.vr, fun v hv => ?_⟩
  rcases List.mem_append.1 hv with hv | hv
  · exact h.one v hv
  · exact k.one v hv
theorem Rd.len {xs : List AV} {cs : List Value} (h : Rd w xs cs) : xs.length = cs.length := h.vr.1
theorem rd_int {t : TypeId} {k : IntKind} {fuel : Nat} {cs : List Value} {x : DataW H × List MemPlace} (ht : P.underlying t = some (.int k)) (h : DataW.trod enc P w base spare held fuel t cs = some x) : ∃ n, Rd w [.int k n] cs ∧ (Lit.int k n).wf = true := by
  obtain ⟨n, rfl, _, hw⟩ := DataW.trod_int ht h
  exact ⟨n, ⟨VRs.cons (.int _ _) .nil, by simp [Value.oneCell']⟩, hw⟩
theorem rd_str {t : TypeId} {fuel : Nat} {cs : List Value} {x : DataW H × List MemPlace} (ht : P.underlying t = some .string) (h : DataW.trod enc P w base spare held fuel t cs = some x) (hw : Wt P t x.1) : ∃ l : List UInt8, Rd w [.str l] cs ∧ l.length ≤ reachBytes := by
  obtain ⟨s, rfl, rfl, hs⟩ := DataW.trod_string ht h
  refine ⟨s.data.toList, ⟨VRs.cons ?_ .nil, by simp [Value.oneCell']⟩, hw _ (by simp [DataW.weights])⟩
  have : s = ⟨s.data.toList.toArray⟩ := by obtain ⟨⟨l⟩⟩ := s; rfl
  rw [this]; exact .str _
theorem Rd.agg {xs : List AV} {cs : Array Value} (h : Rd w xs cs.toList) : VR (gI w) 0 w (.agg xs) (.agg cs) := by
  have := VR.agg (g := gI w) (n := 0) (w := w) xs cs.toList h.vr.1 h.vr.2 h.one
  simpa using this
theorem choose_list {α : Type} {p : Nat → α → Prop} : ∀ (n : Nat), (∀ i, i < n → ∃ a, p i a) → ∃ l : List α, l.length = n ∧ ∀ (i : Nat) (a : α), l[i]? = some a → p i a
  | 0, _ => ⟨[], rfl, fun i a h => by simp at h⟩
  | n + 1, h => by
    obtain ⟨l, hl, hp⟩ := choose_list n fun i hi => h i (by omega)
    obtain ⟨a, ha⟩ := h n (by omega)
    refine ⟨l ++ [a], by simp [hl], fun i x hx => ?_⟩
    by_cases hi : i < l.length
    · rw [List.getElem?_append_left hi] at hx; exact hp i x hx
    · rw [List.getElem?_append_right (by omega)] at hx
      have : i - l.length = 0 := by
        rcases Nat.eq_zero_or_pos (i - l.length) with h0 | h0
        · exact h0
        · rw [List.getElem?_eq_none (by simp; omega)] at hx; cases hx
      rw [this] at hx
      simp at hx
      subst hx
      have : i = n := by omega
      subst this; exact ha
theorem addr_add_none {b o j : Nat} : (⟨b, o, none⟩ : Addr).add j = ⟨b, o + j, none⟩ := by
  unfold Addr.add; split <;> simp_all
theorem rd_slice {α : Type} {cl : α → List AV} {ok : α → Prop} {mk : α → AV} (hmk : ∀ a, (mk a).cells = cl a) {t e : TypeId} {sz fuel : Nat} {cs : List Value} {x : DataW H × List MemPlace} (ht : P.underlying t = some (.slice e)) (hsz : P.cellsOf e = sz) (hpos : 0 < sz)
    (h : DataW.trod enc P w base spare held fuel t cs = some x) (hw : Wt P t x.1) (he : ∀ n cs x, n < fuel → DataW.trod enc P w base spare held n e cs = some x → Wt P e x.1 → ∃ a : α, ok a ∧ Rd w (cl a) cs) :
    Rd w [.nils] cs ∨ ∃ l : List α, (∀ a ∈ l, ok a) ∧ l.length * P.bytesOf e ≤ reachBytes ∧ Rd w [.lst sz (l.map mk)] cs := by
  rcases DataW.trod_slice ht h with ⟨rfl, _⟩ | ⟨a, len, cap, elems, rest, n, rfl, rfl, rfl, _, hl, hm, hlen, hel, _, _⟩
  · exact .inl ⟨VRs.cons .nils .nil, by simp [Value.oneCell']⟩
  · right
    subst hsz
    obtain ⟨l, hll, hp⟩ := choose_list (p := fun i (y : α) => ok y ∧ ∃ cs', w.cells? base (a.add (i * P.cellsOf e)) (P.cellsOf e) = some cs' ∧ Rd w (cl y) cs') len fun i hi => by
      have h1 := hel i hi
      rw [List.getElem?_eq_getElem (by omega)] at h1
      obtain ⟨cs', h2, h3⟩ := Option.bind_eq_some_iff.1 h1
      obtain ⟨y, hy, hr⟩ := he n cs' _ (by omega) h3 (hw.elem ht (List.mem_map.2 ⟨_, List.getElem_mem (by omega), rfl⟩))
      exact ⟨y, hy, cs', h2, hr⟩
    refine ⟨l, fun y hy => ?_, by have := hw.row ht; rw [List.length_map] at this; rw [hll, ← hlen]; exact this, ?_, by simp [Value.oneCell']⟩
    · obtain ⟨i, hi⟩ := mem_get hy
      exact (hp i y hi).1
    · refine VRs.cons ?_ .nil
      cases l with
      | nil =>
        simp only [List.length_nil] at hll
        subst hll
        exact .lst0 _ _ _
      | cons y0 l0 =>
        obtain ⟨_, cs0, hc0, hr0⟩ := hp 0 y0 rfl
        obtain ⟨_, hlc, hcell⟩ := World.cells?_some hc0
        have h00 := hcell 0 hpos
        have hspot : a.spot = none := by
          have e1 : (a.add (0 * P.cellsOf e)).add 0 = a := by simp [Addr.add]
          rw [e1] at h00
          have : ∃ v, cs0[0]? = some v := ⟨cs0[0]'(by omega), by simp⟩
          obtain ⟨v, hv⟩ := this
          rw [hv] at h00
          unfold World.cell? at h00
          split at h00
          · cases hs : a.spot with
            | none => rfl
            | some q => simp [hs] at h00
          · cases h00
        obtain ⟨b, off, sp⟩ := a
        simp only at hspot
        subst hspot
        have key : ∀ (i : Nat) (q : AV) (j : Nat) (c : AV), ((y0 :: l0).map mk)[i]? = some q → q.cells[j]? = some c → ∃ v, w.cell? ⟨b, off + i * P.cellsOf e + j, none⟩ = some v ∧ v.oneCell' = true ∧ VR (gI w) 0 w c v := by
          intro i q j c hq hc
          rw [List.getElem?_map] at hq
          obtain ⟨y, hy, rfl⟩ := Option.map_eq_some_iff.1 hq
          rw [hmk] at hc
          obtain ⟨_, cs', h2, h3⟩ := hp i y hy
          obtain ⟨_, hlc', hcell'⟩ := World.cells?_some h2
          have hj : j < P.cellsOf e := by rw [← hlc', ← h3.len]; exact (List.getElem?_eq_some_iff.1 hc).1
          obtain ⟨v, hv, hvr⟩ := h3.vr.get hc
          have := hcell' j hj
          rw [addr_add_none, addr_add_none, hv] at this
          exact ⟨v, this, h3.one v (List.mem_of_getElem? hv), hvr⟩
        have hl2 : ((y0 :: l0).map mk).length = len := by simpa using hll
        have := VR.lst (g := gI w) (n := 0) (w := w) (P.cellsOf e) ((y0 :: l0).map mk) b off cap (fun i j => (w.cell? ⟨b, off + i * P.cellsOf e + j, none⟩).getD undef) (by omega)
          (fun i q hq => by
            rw [List.getElem?_map] at hq
            obtain ⟨y, hy, rfl⟩ := Option.map_eq_some_iff.1 hq
            rw [hmk]
            obtain ⟨_, cs', h2, h3⟩ := hp i y hy
            rw [h3.len]; exact (World.cells?_some h2).2.1)
          (fun i q j c hq hc => by
            obtain ⟨v, h1, h2, _⟩ := key i q j c hq hc
            exact ⟨⟨v, h1⟩, by rw [h1]; rfl, by rw [h1]; exact h2⟩)
          (fun i q j c hq hc => by
            obtain ⟨v, h1, _, h3⟩ := key i q j c hq hc
            rw [h1]; exact h3)
        rw [hl2] at this
        exact this
end
theorem post_of_below {H : Type} {enc : TypeId × Value → H} {P : Program} {f : Func} {s : ChangeSpec} {apart fresh handsOn again : Bool} {W W' : World} {args : Array Value} {v : Value} {ds gs : List (DataW H)} {before pa pv : List MemPlace}
    (hW : DataW.Whole enc P f.params.toList s.vars apart W args.toList ds gs before)
    (hres : ∀ (b : Nat) (sp : Nat → Bool) (hd : Bool), DataW.TrodAll enc P W' b sp hd f.resultTypes.toList (v.resultList f.resultTypes.size) (s.fn H (ds ++ gs)).results [])
    (hargs : ∀ sp : Nat → Bool, (∀ p ∈ before, sp p.block = true) → DataW.TrodAll enc P W' 0 sp true f.params.toList args.toList (s.fn H (ds ++ gs)).args pa)
    (hvars : ∀ sp : Nat → Bool, (∀ p ∈ before, sp p.block = true) → DataW.TrodVars enc P W' sp s.vars (s.fn H (ds ++ gs)).vars pv)
    (hps : before = pa ++ pv) (hb : Below W.heap.size W W')
    (hok : ∀ (j : Nat) (t : TypeId) (r : Value), f.resultTypes[j]? = some t → (v.resultList f.resultTypes.size)[j]? = some r → Value.okWide P W' .any 0 t r) :
    s.post enc P f apart fresh handsOn again W args v W' := by
  have hlt : ∀ p ∈ before, p.block < W.heap.size := fun p hp => hW.lt p hp
  have hold : ∀ p ∈ before, (fun b => decide (b < W.heap.size)) p.block = true := fun p hp => by simpa using hlt p hp
  refine ⟨ds, gs, before, [], pa, pv, hW, hres _ _ _, hargs _ hold, hvars _ hold, World.keptBut_mono (fun p hp => ⟨hp, ?_⟩) (hb.frame (· ∈ before)), fun _ => ?_⟩
  · rw [hps, List.mem_append] at hp
    exact Or.inr hp
  · obtain ⟨_, _, _, _, _, hz, hn⟩ := hW
    refine ⟨hok, _, _, ([] ++ pa) ++ pv, ⟨[] ++ pa, pv, trodAll_append (hargs _ (fun _ _ => rfl)) (hres _ _ _), hvars _ (fun _ _ => rfl), rfl, ?_, ?_⟩, ?_⟩
    · intro b off hp
      have hin : MemPlace.cell b off ∈ before := by rw [hps]; simpa using hp
      rw [hb.frozen (hlt _ hin)]
      exact hz b off hin
    · intro ha
      have := hn ha
      rw [hps] at this
      simpa using this
    · intro p hp _
      rw [hps]
      simpa using hp
theorem trodAll_below {H : Type} {enc : TypeId × Value → H} {P : Program} {W W' : World} {base : Nat} {sp : Nat → Bool} {hd : Bool} (hb : Below W.heap.size W W') : ∀ {ts : List TypeId} {vs : List Value} {ds : List (DataW H)} {ps : List MemPlace},
    DataW.TrodAll enc P W base sp hd ts vs ds ps → DataW.TrodAll enc P W' base sp hd ts vs ds ps
  | [], [], [], _, h => h
  | _ :: _, _ :: _, _ :: _, _, ⟨p, q, ⟨n, hn⟩, h2, e⟩ => ⟨p, q, ⟨n, DataW.trod_carry n _ _ _ hn fun x hx => hb.same (DataW.trod_lt n _ _ _ hn x hx)⟩, trodAll_below hb h2, e⟩
theorem row_of_S {H : Type} {enc : TypeId × Value → H} {P : Program} {Φ : World → Prop} {fid : FuncId} {f : Func} {s : ChangeSpec} {apart fresh handsOn again : Bool} {tb : TypeId} (hlo : laidOutB P = true) (hmr : mapsRowed P = true)
    (hz : ∀ t e, t < P.types.size → P.underlying t = some (.slice e) → 0 < P.cellsOf e) (hT : ∀ t ∈ f.params.toList, t < P.types.size) (hvars : s.vars = []) (hres : f.resultTypes = #[tb]) (htb : P.underlying tb = some .bool)
    {W : World} {args : Array Value} {ds gs : List (DataW H)} {before : List MemPlace} (hW : DataW.Whole enc P f.params.toList s.vars apart W args.toList ds gs before)
    (hfn : s.fn H ds = { results := [.lit (.bool true)], args := ds }) {xs : List AV} (hS : S P Φ fid xs [] fun r _ => r = .ret (.bool true)) (hΦ : Φ W) (V : VRs (gI W) 0 W xs args.toList) :
    Calls P fid args W fun e W' => ∃ v, e = .returned v ∧ s.post enc P f apart fresh handsOn again W args v W' := by
  have hW' := hW
  obtain ⟨p, q, hA, hV, rfl, hfz, hnd⟩ := hW
  rw [hvars] at hV
  obtain ⟨rfl, rfl⟩ := trodVars_none hV
  have key := hS.callsI hΦ V
  rw [Array.toArray_toList] at key
  refine key.mono ?_
  rintro e W' ⟨u, g, n, rfl, hu, hb⟩
  have hu := hu.bool_inv
  subst hu
  have hds : s.fn H (ds ++ []) = { results := [.lit (.bool true)], args := ds } := by rw [List.append_nil]; exact hfn
  refine ⟨_, rfl, post_of_below (pa := p) (pv := []) hW' ?_ ?_ ?_ rfl hb ?_⟩
  · intro b sp hd
    rw [hds, hres]
    exact trodAll_cons_mk (shut_bool htb _) trodAll_mk0
  · intro sp hsp
    rw [hds]
    exact trodAll_below hb (hA.respare (kids_rows hlo hmr) (fun t e ht hte => hz t e ht hte) hT (fun x hx => hsp x (by simpa using hx)))
  · intro sp _
    rw [hds, hvars]; rfl
  · intro j t r hj hr
    rw [hres] at hj hr
    cases j with
    | zero =>
      simp at hj
      subst hj
      simp [Value.resultList] at hr
      subst hr
      exact okWide_bool_mk htb _
    | succ j => simp at hj
end Go.Abs
end
section
namespace Go.QZ
open Go Go.Abs Go.Proofs Go.RowKit Go.ChangeShapes Go.WideShapes Go.ChangeAt Go.Deep
set_option maxRecDepth 100000
section
variable {H : Type} {enc : TypeId × Value → H} {w : World} {base : Nat} {spare : Nat → Bool} {held : Bool}
theorem cells_str : (Tryz.prog).cellsOf 9 = 1 := by kernel_rfl
theorem bytes_str : (Tryz.prog).bytesOf 9 = 16 := by kernel_rfl
theorem cells_int : (Tryz.prog).cellsOf 3 = 1 := by kernel_rfl
theorem cells_cond : (Tryz.prog).cellsOf 24 = 5 := by kernel_rfl
theorem cells_conds : (Tryz.prog).cellsOf 22 = 1 := by kernel_rfl
theorem cells_tag : (Tryz.prog).cellsOf 58 = 2 := by kernel_rfl
theorem cells_tags : (Tryz.prog).cellsOf 48 = 1 := by kernel_rfl
theorem cells_strs : (Tryz.prog).cellsOf 47 = 1 := by kernel_rfl
theorem cells_point : (Tryz.prog).cellsOf 26 = 2 := by kernel_rfl
theorem cells_obj : (Tryz.prog).cellsOf 50 = 6 := by kernel_rfl
theorem fld {t0 : TypeId} {fs : Array Field} {n : Nat} {cs : List Value} {x : DataW H × List MemPlace} {xs : List (DataW H × List MemPlace)} (ht : (Tryz.prog).underlying t0 = some (.struct fs)) (hx : x = (.agg (xs.map (·.1)), xs.flatMap (·.2))) (hw : Wt Tryz.prog t0 x.1) (hl : xs.length = fs.size) (hf : ∀ (i : Nat) (f : Field), fs[i]? = some f → DataW.trod enc Tryz.prog w base spare held n f.type ((cs.drop f.offset).take ((Tryz.prog).cellsOf f.type)) = xs[i]?)
    (i t o k : Nat) (h : (fs[i]?).map (fun f => (f.type, f.offset)) = some (t, o)) (hk : (Tryz.prog).cellsOf t = k) : ∃ x, DataW.trod enc Tryz.prog w base spare held n t ((cs.drop o).take k) = some x ∧ Wt Tryz.prog t x.1 := by
  obtain ⟨f, hf1, hf2⟩ := Option.map_eq_some_iff.1 h
  simp only [Prod.mk.injEq] at hf2
  obtain ⟨rfl, rfl⟩ := hf2
  subst hk
  subst hx
  have hi : i < fs.size := (Array.getElem?_eq_some_iff.1 hf1).1
  have hxi : xs[i]? = some (xs[i]'(by omega)) := List.getElem?_eq_getElem (by omega)
  refine ⟨xs[i]'(by omega), by rw [hf i f hf1]; exact hxi, ?_⟩
  refine hw.part ht (i := i) ?_ (by rw [List.getElem?_map, hxi]; rfl)
  rw [List.getElem?_map, Array.getElem?_toList, hf1]; rfl
theorem rd_cond : ∀ (fuel : Nat) (cs : List Value) (x : DataW H × List MemPlace), DataW.trod enc Tryz.prog w base spare held fuel 24 cs = some x → Wt Tryz.prog 24 x.1 → ∃ c : Cnd, True ∧ Rd w c.cl cs
  | 0, cs, x, h, hw => by simp [DataW.trod] at h
  | fuel + 1, cs, x, h, hw => by
    obtain ⟨xs, n, hn, hx, hlen, hxl, hf⟩ := DataW.trod_struct Tryz.underlying24 h
    have hn : fuel = n := by omega
    subst hn
    rw [cells_cond] at hlen
    obtain ⟨x0, h0, w0⟩ := fld Tryz.underlying24 hx hw hxl hf 0 3 0 1 rfl cells_int
    obtain ⟨x1, h1, w1⟩ := fld Tryz.underlying24 hx hw hxl hf 1 9 1 1 rfl cells_str
    obtain ⟨x2, h2, w2⟩ := fld Tryz.underlying24 hx hw hxl hf 2 9 2 1 rfl cells_str
    obtain ⟨x3, h3, w3⟩ := fld Tryz.underlying24 hx hw hxl hf 3 3 3 1 rfl cells_int
    obtain ⟨x4, h4, w4⟩ := fld Tryz.underlying24 hx hw hxl hf 4 22 4 1 rfl cells_conds
    match cs, hlen with
    | [c0, c1, c2, c3, c4], _ =>
      obtain ⟨op, r0, _⟩ := rd_int Tryz.underlying3 h0
      obtain ⟨k, r1, _⟩ := rd_str Tryz.underlying9 h1 w1
      obtain ⟨v, r2, _⟩ := rd_str Tryz.underlying9 h2 w2
      obtain ⟨m, r3, _⟩ := rd_int Tryz.underlying3 h3
      rcases rd_slice (cl := fun c : Cnd => c.cl) (ok := fun _ => True) (mk := fun c => AV.agg c.cl) (fun _ => rfl) Tryz.underlying22 cells_cond (by decide) h4 w4 (fun n' cs' x' hn' ht' hw' => rd_cond n' cs' x' ht' hw') with r4 | ⟨l, _, _, r4⟩
      · exact ⟨.nilk op k v m, trivial, by have := ((((r0.append r1).append r2).append r3).append r4); rw [Cnd.cl]; exact this⟩
      · exact ⟨.els op k v m l, trivial, by have := ((((r0.append r1).append r2).append r3).append r4); rw [Cnd.cl, Cnd.cls_eq]; exact this⟩
def Ob.okO (o : Ob) : Prop := (∀ t ∈ o.tagl, t.1.length ≤ reachBytes ∧ t.2.length ≤ reachBytes) ∧ o.name.length ≤ reachBytes ∧ ∀ l, o.refs = some l → l.length ≤ reachBytes ∧ ∀ s ∈ l, s.length ≤ reachBytes
theorem rd_tag (fuel : Nat) (cs : List Value) (x : DataW H × List MemPlace) (h : DataW.trod enc Tryz.prog w base spare held fuel 58 cs = some x) (hw : Wt Tryz.prog 58 x.1) : ∃ t : List UInt8 × List UInt8, (t.1.length ≤ reachBytes ∧ t.2.length ≤ reachBytes) ∧ Rd w [.str t.1, .str t.2] cs := by
  obtain ⟨xs, n, _, hx, hlen, hxl, hf⟩ := DataW.trod_struct Tryz.underlying58 h
  rw [cells_tag] at hlen
  obtain ⟨x0, h0, w0⟩ := fld Tryz.underlying58 hx hw hxl hf 0 9 0 1 rfl cells_str
  obtain ⟨x1, h1, w1⟩ := fld Tryz.underlying58 hx hw hxl hf 1 9 1 1 rfl cells_str
  match cs, hlen with
  | [c0, c1], _ =>
    obtain ⟨k, r0, b0⟩ := rd_str Tryz.underlying9 h0 w0
    obtain ⟨v, r1, b1⟩ := rd_str Tryz.underlying9 h1 w1
    exact ⟨(k, v), ⟨b0, b1⟩, r0.append r1⟩
theorem rd_obj (fuel : Nat) (cs : List Value) (x : DataW H × List MemPlace) (h : DataW.trod enc Tryz.prog w base spare held fuel 50 cs = some x) (hw : Wt Tryz.prog 50 x.1) : ∃ o : Ob, o.okO ∧ Rd w o.cl cs := by
  obtain ⟨xs, n, _, hx, hlen, hxl, hf⟩ := DataW.trod_struct Tryz.underlying50 h
  rw [cells_obj] at hlen
  obtain ⟨x0, h0, w0⟩ := fld Tryz.underlying50 hx hw hxl hf 0 9 0 1 rfl cells_str
  obtain ⟨x1, h1, w1⟩ := fld Tryz.underlying50 hx hw hxl hf 1 3 1 1 rfl cells_int
  obtain ⟨x2, h2, w2⟩ := fld Tryz.underlying50 hx hw hxl hf 2 26 2 2 rfl cells_point
  obtain ⟨x3, h3, w3⟩ := fld Tryz.underlying50 hx hw hxl hf 3 47 4 1 rfl cells_strs
  obtain ⟨x4, h4, w4⟩ := fld Tryz.underlying50 hx hw hxl hf 4 48 5 1 rfl cells_tags
  match cs, hlen with
  | [c0, c1, c2, c3, c4, c5], _ =>
    obtain ⟨nm, r0, bn⟩ := rd_str Tryz.underlying9 h0 w0
    obtain ⟨k, r1, _⟩ := rd_int Tryz.underlying3 h1
    obtain ⟨xs2, n2, _, hx2, _, hxl2, hf2⟩ := DataW.trod_struct Tryz.underlying26 h2
    obtain ⟨y0, g0, _⟩ := fld Tryz.underlying26 hx2 w2 hxl2 hf2 0 3 0 1 rfl cells_int
    obtain ⟨y1, g1, _⟩ := fld Tryz.underlying26 hx2 w2 hxl2 hf2 1 3 1 1 rfl cells_int
    obtain ⟨px, s0, _⟩ := rd_int Tryz.underlying3 g0
    obtain ⟨py, s1, _⟩ := rd_int Tryz.underlying3 g1
    have rfs : ∃ r : Option (List (List UInt8)), (∀ l, r = some l → l.length ≤ reachBytes ∧ ∀ s ∈ l, s.length ≤ reachBytes) ∧ Rd w [strsA r] [c4] := by
      rcases rd_slice (cl := fun s : List UInt8 => [AV.str s]) (ok := fun s => s.length ≤ reachBytes) (mk := fun s => AV.str s) (fun _ => rfl) Tryz.underlying47 cells_str (by decide) h3 w3 (fun n' cs' x' _ ht' hw' => by
        obtain ⟨l, r, hl⟩ := rd_str Tryz.underlying9 ht' hw'
        exact ⟨l, hl, r⟩) with r | ⟨l, hl, hr, r⟩
      · exact ⟨none, by simp, r⟩
      · refine ⟨some l, ?_, r⟩
        rintro _ ⟨⟩
        rw [bytes_str] at hr
        exact ⟨by omega, hl⟩
    have tgs : ∃ t : Option Tags, (∀ x ∈ t.getD [], x.1.length ≤ reachBytes ∧ x.2.length ≤ reachBytes) ∧ Rd w [tagsA t] [c5] := by
      rcases rd_slice (cl := fun t : List UInt8 × List UInt8 => [AV.str t.1, AV.str t.2]) (ok := fun t => t.1.length ≤ reachBytes ∧ t.2.length ≤ reachBytes) (mk := tagA) (fun _ => rfl) Tryz.underlying48 cells_tag (by decide) h4 w4 (fun n' cs' x' _ ht' hw' => rd_tag n' cs' x' ht' hw') with r | ⟨l, hl, _, r⟩
      · exact ⟨none, by simp, r⟩
      · exact ⟨some l, hl, r⟩
    obtain ⟨rf, hrf, r3⟩ := rfs
    obtain ⟨tg, ht, r4⟩ := tgs
    refine ⟨⟨nm, k, px, py, rf, tg⟩, ⟨ht, bn, hrf⟩, ?_⟩
    rw [Ob.cl_eq]
    exact (((((r0.append r1).append s0).append s1).append r3).append r4)
end
end Go.QZ
end
