import PyProof.Rows.All
import Wide.All
import OpenK.AllK
import Wide.FinOn
import Open.SpecLaws
import KE.OsGo
import HandS.Base
import HandS.Call
import HandS.List
import HandS.Comp
import HandS.Ends
import HandS.Spec
import HandS.Words
import HandS.WordsList
import HandS.Text
import PySem.Challenge.RW_studtube_s11_fits16
set_option Elab.async false
set_option linter.all false
open BrPart
namespace Br
/-! ## Sixteen rows -/
/-- turn16's mirror, row by row -/
def bitOf (l : List Nat) (x y : Nat) : Nat := (l.getD x 0 / 2 ^ (15 - y) % 2) * 2 ^ x
def turnM (l : List Nat) : List Nat := (List.range 16).map fun y => ((List.range 16).map fun x => bitOf l x y).sum
theorem turnM_is (l : List Nat) : turnRows l = turnM l := by
  unfold turnRows turnM
  refine List.map_congr_left fun y _ => congrArg List.sum (List.map_congr_left fun x _ => ?_)
  unfold bitOf
  rw [Nat.testBit_eq_decide_div_mod_eq]
  by_cases h : l.getD x 0 / 2 ^ (15 - y) % 2 = 1
  · rw [if_pos (decide_eq_true h), h, Nat.one_mul]
  · rw [if_neg (by simpa using h)]
    have e : l.getD x 0 / 2 ^ (15 - y) % 2 = 0 := by omega
    rw [e, Nat.zero_mul]
/-- ones_in's mirror -/
def onesM (n : Nat) : Nat := ((List.range 16).filter fun x => n / 2 ^ x % 2 == 1).length
def fitsM (s t : List Nat) (a b : Nat) : Nat := ((List.range (16 - b)).map fun y => onesM (s.getD y 0 &&& (t.getD (y + b) 0 / 2 ^ a))).sum
theorem sum_range_cut (f : Nat → Nat) (b : Nat) (hb : b ≤ 16) (h : ∀ y, 16 - b ≤ y → f y = 0) : ((List.range 16).map f).sum = ((List.range (16 - b)).map f).sum := by
  have e : List.range 16 = List.range (16 - b) ++ (List.range b).map fun i => (16 - b) + i := by
    have q := List.range_add (n := 16 - b) (m := b)
    rw [show 16 - b + b = 16 by omega] at q
    exact q
  rw [e, List.map_append, List.sum_append]
  have z : ((List.map (fun i => 16 - b + i) (List.range b)).map f).sum = 0 := by
    rw [List.map_map]
    have k : ∀ l : List Nat, (l.map (f ∘ fun i => 16 - b + i)).sum = 0 := by
      intro l
      induction l with
      | nil => rfl
      | cons i r ih =>
        rw [List.map_cons, List.sum_cons, ih]
        show f (16 - b + i) + 0 = 0
        rw [h _ (by omega)]
    exact k _
  rw [z, Nat.add_zero]
theorem fitsM_is (s t : List Nat) (dx dy : Nat) (ht : ∀ n ∈ t, n < 65536) : fits s t dx dy = fitsM s t (dx % 16) (dy % 16) := by
  have hb : dy % 16 < 16 := Nat.mod_lt _ (by decide)
  have ha : dx % 16 < 16 := Nat.mod_lt _ (by decide)
  unfold fits fitsM
  rw [sum_range_cut _ (dy % 16) (by omega) (fun y hy => ?_)]
  · refine congrArg List.sum (List.map_congr_left fun y hy => ?_)
    have hy' : y < 16 - dy % 16 := List.mem_range.mp hy
    unfold onesM
    congr 1
    refine List.filter_congr fun x hx => ?_
    have hx' : x < 16 := List.mem_range.mp hx
    rw [decide_eq_true (show y + dy % 16 < 16 by omega), Bool.true_and]
    have e1 : ((s.getD y 0 &&& t.getD (y + dy % 16) 0 / 2 ^ (dx % 16)) / 2 ^ x % 2 == 1) = (s.getD y 0 &&& t.getD (y + dy % 16) 0 / 2 ^ (dx % 16)).testBit x := by
      rw [Nat.testBit_eq_decide_div_mod_eq]
      rfl
    rw [e1, Nat.testBit_and, Nat.testBit_div_two_pow]
    congr 1
    by_cases q : x + dx % 16 < 16
    · rw [decide_eq_true q, Bool.true_and]
    · rw [decide_eq_false q, Bool.false_and]
      symm
      have lt : t.getD (y + dy % 16) 0 < 2 ^ (x + dx % 16) := by
        have l16 : t.getD (y + dy % 16) 0 < 65536 := by
          rw [List.getD_eq_getElem?_getD]
          cases c : t[y + dy % 16]? with
          | none => exact (by decide : 0 < 65536)
          | some n => exact ht n (List.mem_of_getElem? c)
        have p : 2 ^ 16 ≤ 2 ^ (x + dx % 16) := Nat.pow_le_pow_right (by decide) (by omega)
        exact Nat.lt_of_lt_of_le l16 p
      exact Nat.testBit_lt_two_pow lt
  · have n : ¬ y + dy % 16 < 16 := by omega
    have e : ((List.range 16).filter fun (x : Nat) => (s.getD y 0).testBit x && (decide (x + dx % 16 < 16) && (decide (y + dy % 16 < 16) && (t.getD (y + dy % 16) 0).testBit (x + dx % 16)))) = [] := by
      refine List.filter_eq_nil_iff.mpr fun x _ => ?_
      rw [decide_eq_false n]
      simp
    rw [e]
    rfl
end Br
set_option maxRecDepth 100000
set_option maxHeartbeats 4000000
namespace Br
open PySem PySem.Spec PyProof.Rows L2
/-- a module's number -/
theorem pe_num {X : Cx} {x : Str} {i : Int} {t : Tok} {pos : Pos} (m : X.mg x = some (.int i t)) (g : Gl X x := by rfl) (d : (x == ("__debug__" : Str)) = false := by decide) : PE X (.Name x pos) (tC (.int i)) := pe_glob g m (show RelV (.int i) (.int i t) from ⟨t, rfl⟩) d
theorem same_new {H H1 : Hp} {p : Addr} {o : HO} (s : Same H H1) (n : H p = none) : Same H (upd H1 p o) := fun b u e => by
  rw [upd_ne (ne_of_none e n)]
  exact s b u e
theorem map_at {α : Type} {f : α → V} {l : List α} {i : Nat} {x : V} (h : (l.map f)[i]? = some x) : ∃ z, l[i]? = some z ∧ x = f z := by
  rw [List.getElem?_map] at h
  cases e : l[i]? with
  | none =>
    rw [e] at h
    cases h
  | some z =>
    rw [e] at h
    exact ⟨z, rfl, (Option.some.inj h).symm⟩
theorem take_more {α : Type} : ∀ {l : List α} {i : Nat} {x : α}, l[i]? = some x → l.take (i + 1) = l.take i ++ [x]
  | [], i, x, h => by simp at h
  | a :: l, 0, x, h => by
    have e : a = x := Option.some.inj h
    subst e
    rfl
  | a :: l, i + 1, x, h => by
    have ih := take_more (l := l) (i := i) (x := x) h
    show a :: l.take (i + 1) = a :: l.take i ++ [x]
    rw [ih]
    rfl
theorem get_lt' {α : Type} {l : List α} {i : Nat} {x : α} (h : l[i]? = some x) : i < l.length := (List.getElem?_eq_some_iff.mp h).1
/-- a comprehension without a test -/
theorem yesT {σ : L2.St} {H : Hp} {A : TE} {k : VK} {N : Hp → Prop} (h : A σ H k) : tYes σ H (fun b H3 => if b = true then A σ H3 k else N H3) := by
  show if true = true then A σ H k else N H
  exact iteT h
theorem small {n : Nat} (h : n ≤ 1000) : n ≤ sizeLine := Nat.le_of_lt (small1000 h)
theorem range_more {α : Type} (f : Nat → α) (n : Nat) : (List.range (n + 1)).map f = (List.range n).map f ++ [f n] := by rw [List.range_succ, List.map_append]; rfl
theorem all_of {α : Type} {f g : α → Bool} : ∀ {l : List α}, (∀ a ∈ l, f a = g a) → l.all f = l.all g
  | [], _ => rfl
  | a :: r, h => by rw [List.all_cons, List.all_cons, h a List.mem_cons_self, all_of fun b m => h b (List.mem_cons_of_mem _ m)]
theorem sqT_written {K : PySem.W.Frag} {H : Hp} {a : Addr} {td : Option Addr} {its : Array Value} {tn : Nat} {ts : Array (Option Value)} {xs : List V} (h : K.lookup a = some ⟨.type "tuple", td, .seq its tn, ts⟩) (z : its.size ≤ 1000) (r : Vals xs its.toList) : SqT K H a xs :=
  .inr ⟨_, its, tn, h, rfl, rfl, small z, r⟩
/-- an error of the class at S is what «except S» names -/
theorem exm_self {K : PySem.W.Frag} {S : Addr} (h1 : PySem.W.subIn K (.ref S) (.type "BaseException") = some true) (h2 : PySem.W.isClsIn K S = true) (h3 : PySem.W.typeIn K (.ref S) = some (.type "type")) (h4 : PySem.W.subIn K (.ref S) (.ref S) = some true) :
    PySem.W.exmOne K (.ref S) (.ref S) = some true := by
  have e1 : (PySem.W.subIn K (.ref S) (.type "BaseException") == some true) = true := by rw [h1] <;> rfl
  have e2 : ((PySem.W.clsIn K S).isSome && PySem.W.typeIn K (.ref S) == some (.type "type")) = true := by
    have h2' : (PySem.W.clsIn K S).isSome = true := h2
    rw [h2', h3] <;> rfl
  show (if (PySem.W.subIn K (.ref S) (.type "BaseException") == some true) = true then (if ((PySem.W.clsIn K S).isSome && PySem.W.typeIn K (.ref S) == some (.type "type")) = true then PySem.W.subIn K (.ref S) (.ref S) else none) else none) = some true
  rw [if_pos e1, if_pos e2]
  exact h4
end Br

/-! ## The program of this law: places, facts -/
namespace Br
open PySem PySem.Spec PyProof.Rows L2
def top (i : Nat) : Stmt := PySem.Challenge.pw_studtube_s11_fits16.main.body.getD i (.Pass ⟨0, 0, 0, 0⟩)
abbrev s_are_rows : Stmt := top 4
abbrev s_ones_in : Stmt := top 5
abbrev s_fits16 : Stmt := top 6
theorem sc_are_rows : FnScope ["some", "row"] ["some"] (defScope s_are_rows) := ⟨rfl, rfl, rfl, by decide +kernel, rfl, by decide +kernel, by decide +kernel⟩
theorem sc_ones_in : FnScope ["row", "x"] ["row"] (defScope s_ones_in) := ⟨rfl, rfl, rfl, by decide +kernel, rfl, by decide +kernel, by decide +kernel⟩
theorem sc_fits16 : FnScope ["dx", "dy", "s", "t", "a", "b", "y"] ["dx", "dy", "s", "t"] (defScope s_fits16) := ⟨rfl, rfl, rfl, by decide +kernel, rfl, by decide +kernel, by decide +kernel⟩
structure Ad where
  are_rows : Addr
  ones_in : Addr
  fits16 : Addr
structure Fd where
  are_rows : FuncData
  ones_in : FuncData
  fits16 : FuncData
structure Facts (K : PySem.W.Frag) (mg : Str → Option Value) (d : Ad) (c : Fd) : Prop where
  F_are_rows : Fun K "are_rows" "are_rows" s_are_rows d.are_rows c.are_rows
  b_are_rows : Binds K c.are_rows ["some"] []
  g_are_rows : mg "are_rows" = some (.ref d.are_rows)
  F_ones_in : Fun K "ones_in" "ones_in" s_ones_in d.ones_in c.ones_in
  b_ones_in : Binds K c.ones_in ["row"] []
  g_ones_in : mg "ones_in" = some (.ref d.ones_in)
  F_fits16 : Fun K "fits16" "fits16" s_fits16 d.fits16 c.fits16
  b_fits16 : Binds K c.fits16 ["dx", "dy", "s", "t"] []
  g_fits16 : mg "fits16" = some (.ref d.fits16)
  c_ROWS : ∃ t, mg "ROWS" = some (.int (16) t)
  c_MOST_ROW : ∃ t, mg "MOST_ROW" = some (.int (65536) t)
  c_NOT_TOLD : ∃ t, mg "NOT_TOLD" = some (.int (-1) t)
  z_all : mg "all" = none
  z_len : mg "len" = none
  z_range : mg "range" = none
  z_sum : mg "sum" = none
end Br
namespace Br
open PySem PySem.Spec PyProof.Rows L2
section
variable {P : Program} {w : World} {K : PySem.W.Frag} {mg : Str → Option Value} {base : Heap} {d : Ad} {c : Fd}
def rowOk (n : Int) : Bool := decide (0 ≤ n) && decide (n < 65536)
def rowsOk (ns : List Int) : Bool := decide (ns.length = 16) && ns.all rowOk
def sp_are_rows (K : PySem.W.Frag) : Sp := fun vs H Q _ => ∃ (a : Addr) (ns : List Int), vs = [.ref a] ∧ SqL K H a (ns.map V.int) ∧ ns.length ≤ 1000 ∧ ∀ H', Same H H' → Q (.bl (rowsOk ns)) H'
theorem ok_are_rows (x : Facts K mg d c) : FnOk P w K mg base CX0 1 d.are_rows c.are_rows ["some"] (sp_are_rows K) := by
  obtain ⟨t1, m1⟩ := x.c_ROWS
  obtain ⟨t2, m2⟩ := x.c_MOST_ROW
  refine x.F_are_rows.ok sc_are_rows (fun vs H Q E h => ?_) (fun cdv A outer s H vs Q E hr h => ⟨_, pss_one (ps_ret (pe_and (pe_cmpR op_eq (pe_callB call_len_seq (by rfl) x.z_len (by decide +kernel) (pa_cons (pv 0) pa_nil)) (pe_num m1) (nomark _))
      (pe_one (pe_callB (cr_all rfl) (by rfl) x.z_all (by decide +kernel) (pa_cons (pe_lc (own := [("row", 1)]) (g := gName 1) (tt := tYes) rfl sc_are_rows.nd (pi_list (pv 0)) (blkOk_by (own := [("row", 1)]) (N := ["some", "row"]) (sc := defScope s_are_rows) (by decide +kernel))
        (fun _ _ _ _ _ => pg_name (i := 1) sc_are_rows.nd rfl (Or.inl rfl)) (fun _ _ _ _ _ => pts_nil) (fun _ _ _ _ _ => pe_chain op_le op_lt pe_int (pv 1) (pe_num m2))) pa_nil))))), ?_⟩)
  · obtain ⟨a, ns, rfl, _⟩ := h
    rfl
  · obtain ⟨a, ns, rfl, hs, hl, k⟩ := h
    refine ⟨_, rfl, a, _, rfl, .inl hs, rfl, _, rfl, ?_⟩
    refine ite2 (fun c => ?_) (fun c => ?_)
    · refine ⟨_, rfl, a, rfl, ⟨_, hs⟩, fun D nD => ?_⟩
      refine lc_list (K := K) (a := a) (xs := ns.map V.int) (fun i H' => Same H H' ∧ H' D = some (.lst ((ns.take i).map fun n => V.bl (rowOk n)))) ⟨same_new (Same.refl _) nD, upd_same⟩ (fun i H' _ p => p.1.seq hs) ?_ ?_
      · rintro i y H' hx ⟨sm, e⟩
        obtain ⟨n, hn, rfl⟩ := map_at hx
        have fin : ∃ acc, H' D = some (.lst acc) ∧ acc.length < sizeLine ∧ (Same H (upd H' D (.lst (acc ++ [V.bl (rowOk n)]))) ∧ (upd H' D (.lst (acc ++ [V.bl (rowOk n)]))) D = some (.lst ((ns.take (i + 1)).map fun n => V.bl (rowOk n)))) := by
          refine ⟨_, e, ?_, same_new sm nD, ?_⟩
          · have := get_lt' hn
            rw [List.length_map, List.length_take]
            exact small1000 (by omega)
          · rw [upd_same, take_more hn, List.map_append]
            rfl
        refine ⟨rfl, yesT ⟨_, rfl, _, _, rfl, rfl, _, rfl, ite2 (fun c1 => ?_) (fun c1 => ?_)⟩⟩
        · refine ⟨_, _, rfl, rfl, ?_⟩
          have q : rowOk n = decide (n < 65536) := by
            unfold rowOk
            rw [c1]
            rfl
          rw [q] at fin
          exact fin
        · have q : rowOk n = false := by
            unfold rowOk
            have c2 : decide ((0 : Int) ≤ n) = false := by simpa using c1
            rw [c2]
            rfl
          rw [q] at fin
          exact fin
      · rintro H' ⟨sm, e⟩
        rw [List.length_map, List.take_length] at e
        refine ⟨D, ns.map rowOk, rfl, SqL.of (by rw [e, List.map_map]; rfl), ?_⟩
        have q : rowsOk ns = (ns.map rowOk).all id := by
          unfold rowsOk
          have c' : ns.length = 16 := by
            have c2 := of_decide_eq_true c
            injection c2 with c3
            rw [List.length_map] at c3
            omega
          rw [decide_eq_true c', List.all_map]
          rfl
        rw [← q]
        exact k _ sm
    · have q : rowsOk ns = false := by
        unfold rowsOk
        have c' : ¬ ns.length = 16 := fun z => c (decide_eq_true (by rw [List.length_map, z]; rfl))
        rw [decide_eq_false c']
        rfl
      rw [q] at k
      exact k _ (Same.refl _)
theorem sum_cast (f : Nat → Nat) : ∀ l : List Nat, (l.map fun x => (f x : Int)).sum = ((l.map f).sum : Nat)
  | [] => rfl
  | x :: r => by
    rw [List.map_cons, List.sum_cons, sum_cast f r, List.map_cons, List.sum_cons]
    omega
theorem rowsOk_len {ns : List Int} (h : rowsOk ns = true) : ns.length = 16 := by
  unfold rowsOk at h
  rw [Bool.and_eq_true] at h
  exact of_decide_eq_true h.1
theorem rowsOk_nat {ns : List Int} (h : rowsOk ns = true) : ∀ n ∈ ns, 0 ≤ n ∧ n < 65536 := fun n m => by
  unfold rowsOk at h
  rw [Bool.and_eq_true, List.all_eq_true] at h
  have q := h.2 n m
  unfold rowOk at q
  rw [Bool.and_eq_true, decide_eq_true_eq, decide_eq_true_eq] at q
  exact q
theorem sixteen_is {ns : List Int} (h0 : ∀ n ∈ ns, 0 ≤ n) : BrPartSpec.sixteen (ns.map Int.toNat) = rowsOk ns := by
  unfold BrPartSpec.sixteen rowsOk
  rw [List.length_map, List.all_map]
  congr 1
  refine all_of fun n m => ?_
  have := h0 n m
  show decide (n.toNat < 65536) = rowOk n
  unfold rowOk
  rw [decide_eq_true this, Bool.true_and]
  by_cases q : n < 65536
  · rw [decide_eq_true q, decide_eq_true (by omega)]
  · rw [decide_eq_false q, decide_eq_false (by omega)]

end
end Br
namespace Br
open PySem PySem.Spec PyProof.Rows L2
section
variable {P : Program} {w : World} {K : PySem.W.Frag} {mg : Str → Option Value} {base : Heap} {d : Ad} {c : Fd}
def sp_ones_in : Sp := fun vs H Q _ => ∃ n : Nat, vs = [.int n] ∧ ∀ H', Same H H' → Q (.int (onesM n : Nat)) H'
theorem filter_more {α : Type} (p : Nat → Bool) (f : Nat → α) (n : Nat) : ((List.range (n + 1)).filter p).map f = ((List.range n).filter p).map f ++ if p n = true then [f n] else [] := by
  rw [List.range_succ, List.filter_append, List.map_append]
  congr 1
  by_cases h : p n = true
  · rw [if_pos h, List.filter_cons, if_pos h]
    rfl
  · rw [if_neg h, List.filter_cons, if_neg h]
    rfl
theorem ok_ones_in (x : Facts K mg d c) : FnOk P w K mg base CX0 1 d.ones_in c.ones_in ["row"] sp_ones_in := by
  obtain ⟨t1, m1⟩ := x.c_ROWS
  refine x.F_ones_in.ok sc_ones_in (fun vs H Q E h => ?_) (fun cdv A outer s H vs Q E hr h => ⟨_, pss_one (ps_ret (pe_callB call_len_seq (by rfl) x.z_len (by decide +kernel) (pa_cons (pe_lc (own := [("x", 1)]) (g := gName 1) rfl sc_ones_in.nd (pi_range1 rfl x.z_range (pa_cons (pe_num m1) pa_nil))
      (blkOk_by (own := [("x", 1)]) (N := ["row", "x"]) (sc := defScope s_ones_in) (by decide +kernel)) (fun _ _ _ _ _ => pg_name (i := 1) sc_ones_in.nd rfl (Or.inl rfl))
      (fun _ _ _ _ _ => pts_one (pt_cmpR op_eq (pe_op op_and (pe_op op_shr (pv 0) (pv 1)) pe_int) pe_int (nomark _))) (fun _ _ _ _ _ => pv 1)) pa_nil))), ?_⟩)
  · obtain ⟨n, rfl, _⟩ := h
    rfl
  · obtain ⟨n, rfl, k⟩ := h
    refine ⟨16, rfl, by decide, by decide, fun D nD => ?_⟩
    refine lc_range (lo := 0) (n := 16) (fun j H' => Same H H' ∧ H' D = some (.lst (((List.range j).filter fun x => n / 2 ^ x % 2 == 1).map fun (x : Nat) => V.int (0 + (x : Int))))) ⟨same_new (Same.refl _) nD, upd_same⟩ ?_ ?_
    · rintro i H' hi ⟨sm, e⟩
      have hv : decide (V.int (Builtin.bitAnd ((n : Int) / 2 ^ ((0 : Int) + i).toNat) 1) = V.int 1) = (n / 2 ^ i % 2 == 1) := by
        have e0 : ((0 : Int) + i).toNat = i := by omega
        rw [e0, bitAnd_m1]
        have e1 : ((n : Int) / 2 ^ i % 2) = ((n / 2 ^ i % 2 : Nat) : Int) := by push_cast; rfl
        rw [e1]
        by_cases q : n / 2 ^ i % 2 = 1
        · rw [q]
          rfl
        · have q2 : n / 2 ^ i % 2 = 0 := by omega
          rw [q2]
          rfl
      refine ⟨rfl, _, rfl, _, rfl, _, _, rfl, rfl, by omega, _, _, rfl, rfl, rfl, _, rfl, ?_⟩
      rw [hv]
      have fm := filter_more (fun x => n / 2 ^ x % 2 == 1) (fun (x : Nat) => V.int (0 + (x : Int))) i
      refine ite2 (fun c => ?_) (fun c => ?_)
      · rw [if_pos c] at fm
        refine ⟨_, rfl, _, e, ?_, same_new sm nD, ?_⟩
        · rw [List.length_map]
          exact small1000 (Nat.le_trans (List.length_filter_le _ _) (by rw [List.length_range]; omega))
        · rw [upd_same, fm]
      · rw [if_neg c, List.append_nil] at fm
        exact ⟨sm, by rw [fm]; exact e⟩
    · rintro H' ⟨sm, e⟩
      refine ⟨D, _, rfl, .inl (SqL.of e), ?_⟩
      rw [List.length_map]
      exact k _ sm

end
end Br
namespace Br
open PySem PySem.Spec PyProof.Rows L2
section
variable {P : Program} {w : World} {K : PySem.W.Frag} {mg : Str → Option Value} {base : Heap} {d : Ad} {c : Fd}
def fitsA (dx dy : Nat) (ss tt : List Int) : List Int := if rowsOk ss = true ∧ rowsOk tt = true then [(fitsM (ss.map Int.toNat) (tt.map Int.toNat) (dx % 16) (dy % 16) : Nat)] else [-1]
def sp_fits16 (K : PySem.W.Frag) : Sp := fun vs H Q _ => ∃ (dx dy : Nat) (a b : Addr) (ss tt : List Int), vs = [.int dx, .int dy, .ref a, .ref b] ∧ SqL K H a (ss.map V.int) ∧ SqL K H b (tt.map V.int) ∧ ss.length ≤ 1000 ∧ tt.length ≤ 1000 ∧
  ∀ H' p, H' p = some (.lst ((fitsA dx dy ss tt).map V.int)) → Q (.ref p) H'
theorem nat_at {ns : List Int} (ok : ∀ n ∈ ns, 0 ≤ n ∧ n < 65536) {i : Nat} (h : i < ns.length) : (ns.map V.int)[i]? = some (.int ((ns.map Int.toNat).getD i 0 : Nat)) := by
  rw [List.getElem?_map, List.getElem?_eq_getElem h, List.getD_eq_getElem?_getD, List.getElem?_map, List.getElem?_eq_getElem h]
  have := (ok _ (List.getElem_mem h)).1
  show some (V.int ns[i]) = some (.int ((ns[i].toNat : Nat) : Int))
  rw [show ((ns[i].toNat : Nat) : Int) = ns[i] by omega]
theorem ok_fits16 (x : Facts K mg d c) : FnOk P w K mg base CX0 3 d.fits16 c.fits16 ["dx", "dy", "s", "t"] (sp_fits16 K) := by
  have GR : FnOk P w K mg base CX0 1 d.are_rows c.are_rows ["some"] (sp_are_rows K) := ok_are_rows x
  have GO : FnOk P w K mg base CX0 1 d.ones_in c.ones_in ["row"] sp_ones_in := ok_ones_in x
  obtain ⟨t1, m1⟩ := x.c_ROWS
  obtain ⟨t2, m2⟩ := x.c_NOT_TOLD
  refine x.F_fits16.ok sc_fits16 (fun vs H Q E h => ?_) (fun cdv A outer s H vs Q E hr h => ⟨_, pss_cons (ps_if (PW.pt (pw_or (pt_not (pt_val (pe_call GR (hr.mono (by decide)) rfl x.g_are_rows x.F_are_rows.kp x.b_are_rows .nil pass0 (pa_cons (pv 2) pa_nil))))
        (pw_or1 (pt_not (pt_val (pe_call GR (hr.mono (by decide)) rfl x.g_are_rows x.F_are_rows.kp x.b_are_rows .nil pass0 (pa_cons (pv 3) pa_nil))))))) (pss_one (ps_ret (pe_lst (pa_cons (pe_num m2) pa_nil)))) pss_nil)
    (pss_cons (ps_set (i := 4) sc_fits16.nd rfl (Or.inr rfl) (pe_op op_modN (pv 0) (pe_num m1)))
    (pss_cons (ps_set (i := 5) sc_fits16.nd rfl (Or.inr rfl) (pe_op op_modN (pv 1) (pe_num m1)))
    (pss_one (ps_ret (pe_lst (pa_cons (pe_callB (cr_sum rfl) (by rfl) x.z_sum (by decide +kernel) (pa_cons
      (pe_lc (own := [("y", 6)]) (g := gName 6) (tt := tYes) rfl sc_fits16.nd (pi_range1 rfl x.z_range (pa_cons (pe_op op_sub (pe_num m1) (pv 5)) pa_nil)) (blkOk_by (own := [("y", 6)]) (N := ["dx", "dy", "s", "t", "a", "b", "y"]) (sc := defScope s_fits16) (by decide +kernel))
        (fun _ _ _ _ _ => pg_name (i := 6) sc_fits16.nd rfl (Or.inl rfl)) (fun _ _ _ _ _ => pts_nil)
        (fun _ _ _ _ _ => pe_call GO (hr.mono (by decide)) rfl x.g_ones_in x.F_ones_in.kp x.b_ones_in .nil pass0 (pa_cons (pe_op op_and (pe_ix (r := rIxL K) ix_list (pv 2) (pv 6) (fun _ _ => rfl)) (pe_op op_shr (pe_ix (r := rIxL K) ix_list (pv 3) (pe_op op_add (pv 6) (pv 5)) (fun _ _ => rfl)) (pv 4))) pa_nil))) pa_nil)) pa_nil)))))), ?_⟩)
  · obtain ⟨dx, dy, a, b, ss, tt, rfl, _⟩ := h
    rfl
  · obtain ⟨dx, dy, a, b, ss, tt, rfl, hs, ht, ls, lt, k⟩ := h
    have no : ¬ (rowsOk ss = true ∧ rowsOk tt = true) → fitsA dx dy ss tt = [-1] := fun z => if_neg z
    refine ⟨_, rfl, a, ss, rfl, hs, ls, fun H1 s1 => ⟨_, rfl, ite2 (fun c => ?_) (fun c => ?_)⟩⟩
    · refine iteT ⟨by decide, fun p np => k _ p ?_⟩
      rw [upd_same, no (fun z => by rw [z.1] at c; cases c)]
      rfl
    · have c1 : rowsOk ss = true := by simpa using c
      refine ⟨_, rfl, b, tt, rfl, s1.seq ht, lt, fun H2 s2 => ⟨_, rfl, ite2 (fun c => ?_) (fun c => ?_)⟩⟩
      · refine ⟨by decide, fun p np => k _ p ?_⟩
        rw [upd_same, no (fun z => by rw [z.2] at c; cases c)]
        rfl
      · have c2 : rowsOk tt = true := by simpa using c
        have sm := s1.trans s2
        have oks := rowsOk_nat c1
        have okt := rowsOk_nat c2
        have lens := rowsOk_len c1
        have lent := rowsOk_len c2
        have ea : ((dx : Int).fmod 16) = ((dx % 16 : Nat) : Int) := by
          rw [Int.fmod_eq_emod_of_nonneg _ (by decide)]
          push_cast
          rfl
        have eb : ((dy : Int).fmod 16) = ((dy % 16 : Nat) : Int) := by
          rw [Int.fmod_eq_emod_of_nonneg _ (by decide)]
          push_cast
          rfl
        have hb : dy % 16 < 16 := Nat.mod_lt _ (by decide)
        refine ⟨_, rfl, _, _, rfl, rfl, (by show (16 : Int) ≠ 0; decide), _, rfl, _, _, rfl, rfl, (by show (16 : Int) ≠ 0; decide), ?_⟩
        simp only [ea, eb]
        refine ⟨_, rfl, _, _, rfl, rfl, 16 - ((dy % 16 : Nat) : Int), rfl, by omega, by omega, fun D nD => ?_⟩
        have en : (16 - ((dy % 16 : Nat) : Int)).toNat = 16 - dy % 16 := by omega
        rw [en]
        refine lc_range (lo := 0) (n := 16 - dy % 16) (fun j H' => Same H H' ∧ H' D = some (.lst ((List.range j).map fun y => V.int ((onesM ((ss.map Int.toNat).getD y 0 &&& ((tt.map Int.toNat).getD (y + dy % 16) 0 / 2 ^ (dx % 16))) : Nat) : Int))))
          ⟨same_new sm (sm.free nD), upd_same⟩ ?_ ?_
        · rintro i H' hi ⟨s3, e⟩
          have e0 : (0 : Int) + (i : Int) + ((dy % 16 : Nat) : Int) = ((i + dy % 16 : Nat) : Int) := by omega
          have ev : V.int (Builtin.bitAnd ((ss.map Int.toNat).getD i 0 : Nat) (((tt.map Int.toNat).getD (i + dy % 16) 0 : Nat) / 2 ^ ((dx % 16 : Nat) : Int).toNat)) = V.int (((ss.map Int.toNat).getD i 0 &&& ((tt.map Int.toNat).getD (i + dy % 16) 0 / 2 ^ (dx % 16)) : Nat) : Int) := by
            refine congrArg V.int ?_
            rw [Int.toNat_natCast]
            have e2 : ((((tt.map Int.toNat).getD (i + dy % 16) 0 : Nat) : Int) / 2 ^ (dx % 16)) = (((tt.map Int.toNat).getD (i + dy % 16) 0 / 2 ^ (dx % 16) : Nat) : Int) := by push_cast; rfl
            rw [e2, bitAnd_pp (Int.natCast_nonneg _) (Int.natCast_nonneg _)]
            rfl
          refine ⟨rfl, yesT ⟨_, rfl, _, rfl, a, _, _, _, rfl, rfl, s3.seq hs, at_of (j := i) (by omega) (nat_at oks (by omega)), _, rfl, _, rfl, _, rfl, _, _, rfl, rfl, b, _, _, _, rfl, rfl, s3.seq ht, at_of (j := i + dy % 16) e0 (nat_at okt (by omega)), _, rfl, _, _, rfl, rfl, by omega, _, _, rfl, rfl,
            _, congrArg (fun z => [z]) ev, fun H4 s4 => ⟨_, s4 _ _ e, ?_, same_new (s3.trans s4) (sm.free nD), ?_⟩⟩⟩
          · rw [List.length_map, List.length_range]
            exact small1000 (by omega)
          · rw [upd_same, range_more fun y => V.int ((onesM ((ss.map Int.toNat).getD y 0 &&& ((tt.map Int.toNat).getD (y + dy % 16) 0 / 2 ^ (dx % 16))) : Nat) : Int)]
        · rintro H' ⟨s3, e⟩
          refine ⟨D, (List.range (16 - dy % 16)).map fun y => ((onesM ((ss.map Int.toNat).getD y 0 &&& ((tt.map Int.toNat).getD (y + dy % 16) 0 / 2 ^ (dx % 16))) : Nat) : Int), rfl, SqL.of (by rw [e, List.map_map]; rfl), small (by show 1 ≤ 1000; decide), fun p np => k _ p ?_⟩
          rw [upd_same]
          have q : fitsA dx dy ss tt = [((fitsM (ss.map Int.toNat) (tt.map Int.toNat) (dx % 16) (dy % 16) : Nat) : Int)] := if_pos ⟨c1, c2⟩
          rw [q, sum_cast]
          rfl
theorem fits_law {dx dy : Int} {ss tt : List Int} (hs : ∀ n ∈ ss, 0 ≤ n) (ht : ∀ n ∈ tt, 0 ≤ n) : PyWqasbw.fits16 dx dy ss tt = fitsA dx.toNat dy.toNat ss tt := by
  show Neutral.shown (if BrPartSpec.sixteen (ss.map Int.toNat) = true ∧ BrPartSpec.sixteen (tt.map Int.toNat) = true then .nums [BrPart.fits (ss.map Int.toNat) (tt.map Int.toNat) dx.toNat dy.toNat] else BrPartSpec.no 1) = _
  rw [sixteen_is hs, sixteen_is ht]
  unfold fitsA
  by_cases c : rowsOk ss = true ∧ rowsOk tt = true
  · rw [if_pos c, if_pos c, fitsM_is _ _ _ _ (fun n m => ?_)]
    · rfl
    · obtain ⟨z, mz, e⟩ := List.mem_map.mp m
      have := rowsOk_nat c.2 z mz
      omega
  · rw [if_neg c, if_neg c]
    rfl

end
end Br
namespace Br
open PySem PySem.Spec PyProof.Rows L2
theorem all_mk {P : Program} {w : World} {K : PySem.W.Frag} {h : Heap} {mg : Str → Option Value} {fa : Addr} {f0 : Addr} {od0 an0 : Option Addr} {sl0 : Array (Option Value)} {oc0 kV0 dc0 pm0 cd0 ct0 : Value}
    {f1 : Addr} {od1 an1 : Option Addr} {sl1 : Array (Option Value)} {oc1 kV1 dc1 pm1 cd1 ct1 : Value}
    {f2 : Addr} {od2 an2 : Option Addr} {sl2 : Array (Option Value)} {oc2 kV2 dc2 pm2 cd2 ct2 : Value}
    {tROWS : Tok}
    {tMOST_ROW : Tok}
    {tNOT_TOLD : Tok}
    (X : K.In h) (G : h.Ns mainGlobals mg) (hfa : mg "fits16" = some (.ref fa))
    (a0 : PySem.W.nsIn K mainGlobals "are_rows" = some (some (.ref f0)))
    (l0 : K.lookup f0 = some ⟨oc0, od0, .func (PySem.W.fnOf "are_rows" "are_rows" (defArgs s_are_rows) (defBody s_are_rows) (defScope s_are_rows) .none kV0 dc0 pm0 an0 cd0 ct0), sl0⟩)
    (c0 : PySem.W.codeIn K cd0 "are_rows" = true)
    (k0 : PySem.W.keepIn K (.ref f0) = true)
    (a1 : PySem.W.nsIn K mainGlobals "ones_in" = some (some (.ref f1)))
    (l1 : K.lookup f1 = some ⟨oc1, od1, .func (PySem.W.fnOf "ones_in" "ones_in" (defArgs s_ones_in) (defBody s_ones_in) (defScope s_ones_in) .none kV1 dc1 pm1 an1 cd1 ct1), sl1⟩)
    (c1 : PySem.W.codeIn K cd1 "ones_in" = true)
    (k1 : PySem.W.keepIn K (.ref f1) = true)
    (a2 : PySem.W.nsIn K mainGlobals "fits16" = some (some (.ref f2)))
    (l2 : K.lookup f2 = some ⟨oc2, od2, .func (PySem.W.fnOf "fits16" "fits16" (defArgs s_fits16) (defBody s_fits16) (defScope s_fits16) .none kV2 dc2 pm2 an2 cd2 ct2), sl2⟩)
    (c2 : PySem.W.codeIn K cd2 "fits16" = true)
    (k2 : PySem.W.keepIn K (.ref f2) = true)
    (vROWS : PySem.W.nsIn K mainGlobals "ROWS" = some (some (.int (16) tROWS)))
    (vMOST_ROW : PySem.W.nsIn K mainGlobals "MOST_ROW" = some (some (.int (65536) tMOST_ROW)))
    (vNOT_TOLD : PySem.W.nsIn K mainGlobals "NOT_TOLD" = some (some (.int (-1) tNOT_TOLD)))
    (zall : PySem.W.nsIn K mainGlobals "all" = some none)
    (zlen : PySem.W.nsIn K mainGlobals "len" = some none)
    (zrange : PySem.W.nsIn K mainGlobals "range" = some none)
    (zsum : PySem.W.nsIn K mainGlobals "sum" = some none)
    : ∃ fd : FuncData, (∀ (s : Shared) (us : List Value), us.length = (["dx", "dy", "s", "t"] : List Str).length → BindsTo s fd ⟨us, []⟩ ((["dx", "dy", "s", "t"] : List Str).zip us)) ∧ ∀ base : Heap, K.In base → base.Ns mainGlobals mg → FnOk P w K mg base CX0 3 fa fd ["dx", "dy", "s", "t"] (sp_fits16 K) := by
  obtain rfl : f2 = fa := by
    have e := (PySem.W.mg_of X G a2).symm.trans hfa
    injection e with e
    injection e
  have x : Facts K mg ⟨f0, f1, f2⟩ ⟨PySem.W.fnOf "are_rows" "are_rows" (defArgs s_are_rows) (defBody s_are_rows) (defScope s_are_rows) .none kV0 dc0 pm0 an0 cd0 ct0, PySem.W.fnOf "ones_in" "ones_in" (defArgs s_ones_in) (defBody s_ones_in) (defScope s_ones_in) .none kV1 dc1 pm1 an1 cd1 ct1, PySem.W.fnOf "fits16" "fits16" (defArgs s_fits16) (defBody s_fits16) (defScope s_fits16) .none kV2 dc2 pm2 an2 cd2 ct2⟩ := {
    F_are_rows := fun_mk (st := s_are_rows) l0 c0 k0,
    b_are_rows := (fun_mk (st := s_are_rows) l0 c0 k0).binds (ps := ["some"]) fun _ _ _ _ _ _ us hl => match us, hl with | [_], _ => rfl,
    g_are_rows := PySem.W.mg_of X G a0,
    F_ones_in := fun_mk (st := s_ones_in) l1 c1 k1,
    b_ones_in := (fun_mk (st := s_ones_in) l1 c1 k1).binds (ps := ["row"]) fun _ _ _ _ _ _ us hl => match us, hl with | [_], _ => rfl,
    g_ones_in := PySem.W.mg_of X G a1,
    F_fits16 := fun_mk (st := s_fits16) l2 c2 k2,
    b_fits16 := (fun_mk (st := s_fits16) l2 c2 k2).binds (ps := ["dx", "dy", "s", "t"]) fun _ _ _ _ _ _ us hl => match us, hl with | [_, _, _, _], _ => rfl,
    g_fits16 := PySem.W.mg_of X G a2,
    c_ROWS := ⟨_, PySem.W.mg_of X G vROWS⟩,
    c_MOST_ROW := ⟨_, PySem.W.mg_of X G vMOST_ROW⟩,
    c_NOT_TOLD := ⟨_, PySem.W.mg_of X G vNOT_TOLD⟩,
    z_all := PySem.W.mg_none_of X G zall,
    z_len := PySem.W.mg_none_of X G zlen,
    z_range := PySem.W.mg_none_of X G zrange,
    z_sum := PySem.W.mg_none_of X G zsum }
  exact ⟨_, fun s us hu => match us, hu with | [_, _, _, _], _ => .of_eq rfl, fun base _ _ => ok_fits16 x⟩
end Br
open PySem PySem.W PyProof.Rows
set_option maxRecDepth 100000 in
set_option maxHeartbeats 0 in
theorem PySem.Challenge.cw_studtube_s11_fits16_holds : PySem.Challenge.rw_studtube_s11_fits16.Holds := by
  w_on; k_headS; (case hw => exact ⟨[.int 0, .int 0, .list [], .list []], by decide +kernel, by decide +kernel⟩)
  k_fillS
  refine L2.walk_specK (r := PySem.Challenge.rw_studtube_s11_fits16) (k := 3) (CX := L2.CX0) (ps := ["dx", "dy", "s", "t"]) (sp := Br.sp_fits16) (by decide +kernel) rfl rfl ⟨rfl, by decide, by decide⟩ (fun w h Y => PySem.W.kIn_of Y) ?F ?S (fun _ _ _ _ z => z)
  case F =>
    intro w mg fa h Y KX G hmg
    refine' Br.all_mk KX G hmg ?a0 ?l0 ?c0 ?k0 ?a1 ?l1 ?c1 ?k1 ?a2 ?l2 ?c2 ?k2 ?vROWS ?vMOST_ROW ?vNOT_TOLD ?zall ?zlen ?zrange ?zsum
    (case a0 => k_is)
    (case l0 => k_is)
    (case c0 => k_is)
    (case k0 => k_is)
    (case a1 => k_is)
    (case l1 => k_is)
    (case c1 => k_is)
    (case k1 => k_is)
    (case a2 => k_is)
    (case l2 => k_is)
    (case c2 => k_is)
    (case k2 => k_is)
    (case vROWS => k_is)
    (case vMOST_ROW => k_is)
    (case vNOT_TOLD => k_is)
    (case zall => k_is)
    (case zlen => k_is)
    (case zrange => k_is)
    (case zsum => k_is)
  case S =>
    intro K H xs a hO hwi hask hx
    obtain ⟨dx, dy, ss, tt, u⟩ := a
    cases hx with
    | cons h1 hx =>
    cases hx with
    | cons h2 hx =>
    cases hx with
    | cons h3 hx =>
    cases hx with
    | cons h4 hx =>
    cases hx
    cases h1
    cases h2
    cases h3 with
    | lst hs ha =>
    cases h4 with
    | lst ht hb =>
    have e := L2.ints_dw ss _ ha
    subst e
    have e := L2.ints_dw tt _ hb
    subst e
    have q : (Codec.inInt 0 18446744073709551615 dx && (Codec.inInt 0 18446744073709551615 dy && ((Codec.inLen 0 64 ss && ss.all (Codec.inInt 0 4294967295)) && ((Codec.inLen 0 64 tt && tt.all (Codec.inInt 0 4294967295)) && true)))) = true := hwi
    simp only [Bool.and_eq_true] at q
    obtain ⟨q1, q2, ⟨q3, q4⟩, ⟨q5, q6⟩, _⟩ := q
    have d0 := (Codec.inInt_iff.mp q1).1
    have d1 := (Codec.inInt_iff.mp q2).1
    have l3 := (Codec.inNat_iff.mp q3).2
    have l5 := (Codec.inNat_iff.mp q5).2
    have e1 : dx = ((Int.toNat dx : Nat) : Int) := (Int.toNat_of_nonneg d0).symm
    have e2 : dy = ((Int.toNat dy : Nat) : Int) := (Int.toNat_of_nonneg d1).symm
    refine ⟨Int.toNat dx, Int.toNat dy, _, _, ss, tt, by rw [← e1, ← e2], hs, ht, by omega, by omega, fun H' p hp => .lst (L2.SqL.of (hp.trans ?_)) (L2.dw_ints _)⟩
    have hs0 : ∀ n ∈ ss, 0 ≤ n := fun n m => (Codec.inInt_iff.mp (List.all_eq_true.mp q4 n m)).1
    have ht0 : ∀ n ∈ tt, 0 ≤ n := fun n m => (Codec.inInt_iff.mp (List.all_eq_true.mp q6 n m)).1
    rw [← Br.fits_law hs0 ht0]
    rfl
#print axioms PySem.Challenge.cw_studtube_s11_fits16_holds
