import PyProof.Rows.All
import Wide.All
import OpenK.AllK
import Wide.FinOn
import Open.SpecLaws
import KE.OsGo
import HandS.Base
import HandS.Call
import HandS.List
import HandS.Comp
import HandS.Ends
import HandS.Spec
import HandS.Words
import HandS.WordsList
import HandS.Text
import PySem.Challenge.RW_studtube_s10_turn16
set_option Elab.async false
set_option linter.all false
open BrPart
namespace Br
/-! ## Sixteen rows -/
/-- turn16's mirror, row by row -/
def bitOf (l : List Nat) (x y : Nat) : Nat := (l.getD x 0 / 2 ^ (15 - y) % 2) * 2 ^ x
def turnM (l : List Nat) : List Nat := (List.range 16).map fun y => ((List.range 16).map fun x => bitOf l x y).sum
theorem turnM_is (l : List Nat) : turnRows l = turnM l := by
  unfold turnRows turnM
  refine List.map_congr_left fun y _ => congrArg List.sum (List.map_congr_left fun x _ => ?_)
  unfold bitOf
  rw [Nat.testBit_eq_decide_div_mod_eq]
  by_cases h : l.getD x 0 / 2 ^ (15 - y) % 2 = 1
  · rw [if_pos (decide_eq_true h), h, Nat.one_mul]
  · rw [if_neg (by simpa using h)]
    have e : l.getD x 0 / 2 ^ (15 - y) % 2 = 0 := by omega
    rw [e, Nat.zero_mul]
/-- ones_in's mirror -/
def onesM (n : Nat) : Nat := ((List.range 16).filter fun x => n / 2 ^ x % 2 == 1).length
def fitsM (s t : List Nat) (a b : Nat) : Nat := ((List.range (16 - b)).map fun y => onesM (s.getD y 0 &&& (t.getD (y + b) 0 / 2 ^ a))).sum
theorem sum_range_cut (f : Nat → Nat) (b : Nat) (hb : b ≤ 16) (h : ∀ y, 16 - b ≤ y → f y = 0) : ((List.range 16).map f).sum = ((List.range (16 - b)).map f).sum := by
  have e : List.range 16 = List.range (16 - b) ++ (List.range b).map fun i => (16 - b) + i := by
    have q := List.range_add (n := 16 - b) (m := b)
    rw [show 16 - b + b = 16 by omega] at q
    exact q
  rw [e, List.map_append, List.sum_append]
  have z : ((List.map (fun i => 16 - b + i) (List.range b)).map f).sum = 0 := by
    rw [List.map_map]
    have k : ∀ l : List Nat, (l.map (f ∘ fun i => 16 - b + i)).sum = 0 := by
      intro l
      induction l with
      | nil => rfl
      | cons i r ih =>
        rw [List.map_cons, List.sum_cons, ih]
        show f (16 - b + i) + 0 = 0
        rw [h _ (by omega)]
    exact k _
  rw [z, Nat.add_zero]
theorem fitsM_is (s t : List Nat) (dx dy : Nat) (ht : ∀ n ∈ t, n < 65536) : fits s t dx dy = fitsM s t (dx % 16) (dy % 16) := by
  have hb : dy % 16 < 16 := Nat.mod_lt _ (by decide)
  have ha : dx % 16 < 16 := Nat.mod_lt _ (by decide)
  unfold fits fitsM
  rw [sum_range_cut _ (dy % 16) (by omega) (fun y hy => ?_)]
  · refine congrArg List.sum (List.map_congr_left fun y hy => ?_)
    have hy' : y < 16 - dy % 16 := List.mem_range.mp hy
    unfold onesM
    congr 1
    refine List.filter_congr fun x hx => ?_
    have hx' : x < 16 := List.mem_range.mp hx
    rw [decide_eq_true (show y + dy % 16 < 16 by omega), Bool.true_and]
    have e1 : ((s.getD y 0 &&& t.getD (y + dy % 16) 0 / 2 ^ (dx % 16)) / 2 ^ x % 2 == 1) = (s.getD y 0 &&& t.getD (y + dy % 16) 0 / 2 ^ (dx % 16)).testBit x := by
      rw [Nat.testBit_eq_decide_div_mod_eq]
      rfl
    rw [e1, Nat.testBit_and, Nat.testBit_div_two_pow]
    congr 1
    by_cases q : x + dx % 16 < 16
    · rw [decide_eq_true q, Bool.true_and]
    · rw [decide_eq_false q, Bool.false_and]
      symm
      have lt : t.getD (y + dy % 16) 0 < 2 ^ (x + dx % 16) := by
        have l16 : t.getD (y + dy % 16) 0 < 65536 := by
          rw [List.getD_eq_getElem?_getD]
          cases c : t[y + dy % 16]? with
          | none => exact (by decide : 0 < 65536)
          | some n => exact ht n (List.mem_of_getElem? c)
        have p : 2 ^ 16 ≤ 2 ^ (x + dx % 16) := Nat.pow_le_pow_right (by decide) (by omega)
        exact Nat.lt_of_lt_of_le l16 p
      exact Nat.testBit_lt_two_pow lt
  · have n : ¬ y + dy % 16 < 16 := by omega
    have e : ((List.range 16).filter fun (x : Nat) => (s.getD y 0).testBit x && (decide (x + dx % 16 < 16) && (decide (y + dy % 16 < 16) && (t.getD (y + dy % 16) 0).testBit (x + dx % 16)))) = [] := by
      refine List.filter_eq_nil_iff.mpr fun x _ => ?_
      rw [decide_eq_false n]
      simp
    rw [e]
    rfl
end Br
set_option maxRecDepth 100000
set_option maxHeartbeats 4000000
namespace Br
open PySem PySem.Spec PyProof.Rows L2
/-- a module's number -/
theorem pe_num {X : Cx} {x : Str} {i : Int} {t : Tok} {pos : Pos} (m : X.mg x = some (.int i t)) (g : Gl X x := by rfl) (d : (x == ("__debug__" : Str)) = false := by decide) : PE X (.Name x pos) (tC (.int i)) := pe_glob g m (show RelV (.int i) (.int i t) from ⟨t, rfl⟩) d
theorem same_new {H H1 : Hp} {p : Addr} {o : HO} (s : Same H H1) (n : H p = none) : Same H (upd H1 p o) := fun b u e => by
  rw [upd_ne (ne_of_none e n)]
  exact s b u e
theorem map_at {α : Type} {f : α → V} {l : List α} {i : Nat} {x : V} (h : (l.map f)[i]? = some x) : ∃ z, l[i]? = some z ∧ x = f z := by
  rw [List.getElem?_map] at h
  cases e : l[i]? with
  | none =>
    rw [e] at h
    cases h
  | some z =>
    rw [e] at h
    exact ⟨z, rfl, (Option.some.inj h).symm⟩
theorem take_more {α : Type} : ∀ {l : List α} {i : Nat} {x : α}, l[i]? = some x → l.take (i + 1) = l.take i ++ [x]
  | [], i, x, h => by simp at h
  | a :: l, 0, x, h => by
    have e : a = x := Option.some.inj h
    subst e
    rfl
  | a :: l, i + 1, x, h => by
    have ih := take_more (l := l) (i := i) (x := x) h
    show a :: l.take (i + 1) = a :: l.take i ++ [x]
    rw [ih]
    rfl
theorem get_lt' {α : Type} {l : List α} {i : Nat} {x : α} (h : l[i]? = some x) : i < l.length := (List.getElem?_eq_some_iff.mp h).1
/-- a comprehension without a test -/
theorem yesT {σ : L2.St} {H : Hp} {A : TE} {k : VK} {N : Hp → Prop} (h : A σ H k) : tYes σ H (fun b H3 => if b = true then A σ H3 k else N H3) := by
  show if true = true then A σ H k else N H
  exact iteT h
theorem small {n : Nat} (h : n ≤ 1000) : n ≤ sizeLine := Nat.le_of_lt (small1000 h)
def rowOk (n : Int) : Bool := decide (0 ≤ n) && decide (n < 65536)
def rowsOk (ns : List Int) : Bool := decide (ns.length = 16) && ns.all rowOk
def spRows (K : PySem.W.Frag) : Sp := fun vs H Q _ => ∃ (a : Addr) (ns : List Int), vs = [.ref a] ∧ SqL K H a (ns.map V.int) ∧ ns.length ≤ 1000 ∧ ∀ H', Same H H' → Q (.bl (rowsOk ns)) H'
structure TxtR (K : PySem.W.Frag) (mg : Str → Option Value) (fR : Addr) : Prop where
  rows : ∃ t, mg "ROWS" = some (.int 16 t)
  most : ∃ t, mg "MOST_ROW" = some (.int 65536 t)
  nott : ∃ t, mg "NOT_TOLD" = some (.int (-1) t)
  len : mg "len" = none
  all : mg "all" = none
  range : mg "range" = none
  sum : mg "sum" = none
  gR : mg "are_rows" = some (.ref fR)
  kR : PySem.W.keepIn K (.ref fR) = true
def top (i : Nat) : Stmt := PySem.Challenge.pw_studtube_s10_turn16.main.body.getD i (.Pass ⟨0, 0, 0, 0⟩)
abbrev sRows : Stmt := top 4
section
variable {P : Program} {w : World} {K : PySem.W.Frag} {mg : Str → Option Value} {base : Heap} {fR : Addr}
theorem scRows : FnScope ["some", "row"] ["some"] (defScope sRows) := ⟨rfl, rfl, rfl, by decide +kernel, rfl, by decide +kernel, by decide +kernel⟩
theorem ok_rows {f : Addr} {fd : FuncData} (F : Fun K "are_rows" "are_rows" sRows f fd) (T : TxtR K mg fR) : FnOk P w K mg base CX0 1 f fd ["some"] (spRows K) := by
  obtain ⟨t1, m1⟩ := T.rows
  obtain ⟨t2, m2⟩ := T.most
  refine F.ok scRows (fun vs H Q E h => ?_) (fun cdv A outer s H vs Q E hr h => ⟨_, pss_one (ps_ret (pe_and (pe_cmpR op_eq (pe_callB call_len_seq (by rfl) T.len (by decide +kernel) (pa_cons (pv 0) pa_nil)) (pe_num m1) (nomark _))
      (pe_one (pe_callB (cr_all rfl) (by rfl) T.all (by decide +kernel) (pa_cons (pe_lc (own := [("row", 1)]) (g := gName 1) (tt := tYes) rfl scRows.nd (pi_list (pv 0)) (blkOk_by (own := [("row", 1)]) (N := ["some", "row"]) (sc := defScope sRows) (by decide +kernel))
        (fun _ _ _ _ _ => pg_name (i := 1) scRows.nd rfl (Or.inl rfl)) (fun _ _ _ _ _ => pts_nil) (fun _ _ _ _ _ => pe_chain op_le op_lt pe_int (pv 1) (pe_num m2))) pa_nil))))), ?_⟩)
  · obtain ⟨a, ns, rfl, _⟩ := h
    rfl
  · obtain ⟨a, ns, rfl, hs, hl, k⟩ := h
    refine ⟨_, rfl, a, _, rfl, .inl hs, rfl, _, rfl, ?_⟩
    refine ite2 (fun c => ?_) (fun c => ?_)
    · refine ⟨_, rfl, a, rfl, ⟨_, hs⟩, fun D nD => ?_⟩
      refine lc_list (K := K) (a := a) (xs := ns.map V.int) (fun i H' => Same H H' ∧ H' D = some (.lst ((ns.take i).map fun n => V.bl (rowOk n)))) ⟨same_new (Same.refl _) nD, upd_same⟩ (fun i H' _ p => p.1.seq hs) ?_ ?_
      · rintro i x H' hx ⟨sm, e⟩
        obtain ⟨n, hn, rfl⟩ := map_at hx
        have fin : ∃ acc, H' D = some (.lst acc) ∧ acc.length < sizeLine ∧ (Same H (upd H' D (.lst (acc ++ [V.bl (rowOk n)]))) ∧ (upd H' D (.lst (acc ++ [V.bl (rowOk n)]))) D = some (.lst ((ns.take (i + 1)).map fun n => V.bl (rowOk n)))) := by
          refine ⟨_, e, ?_, same_new sm nD, ?_⟩
          · have := get_lt' hn
            rw [List.length_map, List.length_take]
            exact small1000 (by omega)
          · rw [upd_same, take_more hn, List.map_append]
            rfl
        refine ⟨rfl, yesT ⟨_, rfl, _, _, rfl, rfl, _, rfl, ite2 (fun c1 => ?_) (fun c1 => ?_)⟩⟩
        · refine ⟨_, _, rfl, rfl, ?_⟩
          have q : rowOk n = decide (n < 65536) := by
            unfold rowOk
            rw [c1]
            rfl
          rw [q] at fin
          exact fin
        · have q : rowOk n = false := by
            unfold rowOk
            have c2 : decide ((0 : Int) ≤ n) = false := by simpa using c1
            rw [c2]
            rfl
          rw [q] at fin
          exact fin
      · rintro H' ⟨sm, e⟩
        rw [List.length_map, List.take_length] at e
        refine ⟨D, ns.map rowOk, rfl, SqL.of (by rw [e, List.map_map]; rfl), ?_⟩
        have q : rowsOk ns = (ns.map rowOk).all id := by
          unfold rowsOk
          have c' : ns.length = 16 := by
            have c2 := of_decide_eq_true c
            injection c2 with c3
            rw [List.length_map] at c3
            omega
          rw [decide_eq_true c', List.all_map]
          rfl
        rw [← q]
        exact k _ sm
    · have q : rowsOk ns = false := by
        unfold rowsOk
        have c' : ¬ ns.length = 16 := fun z => c (decide_eq_true (by rw [List.length_map, z]; rfl))
        rw [decide_eq_false c']
        rfl
      rw [q] at k
      exact k _ (Same.refl _)
theorem range_more {α : Type} (f : Nat → α) (n : Nat) : (List.range (n + 1)).map f = (List.range n).map f ++ [f n] := by rw [List.range_succ, List.map_append]; rfl
theorem all_of {α : Type} {f g : α → Bool} : ∀ {l : List α}, (∀ a ∈ l, f a = g a) → l.all f = l.all g
  | [], _ => rfl
  | a :: r, h => by rw [List.all_cons, List.all_cons, h a List.mem_cons_self, all_of fun b m => h b (List.mem_cons_of_mem _ m)]
/-- a row of the turned ones, as a whole number -/
def turnV (l : List Nat) (y : Nat) : Int := (((List.range 16).map fun x => bitOf l x y).sum : Nat)
theorem sum_cast (f : Nat → Nat) : ∀ l : List Nat, (l.map fun x => (f x : Int)).sum = ((l.map f).sum : Nat)
  | [] => rfl
  | x :: r => by
    rw [List.map_cons, List.sum_cons, sum_cast f r, List.map_cons, List.sum_cons]
    omega
theorem rowsOk_len {ns : List Int} (h : rowsOk ns = true) : ns.length = 16 := by
  unfold rowsOk at h
  rw [Bool.and_eq_true] at h
  exact of_decide_eq_true h.1
theorem rowsOk_nat {ns : List Int} (h : rowsOk ns = true) : ∀ n ∈ ns, 0 ≤ n ∧ n < 65536 := fun n m => by
  unfold rowsOk at h
  rw [Bool.and_eq_true, List.all_eq_true] at h
  have q := h.2 n m
  unfold rowOk at q
  rw [Bool.and_eq_true, decide_eq_true_eq, decide_eq_true_eq] at q
  exact q
theorem bit_val {ns : List Int} {x y : Nat} {n : Int} (ok : ∀ n ∈ ns, 0 ≤ n ∧ n < 65536) (h : ns[x]? = some n) (hy : y < 16) : Builtin.bitAnd (n / 2 ^ (16 - 1 - (0 + (y : Int))).toNat) 1 * 2 ^ (0 + (x : Int)).toNat = (bitOf (ns.map Int.toNat) x y : Int) := by
  have n0 := (ok n (List.mem_of_getElem? h)).1
  have e : (ns.map Int.toNat).getD x 0 = n.toNat := by
    rw [List.getD_eq_getElem?_getD, List.getElem?_map, h]
    rfl
  unfold bitOf
  rw [e, PyProof.Rows.bitAnd_m1]
  have ey : (16 - 1 - (0 + (y : Int))).toNat = 15 - y := by omega
  have ex : (0 + (x : Int)).toNat = x := by omega
  rw [ey, ex]
  have en : n = (n.toNat : Int) := by omega
  rw (occs := [1]) [en]
  push_cast
  rfl
abbrev sTurn : Stmt := top 5
def turnA (ns : List Int) : List Int := if rowsOk ns = true then (turnM (ns.map Int.toNat)).map fun (n : Nat) => (n : Int) else [-1]
def spTurn (K : PySem.W.Frag) : Sp := fun vs H Q _ => ∃ (a : Addr) (ns : List Int), vs = [.ref a] ∧ SqL K H a (ns.map V.int) ∧ ns.length ≤ 1000 ∧ ∀ H' p, H' p = some (.lst ((turnA ns).map V.int)) → Q (.ref p) H'
theorem scTurn : FnScope ["l", "found", "y", "bits", "x"] ["l"] (defScope sTurn) := ⟨rfl, rfl, rfl, by decide +kernel, rfl, by decide +kernel, by decide +kernel⟩
theorem ok_turn {f : Addr} {fd fdR : FuncData} (F : Fun K "turn16" "turn16" sTurn f fd) (T : TxtR K mg fR) (FR : Fun K "are_rows" "are_rows" sRows fR fdR) (bR : Binds K fdR ["some"] []) : FnOk P w K mg base CX0 2 f fd ["l"] (spTurn K) := by
  have GR : FnOk P w K mg base CX0 1 fR fdR ["some"] (spRows K) := ok_rows FR T
  obtain ⟨t1, m1⟩ := T.rows
  obtain ⟨t2, m2⟩ := T.nott
  refine F.ok scTurn (fun vs H Q E h => ?_) (fun cdv A outer s H vs Q E hr h => ⟨_, pss_cons (ps_if (pt_not (pt_val (pe_call GR hr rfl T.gR T.kR bR .nil pass0 (pa_cons (pv 0) pa_nil)))) (pss_one (ps_ret (pe_lst (pa_cons (pe_num m2) pa_nil)))) pss_nil)
    (pss_cons (ps_set (i := 1) scTurn.nd rfl (Or.inl rfl) (pe_lst pa_nil))
    (pss_cons (ps_for PassesOwn.never rfl (pi_range1 rfl T.range (pa_cons (pe_num m1) pa_nil)) (pg_name (i := 2) scTurn.nd rfl (Or.inr rfl))
      (pss_cons (ps_setLc (i := 3) (own := [("x", 4)]) (g := gName 4) (tt := tYes) rfl scTurn.nd rfl rfl (sw_true rfl rfl rfl (by decide +kernel)) (pi_range1 rfl T.range (pa_cons (pe_num m1) pa_nil))
          (blkOk_by (own := [("x", 4)]) (N := ["l", "found", "y", "bits", "x"]) (sc := defScope sTurn) (by decide +kernel)) (fun _ _ _ _ _ => pg_name (i := 4) scTurn.nd rfl (Or.inl rfl)) (fun _ _ _ _ _ => pts_nil)
          (fun _ _ _ _ _ => pe_op op_shl (pe_op op_and (pe_op op_shr (pe_ix (r := rIxL K) ix_list (pv 0) (pv 4) (fun _ _ => rfl)) (pe_op op_sub (pe_op op_sub (pe_num m1) pe_int) (pv 2))) pe_int) (pv 4)))
        (pss_one (ps_expr (pe_bm PySem.F.plainAttrs_list PySem.F.slot_list_append PySem.F.type_list_append mt_append (pv 1) (pa_cons (pe_callB (cr_sum rfl) (by rfl) T.sum (by decide +kernel) (pa_cons (pv 3) pa_nil)) pa_nil))))))
    (pss_one (ps_ret (pv 1))))), ?_⟩)
  · obtain ⟨a, ns, rfl, _⟩ := h
    rfl
  · obtain ⟨a, ns, rfl, hs, hl, k⟩ := h
    refine ⟨_, rfl, a, ns, rfl, hs, hl, fun H1 s1 => ⟨_, rfl, ite2 (fun c => ?_) (fun c => ?_)⟩⟩
    · refine ⟨by decide, fun p np => k _ p ?_⟩
      rw [upd_same]
      have q : turnA ns = [-1] := if_neg (by simpa using c)
      rw [q]
      rfl
    · have c : rowsOk ns = true := by simpa using c
      refine ⟨by decide, fun L nL => ?_⟩
      have sL : Same H (upd H1 L (.lst [])) := same_new s1 (s1.free nL)
      have ok := rowsOk_nat c
      have len : ns.length = 16 := rowsOk_len c
      have q : turnA ns = (List.range 16).map fun y => turnV (ns.map Int.toNat) y := by
        unfold turnA
        rw [if_pos c]
        unfold turnM
        rw [List.map_map]
        rfl
      refine ⟨16, rfl, by decide, by decide, for_range (lo := 0) (n := 16) (fun i σ H' => ∃ v2 v3 : Option V, σ = [some (.ref a), some (.ref L), v2, v3, none] ∧ Same H H' ∧ H' L = some (.lst ((List.range i).map fun y => V.int (turnV (ns.map Int.toNat) y))))
        ⟨none, none, rfl, sL, upd_same⟩ ?_ ?_⟩
      · rintro y σ H' hy ⟨v2, v3, rfl, sm, e⟩
        refine ⟨16, rfl, by decide, by decide, fun D nD => ?_⟩
        have dL : D ≠ L := fun z => by
          rw [z, e] at nD
          cases nD
        refine lc_range (lo := 0) (n := 16) (fun j H2 => Same H H2 ∧ H2 L = some (.lst ((List.range y).map fun y => V.int (turnV (ns.map Int.toNat) y))) ∧ H2 D = some (.lst ((List.range j).map fun x => V.int (bitOf (ns.map Int.toNat) x y))))
          ⟨same_new sm (sm.free nD), (upd_ne (Ne.symm dL)).trans e, upd_same⟩ ?_ ?_
        · rintro x H2 hx ⟨sm2, e2, eD⟩
          have hxl : x < ns.length := by omega
          have hn : ns[x]? = some ns[x] := List.getElem?_eq_getElem hxl
          have hb : V.int (Builtin.bitAnd (ns[x] / 2 ^ (16 - 1 - (0 + (y : Int))).toNat) 1 * 2 ^ (0 + (x : Int)).toNat) = V.int (bitOf (ns.map Int.toNat) x y) := by
            congr 1
            exact bit_val ok hn (by omega)
          have hp : CPow (Builtin.bitAnd (ns[x] / 2 ^ (16 - 1 - (0 + (y : Int))).toNat) 1) (0 + (x : Int)) := by
            refine ⟨by omega, by omega, ?_⟩
            rw [PyProof.Rows.bitAnd_m1]
            omega
          refine ⟨rfl, yesT ⟨_, rfl, _, rfl, a, _, _, _, rfl, rfl, sm2.seq hs, at_of (j := x) (by omega) (by rw [List.getElem?_map, hn]; rfl), _, _, rfl, rfl, _, rfl, _, _, rfl, rfl, _, _, rfl, rfl, by omega, _, _, rfl, rfl, _, rfl, _, _, rfl, rfl, hp, ?_⟩⟩
          dsimp only
          rw [hb]
          refine ⟨_, eD, ?_, same_new sm2 (sm.free nD), (upd_ne (Ne.symm dL)).trans e2, ?_⟩
          · rw [List.length_map, List.length_range]
            exact small1000 (by omega)
          · rw [upd_same, List.range_succ, List.map_append]
            rfl
        · rintro H2 ⟨sm2, e2, eD⟩
          refine ⟨_, rfl, .inl ⟨rfl, _, SqL.of e2⟩, _, rfl, D, (List.range 16).map fun x => (bitOf (ns.map Int.toNat) x y : Int), rfl, SqL.of (by rw [eD, List.map_map]; rfl), L, _, _, rfl, rfl, e2, ?_, ?_⟩
          · rw [List.length_map, List.length_range]
            exact small1000 (by omega)
          · refine ⟨some (.int (0 + (y : Int))), some (.ref D), rfl, fun b o z => ?_, ?_⟩
            · have nb : b ≠ L := ne_of_none z (s1.free nL)
              rw [upd_ne nb]
              exact sm2 b o z
            · rw [upd_same, range_more (fun y => V.int (turnV (ns.map Int.toNat) y))]
              have z : V.int (((List.range 16).map fun x => (bitOf (ns.map Int.toNat) x y : Int)).sum) = V.int (turnV (ns.map Int.toNat) y) := by
                exact congrArg V.int (sum_cast _ _)
              rw [z]
      · rintro σ H' ⟨v2, v3, rfl, sm, e⟩
        refine ⟨_, rfl, k _ L ?_⟩
        rw [e, q, List.map_map]
        rfl
end
theorem sixteen_is {ns : List Int} (h0 : ∀ n ∈ ns, 0 ≤ n) : BrPartSpec.sixteen (ns.map Int.toNat) = rowsOk ns := by
  unfold BrPartSpec.sixteen rowsOk
  rw [List.length_map, List.all_map]
  congr 1
  refine all_of fun n m => ?_
  have := h0 n m
  show decide (n.toNat < 65536) = rowOk n
  unfold rowOk
  rw [decide_eq_true this, Bool.true_and]
  by_cases q : n < 65536
  · rw [decide_eq_true q, decide_eq_true (by omega)]
  · rw [decide_eq_false q, decide_eq_false (by omega)]
theorem turn_law {ns : List Int} (h0 : ∀ n ∈ ns, 0 ≤ n) : PyWqasbw.turn16 ns = turnA ns := by
  show Neutral.shown (if BrPartSpec.sixteen (ns.map Int.toNat) = true then .nums (BrPart.turnRows (ns.map Int.toNat)) else BrPartSpec.no 1) = _
  rw [sixteen_is h0]
  unfold turnA
  by_cases c : rowsOk ns = true
  · rw [if_pos c, if_pos c, turnM_is]
    rfl
  · rw [if_neg c, if_neg c]
    rfl
theorem all_mk {P : Program} {w : World} {K : PySem.W.Frag} {h : Heap} {mg : Str → Option Value} {fa f1 f2 : Addr} (X : K.In h) (G : h.Ns mainGlobals mg) (hfa : mg "turn16" = some (.ref fa))
    {od1 an1 od2 an2 : Option Addr} {sl1 sl2 : Array (Option Value)} {oc1 kV1 dc1 pm1 cd1 ct1 oc2 kV2 dc2 pm2 cd2 ct2 : Value} {t1 t2 t3 : Tok}
    (a1 : PySem.W.nsIn K mainGlobals "are_rows" = some (some (.ref f1))) (l1 : K.lookup f1 = some ⟨oc1, od1, .func (PySem.W.fnOf "are_rows" "are_rows" (defArgs sRows) (defBody sRows) (defScope sRows) .none kV1 dc1 pm1 an1 cd1 ct1), sl1⟩) (c1 : PySem.W.codeIn K cd1 "are_rows" = true) (k1 : PySem.W.keepIn K (.ref f1) = true)
    (a2 : PySem.W.nsIn K mainGlobals "turn16" = some (some (.ref f2))) (l2 : K.lookup f2 = some ⟨oc2, od2, .func (PySem.W.fnOf "turn16" "turn16" (defArgs sTurn) (defBody sTurn) (defScope sTurn) .none kV2 dc2 pm2 an2 cd2 ct2), sl2⟩) (c2 : PySem.W.codeIn K cd2 "turn16" = true) (k2 : PySem.W.keepIn K (.ref f2) = true)
    (n1 : PySem.W.nsIn K mainGlobals "ROWS" = some (some (.int 16 t1))) (n2 : PySem.W.nsIn K mainGlobals "MOST_ROW" = some (some (.int 65536 t2))) (n3 : PySem.W.nsIn K mainGlobals "NOT_TOLD" = some (some (.int (-1) t3)))
    (z1 : PySem.W.nsIn K mainGlobals "len" = some none) (z2 : PySem.W.nsIn K mainGlobals "all" = some none) (z3 : PySem.W.nsIn K mainGlobals "range" = some none) (z4 : PySem.W.nsIn K mainGlobals "sum" = some none) :
    ∃ fd : FuncData, (∀ (s : Shared) (us : List Value), us.length = (["l"] : List Str).length → BindsTo s fd ⟨us, []⟩ ((["l"] : List Str).zip us)) ∧ ∀ base : Heap, K.In base → base.Ns mainGlobals mg → FnOk P w K mg base CX0 2 fa fd ["l"] (spTurn K) := by
  have e := hfa.symm.trans (PySem.W.mg_of X G a2)
  cases e
  have T : TxtR K mg f1 := ⟨⟨_, PySem.W.mg_of X G n1⟩, ⟨_, PySem.W.mg_of X G n2⟩, ⟨_, PySem.W.mg_of X G n3⟩, PySem.W.mg_none_of X G z1, PySem.W.mg_none_of X G z2, PySem.W.mg_none_of X G z3, PySem.W.mg_none_of X G z4, PySem.W.mg_of X G a1, k1⟩
  have F1 := fun_mk (st := sRows) l1 c1 k1
  have F2 := fun_mk (st := sTurn) l2 c2 k2
  have b1 := F1.binds (ps := ["some"]) fun _ _ _ _ _ _ us hl => match us, hl with | [_], _ => rfl
  exact ⟨PySem.W.fnOf "turn16" "turn16" (defArgs sTurn) (defBody sTurn) (defScope sTurn) .none kV2 dc2 pm2 an2 cd2 ct2, fun s us hu => match us, hu with | [_], _ => .of_eq rfl, fun base _ _ => ok_turn F2 T F1 b1⟩
end Br
open PySem PySem.W PyProof.Rows
set_option maxRecDepth 100000 in
set_option maxHeartbeats 8000000 in
theorem PySem.Challenge.cw_studtube_s10_turn16_holds : PySem.Challenge.rw_studtube_s10_turn16.Holds := by
  w_on; k_headS; (case hw => exact ⟨[.list []], by decide +kernel, by decide +kernel⟩)
  k_fillS
  refine L2.walk_specK (r := PySem.Challenge.rw_studtube_s10_turn16) (k := 2) (CX := L2.CX0) (ps := ["l"]) (sp := Br.spTurn) (by decide +kernel) rfl rfl ⟨rfl, by decide, by decide⟩ (fun w h Y => PySem.W.kIn_of Y) ?F ?S (fun _ _ _ _ z => z)
  case F =>
    intro w mg fa h Y KX G hmg
    refine' Br.all_mk KX G hmg ?a1 ?l1 ?c1 ?k1 ?a2 ?l2 ?c2 ?k2 ?n1 ?n2 ?n3 ?z1 ?z2 ?z3 ?z4
    (case a1 => k_is); (case l1 => k_is); (case c1 => k_is); (case k1 => k_is)
    (case a2 => k_is); (case l2 => k_is); (case c2 => k_is); (case k2 => k_is)
    (case n1 => k_is); (case n2 => k_is); (case n3 => k_is)
    (case z1 => k_is); (case z2 => k_is); (case z3 => k_is); (case z4 => k_is)
  case S =>
    intro K H xs a hO hwi hask hx
    cases hx with
    | cons h1 h2 =>
      cases h2
      cases h1 with
      | lst hs ha =>
        have e := L2.ints_dw a.1 _ ha
        subst e
        have q : ((Codec.inLen 0 64 a.1 && a.1.all (Codec.inInt 0 4294967295)) && true) = true := hwi
        rw [Bool.and_eq_true, Bool.and_eq_true] at q
        have hl := (Codec.inNat_iff.mp q.1.1).2
        refine ⟨_, a.1, rfl, hs, by omega, fun H' p hp => .lst (L2.SqL.of (hp.trans ?_)) (L2.dw_ints _)⟩
        have h0 : ∀ n ∈ a.1, 0 ≤ n := fun n m => (Codec.inInt_iff.mp (List.all_eq_true.mp q.1.2 n m)).1
        have e := Br.turn_law h0
        rw [← e]
        rfl
#print axioms PySem.Challenge.cw_studtube_s10_turn16_holds
