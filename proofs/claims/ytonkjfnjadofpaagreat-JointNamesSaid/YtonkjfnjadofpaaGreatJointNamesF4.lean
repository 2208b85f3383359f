/-
  What functions of the program compute, as plain Lean functions (m_..), and proofs that they compute it (c_..). Printed by a program of the author; no conditions.
-/
import Derived.Test.YtonkjfnjadofpaaGreatJointNamesBFloat
import Derived.Test.YtonkjfnjadofpaaGreatProg
import Derived.Test.YtonkjfnjadofpaaGreatJointNamesBLibSort
import Derived.Test.YtonkjfnjadofpaaGreatShelf
import Derived.Test.YtonkjfnjadofpaaGreatJointNamesBThree
import Derived.Test.YtonkjfnjadofpaaGreatJointNamesF3
set_option linter.unusedVariables false
set_option maxRecDepth 100000
set_option maxHeartbeats 2000000
namespace Go.Proofs.YtonkjfnjadofpaaGreat
open Go Go.RowKit

def m_slices_Values_int_int_1_L1  : List Int → Option (List Int)
  | [] => some []
  | aa :: ab => ((m_slices_Values_int_int_1_L1 ab) ).bind fun ac => some (aa :: ac)
termination_by structural x => x
def m_slices_Values_int_int_1 (aa : List Int) : Option (List Int) :=
  m_slices_Values_int_int_1_L1 aa 
theorem c_slices_Values_int_int_1 (col : Col) (w0 : World) (g0 : Nat) (af0 : Option Addr) (capf0 : Nat) (aa : List Int) (hf0 : Sl (Rep.int .i64) col w0 af0 capf0 aa) (hb0 : Box 33 0 col w0 g0 #[(.slice af0 aa.length capf0)]) (r : List Int) (hm : m_slices_Values_int_int_1 aa = some r) :
    Goes Tryz.prog 1 98 [(.pointer (some ⟨g0, 0, none⟩))] (fun (y : Int) (col : Col) (w : World) (args : List Value) => args = [.int .i64 y]) r col w0 := by
 intro l J X hjs hxs hy hst
 refine calls_of0 (m := 16) (args := [.func (.yield l) #[] #[], (.pointer (some ⟨g0, 0, none⟩))]) Tryz.func98 rfl rfl rfl rfl ?_
 rw [m_slices_Values_int_int_1.eq_1] at hm
 refine wS <| wR <| lV (.slice af0 aa.length capf0) (r_ld Tryz.isAgg33 rfl hb0.at1) <| lV (.int .i64 (aa.length : Int)) (r_len Tryz.underlying33 rfl) <| lM (.int .i64 0) <| lN <| wB ?_
 refine wloop (fun n f ad => ∃ (ae : Col) (r : List Int) (ab : Nat) (ac : List Int), n = ac.length ∧ aa.drop ab = ac ∧ m_slices_Values_int_int_1_L1 ac  = some r ∧ J r ae ad ∧ Sl (Rep.int .i64) ae ad af0 capf0 aa ∧ Box 33 0 ae ad g0 #[(.slice af0 aa.length capf0)] ∧ f 7 = (.int .i64 (ab : Int)) ∧ f 0 = (.func (.yield l) #[] #[]) ∧ f 5 = (.slice af0 aa.length capf0) ∧ f 6 = (.int .i64 (aa.length : Int)) ∧ f 1000000 = (enc [])) aa.length ⟨col, r, 0, aa, rfl, rfl, hm, hst, hf0, hb0, rfl, rfl, rfl, rfl, rfl⟩ ?_
 clear hm; intro n f ad hI
 obtain ⟨ae, r, ab, ac, hn, hl, hm, hst, hf0, hb0, hs7, hs0, hs5, hs6, hs1000000⟩ := hI
 subst hn
 refine .lD 7 hs7 <| .lD 0 hs0 <| .lD 5 hs5 <| .lD 6 hs6 <| .lD 1000000 hs1000000 ?_
 clear hs7 hs0 hs5 hs6 hs1000000
 cases ac with
 | nil =>
  have hk : ¬ ((ab : Int) < (aa.length : Int)) := by have := List.drop_eq_nil_iff.1 hl; omega
  have hkb := decide_eq_false hk
  rw [m_slices_Values_int_int_1_L1.eq_1] at hm
  refine wS <| wR <| lV (.bool (decide ((ab : Int) < (aa.length : Int)))) (r_lss (ab : Int) (aa.length : Int) rfl rfl) <| lN <| wS ?_
  refine wcondF (congrArg Value.bool hkb) ?_
  refine wexit (inB_hit ?_)
  cases hm
  exact ⟨rfl, ⟨_, rfl⟩, _, .inl hst⟩
 | cons af ag =>
  obtain ⟨hat, hl2_L1, hlt_L1⟩ := drop_get hl
  have hk : (ab : Int) < (aa.length : Int) := by omega
  have hkb := decide_eq_true hk
  rw [m_slices_Values_int_int_1_L1.eq_2] at hm
  refine wS <| wR <| lV (.bool (decide ((ab : Int) < (aa.length : Int)))) (r_lss (ab : Int) (aa.length : Int) rfl rfl) <| lN <| wS ?_
  refine wcondT (congrArg Value.bool hkb) ?_
  refine wK <| wS <| wB <| wS <| wR ?_
  refine lV (sptr af0 (Int.toNat (ab : Int) * 1)) (r_idx Tryz.underlying33 Tryz.sizeOf3 rfl rfl (at?_some hat).1 (at?_some hat).2.1 (hf0.addr hat)) ?_
  refine lV (.int .i64 af) (r_ld Tryz.isAgg3 rfl (hf0.atInt hat)) <| lA (.int .i64 af) <| lN <| wS <| wR <| lM (.func (.yield l) #[] #[]) <| lM (.int .i64 af) ?_
  obtain ⟨ai, hc_8m, aj⟩ := bS hm
  cases aj
  have hm := hc_8m
  clear hc_8m
  refine ly1 rfl rfl rfl (hy _ _ _ _ [(.int .i64 af)] hst rfl) ?_
  rintro _ al ⟨ak, ah, ⟨rfl, hJ⟩ | ⟨rfl, hX⟩⟩
  ·refine ⟨_, rfl, ?_⟩
   clear hst
   have hst := hJ
   clear hJ
   refine lV (.bool false) (r_not true rfl) <| lN ?_
   refine wcondF rfl ?_
   refine wK <| wR <| lV (.int .i64 (IntKind.i64.wrap ((ab : Int) + 1))) (r_add (ab : Int) 1 rfl rfl) <| lM (.int .i64 (IntKind.i64.wrap ((ab : Int) + 1))) <| lN ?_
   replace hf0 := hf0.kpp ah
   replace hb0 := hb0.kpp ah
   exact ⟨ag.length, by simp, ⟨ak, ai, (ab + 1), ag, rfl, hl2_L1, hm, hst, hf0, hb0, (congrArg (Value.int .i64) (wrap_succ (Nat.lt_of_lt_of_le hlt_L1 hf0.1.1))), rfl, rfl, rfl, rfl⟩⟩
  clear hm
  refine ⟨_, rfl, ?_⟩
  clear hst
  have hst := hX
  clear hX
  refine lV (.bool true) (r_not false rfl) <| lN ?_
  refine wcondT rfl ?_
  refine wret ?_
  exact ⟨rfl, ⟨_, rfl⟩, _, .inr hst⟩
def m_slices_Values_int_int (aa : (List Int)) : Option (List Int) :=
  m_slices_Values_int_int_1 aa
theorem c_slices_Values_int_int (col : Col) (w0 : World) (a0 : Option Addr) (cap0 : Nat) (aa : (List Int)) (h0 : Sl (Rep.int .i64) col w0 a0 cap0 aa) (r : (List Int)) (hm : m_slices_Values_int_int aa = some r) :
    Calls Tryz.prog 49 #[(.slice a0 aa.length cap0)] w0 (fun e w' => ∃ (col' : Col) (rv1 : Value), e = .returned (rv1) ∧ Grow col w0 col' w' ∧ It Tryz.prog 1 rv1 (fun (y : Int) (col : Col) (w : World) (args : List Value) => args = [.int .i64 y]) r qz col' w') := by
 refine calls_of1 2 (m := 4) (args := [(.slice a0 aa.length cap0)]) Tryz.func49 rfl rfl rfl rfl rfl ?_
 rw [m_slices_Values_int_int.eq_1] at hm
 have hst := St.start col w0
 refine wS <| wR ?_
 refine l_box (col := (col0 col)) (v := (.slice a0 aa.length cap0)) 1 rfl rfl ?_
 intro ab ag ae af ac
 replace ac : Box 33 1 ae ag ab #[(.slice a0 aa.length cap0)] := ac
 refine lv (v := _) rfl rfl (r_assign rfl) ?_
 refine lN <| wS <| wR <| lV (.func (.func 98) #[] #[(.pointer (some ⟨ab, 0, none⟩))]) (r_func1 rfl) <| lA (.func (.func 98) #[] #[(.pointer (some ⟨ab, 0, none⟩))]) <| lN ?_
 refine wret ?_
 replace hst := hst.grow af
 have ad := hst.finBox (G := (fun n => bif Nat.beq n 1 then 0 else 0)) ac (by decide) (by decide) (show (fun n => bif Nat.beq n 1 then 0 else 0) 1 = 0 from rfl)
 replace h0 := (h0.keep (Stay.start col w0)).gr af
 have h0f := hst.finSl (g := (fun n => bif Nat.beq n 1 then 0 else 0)) rfl h0
 refine ⟨rfl, colF w0.heap.size col ae (fun n => bif Nat.beq n 1 then 0 else 0), _, rfl, hst.fin (fun n => bif Nat.beq n 1 then 0 else 0), 98, [(.pointer (some ⟨ab, 0, none⟩))], rfl, Tryz.call98, ?_⟩
 intro col9 w9 hs9 hk9
 replace ad := ad.itk hs9 hk9 rfl
 replace h0f := h0f.itk hs9 hk9 rfl
 exact c_slices_Values_int_int_1  col9 w9 ab a0 cap0 aa h0f ad r hm
theorem el3_138V0N : ElemOk Tryz.prog 3 1 8 := ⟨Tryz.t3, _, rfl, rfl, rfl, rfl, rfl⟩
def m_slices_AppendSeq_int_int_v0n_L1  : List Int → (List Int) → Option (List Int)
  | [], aa => some aa
  | ab :: ac, aa => chk ((aa.length + [ab].length) * 8 ≤ 140737488355328 ∧ aa.length + [ab].length ≤ maxLen) ((m_slices_AppendSeq_int_int_v0n_L1 ac) (aa ++ [ab]))
termination_by structural x => x
def m_slices_AppendSeq_int_int_v0n (aa : List Int) : Option (List Int) :=
  m_slices_AppendSeq_int_int_v0n_L1 aa ([] : List Int)
theorem c_slices_AppendSeq_int_int_v0n (c1 : Nat) (col : Col) (w0 : World) (v1 : Value) (an : List Int) (h1 : It Tryz.prog 1 v1 (fun (y : Int) (col : Col) (w : World) (args : List Value) => args = [.int .i64 y]) an qz col w0) (r : (List Int)) (hm : m_slices_AppendSeq_int_int_v0n an = some r) :
    Calls Tryz.prog 138 #[(.slice none 0 0), v1] w0 (fun e w' => ∃ (col' : Col) (ra1 : Option Addr) (rc2 : Nat), e = .returned ((.slice ra1 r.length rc2)) ∧ Grow col w0 col' w' ∧ Own (Rep.int .i64) 3 c1 col' w' ra1 rc2 r) := by
 refine calls_ofM1 4 (mc := 499) (m := 13) (args := [(.slice none 0 0), v1]) Tryz.func138 rfl rfl rfl rfl rfl ?_
 rw [m_slices_AppendSeq_int_int_v0n.eq_1] at hm
 have hst := St.start col w0
 replace h1 := h1.keep (Stay.start col w0)
 have hmk : Marks 499 (col0 col) w0 [] := .nil
 refine wS <| wR ?_
 refine l_box (col := (col0 col)) (v := (.slice none (([] : List Int).length) 0)) 1 rfl rfl ?_
 intro ao a0 av ap aa
 replace aa : Box 33 1 av a0 ao #[(.slice none (([] : List Int).length) 0)] := aa
 refine lA (.slice none (([] : List Int).length) 0) <| lN <| wS <| wS <| wR ?_
 refine lv (v := v1) rfl rfl (r_move rfl) ?_
 refine lN <| wB ?_
 replace h1 := h1.gr ap
 replace hmk := hmk.gr ap
 replace hst := hst.grow ap
 refine wrange (psl := [7]) (arr := (fun (y : Int) (col : Col) (w : World) (args : List Value) => args = [.int .i64 y])) (ys := an) (col := av) 498 rfl h1 rfl hmk rfl rfl (by rintro _ _ _ _ rfl; rfl) (fun ys_ ag ah => ∃ (ac : Option Addr) (ad : Nat) (ab : List Int), m_slices_AppendSeq_int_int_v0n_L1 ys_ ab = some r ∧ St w0 (col0 col) ag ah ∧ Own (Rep.int .i64) 3 2 ag ah ac ad ab ∧ Box 33 1 ag ah ao #[(.slice ac ab.length ad)]) (fun _ _ _ => False) ?_ ?_ ⟨none, 0, ([] : List Int), hm, hst, Own.nil, aa⟩ ?_ ?_ ?_
 ·intro ys_ ag ah col2_ w2_ hJ hk
  obtain ⟨ac, ad, ab, hm, hst, ae, aa⟩ := hJ
  exact ⟨ac, ad, ab, hm, hst.kpp hk rfl rfl, ae.kpp hk rfl rfl, aa.kpp hk rfl⟩
 ·intro _ _ _ _ _ h _
  exact h
 ·intro a9 ba bb af bc ag ah args hJ hrec hmk harr
  obtain ⟨ac, ad, ab, hm, hst, ae, aa⟩ := hJ
  rw [m_slices_AppendSeq_int_int_v0n_L1.eq_2] at hm
  have hki := KeepP.refl (pC 1) ag ah
  subst harr
  refine wR <| lA (.int .i64 af) <| lN ?_
  refine ⟨_, hrec, ?_⟩
  intro bd be aj aw hrec2
  clear hrec
  have hrec := hrec2
  clear hrec2
  refine wB <| wR ?_
  replace aa := aa.kp aj
  refine lV (.slice ac ab.length ad) (r_ld Tryz.isAgg33 rfl aa.at1) <| lM (.int .i64 af) ?_
  refine l_lit (col := ag) (r := (Rep.int .i64)) (xs := [af]) [(.int .i64 af)] 3 rfl Tryz.underlying33 el3_138V0N rfl rfl rfl rfl rfl rfl (by intro v hv; simp only [List.mem_cons, List.not_mem_nil, or_false] at hv; subst hv; rfl) (RowsH.ofF (Rows.consF (r := (Rep.int .i64)) (x := af) (cs := [(.int .i64 af)]) (rd_int .i64 af) Rows.nil0)) ?_
  intro bf a1 a2 ai a3
  obtain ⟨ax, hm⟩ := cS hm
  replace ae := (ae.kp aj).gr ai
  refine l_ext (col := a2) (w := a1) (r := (Rep.int .i64)) (c := 2) (c2 := 2) (ae.ex) (a3.srcN (NB.int (k := .i64))) rfl Tryz.underlying33 el3_138V0N rfl rfl rfl ax.1 ax.2 (by decide) ?_
  intro aq ar bg a4 ak am
  replace hmk := ((hmk.kp aj).gr ai).kpp ak
  replace hki := (hki.kp aj aw rfl).gr ai
  replace aa := (aa.gr ai).kpp ak
  replace hrec := (hrec.gr ai).kpp ak
  replace hki := hki.trans (ak.mono (by first | exact pCo_p2 rfl | exact pCo_p1 rfl | exact pCo_pS rfl | exact fun _ => pC_21 | exact fun _ h => h | exact fun _ _ => rfl))
  clear ae
  refine l_bstore (v := (.slice aq ((ab ++ [af]).length) ar)) aa Tryz.sizeOf33 rfl rfl (by intro u hu; simp only [Value.cells, List.mem_cons, List.not_mem_nil, or_false] at hu; subst hu; rfl) rfl rfl ?_
  intro a5 al ay au
  clear aa
  replace au : Box 33 1 a4 a5 ao #[(.slice aq ((ab ++ [af]).length) ar)] := au
  replace am := am.kp al
  have a6 := am.new
  clear am
  refine lN ?_
  replace hst := (((hst.kp aj aw).grow ai).kpp ak).kp al ay
  replace hrec := hrec.kp al
  replace hmk := hmk.kp al
  replace hki := hki.kp al ay rfl
  exact ⟨_, hki, ⟨aq, ar, (ab ++ [af]), hm, hst, a6, au⟩, hrec, hmk⟩
 ·clear hmk
  intro a7 ag ah hJ hmk
  obtain ⟨ac, ad, ab, hm, hst, ae, aa⟩ := hJ
  rw [m_slices_AppendSeq_int_int_v0n_L1.eq_1] at hm
  refine wS <| wR <| lV (.slice ac ab.length ad) (r_ld Tryz.isAgg33 rfl aa.at1) <| lA (.slice ac ab.length ad) <| lN ?_
  refine wret ?_
  cases hm
  refine ⟨_, (a7 :: []), rfl, hmk, ?_⟩
  intro bh az a8
  clear hmk
  replace ae := ae.kp az
  replace hst := hst.kp az a8
  exact ⟨colF w0.heap.size col ag (fun n => bif Nat.beq n 2 then c1 else 0), ac, ad, rfl, hst.fin (fun n => bif Nat.beq n 2 then c1 else 0), hst.finOwn (g := (fun n => bif Nat.beq n 2 then c1 else 0)) rfl ae (by decide) (by decide) rfl⟩
 intro _ _ _ _ h
 exact h.elim
def m_slices_Collect_int (aa : List Int) : Option (List Int) :=
  (m_slices_AppendSeq_int_int_v0n aa).bind fun ab => some ab
theorem c_slices_Collect_int (c1 : Nat) (col : Col) (w0 : World) (v0 : Value) (aa : List Int) (h0 : It Tryz.prog 1 v0 (fun (y : Int) (col : Col) (w : World) (args : List Value) => args = [.int .i64 y]) aa qz col w0) (r : (List Int)) (hm : m_slices_Collect_int aa = some r) :
    Calls Tryz.prog 96 #[v0] w0 (fun e w' => ∃ (col' : Col) (ra1 : Option Addr) (rc2 : Nat), e = .returned ((.slice ra1 r.length rc2)) ∧ Grow col w0 col' w' ∧ Own (Rep.int .i64) 3 c1 col' w' ra1 rc2 r) := by
 refine calls_of1 2 (m := 5) (args := [v0]) Tryz.func96 rfl rfl rfl rfl rfl ?_
 rw [m_slices_Collect_int.eq_1] at hm
 have hst := St.start col w0
 refine wS <| wR <| lA (.slice none (([] : List Int).length) 0) <| lN <| wS <| wR ?_
 refine lv (v := v0) rfl rfl (r_move rfl) ?_
 obtain ⟨ab, ae, hm⟩ := bS hm
 replace h0 := h0.keep (Stay.start col w0)
 refine lc rfl rfl (r_call2 Tryz.call138 rfl rfl) (c_slices_AppendSeq_int_int_v0n 1 (col0 col) _ v0 aa h0 ab ae) ?_
 rintro _ ai ⟨af, ac, ad, rfl, ag, ah⟩
 refine ⟨_, rfl, ?_⟩
 refine lA (.slice ac ab.length ad) <| lN ?_
 refine wret ?_
 cases hm
 replace hst := hst.grow ag
 exact ⟨rfl, colF w0.heap.size col af (fun n => bif Nat.beq n 1 then c1 else 0), ac, ad, rfl, hst.fin (fun n => bif Nat.beq n 1 then c1 else 0), hst.finOwn (g := (fun n => bif Nat.beq n 1 then c1 else 0)) rfl ah (by decide) (by decide) rfl⟩
theorem c_slices_Sort_int_int (col : Col) (w0 : World) (qc0 : Nat) (hd : dstB [qc0] = true) (a0 : Option Addr) (cap0 : Nat) (aa : (List Int)) (h0 : Own (Rep.int .i64) 3 qc0 col w0 a0 cap0 aa) (r : (List Int)) (hm : lib_sort aa = some r) :
    Calls Tryz.prog 97 #[(.slice a0 aa.length cap0)] w0 (fun e w' => ∃ (col' : Col), e = .returned (.tuple #[]) ∧ KeepP (pS [qc0]) col w0 col' w' ∧ Own (Rep.int .i64) 3 qc0 col' w' a0 cap0 r ∧ r.length = aa.length) :=
  sort_int Tryz.slices_Sort_int Tryz.slices_Sort_int_none col w0 qc0 hd a0 cap0 aa h0 r hm
def m_slices_Sorted_int (aa : List Int) : Option (List Int) :=
  (m_slices_Collect_int aa).bind fun ab => (lib_sort ab).bind fun ac => some ac
theorem c_slices_Sorted_int (c1 : Nat) (col : Col) (w0 : World) (v0 : Value) (ae : List Int) (h0 : It Tryz.prog 1 v0 (fun (y : Int) (col : Col) (w : World) (args : List Value) => args = [.int .i64 y]) ae qz col w0) (r : (List Int)) (hm : m_slices_Sorted_int ae = some r) :
    Calls Tryz.prog 48 #[v0] w0 (fun e w' => ∃ (col' : Col) (ra1 : Option Addr) (rc2 : Nat), e = .returned ((.slice ra1 r.length rc2)) ∧ Grow col w0 col' w' ∧ Own (Rep.int .i64) 3 c1 col' w' ra1 rc2 r) := by
 refine calls_of1 2 (m := 9) (args := [v0]) Tryz.func48 rfl rfl rfl rfl rfl ?_
 rw [m_slices_Sorted_int.eq_1] at hm
 have hst := St.start col w0
 refine wS <| wR <| lA (.slice none (([] : List Int).length) 0) <| lN <| wS <| wR ?_
 refine lv (v := v0) rfl rfl (r_move rfl) ?_
 obtain ⟨ad, ah, hm⟩ := bS hm
 replace h0 := h0.keep (Stay.start col w0)
 refine lc rfl rfl (r_call1 Tryz.call96 rfl) (c_slices_Collect_int 1 (col0 col) _ v0 ae h0 ad ah) ?_
 rintro _ ao ⟨ai, aa, ab, rfl, aj, af⟩
 refine ⟨_, rfl, ?_⟩
 refine lA (.slice aa ad.length ab) <| lN <| wS <| wR <| lM (.slice aa ad.length ab) ?_
 obtain ⟨ac, ak, hm⟩ := bS hm
 refine lc rfl rfl (r_call1 Tryz.call97 rfl) (c_slices_Sort_int_int ai _ 1 rfl aa ab ad af ac ak) ?_
 rintro _ ap ⟨al, rfl, am, an, ag⟩
 refine ⟨_, rfl, ?_⟩
 clear af
 refine .ld (d := 3) (v := (.slice aa ac.length ab)) (congrArg (fun n => Value.slice aa n ab) (show ad.length = ac.length from ag.symm)) ?_
 refine .ld (d := 6) (v := (.slice aa ac.length ab)) (congrArg (fun n => Value.slice aa n ab) (show ad.length = ac.length from ag.symm)) ?_
 refine lN <| wS <| wR <| lM (.slice aa ac.length ab) <| lA (.slice aa ac.length ab) <| lN ?_
 refine wret ?_
 cases hm
 replace hst := (hst.grow aj).kpp am
 exact ⟨rfl, colF w0.heap.size col al (fun n => bif Nat.beq n 1 then c1 else 0), aa, ab, rfl, hst.fin (fun n => bif Nat.beq n 1 then c1 else 0), hst.finOwn (g := (fun n => bif Nat.beq n 1 then c1 else 0)) rfl an (by decide) (by decide) rfl⟩
def m_radix_At_int_J1 (ab : (List Int)) (aa : Nat) (ac : Int) (kk_L1 : (Nat → Int → Option (Int × Int))) (ad : Int) (ae : Bool) : Option (Int × Int) :=
  if ae = true then none else ((at? ab (aa : Int)).bind fun af => kk_L1 (aa + 1) (IntKind.i64.wrap ((IntKind.i64.wrap (ac * af)) + ad)))
def m_radix_At_int_L1 (aa : (List Int)) : List Int → Nat → Int → Option (Int × Int)
  | [], ab, ac => some (ac, 0)
  | ad :: ae, ab, ac => if (decide (ad < 0)) = true then (m_radix_At_int_J1 aa ab ac (m_radix_At_int_L1 aa ae) ad true) else ((at? aa (ab : Int)).bind fun af => m_radix_At_int_J1 aa ab ac (m_radix_At_int_L1 aa ae) ad (decide (af ≤ ad)))
termination_by structural x => x
def m_radix_At_int (aa : (List Int)) (ab : (List Int)) : Option (Int × Int) :=
  (m_radix_Count_int aa).bind fun ac => if (!decide (ac.2 = 0)) = true then none else (if (!decide ((ab.length : Int) = (aa.length : Int))) = true then none else (m_radix_At_int_L1 aa ab 0 0))
theorem c_radix_At_int (col : Col) (w0 : World) (a0 : Option Addr) (cap0 : Nat) (ad : (List Int)) (a1 : Option Addr) (cap1 : Nat) (ab : (List Int)) (h0 : Sl (Rep.int .i64) col w0 a0 cap0 ad) (h1 : Sl (Rep.int .i64) col w0 a1 cap1 ab) (r : (Int × Int)) (hm : m_radix_At_int ad ab = some r) :
    Calls Tryz.prog 54 #[(.slice a0 ad.length cap0), (.slice a1 ab.length cap1)] w0 (fun e w' => e = .returned (.tuple #[(.int .i64 r.1), (.int .i64 r.2)]) ∧ Below w0.heap.size w0 w') := by
 refine calls_of2 4 5 (m := 51) (args := [(.slice a0 ad.length cap0), (.slice a1 ab.length cap1)]) Tryz.func54 rfl rfl rfl rfl rfl ?_
 rw [m_radix_At_int.eq_1] at hm
 have hst := St.start col w0
 refine wS <| wR <| lA (.int .i64 0) <| lA (.int .i64 0) <| lN <| wS <| wS <| wR <| lM (.slice a0 ad.length cap0) ?_
 obtain ⟨ag, av, hm⟩ := bS hm
 replace h0 := h0.keep (Stay.start col w0)
 refine lc rfl rfl (r_call1 Tryz.call50 rfl) (c_radix_Count_int (col0 col) _ a0 cap0 ad h0 ag av) ?_
 rintro _ aw ⟨rfl, aj⟩
 refine ⟨_, rfl, ?_⟩
 replace h1 := h1.keep (Stay.start col w0)
 replace aj : Grow (col0 col) w0 (col0 col) aw := .of_below aj
 refine lM (.tuple #[(.int .i64 ag.1), (.int .i64 ag.2)]) <| lV (.int .i64 ag.1) (r_extract rfl rfl) <| lV (.int .i64 ag.2) (r_extract rfl rfl) <| lA (.int .i64 ag.1) <| lA (.int .i64 ag.2) <| lN <| wS <| wR <| lM (.int .i64 ag.2) <| lV (.bool (!decide (ag.2 = 0))) (r_neq ag.2 0 rfl rfl) <| lN ?_
 replace h0 := h0.gr aj
 replace h1 := h1.gr aj
 replace hst := hst.grow aj
 refine wcond (!decide (ag.2 = 0)) rfl (fun hb => ?_) (fun hb => ?_)
 ·rw [if_pos hb] at hm
  clear hb
  cases hm
 rw [if_neg (by rw [hb]; decide)] at hm
 clear hb
 refine wK <| wS <| wS <| wR <| lM (.slice a1 ab.length cap1) <| lV (.int .i64 (ab.length : Int)) (r_len Tryz.underlying33 rfl) <| lM (.slice a0 ad.length cap0) <| lV (.int .i64 (ad.length : Int)) (r_len Tryz.underlying33 rfl) <| lV (.bool (!decide ((ab.length : Int) = (ad.length : Int)))) (r_neq (ab.length : Int) (ad.length : Int) rfl rfl) <| lN ?_
 refine wcond (!decide ((ab.length : Int) = (ad.length : Int))) rfl (fun hb => ?_) (fun hb => ?_)
 ·rw [if_pos hb] at hm
  clear hb
  cases hm
 rw [if_neg (by rw [hb]; decide)] at hm
 clear hb
 refine wK <| wS <| wR <| lA (.int .i64 0) <| lN <| wS <| wS <| wR <| lM (.slice a1 ab.length cap1) <| lV (.int .i64 (ab.length : Int)) (r_len Tryz.underlying33 rfl) <| lM (.int .i64 0) <| lN <| wB ?_
 refine wloop (fun n f an => ∃ (ai : Col) (ac : Nat) (af : Int) (ak : List Int), n = ak.length ∧ ab.drop ac = ak ∧ m_radix_At_int_L1 ad ak ac af = some r ∧ St w0 (col0 col) ai an ∧ Sl (Rep.int .i64) ai an a0 cap0 ad ∧ Sl (Rep.int .i64) ai an a1 cap1 ab ∧ f 26 = (.int .i64 (ac : Int)) ∧ f 0 = (.slice a0 ad.length cap0) ∧ f 24 = (.slice a1 ab.length cap1) ∧ f 25 = (.int .i64 (ab.length : Int)) ∧ f 8 = (.int .i64 af) ∧ f 1000000 = (enc [])) ab.length ⟨(col0 col), 0, 0, ab, rfl, rfl, hm, hst, h0, h1, rfl, rfl, rfl, rfl, rfl, rfl⟩ ?_
 clear hm; intro n f an hI
 obtain ⟨ai, ac, af, ak, hn, hl, hm, hst, h0, h1, hs26, hs0, hs24, hs25, hs8, hs1000000⟩ := hI
 subst hn
 refine .lD 26 hs26 <| .lD 0 hs0 <| .lD 24 hs24 <| .lD 25 hs25 <| .lD 8 hs8 <| .lD 1000000 hs1000000 ?_
 clear hs26 hs0 hs24 hs25 hs8 hs1000000
 cases ak with
 | nil =>
  have hk : ¬ ((ac : Int) < (ab.length : Int)) := by have := List.drop_eq_nil_iff.1 hl; omega
  have hkb := decide_eq_false hk
  rw [m_radix_At_int_L1.eq_1] at hm
  refine wS <| wR <| lV (.bool (decide ((ac : Int) < (ab.length : Int)))) (r_lss (ac : Int) (ab.length : Int) rfl rfl) <| lN <| wS ?_
  refine wcondF (congrArg Value.bool hkb) ?_
  refine wexit (inB_hit ?_)
  refine wS <| wR <| lM (.int .i64 af) <| lA (.int .i64 af) <| lA (.int .i64 0) <| lN ?_
  refine wret ?_
  cases hm
  exact ⟨rfl, rfl, hst.below⟩
 | cons aa au =>
  obtain ⟨hat, hl2_L1, hlt_L1⟩ := drop_get hl
  have hk : (ac : Int) < (ab.length : Int) := by omega
  have hkb := decide_eq_true hk
  rw [m_radix_At_int_L1.eq_2] at hm
  refine wS <| wR <| lV (.bool (decide ((ac : Int) < (ab.length : Int)))) (r_lss (ac : Int) (ab.length : Int) rfl rfl) <| lN <| wS ?_
  refine wcondT (congrArg Value.bool hkb) ?_
  refine wK <| wS <| wB <| wS <| wR <| lM (.int .i64 (ac : Int)) ?_
  refine lV (sptr a1 (Int.toNat (ac : Int) * 1)) (r_idx Tryz.underlying33 Tryz.sizeOf3 rfl rfl (at?_some hat).1 (at?_some hat).2.1 (h1.addr hat)) ?_
  refine lV (.int .i64 aa) (r_ld Tryz.isAgg3 rfl (h1.atInt hat)) <| lA (.int .i64 (ac : Int)) <| lA (.int .i64 aa) <| lN <| wS <| wS ?_
  refine Wp.cut (fun f ao => ∃ (al : Col) (ap : Bool), m_radix_At_int_J1 ad ac af (m_radix_At_int_L1 ad au) aa ap = some r ∧ St w0 (col0 col) al ao ∧ Sl (Rep.int .i64) al ao a0 cap0 ad ∧ Sl (Rep.int .i64) al ao a1 cap1 ab ∧ f 0 = (.slice a0 ad.length cap0) ∧ f 10 = (.int .i64 aa) ∧ f 24 = (.slice a1 ab.length cap1) ∧ f 25 = (.int .i64 (ab.length : Int)) ∧ f 26 = (.int .i64 (ac : Int)) ∧ f 40 = (.bool ap) ∧ f 8 = (.int .i64 af) ∧ f 9 = (.int .i64 (ac : Int)) ∧ f 1000000 = (enc [])) ?_ ?_
  ·intro f ao hJ
   obtain ⟨al, ap, hm, hst, h0, h1, hs0, hs10, hs24, hs25, hs26, hs40, hs8, hs9, hs1000000⟩ := hJ
   rw [m_radix_At_int_J1.eq_1] at hm
   refine .lD 0 hs0 <| .lD 10 hs10 <| .lD 24 hs24 <| .lD 25 hs25 <| .lD 26 hs26 <| .lD 40 hs40 <| .lD 8 hs8 <| .lD 9 hs9 <| .lD 1000000 hs1000000 ?_
   clear hs0 hs10 hs24 hs25 hs26 hs40 hs8 hs9 hs1000000
   refine wcond (ap) rfl (fun hb => ?_) (fun hb => ?_)
   ·rw [if_pos hb] at hm
    clear hb
    cases hm
   rw [if_neg (by rw [hb]; decide)] at hm
   clear hb
   refine wK <| wR <| lM (.int .i64 af) <| lM (.slice a0 ad.length cap0) <| lM (.int .i64 (ac : Int)) ?_
   obtain ⟨ah, aq, hm⟩ := bS hm
   refine lV (sptr a0 (Int.toNat (ac : Int) * 1)) (r_idx Tryz.underlying33 Tryz.sizeOf3 rfl rfl (at?_some aq).1 (at?_some aq).2.1 (h0.addr aq)) ?_
   refine lV (.int .i64 ah) (r_ld Tryz.isAgg3 rfl (h0.atInt aq)) <| lV (.int .i64 (IntKind.i64.wrap (af * ah))) (r_mul af ah rfl rfl) <| lM (.int .i64 aa) <| lV (.int .i64 (IntKind.i64.wrap ((IntKind.i64.wrap (af * ah)) + aa))) (r_add (IntKind.i64.wrap (af * ah)) aa rfl rfl) <| lA (.int .i64 (IntKind.i64.wrap ((IntKind.i64.wrap (af * ah)) + aa))) <| lN <| wR <| lV (.int .i64 (IntKind.i64.wrap ((ac : Int) + 1))) (r_add (ac : Int) 1 rfl rfl) <| lM (.int .i64 (IntKind.i64.wrap ((ac : Int) + 1))) <| lN ?_
   exact ⟨au.length, by simp, ⟨al, (ac + 1), (IntKind.i64.wrap ((IntKind.i64.wrap (af * ah)) + aa)), au, rfl, hl2_L1, hm, hst, h0, h1, (congrArg (Value.int .i64) (wrap_succ (Nat.lt_of_lt_of_le hlt_L1 h1.1.1))), rfl, rfl, rfl, rfl, rfl⟩⟩
  refine wR <| lM (.int .i64 aa) <| lV (.bool (decide (aa < 0))) (r_lss aa 0 rfl rfl) <| lM (.bool (decide (aa < 0))) ?_
  by_cases ae : (decide (aa < 0)) = true
  ·rw [if_pos ae] at hm
   refine lp (b := decide (aa < 0)) 33 rfl rfl rfl rfl (by rw [ae]; rfl) ?_
   refine lp (b := decide (aa < 0)) 33 rfl rfl rfl rfl (by rw [ae]; rfl) ?_
   refine lp (b := decide (aa < 0)) 33 rfl rfl rfl rfl (by rw [ae]; rfl) ?_
   refine lp (b := decide (aa < 0)) 33 rfl rfl rfl rfl (by rw [ae]; rfl) ?_
   refine lp (b := decide (aa < 0)) 33 rfl rfl rfl rfl (by rw [ae]; rfl) ?_
   refine lp (b := decide (aa < 0)) 33 rfl rfl rfl rfl (by rw [ae]; rfl) ?_
   refine lV (.bool true) (r_pickT (congrArg Value.bool ae) rfl) <| lN ?_
   exact ⟨ai, true, hm, hst, h0, h1, rfl, rfl, rfl, rfl, rfl, rfl, rfl, rfl, rfl⟩
  rw [if_neg ae] at hm
  replace ae := Bool.eq_false_iff.2 ae
  refine lg (b := decide (aa < 0)) 33 rfl rfl rfl (by rw [ae]; rfl) ?_
  refine lM (.int .i64 aa) ?_
  refine lg (b := decide (aa < 0)) 33 rfl rfl rfl (by rw [ae]; rfl) ?_
  refine lM (.slice a0 ad.length cap0) ?_
  refine lg (b := decide (aa < 0)) 33 rfl rfl rfl (by rw [ae]; rfl) ?_
  refine lM (.int .i64 (ac : Int)) ?_
  refine lg (b := decide (aa < 0)) 33 rfl rfl rfl (by rw [ae]; rfl) ?_
  obtain ⟨am, ar, hm⟩ := bS hm
  refine lV (sptr a0 (Int.toNat (ac : Int) * 1)) (r_idx Tryz.underlying33 Tryz.sizeOf3 rfl rfl (at?_some ar).1 (at?_some ar).2.1 (h0.addr ar)) ?_
  refine lg (b := decide (aa < 0)) 33 rfl rfl rfl (by rw [ae]; rfl) ?_
  refine lV (.int .i64 am) (r_ld Tryz.isAgg3 rfl (h0.atInt ar)) ?_
  refine lg (b := decide (aa < 0)) 33 rfl rfl rfl (by rw [ae]; rfl) ?_
  refine lV (.bool (decide (am ≤ aa))) (r_geq aa am rfl rfl) <| lV (.bool (decide (am ≤ aa))) (r_pickF (congrArg Value.bool ae) rfl) <| lN ?_
  exact ⟨ai, (decide (am ≤ aa)), hm, hst, h0, h1, rfl, rfl, rfl, rfl, rfl, rfl, rfl, rfl, rfl⟩
theorem el3_17 : ElemOk Tryz.prog 3 1 8 := ⟨Tryz.t3, _, rfl, rfl, rfl, rfl, rfl⟩
theorem el40_17 : ElemOk Tryz.prog 40 3 56 := ⟨Tryz.t40, _, rfl, rfl, rfl, rfl, rfl⟩
def m_joint_Table_L4 (N : Nat) (ah : List Int) (ac : List Int) (ad : List ((Bool × (List Int)) × (List Int))) (kk_L3 : ((List Int) → (List Int) → (List ((Bool × (List Int)) × (List Int))) → Option (((List Int) × (List Int) × (List ((Bool × (List Int)) × (List Int)))) × Int))) (aa : (List Int) × ((Bool × (List Int)) × (List Int))) : List Int → (List Int) → Option (((List Int) × (List Int) × (List ((Bool × (List Int)) × (List Int)))) × Int)
  | [], ab => (m_radix_At_int ac ab).bind fun ai => (at? ad ai.1).bind fun ae => (m_frac_Add N ((ae.1.1, ae.1.2), ae.2) ((aa.2.1.1, aa.2.1.2), aa.2.2)).bind fun af => (some (ad.set (Int.toNat ai.1) ((af.1.1, af.1.2), af.2))).bind fun aj => kk_L3 ah ac aj
  | ak :: al, ab => (at? aa.1 ak).bind fun ag => chk ((ab.length + [ag].length) * 8 ≤ 140737488355328 ∧ ab.length + [ag].length ≤ maxLen) ((m_joint_Table_L4 N ah ac ad kk_L3 aa al) (ab ++ [ag]))
termination_by structural x => x
def m_joint_Table_L3 (N : Nat) (ad : (List (Int × Int))) : List ((List Int) × ((Bool × (List Int)) × (List Int))) → (List Int) → (List Int) → (List ((Bool × (List Int)) × (List Int))) → Option (((List Int) × (List Int) × (List ((Bool × (List Int)) × (List Int)))) × Int)
  | [], aa, ab, ac => some ((aa, ab, ac), 0)
  | ae :: af, aa, ab, ac => (m_joint_has ae.1 ad).bind fun ag => if (!ag) = true then ((m_joint_Table_L3 N ad af) aa ab ac) else (m_joint_Table_L4 N aa ab ac (m_joint_Table_L3 N ad af) ae aa ([] : List Int))
termination_by structural x => x
def m_joint_Table_L2 (N : Nat) (ab : (ByteArray × (List ByteArray) × (List (List ByteArray)) × (List (List Int)) × (List (List ((Bool × (List Int)) × (List Int)))))) (ad : (List (Int × Int))) (ae : (Int × Int)) : Nat → (List Int) → (List Int) → (List ((Bool × (List Int)) × (List Int))) → Int → Option (((List Int) × (List Int) × (List ((Bool × (List Int)) × (List Int)))) × Int)
  | 0, _, _, _, _ => none
  | ai + 1, af, ag, ac, ah => if (decide (ah < ae.1)) = true then ((m_frac_Sum N ([] : List ((Bool × (List Int)) × (List Int)))).bind fun aa => chk ((ac.length + [((aa.1.1, aa.1.2), aa.2)].length) * 56 ≤ 140737488355328 ∧ ac.length + [((aa.1.1, aa.1.2), aa.2)].length ≤ maxLen) ((m_joint_Table_L2 N ab ad ae ai) af ag (ac ++ [((aa.1.1, aa.1.2), aa.2)]) (IntKind.i64.wrap (ah + 1)))) else ((m_joint_All N (ab.1, ab.2.1, ab.2.2.1, ab.2.2.2.1, ab.2.2.2.2)).bind fun aj => m_joint_Table_L3 N ad aj af ag ac)
termination_by structural x => x
def m_joint_Table_L1 (N : Nat) (ae : (ByteArray × (List ByteArray) × (List (List ByteArray)) × (List (List Int)) × (List (List ((Bool × (List Int)) × (List Int)))))) (af : (List (Int × Int))) (ag : ((List Int) × Int)) (ah : (List Int)) : Nat → (List Int) → (List Int) → (List ((Bool × (List Int)) × (List Int))) → Int → Option (((List Int) × (List Int) × (List ((Bool × (List Int)) × (List Int)))) × Int)
  | 0, _, _, _, _ => none
  | aj + 1, ab, aa, ai, ac => if (decide (ac < (ah.length : Int))) = true then ((at? ab ac).bind fun ak => (at? ag.1 ak).bind fun ad => chk ((aa.length + [ad].length) * 8 ≤ 140737488355328 ∧ aa.length + [ad].length ≤ maxLen) ((m_joint_Table_L1 N ae af ag ah aj) ab (aa ++ [ad]) ai (IntKind.i64.wrap (ac + 1)))) else ((m_radix_Count_int aa).bind fun al => m_joint_Table_L2 N ae af al N ab aa ai 0)
termination_by structural x => x
def m_joint_Table (N : Nat) (aa : (ByteArray × (List ByteArray) × (List (List ByteArray)) × (List (List Int)) × (List (List ((Bool × (List Int)) × (List Int)))))) (ab : (List Int)) (ac : (List (Int × Int))) : Option (((List Int) × (List Int) × (List ((Bool × (List Int)) × (List Int)))) × Int) :=
  (m_joint_check N (aa.1, aa.2.1, aa.2.2.1, aa.2.2.2.1, aa.2.2.2.2) ac ab).bind fun ad => if (!decide (ad.2 = 0)) = true then none else ((m_slices_Values_int_int ab).bind fun af => (m_slices_Sorted_int af).bind fun ae => m_joint_Table_L1 N aa ac ad ae N ae ([] : List Int) ([] : List ((Bool × (List Int)) × (List Int))) 0)
theorem c_joint_Table (N : Nat) (c1 : Nat) (c2 : Nat) (c3 : Nat) (col : Col) (w0 : World) (bv : Option Addr) (bw : Nat) (bx : Option Addr) (bz : Nat) (b0 : Option Addr) (b1 : Nat) (b2 : Option Addr) (b3 : Nat) (ac : (ByteArray × (List ByteArray) × (List (List ByteArray)) × (List (List Int)) × (List (List ((Bool × (List Int)) × (List Int)))))) (a1 : Option Addr) (cap1 : Nat) (c7 : (List Int)) (a2 : Option Addr) (cap2 : Nat) (aq : (List (Int × Int))) (ae : Sl Rep.str col w0 bv bw ac.2.1) (af : Sl (Rep.slice Rep.str) col w0 bx bz ac.2.2.1) (ag : Sl (Rep.slice (Rep.int .i64)) col w0 b0 b1 ac.2.2.2.1) (ah : Sl (Rep.slice (Rep.pair (Rep.pair Rep.bool (Rep.slice (Rep.int .u32))) (Rep.slice (Rep.int .u32)))) col w0 b2 b3 ac.2.2.2.2) (h1 : Sl (Rep.int .i64) col w0 a1 cap1 c7) (h2 : Sl (Rep.pair (Rep.int .i64) (Rep.int .i64)) col w0 a2 cap2 aq) (r : (((List Int) × (List Int) × (List ((Bool × (List Int)) × (List Int)))) × Int)) (hm : m_joint_Table N ac c7 aq = some r) :
    Calls Tryz.prog 17 #[(.agg #[(.string ac.1), (.slice bv ac.2.1.length bw), (.slice bx ac.2.2.1.length bz), (.slice b0 ac.2.2.2.1.length b1), (.slice b2 ac.2.2.2.2.length b3)]), (.slice a1 c7.length cap1), (.slice a2 aq.length cap2)] w0 (fun e w' => ∃ (col' : Col) (ra1 : Option Addr) (rc2 : Nat) (ra4 : Option Addr) (rc5 : Nat) (ra7 : Option Addr) (rc8 : Nat), e = .returned (.tuple #[(.agg #[(.slice ra1 r.1.1.length rc2), (.slice ra4 r.1.2.1.length rc5), (.slice ra7 r.1.2.2.length rc8)]), (.int .i64 r.2)]) ∧ Grow col w0 col' w' ∧ Own (Rep.int .i64) 3 c1 col' w' ra1 rc2 r.1.1 ∧ Own (Rep.int .i64) 3 c2 col' w' ra4 rc5 r.1.2.1 ∧ Own (Rep.pair (Rep.pair Rep.bool (Rep.row 114 (Rep.int .u32))) (Rep.row 114 (Rep.int .u32))) 40 c3 col' w' ra7 rc8 r.1.2.2) := by
 refine calls_ofMR (m := 112) (args := [(.agg #[(.string ac.1), (.slice bv ac.2.1.length bw), (.slice bx ac.2.2.1.length bz), (.slice b0 ac.2.2.2.1.length b1), (.slice b2 ac.2.2.2.2.length b3)]), (.slice a1 c7.length cap1), (.slice a2 aq.length cap2)]) Tryz.func17 rfl rfl rfl ?_
 rw [m_joint_Table.eq_1] at hm
 have hst := St.start col w0
 replace ae := ae.keep (Stay.start col w0)
 replace af := af.keep (Stay.start col w0)
 replace ag := ag.keep (Stay.start col w0)
 replace ah := ah.keep (Stay.start col w0)
 replace h1 := h1.keep (Stay.start col w0)
 replace h2 := h2.keep (Stay.start col w0)
 have hmk : Marks 499 (col0 col) w0 [] := .nil
 refine wS <| wR ?_
 refine l_box (col := (col0 col)) (v := (.agg #[(.string ac.1), (.slice bv ac.2.1.length bw), (.slice bx ac.2.2.1.length bz), (.slice b0 ac.2.2.2.1.length b1), (.slice b2 ac.2.2.2.2.length b3)])) 1 rfl rfl ?_
 intro d8 ge fh c8 ai
 replace ai : Box 28 1 fh ge d8 #[(.string ac.1), (.slice bv ac.2.1.length bw), (.slice bx ac.2.2.1.length bz), (.slice b0 ac.2.2.2.1.length b1), (.slice b2 ac.2.2.2.2.length b3)] := ai
 refine l_box (col := fh) (v := (.slice a2 aq.length cap2)) 2 rfl rfl ?_
 intro c9 gf fi cx ab
 replace ab : Box 49 2 fi gf c9 #[(.slice a2 aq.length cap2)] := ab
 refine l_alloc (col := fi) (v := (.agg #[(.slice none (([] : List Int).length) 0), (.slice none (([] : List Int).length) 0), (.slice none (([] : List ((Bool × (List Int)) × (List Int))).length) 0)])) 3 rfl Tryz.zeroValue53 ?_
 intro cy gg fj cm ad
 replace ad : Box 53 3 fj gg cy #[(.slice none (([] : List Int).length) 0), (.slice none (([] : List Int).length) 0), (.slice none (([] : List ((Bool × (List Int)) × (List Int))).length) 0)] := ad
 refine lA (.int .i64 0) <| lN <| wS <| wR ?_
 replace ai := (ai.gr cx).gr cm
 refine lV (.agg #[(.string ac.1), (.slice bv ac.2.1.length bw), (.slice bx ac.2.2.1.length bz), (.slice b0 ac.2.2.2.1.length b1), (.slice b2 ac.2.2.2.2.length b3)]) (r_ldN Tryz.isAgg28 Tryz.sizeOf28 rfl rfl ai.atN) ?_
 replace ab := ab.gr cm
 refine lV (.slice a2 aq.length cap2) (r_ld Tryz.isAgg49 rfl ab.at1) <| lM (.slice a1 c7.length cap1) ?_
 obtain ⟨bj, gh, hm⟩ := bS hm
 replace ae := ((ae.gr c8).gr cx).gr cm
 replace af := ((af.gr c8).gr cx).gr cm
 replace ag := ((ag.gr c8).gr cx).gr cm
 replace ah := ((ah.gr c8).gr cx).gr cm
 replace h1 := ((h1.gr c8).gr cx).gr cm
 replace h2 := ((h2.gr c8).gr cx).gr cm
 refine lc rfl rfl (r_call3 Tryz.call44 rfl rfl rfl) (c_joint_check N 4 fj _ bv bw bx bz b0 b1 b2 b3 (ac.1, ac.2.1, ac.2.2.1, ac.2.2.2.1, ac.2.2.2.2) a2 cap2 aq a1 cap1 c7 ae af ag ah h2 h1 bj gh) ?_
 rintro _ ih ⟨gi, dd, dl, rfl, ch, bk⟩
 refine ⟨_, rfl, ?_⟩
 refine lM (.tuple #[(.slice dd bj.1.length dl), (.int .i64 bj.2)]) <| lV (.slice dd bj.1.length dl) (r_extract rfl rfl) <| lV (.int .i64 bj.2) (r_extract rfl rfl) <| lA (.slice dd bj.1.length dl) <| lA (.int .i64 bj.2) <| lN <| wS <| wS <| wR <| lM (.int .i64 bj.2) <| lV (.bool (!decide (bj.2 = 0))) (r_neq bj.2 0 rfl rfl) <| lN ?_
 replace hmk := (((hmk.gr c8).gr cx).gr cm).gr ch
 replace hst := (((hst.grow c8).grow cx).grow cm).grow ch
 replace h1 := h1.gr ch
 replace ae := ae.gr ch
 replace af := af.gr ch
 replace ag := ag.gr ch
 replace ah := ah.gr ch
 replace h2 := h2.gr ch
 replace ai := ai.gr ch
 replace ab := ab.gr ch
 replace ad := ad.gr ch
 refine wcond (!decide (bj.2 = 0)) rfl (fun hb => ?_) (fun hb => ?_)
 ·rw [if_pos hb] at hm
  clear hb
  cases hm
 rw [if_neg (by rw [hb]; decide)] at hm
 clear hb
 refine wK <| wS <| wR <| lM (.slice a1 c7.length cap1) ?_
 obtain ⟨fk, gj, hm⟩ := bS hm
 refine lc rfl rfl (r_call1 Tryz.call49 rfl) (c_slices_Values_int_int gi _ a1 cap1 c7 h1 fk gj) ?_
 rintro _ ii ⟨gk, gl, rfl, ci, gm⟩
 refine ⟨_, rfl, ?_⟩
 obtain ⟨b4, gn, hm⟩ := bS hm
 refine lc rfl rfl (r_call1 Tryz.call48 rfl) (c_slices_Sorted_int 5 gk _ gl fk gm b4 gn) ?_
 rintro _ ij ⟨go, dm, dn, rfl, cj, e1⟩
 refine ⟨_, rfl, ?_⟩
 refine lV (.agg #[(.slice dm b4.length dn), (.slice none (([] : List Int).length) 0), (.slice none (([] : List ((Bool × (List Int)) × (List Int))).length) 0)]) (r_build (l := [_, _, _]) (qs := [(0, 1), (1, 1), (2, 1)]) Tryz.underlying53 Tryz.zeroValue53 ⟨rfl, Tryz.sizeOf33, rfl, Tryz.sizeOf33, rfl, Tryz.sizeOf51, trivial⟩ rfl) ?_
 refine l_alloc (col := go) (v := (.agg #[(.slice none (([] : List Int).length) 0), (.slice none (([] : List Int).length) 0), (.slice none (([] : List ((Bool × (List Int)) × (List Int))).length) 0)])) 6 rfl Tryz.zeroValue53 ?_
 intro ar gp e2 cb ek
 replace ek : Box 53 6 e2 gp ar #[(.slice none (([] : List Int).length) 0), (.slice none (([] : List Int).length) 0), (.slice none (([] : List ((Bool × (List Int)) × (List Int))).length) 0)] := ek
 refine l_bstore (v := (.agg #[(.slice dm b4.length dn), (.slice none (([] : List Int).length) 0), (.slice none (([] : List ((Bool × (List Int)) × (List Int))).length) 0)])) ek Tryz.sizeOf53 rfl rfl (by intro u hu; simp only [Value.cells, List.mem_cons, List.not_mem_nil, or_false] at hu; rcases hu with rfl | rfl | rfl <;> rfl) rfl rfl ?_
 intro gq cc gs aa
 clear ek
 replace aa : Box 53 6 e2 gq ar #[(.slice dm b4.length dn), (.slice none (([] : List Int).length) 0), (.slice none (([] : List ((Bool × (List Int)) × (List Int))).length) 0)] := aa
 refine lN <| wS <| wS <| wR <| lV (.pointer ((some (⟨ar, 0, none⟩ : Addr)).map (·.add 0))) (rF (sz := 1) (off := 0) Tryz.underlying53 rfl Tryz.sizeOf33 (by decide) rfl rfl ⟨_, _, rfl⟩) <| lV (.slice dm b4.length dn) (r_ld Tryz.isAgg33 rfl ((aa.atN).nth (q := 0) (v := (.slice dm b4.length dn)) rfl)) <| lV (.int .i64 (b4.length : Int)) (r_len Tryz.underlying33 rfl) <| lM (.int .i64 0) <| lN <| wB ?_
 replace ae := (((ae.gr ci).gr cj).gr cb).kp cc
 replace af := (((af.gr ci).gr cj).gr cb).kp cc
 replace ag := (((ag.gr ci).gr cj).gr cb).kp cc
 replace ah := (((ah.gr ci).gr cj).gr cb).kp cc
 replace h2 := (((h2.gr ci).gr cj).gr cb).kp cc
 replace bk := (((bk.gr ci).gr cj).gr cb).kp cc
 replace ai := (((ai.gr ci).gr cj).gr cb).kp cc
 replace ab := (((ab.gr ci).gr cj).gr cb).kp cc
 replace ad := (((ad.gr ci).gr cj).gr cb).kp cc
 replace hmk := (((hmk.gr ci).gr cj).gr cb).kp cc
 replace hst := (((hst.grow ci).grow cj).grow cb).kp cc gs
 replace e1 := (e1.gr cb).kp cc
 refine wloop (fun n f a4 => ∃ (an : Col) (da : Option Addr) (de : Nat) (db : List Int) (cz : Option Addr) (c0 : Nat) (b5 : List Int) (dp : Option Addr) (dq : Nat) (df : List ((Bool × (List Int)) × (List Int))) (ck : Int) (dg : Nat), dg = n ∧ m_joint_Table_L1 N ac aq bj b4 dg db b5 df ck = some r ∧ St w0 (col0 col) an a4 ∧ Own (Rep.int .i64) 3 5 an a4 da de db ∧ Own (Rep.int .i64) 3 7 an a4 cz c0 b5 ∧ Own (Rep.pair (Rep.pair Rep.bool (Rep.row 114 (Rep.int .u32))) (Rep.row 114 (Rep.int .u32))) 40 8 an a4 dp dq df ∧ Box 53 6 an a4 ar #[(.slice da db.length de), (.slice cz b5.length c0), (.slice dp df.length dq)] ∧ Sl Rep.str an a4 bv bw ac.2.1 ∧ Sl (Rep.slice Rep.str) an a4 bx bz ac.2.2.1 ∧ Sl (Rep.slice (Rep.int .i64)) an a4 b0 b1 ac.2.2.2.1 ∧ Sl (Rep.slice (Rep.pair (Rep.pair Rep.bool (Rep.slice (Rep.int .u32))) (Rep.slice (Rep.int .u32)))) an a4 b2 b3 ac.2.2.2.2 ∧ Box 28 1 an a4 d8 #[(.string ac.1), (.slice bv ac.2.1.length bw), (.slice bx ac.2.2.1.length bz), (.slice b0 ac.2.2.2.1.length b1), (.slice b2 ac.2.2.2.2.length b3)] ∧ Sl (Rep.pair (Rep.int .i64) (Rep.int .i64)) an a4 a2 cap2 aq ∧ Box 49 2 an a4 c9 #[(.slice a2 aq.length cap2)] ∧ Box 53 3 an a4 cy #[(.slice none (([] : List Int).length) 0), (.slice none (([] : List Int).length) 0), (.slice none (([] : List ((Bool × (List Int)) × (List Int))).length) 0)] ∧ Own (Rep.int .i64) 3 4 an a4 dd dl bj.1 ∧ Marks 499 an a4 [] ∧ f 10 = (.pointer (some ⟨ar, 0, none⟩)) ∧ f 3 = (.pointer (some ⟨d8, 0, none⟩)) ∧ f 38 = (.slice da db.length de) ∧ f 39 = (.int .i64 (b4.length : Int)) ∧ f 40 = (.int .i64 ck) ∧ f 5 = (.pointer (some ⟨c9, 0, none⟩)) ∧ f 6 = (.pointer (some ⟨cy, 0, none⟩)) ∧ f 8 = (.slice dd bj.1.length dl) ∧ f 1000000 = (enc [])) N ⟨e2, dm, dn, b4, none, 0, ([] : List Int), none, 0, ([] : List ((Bool × (List Int)) × (List Int))), 0, N, rfl, hm, hst, e1, Own.nil, Own.nil, aa, ae, af, ag, ah, ai, h2, ab, ad, bk, hmk, rfl, rfl, rfl, rfl, rfl, rfl, rfl, rfl, rfl⟩ ?_
 clear hm; intro n f a4 hI
 obtain ⟨an, da, de, db, cz, c0, b5, dp, dq, df, ck, dg, hn, hm, hst, bo, cn, cd, aa, ae, af, ag, ah, ai, h2, ab, ad, bk, hmk, hs10, hs3, hs38, hs39, hs40, hs5, hs6, hs8, hs1000000⟩ := hI
 subst hn
 refine .lD 10 hs10 <| .lD 3 hs3 <| .lD 38 hs38 <| .lD 39 hs39 <| .lD 40 hs40 <| .lD 5 hs5 <| .lD 6 hs6 <| .lD 8 hs8 <| .lD 1000000 hs1000000 ?_
 clear hs10 hs3 hs38 hs39 hs40 hs5 hs6 hs8 hs1000000
 cases dg with
 | zero => rw [m_joint_Table_L1.eq_1] at hm; cases hm
 | succ dg =>
  rw [m_joint_Table_L1.eq_2] at hm
  refine wS <| wR <| lV (.bool (decide (ck < (b4.length : Int)))) (r_lss ck (b4.length : Int) rfl rfl) <| lN <| wS ?_
  refine wcond (decide (ck < (b4.length : Int))) rfl (fun hb => ?_) (fun hb => ?_)
  ·rw [if_pos hb] at hm
   clear hb
   refine wK <| wS <| wB <| wS <| wR ?_
   obtain ⟨el, em, hm⟩ := bS hm
   refine lV (sptr da (Int.toNat ck * 1)) (r_idx Tryz.underlying33 Tryz.sizeOf3 rfl rfl (at?_some em).1 (at?_some em).2.1 (bo.addr em)) ?_
   refine lV (.int .i64 el) (r_ld Tryz.isAgg3 rfl (bo.atInt em)) <| lA (.int .i64 el) <| lN ?_
   refine wmix (col := an) [(0, 1), (1, 0), (2, 1), (3, 1), (4, 1), (5, 0), (6, 3), (7, 2), (8, 1), (9, 2)] (by kernel_rfl) (by kernel_rfl) ?_
   refine xu (v := (.pointer ((some (⟨ar, 0, none⟩ : Addr)).map (·.add 1)))) rfl rfl (fun _ => rF (sz := 1) (off := 1) Tryz.underlying53 rfl Tryz.sizeOf33 (by decide) rfl rfl ⟨_, _, rfl⟩) ?_
   refine xv (v := (.slice cz b5.length c0)) rfl rfl (fun _ hC => r_ld Tryz.isAgg33 rfl (((aa.atN).nth (q := 1) (v := (.slice cz b5.length c0)) rfl).gr (Grow.of_below (col := an) hC.below))) ?_
   refine xu (v := (.slice dd bj.1.length dl)) rfl rfl (fun _ => r_move rfl) ?_
   refine xu (v := (.int .i64 el)) rfl rfl (fun _ => r_move rfl) ?_
   obtain ⟨c4, en, hm⟩ := bS hm
   refine xu (v := (sptr dd (Int.toNat el * 1))) rfl rfl (fun _ => r_idx Tryz.underlying33 Tryz.sizeOf3 rfl rfl (at?_some en).1 (at?_some en).2.1 (bk.addr en)) ?_
   refine xv (v := (.int .i64 c4)) rfl rfl (fun _ hC => r_ld Tryz.isAgg3 rfl ((bk.gr (Grow.of_below (col := an) hC.below)).atInt en)) ?_
   refine xe rfl rfl ?_
   intro gt hC0
   have hC : Grow an a4 an gt := .of_below hC0.below
   refine l_lit (col := an) (r := (Rep.int .i64)) (xs := [c4]) [(.int .i64 c4)] 9 rfl Tryz.underlying33 el3_17 rfl rfl rfl rfl rfl rfl (by intro v hv; simp only [List.mem_cons, List.not_mem_nil, or_false] at hv; subst hv; rfl) (RowsH.ofF (Rows.consF (r := (Rep.int .i64)) (x := c4) (cs := [(.int .i64 c4)]) (rd_int .i64 c4) Rows.nil0)) ?_
   intro ik fl d9 ba e3
   refine lN ⟨fun w' => Grow d9 fl d9 w', Grow.refl _ _, fun _ _ h => cls hC0 ba h, ?_⟩
   refine xe rfl rfl ?_
   intro fm hC0
   replace bo := (bo.gr hC).gr ba
   replace cn := (cn.gr hC).gr ba
   replace cd := (cd.gr hC).gr ba
   replace ae := (ae.gr hC).gr ba
   replace af := (af.gr hC).gr ba
   replace ag := (ag.gr hC).gr ba
   replace ah := (ah.gr hC).gr ba
   replace h2 := (h2.gr hC).gr ba
   replace bk := (bk.gr hC).gr ba
   replace aa := (aa.gr hC).gr ba
   replace ai := (ai.gr hC).gr ba
   replace ab := (ab.gr hC).gr ba
   replace ad := (ad.gr hC).gr ba
   replace hmk := (hmk.gr hC).gr ba
   replace hst := (hst.grow hC).grow ba
   have hC : Grow d9 fl d9 fm := .of_below hC0.below
   obtain ⟨fn, hm⟩ := cS hm
   replace cn := cn.gr hC
   replace e3 := e3.gr hC
   refine l_ext (col := d9) (w := fm) (r := (Rep.int .i64)) (c := 7) (c2 := 7) (cn.ex) (e3.srcN (NB.int (k := .i64))) rfl Tryz.underlying33 el3_17 rfl rfl rfl fn.1 fn.2 (by decide) ?_
   intro e4 e5 fo co bp eo
   clear cn
   refine lN ⟨fun w' => Grow co fo co w', Grow.refl _ _, fun h => absurd h (by decide), ?_⟩
   refine xu (v := (.pointer ((some (⟨ar, 0, none⟩ : Addr)).map (·.add 1)))) rfl rfl (fun _ => rF (sz := 1) (off := 1) Tryz.underlying53 rfl Tryz.sizeOf33 (by decide) rfl rfl ⟨_, _, rfl⟩) ?_
   refine xe rfl rfl ?_
   intro gu hC0
   replace bo := (bo.gr hC).kpp bp
   replace cd := (cd.gr hC).kpp bp
   replace ae := (ae.gr hC).kpp bp
   replace af := (af.gr hC).kpp bp
   replace ag := (ag.gr hC).kpp bp
   replace ah := (ah.gr hC).kpp bp
   replace h2 := (h2.gr hC).kpp bp
   replace bk := (bk.gr hC).kpp bp
   replace aa := (aa.gr hC).kpp bp
   replace ai := (ai.gr hC).kpp bp
   replace ab := (ab.gr hC).kpp bp
   replace ad := (ad.gr hC).kpp bp
   replace hmk := (hmk.gr hC).kpp bp
   replace hst := (hst.grow hC).kpp bp
   have hC : Grow co fo co gu := .of_below hC0.below
   replace aa := aa.gr hC
   refine l_bstoreF (off := 1) (v := (.slice e4 ((b5 ++ [c4]).length) e5)) aa Tryz.sizeOf33 rfl rfl (by intro u hu; simp only [Value.cells, List.mem_cons, List.not_mem_nil, or_false] at hu; subst hu; rfl) rfl rfl ?_
   intro e6 bq gv ea
   clear aa
   replace ea : Box 53 6 co e6 ar #[(.slice da db.length de), (.slice e4 ((b5 ++ [c4]).length) e5), (.slice dp df.length dq)] := ea
   refine lN ⟨fun w' => Grow co e6 co w', Grow.refl _ _, fun h => absurd h (by decide), ?_⟩
   replace eo := (eo.gr hC).kp bq
   have e7 := eo.new
   clear eo
   refine xnil ?_
   replace bo := (bo.gr hC).kp bq
   replace cd := (cd.gr hC).kp bq
   replace ae := (ae.gr hC).kp bq
   replace af := (af.gr hC).kp bq
   replace ag := (ag.gr hC).kp bq
   replace ah := (ah.gr hC).kp bq
   replace h2 := (h2.gr hC).kp bq
   replace bk := (bk.gr hC).kp bq
   replace ai := (ai.gr hC).kp bq
   replace ab := (ab.gr hC).kp bq
   replace ad := (ad.gr hC).kp bq
   replace hmk := (hmk.gr hC).kp bq
   replace hst := (hst.grow hC).kp bq gv
   intro gw hC
   replace hC : Grow co e6 co gw := .of_below hC.below
   refine wR <| lV (.int .i64 (IntKind.i64.wrap (ck + 1))) (r_add ck 1 rfl rfl) <| lM (.int .i64 (IntKind.i64.wrap (ck + 1))) <| lN ?_
   replace bo := bo.gr hC
   replace e7 := e7.gr hC
   replace cd := cd.gr hC
   replace ae := ae.gr hC
   replace af := af.gr hC
   replace ag := ag.gr hC
   replace ah := ah.gr hC
   replace h2 := h2.gr hC
   replace bk := bk.gr hC
   replace ea := ea.gr hC
   replace ai := ai.gr hC
   replace ab := ab.gr hC
   replace ad := ad.gr hC
   replace hmk := hmk.gr hC
   replace hst := hst.grow hC
   exact ⟨dg, by omega, ⟨co, da, de, db, e4, e5, (b5 ++ [c4]), dp, dq, df, (IntKind.i64.wrap (ck + 1)), dg, rfl, hm, hst, bo, e7, cd, ea, ae, af, ag, ah, ai, h2, ab, ad, bk, hmk, rfl, rfl, rfl, rfl, rfl, rfl, rfl, rfl, rfl⟩⟩
  rw [if_neg (by rw [hb]; decide)] at hm
  clear hb
  refine wexit (inB_hit ?_)
  refine wS <| wR <| lV (.pointer ((some (⟨ar, 0, none⟩ : Addr)).map (·.add 1))) (rF (sz := 1) (off := 1) Tryz.underlying53 rfl Tryz.sizeOf33 (by decide) rfl rfl ⟨_, _, rfl⟩) <| lV (.slice cz b5.length c0) (r_ld Tryz.isAgg33 rfl ((aa.atN).nth (q := 1) (v := (.slice cz b5.length c0)) rfl)) ?_
  obtain ⟨b6, gx, hm⟩ := bS hm
  refine lc rfl rfl (r_call1 Tryz.call50 rfl) (c_radix_Count_int (frC 7 an) _ cz c0 b5 (cn.toSlF (Froz.int .i64)) b6 gx) ?_
  rintro _ gy ⟨rfl, bb⟩
  refine ⟨_, rfl, ?_⟩
  replace bb : Grow an a4 an gy := .of_below bb
  refine lM (.tuple #[(.int .i64 b6.1), (.int .i64 b6.2)]) <| lV (.int .i64 b6.1) (r_extract rfl rfl) <| lV (.int .i64 b6.2) (r_extract rfl rfl) <| lA (.int .i64 b6.1) <| lA (.int .i64 b6.2) <| lN <| wS <| wS <| wR <| lM (.int .i64 b6.1) <| lM (.int .i64 0) <| lN <| wB ?_
  replace bo := bo.gr bb
  replace cn := cn.gr bb
  replace cd := cd.gr bb
  replace ae := ae.gr bb
  replace af := af.gr bb
  replace ag := ag.gr bb
  replace ah := ah.gr bb
  replace h2 := h2.gr bb
  replace aa := aa.gr bb
  replace ai := ai.gr bb
  replace ab := ab.gr bb
  replace ad := ad.gr bb
  replace hmk := hmk.gr bb
  replace hst := hst.grow bb
  refine wloop (fun n f bc => ∃ (au : Col) (dr : Option Addr) (ds : Nat) (dh : List Int) (dt : Option Addr) (du : Nat) (di : List Int) (dv : Option Addr) (dw : Nat) (cp : List ((Bool × (List Int)) × (List Int))) (cq : Int) (dj : Nat), dj = n ∧ m_joint_Table_L2 N ac aq b6 dj dh di cp cq = some r ∧ St w0 (col0 col) au bc ∧ Own (Rep.int .i64) 3 5 au bc dr ds dh ∧ Own (Rep.int .i64) 3 7 au bc dt du di ∧ Own (Rep.pair (Rep.pair Rep.bool (Rep.row 114 (Rep.int .u32))) (Rep.row 114 (Rep.int .u32))) 40 8 au bc dv dw cp ∧ Box 53 6 au bc ar #[(.slice dr dh.length ds), (.slice dt di.length du), (.slice dv cp.length dw)] ∧ Sl Rep.str au bc bv bw ac.2.1 ∧ Sl (Rep.slice Rep.str) au bc bx bz ac.2.2.1 ∧ Sl (Rep.slice (Rep.int .i64)) au bc b0 b1 ac.2.2.2.1 ∧ Sl (Rep.slice (Rep.pair (Rep.pair Rep.bool (Rep.slice (Rep.int .u32))) (Rep.slice (Rep.int .u32)))) au bc b2 b3 ac.2.2.2.2 ∧ Box 28 1 au bc d8 #[(.string ac.1), (.slice bv ac.2.1.length bw), (.slice bx ac.2.2.1.length bz), (.slice b0 ac.2.2.2.1.length b1), (.slice b2 ac.2.2.2.2.length b3)] ∧ Sl (Rep.pair (Rep.int .i64) (Rep.int .i64)) au bc a2 cap2 aq ∧ Box 49 2 au bc c9 #[(.slice a2 aq.length cap2)] ∧ Box 53 3 au bc cy #[(.slice none (([] : List Int).length) 0), (.slice none (([] : List Int).length) 0), (.slice none (([] : List ((Bool × (List Int)) × (List Int))).length) 0)] ∧ Marks 499 au bc [] ∧ f 10 = (.pointer (some ⟨ar, 0, none⟩)) ∧ f 3 = (.pointer (some ⟨d8, 0, none⟩)) ∧ f 5 = (.pointer (some ⟨c9, 0, none⟩)) ∧ f 6 = (.pointer (some ⟨cy, 0, none⟩)) ∧ f 60 = (.int .i64 b6.1) ∧ f 61 = (.int .i64 cq) ∧ f 1000000 = (enc [])) N ⟨an, da, de, db, cz, c0, b5, dp, dq, df, 0, N, rfl, hm, hst, bo, cn, cd, aa, ae, af, ag, ah, ai, h2, ab, ad, hmk, rfl, rfl, rfl, rfl, rfl, rfl, rfl⟩ ?_
  clear hm; intro n f bc hI
  obtain ⟨au, dr, ds, dh, dt, du, di, dv, dw, cp, cq, dj, hn, hm, hst, bd, be, b7, aa, ae, af, ag, ah, ai, h2, ab, ad, hmk, hs10, hs3, hs5, hs6, hs60, hs61, hs1000000⟩ := hI
  subst hn
  refine .lD 10 hs10 <| .lD 3 hs3 <| .lD 5 hs5 <| .lD 6 hs6 <| .lD 60 hs60 <| .lD 61 hs61 <| .lD 1000000 hs1000000 ?_
  clear hs10 hs3 hs5 hs6 hs60 hs61 hs1000000
  cases dj with
  | zero => rw [m_joint_Table_L2.eq_1] at hm; cases hm
  | succ dj =>
   rw [m_joint_Table_L2.eq_2] at hm
   refine wS <| wR <| lV (.bool (decide (cq < b6.1))) (r_lss cq b6.1 rfl rfl) <| lN <| wS ?_
   refine wcond (decide (cq < b6.1)) rfl (fun hb => ?_) (fun hb => ?_)
   ·rw [if_pos hb] at hm
    clear hb
    refine wK <| wS <| wB ?_
    refine wmix (col := au) [(0, 1), (1, 0), (2, 3), (3, 3), (4, 2), (5, 1), (6, 2)] (by kernel_rfl) (by kernel_rfl) ?_
    refine xu (v := (.pointer ((some (⟨ar, 0, none⟩ : Addr)).map (·.add 2)))) rfl rfl (fun _ => rF (sz := 1) (off := 2) Tryz.underlying53 rfl Tryz.sizeOf51 (by decide) rfl rfl ⟨_, _, rfl⟩) ?_
    refine xv (v := (.slice dv cp.length dw)) rfl rfl (fun _ hC => r_ld Tryz.isAgg51 rfl (((aa.atN).nth (q := 2) (v := (.slice dv cp.length dw)) rfl).gr (Grow.of_below (col := au) hC.below))) ?_
    refine xe rfl rfl ?_
    intro gz hC0
    have hC : Grow au bc au gz := .of_below hC0.below
    obtain ⟨aw, g0, hm⟩ := bS hm
    refine lc rfl rfl (r_call1 Tryz.call51 rfl) (c_frac_Sum N 10 11 au _ none 0 ([] : List ((Bool × (List Int)) × (List Int))) Sl.nil aw g0) ?_
    rintro _ fp ⟨eb, fq, fr, fs, ft, rfl, bl, e8, e9⟩
    refine ⟨_, rfl, ?_⟩
    refine lN ⟨fun w' => Grow eb fp eb w', Grow.refl _ _, fun _ _ h => cls hC0 bl h, ?_⟩
    refine xe rfl rfl ?_
    intro g1 hC0
    replace bd := (bd.gr hC).gr bl
    replace be := (be.gr hC).gr bl
    replace b7 := (b7.gr hC).gr bl
    replace ae := (ae.gr hC).gr bl
    replace af := (af.gr hC).gr bl
    replace ag := (ag.gr hC).gr bl
    replace ah := (ah.gr hC).gr bl
    replace h2 := (h2.gr hC).gr bl
    replace aa := (aa.gr hC).gr bl
    replace ai := (ai.gr hC).gr bl
    replace ab := (ab.gr hC).gr bl
    replace ad := (ad.gr hC).gr bl
    replace hmk := (hmk.gr hC).gr bl
    replace hst := (hst.grow hC).grow bl
    have hC : Grow eb fp eb g1 := .of_below hC0.below
    replace e8 := e8.gr hC
    replace e9 := e9.gr hC
    have g2 := Has.join (Has.joinL (rd_bool aw.1.1) e8.has) e9.has (by decide) (by decide)
    replace bd := bd.gr hC
    replace bd := bd.recol 11 10 (by decide)
    replace be := be.gr hC
    replace be := be.recol 11 10 (by decide)
    replace b7 := b7.gr hC
    replace b7 := b7.recol 11 10 (by decide)
    replace ae := ae.gr hC
    replace ae := ae.recol 11 10 (by decide)
    replace af := af.gr hC
    replace af := af.recol 11 10 (by decide)
    replace ag := ag.gr hC
    replace ag := ag.recol 11 10 (by decide)
    replace ah := ah.gr hC
    replace ah := ah.recol 11 10 (by decide)
    replace h2 := h2.gr hC
    replace h2 := h2.recol 11 10 (by decide)
    replace aa := aa.gr hC
    replace aa := aa.recol 11 10 (by decide)
    replace ai := ai.gr hC
    replace ai := ai.recol 11 10 (by decide)
    replace ab := ab.gr hC
    replace ab := ab.recol 11 10 (by decide)
    replace ad := ad.gr hC
    replace ad := ad.recol 11 10 (by decide)
    replace hmk := hmk.gr hC
    replace hmk := hmk.recol 11 10 (by decide)
    replace hst := hst.grow hC
    replace hst := hst.recol 11 10 (by decide) (by decide)
    refine l_lit (col := (rcC 11 10 eb)) (r := (Rep.pair (Rep.pair Rep.bool (Rep.row 114 (Rep.int .u32))) (Rep.row 114 (Rep.int .u32)))) (xs := [((aw.1.1, aw.1.2), aw.2)]) [(.agg #[(.bool aw.1.1), (.slice fq aw.1.2.length fr), (.slice fs aw.2.length ft)])] 10 rfl Tryz.underlying51 el40_17 rfl rfl rfl rfl rfl rfl (by intro v hv; simp only [List.mem_cons, List.not_mem_nil, or_false] at hv; subst hv; rfl) (RowsH.cons1 (cs := [(.bool aw.1.1), (.slice fq aw.1.2.length fr), (.slice fs aw.2.length ft)]) g2 Rows.nil0) ?_
    intro il fu ec bm ep
    refine lN ⟨fun w' => Grow ec fu ec w', Grow.refl _ _, fun _ _ h => cls hC0 bm h, ?_⟩
    refine xe rfl rfl ?_
    intro fv hC0
    have hC : Grow ec fu ec fv := .of_below hC0.below
    obtain ⟨fw, hm⟩ := cS hm
    replace b7 := (b7.gr bm).gr hC
    replace ep := ep.gr hC
    refine l_ext (col := ec) (w := fv) (r := (Rep.pair (Rep.pair Rep.bool (Rep.row 114 (Rep.int .u32))) (Rep.row 114 (Rep.int .u32)))) (c := 8) (c2 := 10) (b7.ex) (ep.srcC (by decide)) rfl Tryz.underlying51 el40_17 rfl rfl rfl fw.1 fw.2 (by decide) ?_
    intro fa fb fx cr b8 eq
    clear ep
    clear b7
    refine lN ⟨fun w' => Grow cr fx cr w', Grow.refl _ _, fun h => absurd h (by decide), ?_⟩
    refine xu (v := (.pointer ((some (⟨ar, 0, none⟩ : Addr)).map (·.add 2)))) rfl rfl (fun _ => rF (sz := 1) (off := 2) Tryz.underlying53 rfl Tryz.sizeOf51 (by decide) rfl rfl ⟨_, _, rfl⟩) ?_
    refine xe rfl rfl ?_
    intro g3 hC0
    replace bd := ((bd.gr bm).gr hC).kpp b8
    replace be := ((be.gr bm).gr hC).kpp b8
    replace ae := ((ae.gr bm).gr hC).kpp b8
    replace af := ((af.gr bm).gr hC).kpp b8
    replace ag := ((ag.gr bm).gr hC).kpp b8
    replace ah := ((ah.gr bm).gr hC).kpp b8
    replace h2 := ((h2.gr bm).gr hC).kpp b8
    replace aa := ((aa.gr bm).gr hC).kpp b8
    replace ai := ((ai.gr bm).gr hC).kpp b8
    replace ab := ((ab.gr bm).gr hC).kpp b8
    replace ad := ((ad.gr bm).gr hC).kpp b8
    replace hmk := ((hmk.gr bm).gr hC).kpp b8
    replace hst := ((hst.grow bm).grow hC).kpp b8
    have hC : Grow cr fx cr g3 := .of_below hC0.below
    replace aa := aa.gr hC
    refine l_bstoreF (off := 2) (v := (.slice fa ((cp ++ [((aw.1.1, aw.1.2), aw.2)]).length) fb)) aa Tryz.sizeOf51 rfl rfl (by intro u hu; simp only [Value.cells, List.mem_cons, List.not_mem_nil, or_false] at hu; subst hu; rfl) rfl rfl ?_
    intro fc b9 g4 ed
    clear aa
    replace ed : Box 53 6 cr fc ar #[(.slice dr dh.length ds), (.slice dt di.length du), (.slice fa ((cp ++ [((aw.1.1, aw.1.2), aw.2)]).length) fb)] := ed
    refine lN ⟨fun w' => Grow cr fc cr w', Grow.refl _ _, fun h => absurd h (by decide), ?_⟩
    replace eq := (eq.gr hC).kp b9
    have fd := eq.new
    clear eq
    refine xnil ?_
    replace bd := (bd.gr hC).kp b9
    replace be := (be.gr hC).kp b9
    replace ae := (ae.gr hC).kp b9
    replace af := (af.gr hC).kp b9
    replace ag := (ag.gr hC).kp b9
    replace ah := (ah.gr hC).kp b9
    replace h2 := (h2.gr hC).kp b9
    replace ai := (ai.gr hC).kp b9
    replace ab := (ab.gr hC).kp b9
    replace ad := (ad.gr hC).kp b9
    replace hmk := (hmk.gr hC).kp b9
    replace hst := (hst.grow hC).kp b9 g4
    intro g5 hC
    replace hC : Grow cr fc cr g5 := .of_below hC.below
    refine wR <| lV (.int .i64 (IntKind.i64.wrap (cq + 1))) (r_add cq 1 rfl rfl) <| lM (.int .i64 (IntKind.i64.wrap (cq + 1))) <| lN ?_
    replace bd := bd.gr hC
    replace be := be.gr hC
    replace fd := fd.gr hC
    replace ae := ae.gr hC
    replace af := af.gr hC
    replace ag := ag.gr hC
    replace ah := ah.gr hC
    replace h2 := h2.gr hC
    replace ed := ed.gr hC
    replace ai := ai.gr hC
    replace ab := ab.gr hC
    replace ad := ad.gr hC
    replace hmk := hmk.gr hC
    replace hst := hst.grow hC
    exact ⟨dj, by omega, ⟨cr, dr, ds, dh, dt, du, di, fa, fb, (cp ++ [((aw.1.1, aw.1.2), aw.2)]), (IntKind.i64.wrap (cq + 1)), dj, rfl, hm, hst, bd, be, fd, ed, ae, af, ag, ah, ai, h2, ab, ad, hmk, rfl, rfl, rfl, rfl, rfl, rfl, rfl⟩⟩
   rw [if_neg (by rw [hb]; decide)] at hm
   clear hb
   refine wexit (inB_hit ?_)
   refine wS <| wS <| wR <| lV (.agg #[(.string ac.1), (.slice bv ac.2.1.length bw), (.slice bx ac.2.2.1.length bz), (.slice b0 ac.2.2.2.1.length b1), (.slice b2 ac.2.2.2.2.length b3)]) (r_ldN Tryz.isAgg28 Tryz.sizeOf28 rfl rfl ai.atN) ?_
   obtain ⟨fy, g6, hm⟩ := bS hm
   refine lc rfl rfl (r_call1 Tryz.call52 rfl) (c_joint_All N 12 au _ bv bw bx bz b0 b1 b2 b3 (ac.1, ac.2.1, ac.2.2.1, ac.2.2.2.1, ac.2.2.2.2) ae af ag ah fy g6) ?_
   rintro _ im ⟨g7, io, rfl, c5, g8⟩
   refine ⟨_, rfl, ?_⟩
   refine lN <| wB ?_
   replace bd := bd.gr c5
   replace be := be.gr c5
   replace b7 := b7.gr c5
   replace h2 := h2.gr c5
   replace aa := aa.gr c5
   replace ab := ab.gr c5
   replace ad := ad.gr c5
   replace hmk := hmk.gr c5
   replace hst := hst.grow c5
   refine wrange (psl := [72, 73]) (arr := (fun (y : (List Int) × ((Bool × (List Int)) × (List Int))) (col : Col) (w : World) (args : List Value) => ∃ (a0 : Option Addr) (cap0 : Nat) (a1_0_1 : Option Addr) (c1_0_1 : Nat) (fz : Option Addr) (f0 : Nat), args = [.slice a0 y.1.length cap0, .agg #[(.bool y.2.1.1), (.slice a1_0_1 y.2.1.2.length c1_0_1), (.slice fz y.2.2.length f0)]] ∧ Own (Rep.int .i64) 3 12 col w a0 cap0 y.1 ∧ Sl (Rep.int .u32) col w a1_0_1 c1_0_1 y.2.1.2 ∧ Sl (Rep.int .u32) col w fz f0 y.2.2)) (ys := fy) (col := g7) 498 rfl g8 rfl hmk rfl rfl (by rintro _ _ _ _ ⟨_, _, _, _, _, _, rfl, _⟩; rfl) (fun ys_ bf ca => ∃ (ay : Option Addr) (a5 : Nat) (ak : List Int) (a6 : Option Addr) (a7 : Nat) (az : List Int) (av : Option Addr) (a3 : Nat) (ax : List ((Bool × (List Int)) × (List Int))), m_joint_Table_L3 N aq ys_ ak az ax = some r ∧ St w0 (col0 col) bf ca ∧ Own (Rep.int .i64) 3 5 bf ca ay a5 ak ∧ Own (Rep.int .i64) 3 7 bf ca a6 a7 az ∧ Own (Rep.pair (Rep.pair Rep.bool (Rep.row 114 (Rep.int .u32))) (Rep.row 114 (Rep.int .u32))) 40 8 bf ca av a3 ax ∧ Box 53 6 bf ca ar #[(.slice ay ak.length a5), (.slice a6 az.length a7), (.slice av ax.length a3)] ∧ Sl (Rep.pair (Rep.int .i64) (Rep.int .i64)) bf ca a2 cap2 aq ∧ Box 49 2 bf ca c9 #[(.slice a2 aq.length cap2)] ∧ Box 53 3 bf ca cy #[(.slice none (([] : List Int).length) 0), (.slice none (([] : List Int).length) 0), (.slice none (([] : List ((Bool × (List Int)) × (List Int))).length) 0)]) (fun _ _ _ => False) ?_ ?_ ⟨dr, ds, dh, dt, du, di, dv, dw, cp, hm, hst, bd, be, b7, aa, h2, ab, ad⟩ ?_ ?_ ?_
   ·intro ys_ bf ca col2_ w2_ hJ hk
    obtain ⟨ay, a5, ak, a6, a7, az, av, a3, ax, hm, hst, al, ao, am, aa, h2, ab, ad⟩ := hJ
    exact ⟨ay, a5, ak, a6, a7, az, av, a3, ax, hm, hst.kpp hk rfl rfl, al.kpp hk rfl rfl, ao.kpp hk rfl rfl, am.kpp hk rfl rfl, aa.kpp hk rfl, h2.kpp hk rfl, ab.kpp hk rfl, ad.kpp hk rfl⟩
   ·intro _ _ _ _ _ h _
    exact h
   ·intro g9 ip ha ap hc bf ca args hJ hrec hmk harr
    obtain ⟨ay, a5, ak, a6, a7, az, av, a3, ax, hm, hst, al, ao, am, aa, h2, ab, ad⟩ := hJ
    rw [m_joint_Table_L3.eq_2] at hm
    have hki := KeepP.refl (pC 2) bf ca
    obtain ⟨dk, dx, dy, dz, d0, d1, rfl, ce, ct, cu⟩ := harr
    refine wS <| wR <| lA (.slice dk ap.1.length dx) <| lN <| wR ?_
    refine l_alloc (col := bf) (v := (.agg #[(.bool false), (.slice none (([] : List Int).length) 0), (.slice none (([] : List Int).length) 0)])) 13 rfl Tryz.zeroValue40 ?_
    intro er hd d2 br es
    replace es : Box 40 13 d2 hd er #[(.bool false), (.slice none (([] : List Int).length) 0), (.slice none (([] : List Int).length) 0)] := es
    refine l_bstore (v := (.agg #[(.bool ap.2.1.1), (.slice dy ap.2.1.2.length dz), (.slice d0 ap.2.2.length d1)])) es Tryz.sizeOf40 rfl rfl (by intro u hu; simp only [Value.cells, List.mem_cons, List.not_mem_nil, or_false] at hu; rcases hu with rfl | rfl | rfl <;> rfl) rfl rfl ?_
    intro he bs f1 cf
    clear es
    replace cf : Box 40 13 d2 he er #[(.bool ap.2.1.1), (.slice dy ap.2.1.2.length dz), (.slice d0 ap.2.2.length d1)] := cf
    refine lN ?_
    replace hrec := (hrec.gr br).kp bs
    refine ⟨_, hrec, ?_⟩
    intro hf hg bt f2 hrec2
    clear hrec
    have hrec := hrec2
    clear hrec2
    refine wB <| wS <| wS <| wR <| lM (.slice dk ap.1.length dx) ?_
    replace ab := ((ab.gr br).kp bs).kp bt
    refine lV (.slice a2 aq.length cap2) (r_ld Tryz.isAgg49 rfl ab.at1) ?_
    obtain ⟨et, hh, hm⟩ := bS hm
    replace h2 := ((h2.gr br).kp bs).kp bt
    replace ce := ((ce.gr br).kp bs).kp bt
    refine lc rfl rfl (r_call2 Tryz.call53 rfl rfl) (c_joint_has (frC 12 d2) _ dk dx ap.1 a2 cap2 aq (ce.toSlF (Froz.int .i64)) (h2.froz 12) et hh) ?_
    rintro _ hi ⟨rfl, a9⟩
    refine ⟨_, rfl, ?_⟩
    replace a9 : Grow d2 hf d2 hi := .of_below a9
    refine lV (.bool (!et)) (r_not et rfl) <| lN ?_
    replace al := (((al.gr br).kp bs).kp bt).gr a9
    replace ao := (((ao.gr br).kp bs).kp bt).gr a9
    replace am := (((am.gr br).kp bs).kp bt).gr a9
    replace ct := (((ct.gr br).kp bs).kp bt).gr a9
    replace cu := (((cu.gr br).kp bs).kp bt).gr a9
    replace aa := (((aa.gr br).kp bs).kp bt).gr a9
    replace ad := (((ad.gr br).kp bs).kp bt).gr a9
    replace hmk := (((hmk.gr br).kp bs).kp bt).gr a9
    replace hki := (((hki.gr br).kp bs f1 rfl).kp bt f2 rfl).gr a9
    replace hst := (((hst.grow br).kp bs f1).kp bt f2).grow a9
    replace cf := (cf.kp bt).gr a9
    replace h2 := h2.gr a9
    replace ce := ce.gr a9
    replace ab := ab.gr a9
    replace hrec := hrec.gr a9
    refine wcond (!et) rfl (fun hb => ?_) (fun hb => ?_)
    ·rw [if_pos hb] at hm
     clear hb
     refine wexit (inB_hit ?_)
     exact ⟨_, hki, ⟨ay, a5, ak, a6, a7, az, av, a3, ax, hm, hst, al, ao, am, aa, h2, ab, ad⟩, hrec, hmk⟩
    rw [if_neg (by rw [hb]; decide)] at hm
    clear hb
    refine wK <| wS <| wR <| lA (.slice none (([] : List Int).length) 0) <| lN <| wS <| wS <| wR <| lV (.pointer ((some (⟨ar, 0, none⟩ : Addr)).map (·.add 0))) (rF (sz := 1) (off := 0) Tryz.underlying53 rfl Tryz.sizeOf33 (by decide) rfl rfl ⟨_, _, rfl⟩) <| lV (.slice ay ak.length a5) (r_ld Tryz.isAgg33 rfl ((aa.atN).nth (q := 0) (v := (.slice ay ak.length a5)) rfl)) <| lV (.int .i64 (ak.length : Int)) (r_len Tryz.underlying33 rfl) <| lM (.int .i64 0) <| lN <| wB ?_
    refine wloop (fun n f a8 => ∃ (aj : Col) (d3 : Option Addr) (d4 : Nat) (cv : List Int) (bu : Nat) (ee : List Int), n = ee.length ∧ ak.drop bu = ee ∧ m_joint_Table_L4 N ak az ax (m_joint_Table_L3 N aq hc) ap ee cv = some r ∧ St w0 (col0 col) aj a8 ∧ Own (Rep.int .i64) 3 5 aj a8 ay a5 ak ∧ Own (Rep.int .i64) 3 7 aj a8 a6 a7 az ∧ Own (Rep.pair (Rep.pair Rep.bool (Rep.row 114 (Rep.int .u32))) (Rep.row 114 (Rep.int .u32))) 40 8 aj a8 av a3 ax ∧ Box 53 6 aj a8 ar #[(.slice ay ak.length a5), (.slice a6 az.length a7), (.slice av ax.length a3)] ∧ Own (Rep.int .i64) 3 12 aj a8 dk dx ap.1 ∧ Sl (Rep.int .u32) aj a8 dy dz ap.2.1.2 ∧ Sl (Rep.int .u32) aj a8 d0 d1 ap.2.2 ∧ Box 40 13 aj a8 er #[(.bool ap.2.1.1), (.slice dy ap.2.1.2.length dz), (.slice d0 ap.2.2.length d1)] ∧ Own (Rep.int .i64) 3 14 aj a8 d3 d4 cv ∧ Sl (Rep.pair (Rep.int .i64) (Rep.int .i64)) aj a8 a2 cap2 aq ∧ Box 49 2 aj a8 c9 #[(.slice a2 aq.length cap2)] ∧ Box 53 3 aj a8 cy #[(.slice none (([] : List Int).length) 0), (.slice none (([] : List Int).length) 0), (.slice none (([] : List ((Bool × (List Int)) × (List Int))).length) 0)] ∧ Rec 498 aj a8 g9 hg ∧ Marks 499 aj a8 ha ∧ KeepP (pC 2) bf ca aj a8 ∧ f 81 = (.int .i64 (bu : Int)) ∧ f 10 = (.pointer (some ⟨ar, 0, none⟩)) ∧ f 15 = (.slice dk ap.1.length dx) ∧ f 16 = (.pointer (some ⟨er, 0, none⟩)) ∧ f 17 = (.slice d3 cv.length d4) ∧ f 5 = (.pointer (some ⟨c9, 0, none⟩)) ∧ f 6 = (.pointer (some ⟨cy, 0, none⟩)) ∧ f 79 = (.slice ay ak.length a5) ∧ f 80 = (.int .i64 (ak.length : Int)) ∧ f 1000000 = (enc [])) ak.length ⟨d2, none, 0, ([] : List Int), 0, ak, rfl, rfl, hm, hst, al, ao, am, aa, ce, ct, cu, cf, Own.nil, h2, ab, ad, hrec, hmk, hki, rfl, rfl, rfl, rfl, rfl, rfl, rfl, rfl, rfl, rfl⟩ ?_
    clear hm; intro n f a8 hI
    obtain ⟨aj, d3, d4, cv, bu, ee, hn, hl, hm, hst, al, ao, am, aa, ce, ct, cu, cf, ef, h2, ab, ad, hrec, hmk, hki, hs81, hs10, hs15, hs16, hs17, hs5, hs6, hs79, hs80, hs1000000⟩ := hI
    subst hn
    refine .lD 81 hs81 <| .lD 10 hs10 <| .lD 15 hs15 <| .lD 16 hs16 <| .lD 17 hs17 <| .lD 5 hs5 <| .lD 6 hs6 <| .lD 79 hs79 <| .lD 80 hs80 <| .lD 1000000 hs1000000 ?_
    clear hs81 hs10 hs15 hs16 hs17 hs5 hs6 hs79 hs80 hs1000000
    cases ee with
    | nil =>
     have hk : ¬ ((bu : Int) < (ak.length : Int)) := by have := List.drop_eq_nil_iff.1 hl; omega
     have hkb := decide_eq_false hk
     rw [m_joint_Table_L4.eq_1] at hm
     refine wS <| wR <| lV (.bool (decide ((bu : Int) < (ak.length : Int)))) (r_lss (bu : Int) (ak.length : Int) rfl rfl) <| lN <| wS ?_
     refine wcondF (congrArg Value.bool hkb) ?_
     refine wexit (inB_hit ?_)
     refine wS <| wR <| lV (.pointer ((some (⟨ar, 0, none⟩ : Addr)).map (·.add 1))) (rF (sz := 1) (off := 1) Tryz.underlying53 rfl Tryz.sizeOf33 (by decide) rfl rfl ⟨_, _, rfl⟩) <| lV (.slice a6 az.length a7) (r_ld Tryz.isAgg33 rfl ((aa.atN).nth (q := 1) (v := (.slice a6 az.length a7)) rfl)) <| lM (.slice d3 cv.length d4) ?_
     obtain ⟨cg, hj, hm⟩ := bS hm
     refine lc rfl rfl (r_call2 Tryz.call54 rfl rfl) (c_radix_At_int (frC 14 (frC 7 aj)) _ a6 a7 az d3 d4 cv ((ao.toSlF (Froz.int .i64)).froz 14) ((ef.froz 7 (by decide)).toSlF (Froz.int .i64)) cg hj) ?_
     rintro _ f3 ⟨rfl, bg⟩
     refine ⟨_, rfl, ?_⟩
     replace bg : Grow aj a8 aj f3 := .of_below bg
     refine lM (.tuple #[(.int .i64 cg.1), (.int .i64 cg.2)]) <| lV (.int .i64 cg.1) (r_extract rfl rfl) <| lV (.int .i64 cg.2) (r_extract rfl rfl) <| lA (.int .i64 cg.1) <| lA (.int .i64 cg.2) <| lN ?_
     refine wmix (col := aj) [(0, 1), (1, 0), (2, 1), (3, 1), (4, 0), (5, 1), (6, 1), (7, 0), (8, 0), (9, 3), (10, 1), (11, 2)] (by kernel_rfl) (by kernel_rfl) ?_
     refine xu (v := (.pointer ((some (⟨ar, 0, none⟩ : Addr)).map (·.add 2)))) rfl rfl (fun _ => rF (sz := 1) (off := 2) Tryz.underlying53 rfl Tryz.sizeOf51 (by decide) rfl rfl ⟨_, _, rfl⟩) ?_
     replace aa := aa.gr bg
     refine xv (v := (.slice av ax.length a3)) rfl rfl (fun _ hC => r_ld Tryz.isAgg51 rfl (((aa.atN).nth (q := 2) (v := (.slice av ax.length a3)) rfl).gr (Grow.of_below (col := aj) hC.below))) ?_
     refine xu (v := (.int .i64 cg.1)) rfl rfl (fun _ => r_move rfl) ?_
     refine xu (v := (.pointer ((some (⟨ar, 0, none⟩ : Addr)).map (·.add 2)))) rfl rfl (fun _ => rF (sz := 1) (off := 2) Tryz.underlying53 rfl Tryz.sizeOf51 (by decide) rfl rfl ⟨_, _, rfl⟩) ?_
     refine xv (v := (.slice av ax.length a3)) rfl rfl (fun _ hC => r_ld Tryz.isAgg51 rfl (((aa.atN).nth (q := 2) (v := (.slice av ax.length a3)) rfl).gr (Grow.of_below (col := aj) hC.below))) ?_
     refine xu (v := (.int .i64 cg.1)) rfl rfl (fun _ => r_move rfl) ?_
     obtain ⟨d5, dc, hm⟩ := bS hm
     replace am := am.gr bg
     refine xu (v := (sptr av (Int.toNat cg.1 * 3))) rfl rfl (fun _ => r_idx Tryz.underlying51 Tryz.sizeOf40 rfl rfl (at?_some dc).1 (at?_some dc).2.1 (am.addr dc)) ?_
     obtain ⟨_, ho, hp⟩ := am.atN dc
     obtain ⟨_, _, rfl, hq, hr⟩ := ho.parts
     obtain ⟨_, _, rfl, hs, ht⟩ := hq.parts
     obtain rfl := hs.bool
     obtain ⟨f4, f5, rfl, fe⟩ := ht.row
     obtain ⟨f6, f7, rfl, ff⟩ := hr.row
     refine xv (v := (.agg #[(.bool d5.1.1), (.slice f4 d5.1.2.length f5), (.slice f6 d5.2.length f7)])) rfl rfl (fun _ hC => r_ldN Tryz.isAgg40 Tryz.sizeOf40 rfl rfl (hp.gr (Grow.of_below (col := aj) hC.below))) ?_
     replace cf := cf.gr bg
     refine xv (v := (.agg #[(.bool ap.2.1.1), (.slice dy ap.2.1.2.length dz), (.slice d0 ap.2.2.length d1)])) rfl rfl (fun _ hC => r_ldN Tryz.isAgg40 Tryz.sizeOf40 rfl rfl (cf.atN.gr (Grow.of_below (col := aj) hC.below))) ?_
     refine xe rfl rfl ?_
     intro f8 hC0
     have hC : Grow aj f3 aj f8 := .of_below hC0.below
     obtain ⟨cl, hw, hm⟩ := bS hm
     replace ct := (ct.gr bg).gr hC
     replace cu := (cu.gr bg).gr hC
     replace fe := fe.gr hC
     replace ff := ff.gr hC
     refine lc rfl rfl (r_call2 Tryz.call27 rfl rfl) (c_frac_Add N 15 16 (frC 8 aj) _ f4 f5 f6 f7 ((d5.1.1, d5.1.2), d5.2) dy dz d0 d1 ((ap.2.1.1, ap.2.1.2), ap.2.2) (fe.toSlF (Froz.int .u32)) (ff.toSlF (Froz.int .u32)) (ct.froz 8) (cu.froz 8) cl hw) ?_
     rintro _ f9 ⟨hx, hy, hz, h0, h3, rfl, bh, d6, d7⟩
     refine ⟨_, rfl, ?_⟩
     replace d6 := d6.thaw (flat_int .u32) bh ((Fz.refl (col := aj)).froz 8) (by decide)
     replace d7 := d7.thaw (flat_int .u32) bh ((Fz.refl (col := aj)).froz 8) (by decide)
     replace bh := bh.thawR (col := aj)
     generalize colR f8.heap.size aj hx = eu at *
     refine lN ⟨fun w' => Grow eu f9 eu w', Grow.refl _ _, fun _ _ h => cls hC0 bh h, ?_⟩
     replace am := (am.gr hC).gr bh
     refine xu (v := (sptr av (Int.toNat cg.1 * 3))) rfl rfl (fun _ => r_idx Tryz.underlying51 Tryz.sizeOf40 rfl rfl (at?_some dc).1 (at?_some dc).2.1 (am.addr dc)) ?_
     refine xe rfl rfl ?_
     intro h4 hC0
     replace al := ((al.gr bg).gr hC).gr bh
     replace ao := ((ao.gr bg).gr hC).gr bh
     replace h2 := ((h2.gr bg).gr hC).gr bh
     replace ab := ((ab.gr bg).gr hC).gr bh
     replace ad := ((ad.gr bg).gr hC).gr bh
     replace hrec := ((hrec.gr bg).gr hC).gr bh
     replace hmk := ((hmk.gr bg).gr hC).gr bh
     replace hki := ((hki.gr bg).gr hC).gr bh
     replace hst := ((hst.grow bg).grow hC).grow bh
     replace aa := (aa.gr hC).gr bh
     have hC : Grow eu f9 eu h4 := .of_below hC0.below
     replace d6 := d6.gr hC
     replace d7 := d7.gr hC
     have h5 := Has.join (Has.joinL (rd_bool cl.1.1) d6.has) d7.has (by decide) (by decide)
     replace al := al.gr hC
     replace al := al.recol 16 15 (by decide)
     replace ao := ao.gr hC
     replace ao := ao.recol 16 15 (by decide)
     replace am := am.gr hC
     replace am := am.recol 16 15 (by decide)
     replace h2 := h2.gr hC
     replace h2 := h2.recol 16 15 (by decide)
     replace aa := aa.gr hC
     replace aa := aa.recol 16 15 (by decide)
     replace ab := ab.gr hC
     replace ab := ab.recol 16 15 (by decide)
     replace ad := ad.gr hC
     replace ad := ad.recol 16 15 (by decide)
     replace hrec := hrec.gr hC
     replace hrec := hrec.recol 16 15 (by decide)
     replace hmk := hmk.gr hC
     replace hmk := hmk.recol 16 15 (by decide)
     replace hki := hki.gr hC
     replace hki := hki.recol 16 15 rfl
     replace hst := hst.grow hC
     replace hst := hst.recol 16 15 (by decide) (by decide)
     obtain ⟨ev, ew, hm⟩ := bS hm
     have ew : ev = ax.set (Int.toNat cg.1) ((cl.1.1, cl.1.2), cl.2) := (Option.some.inj ew).symm
     refine l_storeM (x1 := ((cl.1.1, cl.1.2), cl.2)) (v := (.agg #[(.bool cl.1.1), (.slice hy cl.1.2.length hz), (.slice h0 cl.2.length h3)])) am dc rfl Tryz.sizeOf40 h5 rfl rfl (by decide) ?_
     intro fg eg cw ey
     rw [← ew] at ey
     clear d6
     clear d7
     replace al := al.kpp cw
     replace ao := ao.kpp cw
     replace h2 := h2.kpp cw
     replace aa := aa.kpp cw
     replace ab := ab.kpp cw
     replace ad := ad.kpp cw
     replace hrec := hrec.kpp cw
     replace hmk := hmk.kpp cw
     replace hki := hki.trans (cw.mono (by first | exact pCo_p2 rfl | exact pCo_p1 rfl | exact pCo_pS rfl | exact fun _ => pC_21 | exact fun _ h => h | exact fun _ _ => rfl))
     replace aa : Box 53 6 eg fg ar #[(.slice ay ak.length a5), (.slice a6 az.length a7), (.slice av ev.length a3)] := by rw [← (show ax.length = ev.length by rw [ew, List.length_set])]; exact aa
     clear am
     refine lN ⟨fun w' => Grow eg fg eg w', Grow.refl _ _, fun h => absurd h (by decide), ?_⟩
     refine xnil ?_
     intro h6 hC
     replace hC : Grow eg fg eg h6 := .of_below hC.below
     replace hst := (hst.kpp cw).grow hC
     replace al := al.gr hC
     replace ao := ao.gr hC
     replace ey := ey.gr hC
     replace h2 := h2.gr hC
     replace aa := aa.gr hC
     replace ab := ab.gr hC
     replace ad := ad.gr hC
     replace hrec := hrec.gr hC
     replace hmk := hmk.gr hC
     replace hki := hki.gr hC
     exact ⟨_, hki, ⟨ay, a5, ak, a6, a7, az, av, a3, ev, hm, hst, al, ao, ey, aa, h2, ab, ad⟩, hrec, hmk⟩
    | cons ez ga =>
     obtain ⟨hat, hl2_L4, hlt_L4⟩ := drop_get hl
     have hk : (bu : Int) < (ak.length : Int) := by omega
     have hkb := decide_eq_true hk
     rw [m_joint_Table_L4.eq_2] at hm
     refine wS <| wR <| lV (.bool (decide ((bu : Int) < (ak.length : Int)))) (r_lss (bu : Int) (ak.length : Int) rfl rfl) <| lN <| wS ?_
     refine wcondT (congrArg Value.bool hkb) ?_
     refine wK <| wS <| wB <| wS <| wR ?_
     refine lV (sptr ay (Int.toNat (bu : Int) * 1)) (r_idx Tryz.underlying33 Tryz.sizeOf3 rfl rfl (at?_some hat).1 (at?_some hat).2.1 (al.addr hat)) ?_
     refine lV (.int .i64 ez) (r_ld Tryz.isAgg3 rfl (al.atInt hat)) <| lA (.int .i64 ez) <| lN <| wR <| lM (.slice d3 cv.length d4) <| lM (.slice dk ap.1.length dx) <| lM (.int .i64 ez) ?_
     obtain ⟨c6, e0, hm⟩ := bS hm
     refine lV (sptr dk (Int.toNat ez * 1)) (r_idx Tryz.underlying33 Tryz.sizeOf3 rfl rfl (at?_some e0).1 (at?_some e0).2.1 (ce.addr e0)) ?_
     refine lV (.int .i64 c6) (r_ld Tryz.isAgg3 rfl (ce.atInt e0)) ?_
     refine l_lit (col := aj) (r := (Rep.int .i64)) (xs := [c6]) [(.int .i64 c6)] 17 rfl Tryz.underlying33 el3_17 rfl rfl rfl rfl rfl rfl (by intro v hv; simp only [List.mem_cons, List.not_mem_nil, or_false] at hv; subst hv; rfl) (RowsH.ofF (Rows.consF (r := (Rep.int .i64)) (x := c6) (cs := [(.int .i64 c6)]) (rd_int .i64 c6) Rows.nil0)) ?_
     intro iq h7 h8 bi h9
     obtain ⟨gb, hm⟩ := cS hm
     replace ef := ef.gr bi
     refine l_appendM (col := h8) (w := h7) (r := (Rep.int .i64)) (c := 14) (c2 := 14) (xs := cv) (ys := [c6]) ef (h9.srcN (NB.int (k := .i64))) rfl Tryz.underlying33 el3_17 rfl rfl rfl gb.1 gb.2 (by decide) ?_
     intro gc gd ir ia bn ib
     replace al := (al.gr bi).kpp bn
     replace ao := (ao.gr bi).kpp bn
     replace am := (am.gr bi).kpp bn
     replace ce := (ce.gr bi).kpp bn
     replace ct := (ct.gr bi).kpp bn
     replace cu := (cu.gr bi).kpp bn
     replace h2 := (h2.gr bi).kpp bn
     replace aa := (aa.gr bi).kpp bn
     replace cf := (cf.gr bi).kpp bn
     replace ab := (ab.gr bi).kpp bn
     replace ad := (ad.gr bi).kpp bn
     replace hrec := (hrec.gr bi).kpp bn
     replace hmk := (hmk.gr bi).kpp bn
     replace hki := hki.gr bi
     replace hki := hki.trans (bn.mono (by first | exact pCo_p2 rfl | exact pCo_p1 rfl | exact pCo_pS rfl | exact fun _ => pC_21 | exact fun _ h => h | exact fun _ _ => rfl))
     clear ef
     refine lA (.slice gc ((cv ++ [c6]).length) gd) <| lN <| wR <| lV (.int .i64 (IntKind.i64.wrap ((bu : Int) + 1))) (r_add (bu : Int) 1 rfl rfl) <| lM (.int .i64 (IntKind.i64.wrap ((bu : Int) + 1))) <| lN ?_
     replace hst := (hst.grow bi).kpp bn
     exact ⟨ga.length, by simp, ⟨ia, gc, gd, (cv ++ [c6]), (bu + 1), ga, rfl, hl2_L4, hm, hst, al, ao, am, aa, ce, ct, cu, cf, ib, h2, ab, ad, hrec, hmk, hki, (congrArg (Value.int .i64) (wrap_succ (Nat.lt_of_lt_of_le hlt_L4 al.len))), rfl, rfl, rfl, rfl, rfl, rfl, rfl, rfl, rfl⟩⟩
   ·clear hmk
    intro ic bf ca hJ hmk
    obtain ⟨ay, a5, ak, a6, a7, az, av, a3, ax, hm, hst, al, ao, am, aa, h2, ab, ad⟩ := hJ
    rw [m_joint_Table_L3.eq_1] at hm
    refine wS <| wR <| lV (.agg #[(.slice ay ak.length a5), (.slice a6 az.length a7), (.slice av ax.length a3)]) (r_ldN Tryz.isAgg53 Tryz.sizeOf53 rfl rfl aa.atN) ?_
    refine l_bstore (v := (.agg #[(.slice ay ak.length a5), (.slice a6 az.length a7), (.slice av ax.length a3)])) ad Tryz.sizeOf53 rfl rfl (by intro u hu; simp only [Value.cells, List.mem_cons, List.not_mem_nil, or_false] at hu; rcases hu with rfl | rfl | rfl <;> rfl) rfl rfl ?_
    intro id eh ie ei
    clear ad
    replace ei : Box 53 3 bf id cy #[(.slice ay ak.length a5), (.slice a6 az.length a7), (.slice av ax.length a3)] := ei
    refine lA (.int .i64 0) <| lN ?_
    refine wret ?_
    cases hm
    replace hmk := hmk.kp eh
    refine ⟨_, (ic :: []), rfl, hmk, ?_⟩
    intro it ej ig
    clear hmk
    replace al := (al.kp eh).kp ej
    replace ao := (ao.kp eh).kp ej
    replace am := (am.kp eh).kp ej
    replace hst := (hst.kp eh ie).kp ej ig
    replace ei := ei.kp ej
    exact ⟨_, res_at rfl rfl Tryz.isAgg53 Tryz.sizeOf53 rfl rfl ei.atN rfl rfl, colF w0.heap.size col bf (fun n => bif Nat.beq n 5 then c1 else bif Nat.beq n 7 then c2 else bif Nat.beq n 8 then c3 else 0), ay, a5, a6, a7, av, a3, rfl, hst.fin (fun n => bif Nat.beq n 5 then c1 else bif Nat.beq n 7 then c2 else bif Nat.beq n 8 then c3 else 0), hst.finOwn (g := (fun n => bif Nat.beq n 5 then c1 else bif Nat.beq n 7 then c2 else bif Nat.beq n 8 then c3 else 0)) rfl al (by decide) (by decide) rfl, hst.finOwn (g := (fun n => bif Nat.beq n 5 then c1 else bif Nat.beq n 7 then c2 else bif Nat.beq n 8 then c3 else 0)) rfl ao (by decide) (by decide) rfl, hst.finOwn (g := (fun n => bif Nat.beq n 5 then c1 else bif Nat.beq n 7 then c2 else bif Nat.beq n 8 then c3 else 0)) rfl am (by decide) (by decide) rfl⟩
   intro _ _ _ _ h
   exact h.elim
def m_nat_trim_v0h_J1 (aa : List Int) (kk_L1 : ((List Int) → Option (List Int))) (ab : Bool) : Option (List Int) :=
  if ab = true then (chk ((0 : Int) ≤ (IntKind.i64.wrap ((aa.length : Int) - 1)) ∧ (IntKind.i64.wrap ((aa.length : Int) - 1)) ≤ (aa.length : Int)) (kk_L1 (aa.take (Int.toNat (IntKind.i64.wrap ((aa.length : Int) - 1)))))) else (some aa)
def m_nat_trim_v0h_L1 (N : Nat)  : Nat → (List Int) → Option (List Int)
  | 0, _ => none
  | ab + 1, aa => if (decide (0 < (aa.length : Int))) = true then ((at? aa (IntKind.i64.wrap ((aa.length : Int) - 1))).bind fun ac => m_nat_trim_v0h_J1 aa (m_nat_trim_v0h_L1 N ab) (decide (ac = 0))) else (m_nat_trim_v0h_J1 aa (m_nat_trim_v0h_L1 N ab) false)
termination_by structural x => x
def m_nat_trim_v0h (N : Nat) (aa : (List Int)) : Option (List Int) :=
  m_nat_trim_v0h_L1 N N aa
theorem c_nat_trim_v0h (N : Nat) (col : Col) (w0 : World) (qc0 : Nat) (hd : dstB [qc0] = true) (a0 : Option Addr) (cap0 : Nat) (ag : (List Int)) (h0 : Own (Rep.int .u32) 114 qc0 col w0 a0 cap0 ag) (r : (List Int)) (hm : m_nat_trim_v0h N ag = some r) :
    Calls Tryz.prog 88 #[(.slice a0 ag.length cap0)] w0 (fun e w' => ∃ (col' : Col) (ra1 : Option Addr) (rc2 : Nat), e = .returned ((.slice ra1 r.length rc2)) ∧ KeepP (pS [qc0]) col w0 col' w' ∧ Own (Rep.int .u32) 114 qc0 col' w' ra1 rc2 r) := by
 refine calls_of1 2 (m := 21) (args := [(.slice a0 ag.length cap0)]) Tryz.func88 rfl rfl rfl rfl rfl ?_
 rw [m_nat_trim_v0h.eq_1] at hm
 have hst := St.startL (l := [qc0]) rfl col w0
 replace h0 := h0.startL (dst_nz hd 0 rfl) (dst_ix hd 0 rfl)
 refine wS <| wR <| lA (.slice none (([] : List Int).length) 0) <| lN <| wS <| wB ?_
 refine wloop (fun n f am => ∃ (ah : Col) (ac : Option Addr) (ad : Nat) (aa : List Int) (ae : Nat), ae = n ∧ m_nat_trim_v0h_L1 N ae aa = some r ∧ St w0 (colL [qc0] col) ah am ∧ Own (Rep.int .u32) 114 440 ah am ac ad aa ∧ f 0 = (.slice ac aa.length ad) ∧ f 1000000 = (enc [])) N ⟨(colL [qc0] col), a0, cap0, ag, N, rfl, hm, hst, h0, rfl, rfl⟩ ?_
 clear hm; intro n f am hI
 obtain ⟨ah, ac, ad, aa, ae, hn, hm, hst, af, hs0, hs1000000⟩ := hI
 subst hn
 refine .lD 0 hs0 <| .lD 1000000 hs1000000 ?_
 clear hs0 hs1000000
 cases ae with
 | zero => rw [m_nat_trim_v0h_L1.eq_1] at hm; cases hm
 | succ ae =>
  rw [m_nat_trim_v0h_L1.eq_2] at hm
  refine wS <| wS ?_
  refine Wp.cut (fun f an => ∃ (ai : Col) (ak : Bool), m_nat_trim_v0h_J1 aa (m_nat_trim_v0h_L1 N ae) ak = some r ∧ St w0 (colL [qc0] col) ai an ∧ Own (Rep.int .u32) 114 440 ai an ac ad aa ∧ f 0 = (.slice ac aa.length ad) ∧ f 14 = (.bool ak) ∧ f 1000000 = (enc [])) ?_ ?_
  ·intro f an hJ
   obtain ⟨ai, ak, hm, hst, af, hs0, hs14, hs1000000⟩ := hJ
   rw [m_nat_trim_v0h_J1.eq_1] at hm
   refine .lD 0 hs0 <| .lD 14 hs14 <| .lD 1000000 hs1000000 ?_
   clear hs0 hs14 hs1000000
   refine wcond (ak) rfl (fun hb => ?_) (fun hb => ?_)
   ·rw [if_pos hb] at hm
    clear hb
    refine wK <| wB <| wR <| lM (.slice ac aa.length ad) <| lM (.slice ac aa.length ad) <| lV (.int .i64 (aa.length : Int)) (r_len Tryz.underlying36 rfl) <| lV (.int .i64 (IntKind.i64.wrap ((aa.length : Int) - 1))) (r_sub (aa.length : Int) 1 rfl rfl) ?_
    obtain ⟨ao, hm⟩ := cS hm
    refine lv (v := .slice ac (Int.toNat (IntKind.i64.wrap ((aa.length : Int) - 1))) ad) rfl rfl (r_sliceH Tryz.underlying36 Tryz.sizeOf114 rfl rfl ao.1 (by have := af.lecap; have := ao.2; omega)) ?_
    refine .ld (d := 19) (v := (.slice ac ((aa.take (Int.toNat (IntKind.i64.wrap ((aa.length : Int) - 1)))).length) ad)) (congrArg (fun n => Value.slice ac n ad) (List.length_take_of_le (show (Int.toNat (IntKind.i64.wrap ((aa.length : Int) - 1))) ≤ aa.length by have := ao.2; omega)).symm) ?_
    refine lA (.slice ac ((aa.take (Int.toNat (IntKind.i64.wrap ((aa.length : Int) - 1)))).length) ad) <| lN ?_
    exact ⟨ae, by omega, ⟨ai, ac, ad, (aa.take (Int.toNat (IntKind.i64.wrap ((aa.length : Int) - 1)))), ae, rfl, hm, hst, (af.take (Int.toNat (IntKind.i64.wrap ((aa.length : Int) - 1)))), rfl, rfl⟩⟩
   rw [if_neg (by rw [hb]; decide)] at hm
   clear hb
   refine wexit (inB_hit ?_)
   refine wS <| wR <| lM (.slice ac aa.length ad) <| lA (.slice ac aa.length ad) <| lN ?_
   refine wret ?_
   cases hm
   exact ⟨rfl, colFL w0.heap.size [qc0] col ai (fun n => bif Nat.beq n 440 then qc0 else 0), ac, ad, rfl, hst.finL rfl (fun n => bif Nat.beq n 440 then qc0 else 0), hst.finOwnL (g := (fun n => bif Nat.beq n 440 then qc0 else 0)) rfl af (by decide) (by decide) rfl⟩
  refine wR <| lM (.slice ac aa.length ad) <| lV (.int .i64 (aa.length : Int)) (r_len Tryz.underlying36 rfl) <| lV (.bool (decide (0 < (aa.length : Int)))) (r_gtr (aa.length : Int) 0 rfl rfl) <| lM (.bool (decide (0 < (aa.length : Int)))) ?_
  by_cases ab : (decide (0 < (aa.length : Int))) = true
  ·rw [if_pos ab] at hm
   refine lg (b := decide (0 < (aa.length : Int))) 6 rfl rfl rfl (by rw [ab]; rfl) ?_
   refine lM (.slice ac aa.length ad) ?_
   refine lg (b := decide (0 < (aa.length : Int))) 6 rfl rfl rfl (by rw [ab]; rfl) ?_
   refine lM (.slice ac aa.length ad) ?_
   refine lg (b := decide (0 < (aa.length : Int))) 6 rfl rfl rfl (by rw [ab]; rfl) ?_
   refine lV (.int .i64 (aa.length : Int)) (r_len Tryz.underlying36 rfl) ?_
   refine lg (b := decide (0 < (aa.length : Int))) 6 rfl rfl rfl (by rw [ab]; rfl) ?_
   refine lV (.int .i64 (IntKind.i64.wrap ((aa.length : Int) - 1))) (r_sub (aa.length : Int) 1 rfl rfl) ?_
   refine lg (b := decide (0 < (aa.length : Int))) 6 rfl rfl rfl (by rw [ab]; rfl) ?_
   obtain ⟨aj, al, hm⟩ := bS hm
   refine lV (sptr ac (Int.toNat (IntKind.i64.wrap ((aa.length : Int) - 1)) * 1)) (r_idx Tryz.underlying36 Tryz.sizeOf114 rfl rfl (at?_some al).1 (at?_some al).2.1 (af.addr al)) ?_
   refine lg (b := decide (0 < (aa.length : Int))) 6 rfl rfl rfl (by rw [ab]; rfl) ?_
   refine lV (.int .u32 aj) (r_ld Tryz.isAgg114 rfl (af.atInt al)) ?_
   refine lg (b := decide (0 < (aa.length : Int))) 6 rfl rfl rfl (by rw [ab]; rfl) ?_
   refine lV (.bool (decide (aj = 0))) (r_eql aj 0 rfl rfl) <| lV (.bool (decide (aj = 0))) (r_pickT (congrArg Value.bool ab) rfl) <| lN ?_
   exact ⟨ah, (decide (aj = 0)), hm, hst, af, rfl, rfl, rfl⟩
  rw [if_neg ab] at hm
  replace ab := Bool.eq_false_iff.2 ab
  refine lp (b := decide (0 < (aa.length : Int))) 6 rfl rfl rfl rfl (by rw [ab]; rfl) ?_
  refine lp (b := decide (0 < (aa.length : Int))) 6 rfl rfl rfl rfl (by rw [ab]; rfl) ?_
  refine lp (b := decide (0 < (aa.length : Int))) 6 rfl rfl rfl rfl (by rw [ab]; rfl) ?_
  refine lp (b := decide (0 < (aa.length : Int))) 6 rfl rfl rfl rfl (by rw [ab]; rfl) ?_
  refine lp (b := decide (0 < (aa.length : Int))) 6 rfl rfl rfl rfl (by rw [ab]; rfl) ?_
  refine lp (b := decide (0 < (aa.length : Int))) 6 rfl rfl rfl rfl (by rw [ab]; rfl) ?_
  refine lp (b := decide (0 < (aa.length : Int))) 6 rfl rfl rfl rfl (by rw [ab]; rfl) ?_
  refine lV (.bool false) (r_pickF (congrArg Value.bool ab) rfl) <| lN ?_
  exact ⟨ah, false, hm, hst, af, rfl, rfl, rfl⟩
def m_slices_Reverse_byte_byte_L1 (N : Nat)  : Nat → (List Int) → Int → Int → Option (List Int)
  | 0, _, _, _ => none
  | ae + 1, ab, ac, aa => if (decide (ac < aa)) = true then ((at? ab aa).bind fun af => (at? ab ac).bind fun ag => (some (ab.set (Int.toNat ac) af)).bind fun ad => (at? ad aa).bind fun ai => (some (ad.set (Int.toNat aa) ag)).bind fun ah => (m_slices_Reverse_byte_byte_L1 N ae) ah (IntKind.i64.wrap (ac + 1)) (IntKind.i64.wrap (aa - 1))) else (some ab)
termination_by structural x => x
def m_slices_Reverse_byte_byte (N : Nat) (aa : (List Int)) : Option (List Int) :=
  m_slices_Reverse_byte_byte_L1 N N aa 0 (IntKind.i64.wrap ((aa.length : Int) - 1))
theorem c_slices_Reverse_byte_byte (N : Nat) (col : Col) (w0 : World) (qc0 : Nat) (hd : dstB [qc0] = true) (a0 : Option Addr) (cap0 : Nat) (ad : (List Int)) (h0 : Own (Rep.int .u8) 5 qc0 col w0 a0 cap0 ad) (r : (List Int)) (hm : m_slices_Reverse_byte_byte N ad = some r) :
    Calls Tryz.prog 108 #[(.slice a0 ad.length cap0)] w0 (fun e w' => ∃ (col' : Col), e = .returned (.tuple #[]) ∧ KeepP (pS [qc0]) col w0 col' w' ∧ Own (Rep.int .u8) 5 qc0 col' w' a0 cap0 r ∧ r.length = ad.length) := by
 refine calls_of0  (m := 28) (args := [(.slice a0 ad.length cap0)]) Tryz.func108 rfl rfl rfl rfl ?_
 rw [m_slices_Reverse_byte_byte.eq_1] at hm
 have hst := St.startL (l := [qc0]) rfl col w0
 replace h0 := h0.startL (dst_nz hd 0 rfl) (dst_ix hd 0 rfl)
 refine wS <| wR <| lM (.slice a0 ad.length cap0) <| lV (.int .i64 (ad.length : Int)) (r_len Tryz.underlying150 rfl) <| lV (.int .i64 (IntKind.i64.wrap ((ad.length : Int) - 1))) (r_sub (ad.length : Int) 1 rfl rfl) <| lA (.int .i64 0) <| lA (.int .i64 (IntKind.i64.wrap ((ad.length : Int) - 1))) <| lN <| wB ?_
 refine wloop (fun n f ap => ∃ (aa : Col) (ae : List Int) (ab : Int) (ac : Int) (ai : Nat), ai = n ∧ m_slices_Reverse_byte_byte_L1 N ai ae ab ac = some r ∧ St w0 (colL [qc0] col) aa ap ∧ Own (Rep.int .u8) 5 440 aa ap a0 cap0 ae ∧ ae.length = ad.length ∧ ae.length = ad.length ∧ f 0 = (.slice a0 ae.length cap0) ∧ f 2 = (.int .i64 ab) ∧ f 3 = (.int .i64 ac) ∧ f 1000000 = (enc [])) N ⟨(colL [qc0] col), ad, 0, (IntKind.i64.wrap ((ad.length : Int) - 1)), N, rfl, hm, hst, h0, rfl, rfl, rfl, rfl, rfl, rfl⟩ ?_
 clear hm; intro n f ap hI
 obtain ⟨aa, ae, ab, ac, ai, hn, hm, hst, af, ay, az, hs0, hs2, hs3, hs1000000⟩ := hI
 subst hn
 refine .lD 0 hs0 <| .lD 2 hs2 <| .lD 3 hs3 <| .lD 1000000 hs1000000 ?_
 clear hs0 hs2 hs3 hs1000000
 cases ai with
 | zero => rw [m_slices_Reverse_byte_byte_L1.eq_1] at hm; cases hm
 | succ ai =>
  rw [m_slices_Reverse_byte_byte_L1.eq_2] at hm
  refine wS <| wS <| wR <| lM (.int .i64 ab) <| lM (.int .i64 ac) <| lV (.bool (decide (ab < ac))) (r_lss ab ac rfl rfl) <| lN ?_
  refine wcond (decide (ab < ac)) rfl (fun hb => ?_) (fun hb => ?_)
  ·rw [if_pos hb] at hm
   clear hb
   refine wK <| wS <| wB ?_
   refine wmix (col := aa) [(0, 1), (1, 1), (2, 1), (3, 1), (4, 1), (5, 1), (6, 1), (7, 0), (8, 1), (9, 1), (10, 1), (11, 0), (12, 1), (13, 2), (14, 1), (15, 2)] (by kernel_rfl) (by kernel_rfl) ?_
   refine xu (v := (.slice a0 ae.length cap0)) rfl rfl (fun _ => r_move rfl) ?_
   refine xu (v := (.int .i64 ab)) rfl rfl (fun _ => r_move rfl) ?_
   refine xu (v := (.slice a0 ae.length cap0)) rfl rfl (fun _ => r_move rfl) ?_
   refine xu (v := (.int .i64 ac)) rfl rfl (fun _ => r_move rfl) ?_
   refine xu (v := (.slice a0 ae.length cap0)) rfl rfl (fun _ => r_move rfl) ?_
   refine xu (v := (.int .i64 ac)) rfl rfl (fun _ => r_move rfl) ?_
   obtain ⟨am, aq, hm⟩ := bS hm
   refine xu (v := (sptr a0 (Int.toNat ac * 1))) rfl rfl (fun _ => r_idx Tryz.underlying150 Tryz.sizeOf5 rfl rfl (at?_some aq).1 (at?_some aq).2.1 (af.addr aq)) ?_
   refine xv (v := (.int .u8 am)) rfl rfl (fun _ hC => r_ld Tryz.isAgg5 rfl ((af.gr (Grow.of_below (col := aa) hC.below)).atInt aq)) ?_
   refine xu (v := (.slice a0 ae.length cap0)) rfl rfl (fun _ => r_move rfl) ?_
   refine xu (v := (.int .i64 ab)) rfl rfl (fun _ => r_move rfl) ?_
   obtain ⟨an, ah, hm⟩ := bS hm
   refine xu (v := (sptr a0 (Int.toNat ab * 1))) rfl rfl (fun _ => r_idx Tryz.underlying150 Tryz.sizeOf5 rfl rfl (at?_some ah).1 (at?_some ah).2.1 (af.addr ah)) ?_
   refine xv (v := (.int .u8 an)) rfl rfl (fun _ hC => r_ld Tryz.isAgg5 rfl ((af.gr (Grow.of_below (col := aa) hC.below)).atInt ah)) ?_
   refine xu (v := (sptr a0 (Int.toNat ab * 1))) rfl rfl (fun _ => r_idx Tryz.underlying150 Tryz.sizeOf5 rfl rfl (at?_some ah).1 (at?_some ah).2.1 (af.addr ah)) ?_
   refine xe rfl rfl ?_
   intro a1 hC0
   have hC : Grow aa ap aa a1 := .of_below hC0.below
   obtain ⟨ag, aj, hm⟩ := bS hm
   have aj : ag = ae.set (Int.toNat ab) am := (Option.some.inj aj).symm
   replace af := af.gr hC
   refine l_store (x1 := am) (v := (.int .u8 am)) af ah rfl Tryz.sizeOf5 (rd_int .u8 am) rfl rfl (by decide) ?_
   intro av a2 a3 ak
   rw [← aj] at ak
   have a4 : ag.length = ad.length := (show ae.length = ag.length by rw [aj, List.length_set]).symm.trans ay
   refine .ld (d := 0) (v := (.slice a0 ag.length cap0)) (congrArg (fun n => Value.slice a0 n cap0) (show ae.length = ag.length by rw [aj, List.length_set])) ?_
   refine .ld (d := 16) (v := (.slice a0 ag.length cap0)) (congrArg (fun n => Value.slice a0 n cap0) (show ae.length = ag.length by rw [aj, List.length_set])) ?_
   clear af
   refine lN ⟨fun w' => Grow aa av aa w', Grow.refl _ _, fun h => absurd h (by decide), ?_⟩
   obtain ⟨a9, ar, hm⟩ := bS hm
   refine xu (v := (sptr a0 (Int.toNat ac * 1))) rfl rfl (fun _ => r_idx Tryz.underlying150 Tryz.sizeOf5 rfl rfl (at?_some ar).1 (at?_some ar).2.1 (ak.addr ar)) ?_
   refine xe rfl rfl ?_
   intro a5 hC0
   replace hst := (hst.grow hC).kp a2 a3
   have hC : Grow aa av aa a5 := .of_below hC0.below
   obtain ⟨al, ao, hm⟩ := bS hm
   have ao : al = ag.set (Int.toNat ac) an := (Option.some.inj ao).symm
   replace ak := ak.gr hC
   refine l_store (x1 := an) (v := (.int .u8 an)) ak ar rfl Tryz.sizeOf5 (rd_int .u8 an) rfl rfl (by decide) ?_
   intro aw a6 a7 au
   rw [← ao] at au
   have ax : al.length = ad.length := (show ag.length = al.length by rw [ao, List.length_set]).symm.trans a4
   refine .ld (d := 0) (v := (.slice a0 al.length cap0)) (congrArg (fun n => Value.slice a0 n cap0) (show ag.length = al.length by rw [ao, List.length_set])) ?_
   clear ak
   refine lN ⟨fun w' => Grow aa aw aa w', Grow.refl _ _, fun h => absurd h (by decide), ?_⟩
   refine xnil ?_
   replace hst := (hst.grow hC).kp a6 a7
   intro a8 hC
   replace hC : Grow aa aw aa a8 := .of_below hC.below
   refine wR <| lM (.int .i64 ab) <| lV (.int .i64 (IntKind.i64.wrap (ab + 1))) (r_add ab 1 rfl rfl) <| lM (.int .i64 ac) <| lV (.int .i64 (IntKind.i64.wrap (ac - 1))) (r_sub ac 1 rfl rfl) <| lA (.int .i64 (IntKind.i64.wrap (ab + 1))) <| lA (.int .i64 (IntKind.i64.wrap (ac - 1))) <| lN ?_
   replace au := au.gr hC
   replace hst := hst.grow hC
   exact ⟨ai, by omega, ⟨aa, al, (IntKind.i64.wrap (ab + 1)), (IntKind.i64.wrap (ac - 1)), ai, rfl, hm, hst, au, ax, ax, rfl, rfl, rfl, rfl⟩⟩
  rw [if_neg (by rw [hb]; decide)] at hm
  clear hb
  refine wexit (inB_hit ?_)
  cases hm
  exact ⟨rfl, colFL w0.heap.size [qc0] col aa (fun n => bif Nat.beq n 440 then qc0 else 0), rfl, hst.finL rfl (fun n => bif Nat.beq n 440 then qc0 else 0), hst.finOwnL (g := (fun n => bif Nat.beq n 440 then qc0 else 0)) rfl af (by decide) (by decide) rfl, az⟩
theorem el5_60 : ElemOk Tryz.prog 5 1 1 := ⟨Tryz.t5, _, rfl, rfl, rfl, rfl, rfl⟩
def m_nat_Text_J1 (ab : List Int) (aa : Int) (ac : Int) (kk_L2 : ((List Int) → Int → Int → Option ByteArray)) : Option ByteArray :=
  chk ((ab.length + [IntKind.u8.wrap (48 + (IntKind.u8.wrap (Int.tmod aa 10)))].length) * 1 ≤ 140737488355328 ∧ ab.length + [IntKind.u8.wrap (48 + (IntKind.u8.wrap (Int.tmod aa 10)))].length ≤ maxLen) (kk_L2 (ab ++ [IntKind.u8.wrap (48 + (IntKind.u8.wrap (Int.tmod aa 10)))]) (IntKind.u32.wrap (Int.tdiv aa 10)) (IntKind.i64.wrap (ac + 1)))
def m_nat_Text_J2 (kk_L1 : ((List Int) → (List Int) → Option ByteArray)) (ab : (List Int)) (aa : List Int) (ac : Int) (ad : Int) (kk_L2 : ((List Int) → Int → Int → Option ByteArray)) (ae : Bool) : Option ByteArray :=
  if ae = true then (m_nat_Text_J1 aa ac ad kk_L2) else (kk_L1 ab aa)
def m_nat_Text_L2 (N : Nat) (kk_L1 : ((List Int) → (List Int) → Option ByteArray)) (aa : (List Int)) : Nat → (List Int) → Int → Int → Option ByteArray
  | 0, _, _, _ => none
  | ad + 1, ae, ab, ac => if (decide (ac < 9)) = true then (if (decide (0 < (aa.length : Int))) = true then (m_nat_Text_J2 kk_L1 aa ae ab ac (m_nat_Text_L2 N kk_L1 aa ad) true) else (m_nat_Text_J2 kk_L1 aa ae ab ac (m_nat_Text_L2 N kk_L1 aa ad) (decide (0 < ab)))) else (m_nat_Text_J2 kk_L1 aa ae ab ac (m_nat_Text_L2 N kk_L1 aa ad) false)
termination_by structural x => x
def m_nat_Text_L1 (N : Nat)  : Nat → (List Int) → (List Int) → Option ByteArray
  | 0, _, _ => none
  | ad + 1, aa, ab => if (decide (0 < (aa.length : Int))) = true then ((m_nat_small N aa 1000000000).bind fun ac => (m_nat_trim_v0h N ac.2).bind fun ae => m_nat_Text_L2 N (m_nat_Text_L1 N ad) ae N ab ac.1 0) else ((m_slices_Reverse_byte_byte N ab).bind fun af => some (bstr af))
termination_by structural x => x
def m_nat_Text (N : Nat) (ab : (List Int)) : Option ByteArray :=
  (m_nat_own N ab).bind fun aa => if (decide ((aa.length : Int) = 0)) = true then none else (m_nat_Text_L1 N N aa ([] : List Int))
theorem c_nat_Text (N : Nat) (col : Col) (w0 : World) (a0 : Option Addr) (cap0 : Nat) (a1 : (List Int)) (h0 : Sl (Rep.int .u32) col w0 a0 cap0 a1) (r : ByteArray) (hm : m_nat_Text N a1 = some r) :
    Calls Tryz.prog 60 #[(.slice a0 a1.length cap0)] w0 (fun e w' => e = .returned ((.string r)) ∧ Below w0.heap.size w0 w') := by
 refine calls_of1 2 (m := 45) (args := [(.slice a0 a1.length cap0)]) Tryz.func60 rfl rfl rfl rfl rfl ?_
 rw [m_nat_Text.eq_1] at hm
 have hst := St.start col w0
 refine wS <| wR <| lA (.string (⟨#[]⟩)) <| lN <| wS <| wR <| lM (.slice a0 a1.length cap0) ?_
 obtain ⟨ax, bo, hm⟩ := bS hm
 replace h0 := h0.keep (Stay.start col w0)
 refine lc rfl rfl (r_call1 Tryz.call89 rfl) (c_nat_own N 1 (col0 col) _ a0 cap0 a1 h0 ax bo) ?_
 rintro _ b5 ⟨bp, bb, bc, rfl, bq, br⟩
 refine ⟨_, rfl, ?_⟩
 refine lA (.slice bb ax.length bc) <| lN <| wS <| wS <| wR <| lM (.slice bb ax.length bc) <| lV (.int .i64 (ax.length : Int)) (r_len Tryz.underlying36 rfl) <| lV (.bool (decide ((ax.length : Int) = 0))) (r_eql (ax.length : Int) 0 rfl rfl) <| lN ?_
 replace hst := hst.grow bq
 refine wcond (decide ((ax.length : Int) = 0)) rfl (fun hb => ?_) (fun hb => ?_)
 ·rw [if_pos hb] at hm
  clear hb
  cases hm
 rw [if_neg (by rw [hb]; decide)] at hm
 clear hb
 refine wK <| wS <| wR <| lA (.slice none (([] : List Int).length) 0) <| lN <| wS <| wB ?_
 refine wloop (fun n f a6 => ∃ (a2 : Col) (ag : Option Addr) (ah : Nat) (af : List Int) (aj : Option Addr) (ak : Nat) (ao : List Int) (al : Nat), al = n ∧ m_nat_Text_L1 N al af ao = some r ∧ St w0 (col0 col) a2 a6 ∧ Own (Rep.int .u32) 114 1 a2 a6 ag ah af ∧ Own (Rep.int .u8) 5 2 a2 a6 aj ak ao ∧ f 3 = (.slice ag af.length ah) ∧ f 4 = (.slice aj ao.length ak) ∧ f 1000000 = (enc [])) N ⟨bp, bb, bc, ax, none, 0, ([] : List Int), N, rfl, hm, hst, br, Own.nil, rfl, rfl, rfl⟩ ?_
 clear hm; intro n f a6 hI
 obtain ⟨a2, ag, ah, af, aj, ak, ao, al, hn, hm, hst, be, a4, hs3, hs4, hs1000000⟩ := hI
 subst hn
 refine .lD 3 hs3 <| .lD 4 hs4 <| .lD 1000000 hs1000000 ?_
 clear hs3 hs4 hs1000000
 cases al with
 | zero => rw [m_nat_Text_L1.eq_1] at hm; cases hm
 | succ al =>
  rw [m_nat_Text_L1.eq_2] at hm
  refine wS <| wS <| wR <| lM (.slice ag af.length ah) <| lV (.int .i64 (af.length : Int)) (r_len Tryz.underlying36 rfl) <| lV (.bool (decide (0 < (af.length : Int)))) (r_gtr (af.length : Int) 0 rfl rfl) <| lN ?_
  refine wcond (decide (0 < (af.length : Int))) rfl (fun hb => ?_) (fun hb => ?_)
  ·rw [if_pos hb] at hm
   clear hb
   refine wK <| wB <| wS <| wR <| lM (.slice ag af.length ah) ?_
   obtain ⟨ap, bs, hm⟩ := bS hm
   refine lc rfl rfl (r_call2 Tryz.call107 rfl rfl) (c_nat_small N a2 _ 1 rfl ag ah af 1000000000 be ap bs) ?_
   rintro _ b6 ⟨bt, rfl, bf, bg, bh⟩
   refine ⟨_, rfl, ?_⟩
   clear be
   refine .ld (d := 3) (v := (.slice ag ap.2.length ah)) (congrArg (fun n => Value.slice ag n ah) (show af.length = ap.2.length from bh.symm)) ?_
   refine .ld (d := 15) (v := (.slice ag ap.2.length ah)) (congrArg (fun n => Value.slice ag n ah) (show af.length = ap.2.length from bh.symm)) ?_
   refine lA (.int .u32 ap.1) <| lN <| wS <| wR <| lM (.slice ag ap.2.length ah) ?_
   obtain ⟨ac, bu, hm⟩ := bS hm
   refine lc rfl rfl (r_call1 Tryz.call88 rfl) (c_nat_trim_v0h N bt _ 1 rfl ag ah ap.2 bg ac bu) ?_
   rintro _ b7 ⟨bv, aq, ar, rfl, bi, ai⟩
   refine ⟨_, rfl, ?_⟩
   clear bg
   refine lA (.slice aq ac.length ar) <| lN <| wS <| wR <| lA (.int .i64 0) <| lN <| wB ?_
   replace a4 := (a4.kpp bf).kpp bi
   replace hst := (hst.kpp bf).kpp bi
   refine wloop (fun n f a7 => ∃ (az : Col) (au : Option Addr) (av : Nat) (ae : List Int) (aa : Int) (ab : Int) (aw : Nat), aw = n ∧ m_nat_Text_L2 N (m_nat_Text_L1 N al) ac aw ae aa ab = some r ∧ St w0 (col0 col) az a7 ∧ Own (Rep.int .u32) 114 1 az a7 aq ar ac ∧ Own (Rep.int .u8) 5 2 az a7 au av ae ∧ f 3 = (.slice aq ac.length ar) ∧ f 4 = (.slice au ae.length av) ∧ f 5 = (.int .u32 aa) ∧ f 6 = (.int .i64 ab) ∧ f 1000000 = (enc [])) N ⟨bv, aj, ak, ao, ap.1, 0, N, rfl, hm, hst, ai, a4, rfl, rfl, rfl, rfl, rfl⟩ ?_
   clear hm; intro n f a7 hI
   obtain ⟨az, au, av, ae, aa, ab, aw, hn, hm, hst, ai, am, hs3, hs4, hs5, hs6, hs1000000⟩ := hI
   subst hn
   refine .lD 3 hs3 <| .lD 4 hs4 <| .lD 5 hs5 <| .lD 6 hs6 <| .lD 1000000 hs1000000 ?_
   clear hs3 hs4 hs5 hs6 hs1000000
   cases aw with
   | zero => rw [m_nat_Text_L2.eq_1] at hm; cases hm
   | succ aw =>
    rw [m_nat_Text_L2.eq_2] at hm
    refine wS ?_
    refine Wp.cut (fun f a8 => ∃ (a5 : Col), m_nat_Text_J1 ae aa ab (m_nat_Text_L2 N (m_nat_Text_L1 N al) ac aw)  = some r ∧ St w0 (col0 col) a5 a8 ∧ Own (Rep.int .u32) 114 1 a5 a8 aq ar ac ∧ Own (Rep.int .u8) 5 2 a5 a8 au av ae ∧ f 3 = (.slice aq ac.length ar) ∧ f 4 = (.slice au ae.length av) ∧ f 5 = (.int .u32 aa) ∧ f 6 = (.int .i64 ab) ∧ f 1000000 = (enc [])) ?_ ?_
    ·intro f a8 hJ
     obtain ⟨a5, hm, hst, ai, am, hs3, hs4, hs5, hs6, hs1000000⟩ := hJ
     rw [m_nat_Text_J1.eq_1] at hm
     refine .lD 3 hs3 <| .lD 4 hs4 <| .lD 5 hs5 <| .lD 6 hs6 <| .lD 1000000 hs1000000 ?_
     clear hs3 hs4 hs5 hs6 hs1000000
     refine wS <| wB <| wS <| wR <| lM (.slice au ae.length av) <| lM (.int .u32 aa) <| lV (.int .u32 (Int.tmod aa 10)) (r_rem aa 10 rfl rfl (by decide)) <| lV (.int .u8 (IntKind.u8.wrap (Int.tmod aa 10))) (r_conv (Int.tmod aa 10) ⟨_, Tryz.underlying114⟩ Tryz.underlying5 rfl) <| lV (.int .u8 (IntKind.u8.wrap (48 + (IntKind.u8.wrap (Int.tmod aa 10))))) (r_add 48 (IntKind.u8.wrap (Int.tmod aa 10)) rfl rfl) ?_
     refine l_lit (col := a5) (r := (Rep.int .u8)) (xs := [IntKind.u8.wrap (48 + (IntKind.u8.wrap (Int.tmod aa 10)))]) [(.int .u8 (IntKind.u8.wrap (48 + (IntKind.u8.wrap (Int.tmod aa 10)))))] 3 rfl Tryz.underlying150 el5_60 rfl rfl rfl rfl rfl rfl (by intro v hv; simp only [List.mem_cons, List.not_mem_nil, or_false] at hv; subst hv; rfl) (RowsH.ofF (Rows.consF (r := (Rep.int .u8)) (x := IntKind.u8.wrap (48 + (IntKind.u8.wrap (Int.tmod aa 10)))) (cs := [(.int .u8 (IntKind.u8.wrap (48 + (IntKind.u8.wrap (Int.tmod aa 10)))))]) (rd_int .u8 (IntKind.u8.wrap (48 + (IntKind.u8.wrap (Int.tmod aa 10))))) Rows.nil0)) ?_
     intro b8 bw bx bd bz
     obtain ⟨bj, hm⟩ := cS hm
     replace am := am.gr bd
     refine l_appendM (col := bx) (w := bw) (r := (Rep.int .u8)) (c := 2) (c2 := 2) (xs := ae) (ys := [IntKind.u8.wrap (48 + (IntKind.u8.wrap (Int.tmod aa 10)))]) am (bz.srcN (NB.int (k := .u8))) rfl Tryz.underlying150 el5_60 rfl rfl rfl bj.1 bj.2 (by decide) ?_
     intro bk bl b9 b0 bm b1
     clear am
     refine lA (.slice bk ((ae ++ [IntKind.u8.wrap (48 + (IntKind.u8.wrap (Int.tmod aa 10)))]).length) bl) <| lN <| wR <| lM (.int .u32 aa) <| lV (.int .u32 (IntKind.u32.wrap (Int.tdiv aa 10))) (r_quo aa 10 rfl rfl (by decide)) <| lA (.int .u32 (IntKind.u32.wrap (Int.tdiv aa 10))) <| lN <| wR <| lM (.int .i64 ab) <| lV (.int .i64 (IntKind.i64.wrap (ab + 1))) (r_add ab 1 rfl rfl) <| lA (.int .i64 (IntKind.i64.wrap (ab + 1))) <| lN ?_
     replace ai := (ai.gr bd).kpp bm
     replace hst := (hst.grow bd).kpp bm
     exact ⟨aw, by omega, ⟨b0, bk, bl, (ae ++ [IntKind.u8.wrap (48 + (IntKind.u8.wrap (Int.tmod aa 10)))]), (IntKind.u32.wrap (Int.tdiv aa 10)), (IntKind.i64.wrap (ab + 1)), aw, rfl, hm, hst, ai, b1, rfl, rfl, rfl, rfl, rfl⟩⟩
    refine wS ?_
    refine Wp.cut (fun f a9 => ∃ (a3 : Col) (ba : Bool), m_nat_Text_J2 (m_nat_Text_L1 N al) ac ae aa ab (m_nat_Text_L2 N (m_nat_Text_L1 N al) ac aw) ba = some r ∧ St w0 (col0 col) a3 a9 ∧ Own (Rep.int .u32) 114 1 a3 a9 aq ar ac ∧ Own (Rep.int .u8) 5 2 a3 a9 au av ae ∧ f 29 = (.bool ba) ∧ f 3 = (.slice aq ac.length ar) ∧ f 4 = (.slice au ae.length av) ∧ f 5 = (.int .u32 aa) ∧ f 6 = (.int .i64 ab) ∧ f 1000000 = (enc [])) ?_ ?_
    ·intro f a9 hJ
     obtain ⟨a3, ba, hm, hst, ai, am, hs29, hs3, hs4, hs5, hs6, hs1000000⟩ := hJ
     rw [m_nat_Text_J2.eq_1] at hm
     refine .lD 29 hs29 <| .lD 3 hs3 <| .lD 4 hs4 <| .lD 5 hs5 <| .lD 6 hs6 <| .lD 1000000 hs1000000 ?_
     clear hs29 hs3 hs4 hs5 hs6 hs1000000
     refine wcond (ba) rfl (fun hb => ?_) (fun hb => ?_)
     ·rw [if_pos hb] at hm
      clear hb
      refine wK ?_
      exact ⟨a3, hm, hst, ai, am, rfl, rfl, rfl, rfl, rfl⟩
     rw [if_neg (by rw [hb]; decide)] at hm
     clear hb
     refine wexit (inB_hit ?_)
     exact ⟨al, by omega, ⟨a3, aq, ar, ac, au, av, ae, al, rfl, hm, hst, ai, am, rfl, rfl, rfl⟩⟩
    refine wR <| lM (.int .i64 ab) <| lV (.bool (decide (ab < 9))) (r_lss ab 9 rfl rfl) <| lM (.bool (decide (ab < 9))) ?_
    by_cases ad : (decide (ab < 9)) = true
    ·rw [if_pos ad] at hm
     refine lg (b := decide (ab < 9)) 21 rfl rfl rfl (by rw [ad]; rfl) ?_
     refine lM (.slice aq ac.length ar) ?_
     refine lg (b := decide (ab < 9)) 21 rfl rfl rfl (by rw [ad]; rfl) ?_
     refine lV (.int .i64 (ac.length : Int)) (r_len Tryz.underlying36 rfl) ?_
     refine lg (b := decide (ab < 9)) 21 rfl rfl rfl (by rw [ad]; rfl) ?_
     refine lV (.bool (decide (0 < (ac.length : Int)))) (r_gtr (ac.length : Int) 0 rfl rfl) ?_
     refine lg (b := decide (ab < 9)) 21 rfl rfl rfl (by rw [ad]; rfl) ?_
     refine lM (.bool (decide (0 < (ac.length : Int)))) ?_
     by_cases an : (decide (0 < (ac.length : Int))) = true
     ·rw [if_pos an] at hm
      refine lp (b := decide (0 < (ac.length : Int))) 25 rfl rfl rfl rfl (by rw [an]; rfl) ?_
      refine lp (b := decide (0 < (ac.length : Int))) 25 rfl rfl rfl rfl (by rw [an]; rfl) ?_
      refine lg (b := decide (ab < 9)) 21 rfl rfl rfl (by rw [ad]; rfl) ?_
      refine lV (.bool true) (r_pickT (congrArg Value.bool an) rfl) <| lV (.bool true) (r_pickT (congrArg Value.bool ad) rfl) <| lN ?_
      exact ⟨az, true, hm, hst, ai, am, rfl, rfl, rfl, rfl, rfl, rfl⟩
     rw [if_neg an] at hm
     replace an := Bool.eq_false_iff.2 an
     refine lg (b := decide (0 < (ac.length : Int))) 25 rfl rfl rfl (by rw [an]; rfl) ?_
     refine lM (.int .u32 aa) ?_
     refine lg (b := decide (0 < (ac.length : Int))) 25 rfl rfl rfl (by rw [an]; rfl) ?_
     refine lV (.bool (decide (0 < aa))) (r_gtr aa 0 rfl rfl) ?_
     refine lg (b := decide (ab < 9)) 21 rfl rfl rfl (by rw [ad]; rfl) ?_
     refine lV (.bool (decide (0 < aa))) (r_pickF (congrArg Value.bool an) rfl) <| lV (.bool (decide (0 < aa))) (r_pickT (congrArg Value.bool ad) rfl) <| lN ?_
     exact ⟨az, (decide (0 < aa)), hm, hst, ai, am, rfl, rfl, rfl, rfl, rfl, rfl⟩
    rw [if_neg ad] at hm
    replace ad := Bool.eq_false_iff.2 ad
    refine lp (b := decide (ab < 9)) 21 rfl rfl rfl rfl (by rw [ad]; rfl) ?_
    refine lp (b := decide (ab < 9)) 21 rfl rfl rfl rfl (by rw [ad]; rfl) ?_
    refine lp (b := decide (ab < 9)) 21 rfl rfl rfl rfl (by rw [ad]; rfl) ?_
    refine lp (b := decide (ab < 9)) 21 rfl rfl rfl rfl (by rw [ad]; rfl) ?_
    refine lpU 25 rfl rfl rfl rfl ?_
    refine lpU 25 rfl rfl rfl rfl ?_
    refine lp (b := decide (ab < 9)) 21 rfl rfl rfl rfl (by rw [ad]; rfl) ?_
    refine lV (.bool false) (r_pickF (congrArg Value.bool ad) rfl) <| lN ?_
    exact ⟨az, false, hm, hst, ai, am, rfl, rfl, rfl, rfl, rfl, rfl⟩
  rw [if_neg (by rw [hb]; decide)] at hm
  clear hb
  refine wexit (inB_hit ?_)
  refine wS <| wR <| lM (.slice aj ao.length ak) ?_
  obtain ⟨ay, b2, hm⟩ := bS hm
  refine lc rfl rfl (r_call1 Tryz.call108 rfl) (c_slices_Reverse_byte_byte N a2 _ 2 rfl aj ak ao a4 ay b2) ?_
  rintro _ ca ⟨cb, rfl, b3, b4, bn⟩
  refine ⟨_, rfl, ?_⟩
  clear a4
  refine .ld (d := 4) (v := (.slice aj ay.length ak)) (congrArg (fun n => Value.slice aj n ak) (show ao.length = ay.length from bn.symm)) ?_
  refine .ld (d := 41) (v := (.slice aj ay.length ak)) (congrArg (fun n => Value.slice aj n ak) (show ao.length = ay.length from bn.symm)) ?_
  refine lN <| wS <| wR <| lM (.slice aj ay.length ak) <| lV (.string (bstr ay)) (r_bytesStr (c := 1) (c2 := 1) (b4.srcN NB.int) Tryz.underlying150 Tryz.underlying5 Tryz.underlying9 rfl) <| lA (.string (bstr ay)) <| lN ?_
  refine wret ?_
  cases hm
  replace hst := hst.kpp b3
  exact ⟨rfl, rfl, hst.below⟩
def m_whole_Text (N : Nat) (aa : (Bool × (List Int))) : Option ByteArray :=
  (m_whole_Sign N (aa.1, aa.2)).bind fun ab => if (decide (ab < 0)) = true then none else ((m_nat_Text N aa.2).bind fun ac => some ac)
theorem c_whole_Text (N : Nat) (col : Col) (w0 : World) (ab : Option Addr) (ac : Nat) (aa : (Bool × (List Int))) (ae : Sl (Rep.int .u32) col w0 ab ac aa.2) (r : ByteArray) (hm : m_whole_Text N aa = some r) :
    Calls Tryz.prog 57 #[(.agg #[(.bool aa.1), (.slice ab aa.2.length ac)])] w0 (fun e w' => e = .returned ((.string r)) ∧ Below w0.heap.size w0 w') := by
 refine calls_of1 2 (m := 13) (args := [(.agg #[(.bool aa.1), (.slice ab aa.2.length ac)])]) Tryz.func57 rfl rfl rfl rfl rfl ?_
 rw [m_whole_Text.eq_1] at hm
 have hst := St.start col w0
 refine wS <| wR ?_
 refine l_box (col := (col0 col)) (v := (.agg #[(.bool aa.1), (.slice ab aa.2.length ac)])) 1 rfl rfl ?_
 intro aj ak ad al af
 replace af : Box 38 1 ad ak aj #[(.bool aa.1), (.slice ab aa.2.length ac)] := af
 refine lA (.string (⟨#[]⟩)) <| lN <| wS <| wS <| wR <| lV (.agg #[(.bool aa.1), (.slice ab aa.2.length ac)]) (r_ldN Tryz.isAgg38 Tryz.sizeOf38 rfl rfl af.atN) ?_
 obtain ⟨ah, ao, hm⟩ := bS hm
 replace ae := (ae.keep (Stay.start col w0)).gr al
 refine lc rfl rfl (r_call1 Tryz.call76 rfl) (c_whole_Sign N ad _ ab ac (aa.1, aa.2) ae ah ao) ?_
 rintro _ am ⟨rfl, ag⟩
 refine ⟨_, rfl, ?_⟩
 replace ag : Grow ad ak ad am := .of_below ag
 refine lV (.bool (decide (ah < 0))) (r_lss ah 0 rfl rfl) <| lN ?_
 replace hst := (hst.grow al).grow ag
 replace ae := ae.gr ag
 replace af := af.gr ag
 refine wcond (decide (ah < 0)) rfl (fun hb => ?_) (fun hb => ?_)
 ·rw [if_pos hb] at hm
  clear hb
  cases hm
 rw [if_neg (by rw [hb]; decide)] at hm
 clear hb
 refine wK <| wS <| wR <| lV (.pointer ((some (⟨aj, 0, none⟩ : Addr)).map (·.add 1))) (rF (sz := 1) (off := 1) Tryz.underlying38 rfl Tryz.sizeOf36 (by decide) rfl rfl ⟨_, _, rfl⟩) <| lV (.slice ab aa.2.length ac) (r_ld Tryz.isAgg36 rfl ((af.atN).nth (q := 1) (v := (.slice ab aa.2.length ac)) rfl)) ?_
 obtain ⟨an, ap, hm⟩ := bS hm
 refine lc rfl rfl (r_call1 Tryz.call60 rfl) (c_nat_Text N ad _ ab ac aa.2 ae an ap) ?_
 rintro _ aq ⟨rfl, ai⟩
 refine ⟨_, rfl, ?_⟩
 replace ai : Grow ad am ad aq := .of_below ai
 refine lA (.string an) <| lN ?_
 refine wret ?_
 cases hm
 replace hst := hst.grow ai
 exact ⟨rfl, rfl, hst.below⟩
def m_frac_Text_J1 (aa : ByteArray) : Option ByteArray :=
  some aa
def m_frac_Text (N : Nat) (aa : ((Bool × (List Int)) × (List Int))) : Option ByteArray :=
  (m_frac_under N ((aa.1.1, aa.1.2), aa.2)).bind fun ae => (m_frac_lowest N aa.1.1 aa.1.2 ae).bind fun ab => (m_whole_Text N (ab.1.1, ab.1.2)).bind fun ad => (m_nat_Of N 1).bind fun af => (m_nat_Cmp N ab.2 af).bind fun ag => if (!decide (ag = 0)) = true then ((m_nat_Text N ab.2).bind fun ac => chk ((⟨#[47]⟩ : ByteArray).size + ac.size ≤ maxLen) (chk (ad.size + ((⟨#[47]⟩) ++ ac).size ≤ maxLen) (m_frac_Text_J1 (ad ++ ((⟨#[47]⟩) ++ ac))))) else none
theorem c_frac_Text (N : Nat) (col : Col) (w0 : World) (ah : Option Addr) (ai : Nat) (ao : Option Addr) (ap : Nat) (aa : ((Bool × (List Int)) × (List Int))) (au : Sl (Rep.int .u32) col w0 ah ai aa.1.2) (a5 : Sl (Rep.int .u32) col w0 ao ap aa.2) (r : ByteArray) (hm : m_frac_Text N aa = some r) :
    Calls Tryz.prog 18 #[(.agg #[(.bool aa.1.1), (.slice ah aa.1.2.length ai), (.slice ao aa.2.length ap)])] w0 (fun e w' => e = .returned ((.string r)) ∧ Below w0.heap.size w0 w') := by
 refine calls_of1 2 (m := 28) (args := [(.agg #[(.bool aa.1.1), (.slice ah aa.1.2.length ai), (.slice ao aa.2.length ap)])]) Tryz.func18 rfl rfl rfl rfl rfl ?_
 rw [m_frac_Text.eq_1] at hm
 have hst := St.start col w0
 refine wS <| wR ?_
 refine l_box (col := (col0 col)) (v := (.agg #[(.bool aa.1.1), (.slice ah aa.1.2.length ai), (.slice ao aa.2.length ap)])) 1 rfl rfl ?_
 intro aj bd al a6 ag
 replace ag : Box 40 1 al bd aj #[(.bool aa.1.1), (.slice ah aa.1.2.length ai), (.slice ao aa.2.length ap)] := ag
 refine lA (.string (⟨#[]⟩)) <| lN <| wS ?_
 refine wmix (col := al) [(0, 1), (1, 1), (2, 0), (3, 1), (4, 1), (5, 0), (6, 0), (7, 3), (8, 3), (9, 2)] (by kernel_rfl) (by kernel_rfl) ?_
 refine xu (v := (.pointer ((some (⟨aj, 0, none⟩ : Addr)).map (·.add 0)))) rfl rfl (fun _ => rF (sz := 2) (off := 0) Tryz.underlying40 rfl Tryz.sizeOf38 (by decide) rfl rfl ⟨_, _, rfl⟩) ?_
 refine xu (v := (.pointer (((some (⟨aj, 0, none⟩ : Addr)).map (·.add 0)).map (·.add 0)))) rfl rfl (fun _ => rF (sz := 1) (off := 0) Tryz.underlying38 rfl Tryz.sizeOf4 (by decide) rfl rfl (sptr_addr ⟨_, _, rfl⟩)) ?_
 refine xv (v := (.bool aa.1.1)) rfl rfl (fun _ hC => r_ld Tryz.isAgg4 rfl (((((ag.atN).part 0 2 _ rfl)).nth (q := 0) (v := (.bool aa.1.1)) rfl).gr (Grow.of_below (col := al) hC.below))) ?_
 refine xu (v := (.pointer ((some (⟨aj, 0, none⟩ : Addr)).map (·.add 0)))) rfl rfl (fun _ => rF (sz := 2) (off := 0) Tryz.underlying40 rfl Tryz.sizeOf38 (by decide) rfl rfl ⟨_, _, rfl⟩) ?_
 refine xu (v := (.pointer (((some (⟨aj, 0, none⟩ : Addr)).map (·.add 0)).map (·.add 1)))) rfl rfl (fun _ => rF (sz := 1) (off := 1) Tryz.underlying38 rfl Tryz.sizeOf36 (by decide) rfl rfl (sptr_addr ⟨_, _, rfl⟩)) ?_
 refine xv (v := (.slice ah aa.1.2.length ai)) rfl rfl (fun _ hC => r_ld Tryz.isAgg36 rfl (((((ag.atN).part 0 2 _ rfl)).nth (q := 1) (v := (.slice ah aa.1.2.length ai)) rfl).gr (Grow.of_below (col := al) hC.below))) ?_
 refine xv (v := (.agg #[(.bool aa.1.1), (.slice ah aa.1.2.length ai), (.slice ao aa.2.length ap)])) rfl rfl (fun _ hC => r_ldN Tryz.isAgg40 Tryz.sizeOf40 rfl rfl (ag.atN.gr (Grow.of_below (col := al) hC.below))) ?_
 refine xe rfl rfl ?_
 intro bq hC0
 have hC : Grow al bd al bq := .of_below hC0.below
 obtain ⟨be, br, hm⟩ := bS hm
 replace au := ((au.keep (Stay.start col w0)).gr a6).gr hC
 replace a5 := ((a5.keep (Stay.start col w0)).gr a6).gr hC
 refine lc rfl rfl (r_call1 Tryz.call56 rfl) (c_frac_under N 2 al _ ah ai ao ap ((aa.1.1, aa.1.2), aa.2) au a5 be br) ?_
 rintro _ bf ⟨ak, bs, bt, rfl, a0, a7⟩
 refine ⟨_, rfl, ?_⟩
 refine lN ⟨fun w' => Grow ak bf ak w', Grow.refl _ _, fun _ _ h => cls hC0 a0 h, ?_⟩
 refine xe rfl rfl ?_
 intro bg hC0
 replace hst := ((hst.grow a6).grow hC).grow a0
 replace ag := (ag.gr hC).gr a0
 have hC : Grow ak bf ak bg := .of_below hC0.below
 obtain ⟨ab, bu, hm⟩ := bS hm
 replace au := (au.gr a0).gr hC
 replace a7 := a7.gr hC
 refine lc rfl rfl (r_call3 Tryz.call55 rfl rfl rfl) (c_frac_lowest N 3 4 (frC 2 ak) _ aa.1.1 ah ai aa.1.2 bs bt be (au.froz 2) (a7.toSlF (Froz.int .u32)) ab bu) ?_
 rintro _ bh ⟨bv, a1, a2, am, an, rfl, aq, ar, af⟩
 refine ⟨_, rfl, ?_⟩
 replace ar := ar.thaw (flat_int .u32) aq ((Fz.refl (col := ak)).froz 2) (by decide)
 replace af := af.thaw (flat_int .u32) aq ((Fz.refl (col := ak)).froz 2) (by decide)
 replace aq := aq.thawR (col := ak)
 generalize colR bg.heap.size ak bv = ac at *
 refine lN ⟨fun w' => Grow ac bh ac w', Grow.refl _ _, fun _ _ h => cls hC0 aq h, ?_⟩
 refine xe rfl rfl ?_
 intro bw hC0
 replace ag := (ag.gr hC).gr aq
 replace hst := (hst.grow hC).grow aq
 have hC : Grow ac bh ac bw := .of_below hC0.below
 replace ag := ag.gr hC
 refine l_bstore (v := (.agg #[(.bool ab.1.1), (.slice a1 ab.1.2.length a2), (.slice am ab.2.length an)])) ag Tryz.sizeOf40 rfl rfl (by intro u hu; simp only [Value.cells, List.mem_cons, List.not_mem_nil, or_false] at hu; rcases hu with rfl | rfl | rfl <;> rfl) rfl rfl ?_
 intro a8 a9 bx ad
 clear ag
 replace ad : Box 40 1 ac a8 aj #[(.bool ab.1.1), (.slice a1 ab.1.2.length a2), (.slice am ab.2.length an)] := ad
 refine lN ⟨fun w' => Grow ac a8 ac w', Grow.refl _ _, fun h => absurd h (by decide), ?_⟩
 refine xnil ?_
 replace ar := (ar.gr hC).kp a9
 replace af := (af.gr hC).kp a9
 replace hst := (hst.grow hC).kp a9 bx
 intro bi hC
 replace hC : Grow ac a8 ac bi := .of_below hC.below
 refine wS <| wR <| lV (.pointer ((some (⟨aj, 0, none⟩ : Addr)).map (·.add 0))) (rF (sz := 2) (off := 0) Tryz.underlying40 rfl Tryz.sizeOf38 (by decide) rfl rfl ⟨_, _, rfl⟩) ?_
 replace ad := ad.gr hC
 refine lV (.agg #[(.bool ab.1.1), (.slice a1 ab.1.2.length a2)]) (r_ldN Tryz.isAgg38 Tryz.sizeOf38 rfl rfl ((ad.atN).part 0 2 _ rfl)) ?_
 obtain ⟨av, bz, hm⟩ := bS hm
 replace ar := ar.gr hC
 refine lc rfl rfl (r_call1 Tryz.call57 rfl) (c_whole_Text N (frC 3 ac) _ a1 a2 (ab.1.1, ab.1.2) (ar.toSlF (Froz.int .u32)) av bz) ?_
 rintro _ bj ⟨rfl, ax⟩
 refine ⟨_, rfl, ?_⟩
 replace ax : Grow ac bi ac bj := .of_below ax
 refine lA (.string av) <| lN <| wS ?_
 replace af := (af.gr hC).gr ax
 replace hst := (hst.grow hC).grow ax
 replace ad := ad.gr ax
 refine Wp.cut (fun f bk => ∃ (bl : Col) (ay : ByteArray), m_frac_Text_J1 ay = some r ∧ St w0 (col0 col) bl bk ∧ f 3 = (.string ay) ∧ f 1000000 = (enc [])) ?_ ?_
 ·intro f bk hJ
  obtain ⟨bl, ay, hm, hst, hs3, hs1000000⟩ := hJ
  rw [m_frac_Text_J1.eq_1] at hm
  refine .lD 3 hs3 <| .lD 1000000 hs1000000 ?_
  clear hs3 hs1000000
  refine wS <| wR <| lM (.string ay) <| lA (.string ay) <| lN ?_
  refine wret ?_
  cases hm
  exact ⟨rfl, rfl, hst.below⟩
 refine wS ?_
 refine wmix (col := ac) [(0, 1), (1, 0), (2, 3), (3, 3), (4, 1)] (by kernel_rfl) (by kernel_rfl) ?_
 refine xu (v := (.pointer ((some (⟨aj, 0, none⟩ : Addr)).map (·.add 2)))) rfl rfl (fun _ => rF (sz := 1) (off := 2) Tryz.underlying40 rfl Tryz.sizeOf36 (by decide) rfl rfl ⟨_, _, rfl⟩) ?_
 refine xv (v := (.slice am ab.2.length an)) rfl rfl (fun _ hC => r_ld Tryz.isAgg36 rfl (((ad.atN).nth (q := 2) (v := (.slice am ab.2.length an)) rfl).gr (Grow.of_below (col := ac) hC.below))) ?_
 refine xe rfl rfl ?_
 intro b0 hC0
 have hC : Grow ac bj ac b0 := .of_below hC0.below
 obtain ⟨bm, b1, hm⟩ := bS hm
 refine lc rfl rfl (r_call1 Tryz.call59 rfl) (c_nat_Of N 5 ac _ 1 bm b1) ?_
 rintro _ bn ⟨ae, b2, b3, rfl, a3, ba⟩
 refine ⟨_, rfl, ?_⟩
 refine lN ⟨fun w' => Grow ae bn ae w', Grow.refl _ _, fun _ _ h => cls hC0 a3 h, ?_⟩
 refine xe rfl rfl ?_
 intro bo hC0
 replace af := (af.gr hC).gr a3
 replace ad := (ad.gr hC).gr a3
 replace hst := (hst.grow hC).grow a3
 have hC : Grow ae bn ae bo := .of_below hC0.below
 obtain ⟨a4, b4, hm⟩ := bS hm
 replace af := af.gr hC
 replace ba := ba.gr hC
 refine lc rfl rfl (r_call2 Tryz.call58 rfl rfl) (c_nat_Cmp N (frC 5 (frC 4 ae)) _ am an ab.2 b2 b3 bm ((af.toSlF (Froz.int .u32)).froz 5) ((ba.froz 4 (by decide)).toSlF (Froz.int .u32)) a4 b4) ?_
 rintro _ bb ⟨rfl, aw⟩
 refine ⟨_, rfl, ?_⟩
 replace aw : Grow ae bo ae bb := .of_below aw
 refine lN ⟨fun w' => Grow ae bb ae w', Grow.refl _ _, fun _ _ h => cls hC0 aw h, ?_⟩
 refine xu (v := (.bool (!decide (a4 = 0)))) rfl rfl (fun _ => r_neq a4 0 rfl rfl) ?_
 refine xnil ?_
 replace ad := (ad.gr hC).gr aw
 replace hst := (hst.grow hC).grow aw
 intro bp hC
 replace hC : Grow ae bb ae bp := .of_below hC.below
 replace af := (af.gr aw).gr hC
 replace ad := ad.gr hC
 replace hst := hst.grow hC
 refine wcond (!decide (a4 = 0)) rfl (fun hb => ?_) (fun hb => ?_)
 ·rw [if_pos hb] at hm
  clear hb
  refine wR <| lM (.string av) <| lV (.pointer ((some (⟨aj, 0, none⟩ : Addr)).map (·.add 2))) (rF (sz := 1) (off := 2) Tryz.underlying40 rfl Tryz.sizeOf36 (by decide) rfl rfl ⟨_, _, rfl⟩) <| lV (.slice am ab.2.length an) (r_ld Tryz.isAgg36 rfl ((ad.atN).nth (q := 2) (v := (.slice am ab.2.length an)) rfl)) ?_
  obtain ⟨az, b5, hm⟩ := bS hm
  refine lc rfl rfl (r_call1 Tryz.call60 rfl) (c_nat_Text N (frC 4 ae) _ am an ab.2 (af.toSlF (Froz.int .u32)) az b5) ?_
  rintro _ b6 ⟨rfl, bc⟩
  refine ⟨_, rfl, ?_⟩
  replace bc : Grow ae bp ae b6 := .of_below bc
  obtain ⟨b7, hm⟩ := cS hm
  refine lV (.string ((⟨#[47]⟩) ++ az)) (r_addS Tryz.underlying9 rfl rfl b7) ?_
  obtain ⟨b8, hm⟩ := cS hm
  refine lV (.string (av ++ ((⟨#[47]⟩) ++ az))) (r_addS Tryz.underlying9 rfl rfl b8) <| lA (.string (av ++ ((⟨#[47]⟩) ++ az))) <| lN ?_
  replace hst := hst.grow bc
  exact ⟨ae, (av ++ ((⟨#[47]⟩) ++ az)), hm, hst, rfl, rfl⟩
 rw [if_neg (by rw [hb]; decide)] at hm
 clear hb
 cases hm
theorem el3_6 : ElemOk Tryz.prog 3 1 8 := ⟨Tryz.t3, _, rfl, rfl, rfl, rfl, rfl⟩
theorem el48_6 : ElemOk Tryz.prog 48 2 16 := ⟨Tryz.t48, _, rfl, rfl, rfl, rfl, rfl⟩
def m_l20_alive_J1 (aa : Bool) : Option Bool :=
  some aa
def m_l20_alive (N : Nat)  : Option Bool :=
  (m_r20_Rain N).bind fun aa => (m_joint_Sum N (aa.1, aa.2.1, aa.2.2.1, aa.2.2.2.1, aa.2.2.2.2) [(1, 1)]).bind fun ad => (m_r20_Rain N).bind fun ab => (m_joint_Ask N (ab.1, ab.2.1, ab.2.2.1, ab.2.2.2.1, ab.2.2.2.2) [(0, 1)] [(1, 1)]).bind fun ae => (m_r20_Rain N).bind fun ac => (m_joint_Table N (ac.1, ac.2.1, ac.2.2.1, ac.2.2.2.1, ac.2.2.2.2) [0] [(1, 1)]).bind fun af => if (decide (ad.2 = 0)) = true then (if (decide (ae.2 = 0)) = true then (if (decide (af.2 = 0)) = true then ((m_frac_Text N ((ad.1.1.1, ad.1.1.2), ad.1.2)).bind fun ah => if (decide (ah = (⟨#[49, 51, 47, 53, 48]⟩))) = true then ((m_frac_Text N ((ae.1.1.1, ae.1.1.2), ae.1.2)).bind fun ai => if (decide (ai = (⟨#[57, 47, 49, 51]⟩))) = true then (if (decide ((af.1.2.2.length : Int) = 2)) = true then ((at? af.1.2.2 1).bind fun ag => (m_frac_Text N ((ag.1.1, ag.1.2), ag.2)).bind fun aj => m_l20_alive_J1 (decide (aj = (⟨#[57, 47, 53, 48]⟩)))) else (m_l20_alive_J1 false)) else (m_l20_alive_J1 false)) else (m_l20_alive_J1 false)) else (m_l20_alive_J1 false)) else (m_l20_alive_J1 false)) else (m_l20_alive_J1 false)
theorem c_l20_alive (N : Nat) (col : Col) (w0 : World)  (r : Bool) (hm : m_l20_alive N = some r) :
    Calls Tryz.prog 6 #[] w0 (fun e w' => e = .returned ((.bool r)) ∧ Below w0.heap.size w0 w') := by
 refine calls_of1 0 (m := 65) (args := []) Tryz.func6 rfl rfl rfl rfl rfl ?_
 rw [m_l20_alive.eq_1] at hm
 have hst := St.start col w0
 refine wS <| wR <| lA (.bool false) <| lN <| wS <| wR ?_
 obtain ⟨a5, c0, hm⟩ := bS hm
 refine lc rfl rfl (r_call0 Tryz.call15 ) (c_r20_Rain N 1 2 3 4 (col0 col) _ a5 c0) ?_
 rintro _ e2 ⟨c1, c2, c3, c4, c5, c6, c7, c8, c9, rfl, da, b4, b5, b6, b7⟩
 refine ⟨_, rfl, ?_⟩
 refine lV (.agg #[(.int .i64 1), (.int .i64 1)]) (r_build (l := [_, _]) (qs := [(0, 1), (1, 1)]) Tryz.underlying48 Tryz.zeroValue48 ⟨rfl, Tryz.sizeOf3, rfl, Tryz.sizeOf3, trivial⟩ rfl) ?_
 refine l_lit (col := c1) (r := (Rep.pair (Rep.int .i64) (Rep.int .i64))) (xs := [(1, 1)]) [(.agg #[(.int .i64 1), (.int .i64 1)])] 5 rfl Tryz.underlying49 el48_6 rfl rfl rfl rfl rfl rfl (by intro v hv; simp only [List.mem_cons, List.not_mem_nil, or_false] at hv; subst hv; rfl) (RowsH.ofF (Rows.consF (r := (Rep.pair (Rep.int .i64) (Rep.int .i64))) (x := (1, 1)) (cs := [(.int .i64 1), (.int .i64 1)]) (rd_pairI (rd_int .i64 1) (rd_int .i64 1)) Rows.nil0)) ?_
 intro db dc bk bl dd
 obtain ⟨ac, de, hm⟩ := bS hm
 replace b4 := b4.gr bl
 replace b5 := b5.gr bl
 replace b6 := b6.gr bl
 replace b7 := b7.gr bl
 refine lc rfl rfl (r_call2 Tryz.call14 rfl rfl) (c_joint_Sum N 6 7 (frC 5 (frC 4 (frC 3 (frC 2 (frC 1 bk))))) _ c2 c3 c4 c5 c6 c7 c8 c9 (a5.1, a5.2.1, a5.2.2.1, a5.2.2.2.1, a5.2.2.2.2) db 1 [(1, 1)] (((((b4.toSlF Froz.str).froz 2).froz 3).froz 4).froz 5) (((((b5.froz 1 (by decide)).toSlF (Froz.row Froz.str)).froz 3).froz 4).froz 5) (((((b6.froz 1 (by decide)).froz 2 (by decide)).toSlF (Froz.row (Froz.int .i64))).froz 4).froz 5) (((((b7.froz 1 (by decide)).froz 2 (by decide)).froz 3 (by decide)).toSlF (Froz.row (Froz.pair (Froz.pair Froz.bool (Froz.row (Froz.int .u32))) (Froz.row (Froz.int .u32))))).froz 5) (((((dd.froz 1 (by decide)).froz 2 (by decide)).froz 3 (by decide)).froz 4 (by decide)).toSlF (Froz.pair (Froz.int .i64) (Froz.int .i64))) ac de) ?_
 rintro _ e3 ⟨df, a6, a7, a8, a9, rfl, bm, bn, bo⟩
 refine ⟨_, rfl, ?_⟩
 replace bn := bn.thaw (flat_int .u32) bm ((((((Fz.refl (col := bk)).froz 1).froz 2).froz 3).froz 4).froz 5) (by decide)
 replace bo := bo.thaw (flat_int .u32) bm ((((((Fz.refl (col := bk)).froz 1).froz 2).froz 3).froz 4).froz 5) (by decide)
 replace bm := bm.thawR (col := bk)
 generalize colR dc.heap.size bk df = dg at *
 refine lM (.tuple #[(.agg #[(.bool ac.1.1.1), (.slice a6 ac.1.1.2.length a7), (.slice a8 ac.1.2.length a9)]), (.int .i64 ac.2)]) <| lV (.agg #[(.bool ac.1.1.1), (.slice a6 ac.1.1.2.length a7), (.slice a8 ac.1.2.length a9)]) (r_extract rfl rfl) <| lV (.int .i64 ac.2) (r_extract rfl rfl) ?_
 refine l_alloc (col := dg) (v := (.agg #[(.bool false), (.slice none (([] : List Int).length) 0), (.slice none (([] : List Int).length) 0)])) 8 rfl Tryz.zeroValue40 ?_
 intro co dh b8 b9 bs
 replace bs : Box 40 8 b8 dh co #[(.bool false), (.slice none (([] : List Int).length) 0), (.slice none (([] : List Int).length) 0)] := bs
 refine l_bstore (v := (.agg #[(.bool ac.1.1.1), (.slice a6 ac.1.1.2.length a7), (.slice a8 ac.1.2.length a9)])) bs Tryz.sizeOf40 rfl rfl (by intro u hu; simp only [Value.cells, List.mem_cons, List.not_mem_nil, or_false] at hu; rcases hu with rfl | rfl | rfl <;> rfl) rfl rfl ?_
 intro di ca dj bp
 clear bs
 replace bp : Box 40 8 b8 di co #[(.bool ac.1.1.1), (.slice a6 ac.1.1.2.length a7), (.slice a8 ac.1.2.length a9)] := bp
 refine lA (.int .i64 ac.2) <| lN <| wS <| wR ?_
 obtain ⟨ba, dk, hm⟩ := bS hm
 refine lc rfl rfl (r_call0 Tryz.call15 ) (c_r20_Rain N 9 10 11 12 b8 _ ba dk) ?_
 rintro _ e4 ⟨dl, dm, dn, dp, dq, dr, ds, dt, du, rfl, bt, cb, cc, cd, ce⟩
 refine ⟨_, rfl, ?_⟩
 refine lV (.agg #[(.int .i64 0), (.int .i64 1)]) (r_build (l := [_, _]) (qs := [(0, 1), (1, 1)]) Tryz.underlying48 Tryz.zeroValue48 ⟨rfl, Tryz.sizeOf3, rfl, Tryz.sizeOf3, trivial⟩ rfl) ?_
 refine l_lit (col := dl) (r := (Rep.pair (Rep.int .i64) (Rep.int .i64))) (xs := [(0, 1)]) [(.agg #[(.int .i64 0), (.int .i64 1)])] 13 rfl Tryz.underlying49 el48_6 rfl rfl rfl rfl rfl rfl (by intro v hv; simp only [List.mem_cons, List.not_mem_nil, or_false] at hv; subst hv; rfl) (RowsH.ofF (Rows.consF (r := (Rep.pair (Rep.int .i64) (Rep.int .i64))) (x := (0, 1)) (cs := [(.int .i64 0), (.int .i64 1)]) (rd_pairI (rd_int .i64 0) (rd_int .i64 1)) Rows.nil0)) ?_
 intro dv e5 dw au cf
 refine lV (.agg #[(.int .i64 1), (.int .i64 1)]) (r_build (l := [_, _]) (qs := [(0, 1), (1, 1)]) Tryz.underlying48 Tryz.zeroValue48 ⟨rfl, Tryz.sizeOf3, rfl, Tryz.sizeOf3, trivial⟩ rfl) ?_
 refine l_lit (col := dw) (r := (Rep.pair (Rep.int .i64) (Rep.int .i64))) (xs := [(1, 1)]) [(.agg #[(.int .i64 1), (.int .i64 1)])] 14 rfl Tryz.underlying49 el48_6 rfl rfl rfl rfl rfl rfl (by intro v hv; simp only [List.mem_cons, List.not_mem_nil, or_false] at hv; subst hv; rfl) (RowsH.ofF (Rows.consF (r := (Rep.pair (Rep.int .i64) (Rep.int .i64))) (x := (1, 1)) (cs := [(.int .i64 1), (.int .i64 1)]) (rd_pairI (rd_int .i64 1) (rd_int .i64 1)) Rows.nil0)) ?_
 intro dx dy bq aq dz
 obtain ⟨ab, d0, hm⟩ := bS hm
 replace cb := (cb.gr au).gr aq
 replace cc := (cc.gr au).gr aq
 replace cd := (cd.gr au).gr aq
 replace ce := (ce.gr au).gr aq
 replace cf := cf.gr aq
 refine lc rfl rfl (r_call3 Tryz.call16 rfl rfl rfl) (c_joint_Ask N 15 16 (frC 14 (frC 13 (frC 12 (frC 11 (frC 10 (frC 9 bq)))))) _ dm dn dp dq dr ds dt du (ba.1, ba.2.1, ba.2.2.1, ba.2.2.2.1, ba.2.2.2.2) dv 1 [(0, 1)] dx 1 [(1, 1)] ((((((cb.toSlF Froz.str).froz 10).froz 11).froz 12).froz 13).froz 14) ((((((cc.froz 9 (by decide)).toSlF (Froz.row Froz.str)).froz 11).froz 12).froz 13).froz 14) ((((((cd.froz 9 (by decide)).froz 10 (by decide)).toSlF (Froz.row (Froz.int .i64))).froz 12).froz 13).froz 14) ((((((ce.froz 9 (by decide)).froz 10 (by decide)).froz 11 (by decide)).toSlF (Froz.row (Froz.pair (Froz.pair Froz.bool (Froz.row (Froz.int .u32))) (Froz.row (Froz.int .u32))))).froz 13).froz 14) ((((((cf.froz 9 (by decide)).froz 10 (by decide)).froz 11 (by decide)).froz 12 (by decide)).toSlF (Froz.pair (Froz.int .i64) (Froz.int .i64))).froz 14) ((((((dz.froz 9 (by decide)).froz 10 (by decide)).froz 11 (by decide)).froz 12 (by decide)).froz 13 (by decide)).toSlF (Froz.pair (Froz.int .i64) (Froz.int .i64))) ab d0) ?_
 rintro _ e6 ⟨d1, bb, bc, bd, be, rfl, av, a1, a2⟩
 refine ⟨_, rfl, ?_⟩
 replace a1 := a1.thaw (flat_int .u32) av (((((((Fz.refl (col := bq)).froz 9).froz 10).froz 11).froz 12).froz 13).froz 14) (by decide)
 replace a2 := a2.thaw (flat_int .u32) av (((((((Fz.refl (col := bq)).froz 9).froz 10).froz 11).froz 12).froz 13).froz 14) (by decide)
 replace av := av.thawR (col := bq)
 generalize colR dy.heap.size bq d1 = d2 at *
 refine lM (.tuple #[(.agg #[(.bool ab.1.1.1), (.slice bb ab.1.1.2.length bc), (.slice bd ab.1.2.length be)]), (.int .i64 ab.2)]) <| lV (.agg #[(.bool ab.1.1.1), (.slice bb ab.1.1.2.length bc), (.slice bd ab.1.2.length be)]) (r_extract rfl rfl) <| lV (.int .i64 ab.2) (r_extract rfl rfl) ?_
 refine l_alloc (col := d2) (v := (.agg #[(.bool false), (.slice none (([] : List Int).length) 0), (.slice none (([] : List Int).length) 0)])) 17 rfl Tryz.zeroValue40 ?_
 intro cp d3 cg bf bu
 replace bu : Box 40 17 cg d3 cp #[(.bool false), (.slice none (([] : List Int).length) 0), (.slice none (([] : List Int).length) 0)] := bu
 refine l_bstore (v := (.agg #[(.bool ab.1.1.1), (.slice bb ab.1.1.2.length bc), (.slice bd ab.1.2.length be)])) bu Tryz.sizeOf40 rfl rfl (by intro u hu; simp only [Value.cells, List.mem_cons, List.not_mem_nil, or_false] at hu; rcases hu with rfl | rfl | rfl <;> rfl) rfl rfl ?_
 intro d4 bg d5 a3
 clear bu
 replace a3 : Box 40 17 cg d4 cp #[(.bool ab.1.1.1), (.slice bb ab.1.1.2.length bc), (.slice bd ab.1.2.length be)] := a3
 refine lA (.int .i64 ab.2) <| lN <| wS <| wR ?_
 obtain ⟨bh, d6, hm⟩ := bS hm
 refine lc rfl rfl (r_call0 Tryz.call15 ) (c_r20_Rain N 18 19 20 21 cg _ bh d6) ?_
 rintro _ e7 ⟨d7, d8, d9, ea, eb, ec, ed, ee, ef, rfl, a4, ch, ci, cj, ck⟩
 refine ⟨_, rfl, ?_⟩
 refine l_lit (col := d7) (r := (Rep.int .i64)) (xs := [0]) [(.int .i64 0)] 22 rfl Tryz.underlying33 el3_6 rfl rfl rfl rfl rfl rfl (by intro v hv; simp only [List.mem_cons, List.not_mem_nil, or_false] at hv; subst hv; rfl) (RowsH.ofF (Rows.consF (r := (Rep.int .i64)) (x := 0) (cs := [(.int .i64 0)]) (rd_int .i64 0) Rows.nil0)) ?_
 intro eg e8 eh al cl
 refine lV (.agg #[(.int .i64 1), (.int .i64 1)]) (r_build (l := [_, _]) (qs := [(0, 1), (1, 1)]) Tryz.underlying48 Tryz.zeroValue48 ⟨rfl, Tryz.sizeOf3, rfl, Tryz.sizeOf3, trivial⟩ rfl) ?_
 refine l_lit (col := eh) (r := (Rep.pair (Rep.int .i64) (Rep.int .i64))) (xs := [(1, 1)]) [(.agg #[(.int .i64 1), (.int .i64 1)])] 23 rfl Tryz.underlying49 el48_6 rfl rfl rfl rfl rfl rfl (by intro v hv; simp only [List.mem_cons, List.not_mem_nil, or_false] at hv; subst hv; rfl) (RowsH.ofF (Rows.consF (r := (Rep.pair (Rep.int .i64) (Rep.int .i64))) (x := (1, 1)) (cs := [(.int .i64 1), (.int .i64 1)]) (rd_pairI (rd_int .i64 1) (rd_int .i64 1)) Rows.nil0)) ?_
 intro ei ej bv ah ek
 obtain ⟨aa, el, hm⟩ := bS hm
 replace ch := (ch.gr al).gr ah
 replace ci := (ci.gr al).gr ah
 replace cj := (cj.gr al).gr ah
 replace ck := (ck.gr al).gr ah
 replace cl := cl.gr ah
 refine lc rfl rfl (r_call3 Tryz.call17 rfl rfl rfl) (c_joint_Table N 24 25 26 (frC 23 (frC 22 (frC 21 (frC 20 (frC 19 (frC 18 bv)))))) _ d8 d9 ea eb ec ed ee ef (bh.1, bh.2.1, bh.2.2.1, bh.2.2.2.1, bh.2.2.2.2) eg 1 [0] ei 1 [(1, 1)] ((((((ch.toSlF Froz.str).froz 19).froz 20).froz 21).froz 22).froz 23) ((((((ci.froz 18 (by decide)).toSlF (Froz.row Froz.str)).froz 20).froz 21).froz 22).froz 23) ((((((cj.froz 18 (by decide)).froz 19 (by decide)).toSlF (Froz.row (Froz.int .i64))).froz 21).froz 22).froz 23) ((((((ck.froz 18 (by decide)).froz 19 (by decide)).froz 20 (by decide)).toSlF (Froz.row (Froz.pair (Froz.pair Froz.bool (Froz.row (Froz.int .u32))) (Froz.row (Froz.int .u32))))).froz 22).froz 23) ((((((cl.froz 18 (by decide)).froz 19 (by decide)).froz 20 (by decide)).froz 21 (by decide)).toSlF (Froz.int .i64)).froz 23) ((((((ek.froz 18 (by decide)).froz 19 (by decide)).froz 20 (by decide)).froz 21 (by decide)).froz 22 (by decide)).toSlF (Froz.pair (Froz.int .i64) (Froz.int .i64))) aa el) ?_
 rintro _ e9 ⟨em, bw, bx, bz, b0, ar, aw, rfl, am, fa, fb, an⟩
 refine ⟨_, rfl, ?_⟩
 replace an := an.thaw (flat_pair (flat_pair flat_bool (flat_row (flat_int .u32))) (flat_row (flat_int .u32))) am (((((((Fz.refl (col := bv)).froz 18).froz 19).froz 20).froz 21).froz 22).froz 23) (by decide)
 replace am := am.thawR (col := bv)
 generalize colR ej.heap.size bv em = en at *
 refine lM (.tuple #[(.agg #[(.slice bw aa.1.1.length bx), (.slice bz aa.1.2.1.length b0), (.slice ar aa.1.2.2.length aw)]), (.int .i64 aa.2)]) <| lV (.agg #[(.slice bw aa.1.1.length bx), (.slice bz aa.1.2.1.length b0), (.slice ar aa.1.2.2.length aw)]) (r_extract rfl rfl) <| lV (.int .i64 aa.2) (r_extract rfl rfl) ?_
 refine l_alloc (col := en) (v := (.agg #[(.slice none (([] : List Int).length) 0), (.slice none (([] : List Int).length) 0), (.slice none (([] : List ((Bool × (List Int)) × (List Int))).length) 0)])) 27 rfl Tryz.zeroValue53 ?_
 intro b1 eo ad ax b2
 replace b2 : Box 53 27 ad eo b1 #[(.slice none (([] : List Int).length) 0), (.slice none (([] : List Int).length) 0), (.slice none (([] : List ((Bool × (List Int)) × (List Int))).length) 0)] := b2
 refine l_bstore (v := (.agg #[(.slice bw aa.1.1.length bx), (.slice bz aa.1.2.1.length b0), (.slice ar aa.1.2.2.length aw)])) b2 Tryz.sizeOf53 rfl rfl (by intro u hu; simp only [Value.cells, List.mem_cons, List.not_mem_nil, or_false] at hu; rcases hu with rfl | rfl | rfl <;> rfl) rfl rfl ?_
 intro cq ay ep az
 clear b2
 replace az : Box 53 27 ad cq b1 #[(.slice bw aa.1.1.length bx), (.slice bz aa.1.2.1.length b0), (.slice ar aa.1.2.2.length aw)] := az
 refine lA (.int .i64 aa.2) <| lN <| wS ?_
 replace hst := ((((((((((((((((hst.grow da).grow bl).grow bm).grow b9).kp ca dj).grow bt).grow au).grow aq).grow av).grow bf).kp bg d5).grow a4).grow al).grow ah).grow am).grow ax).kp ay ep
 replace bn := (((((((((((((bn.gr b9).kp ca).gr bt).gr au).gr aq).gr av).gr bf).kp bg).gr a4).gr al).gr ah).gr am).gr ax).kp ay
 replace bo := (((((((((((((bo.gr b9).kp ca).gr bt).gr au).gr aq).gr av).gr bf).kp bg).gr a4).gr al).gr ah).gr am).gr ax).kp ay
 replace bp := (((((((((((bp.gr bt).gr au).gr aq).gr av).gr bf).kp bg).gr a4).gr al).gr ah).gr am).gr ax).kp ay
 replace a1 := (((((((a1.gr bf).kp bg).gr a4).gr al).gr ah).gr am).gr ax).kp ay
 replace a2 := (((((((a2.gr bf).kp bg).gr a4).gr al).gr ah).gr am).gr ax).kp ay
 replace a3 := (((((a3.gr a4).gr al).gr ah).gr am).gr ax).kp ay
 replace an := (an.gr ax).kp ay
 refine Wp.cut (fun f cr => ∃ (ct : Col) (cm : Bool), m_l20_alive_J1 cm = some r ∧ St w0 (col0 col) ct cr ∧ f 0 = (.bool cm) ∧ f 1000000 = (enc [])) ?_ ?_
 ·intro f cr hJ
  obtain ⟨ct, cm, hm, hst, hs0, hs1000000⟩ := hJ
  rw [m_l20_alive_J1.eq_1] at hm
  refine .lD 0 hs0 <| .lD 1000000 hs1000000 ?_
  clear hs0 hs1000000
  refine wret ?_
  cases hm
  exact ⟨rfl, rfl, hst.below⟩
 refine wR <| lM (.int .i64 ac.2) <| lV (.bool (decide (ac.2 = 0))) (r_eql ac.2 0 rfl rfl) <| lM (.bool (decide (ac.2 = 0))) ?_
 by_cases ao : (decide (ac.2 = 0)) = true
 ·rw [if_pos ao] at hm
  refine lg (b := decide (ac.2 = 0)) 33 rfl rfl rfl (by rw [ao]; rfl) ?_
  refine lM (.int .i64 ab.2) ?_
  refine lg (b := decide (ac.2 = 0)) 33 rfl rfl rfl (by rw [ao]; rfl) ?_
  refine lV (.bool (decide (ab.2 = 0))) (r_eql ab.2 0 rfl rfl) <| lV (.bool (decide (ab.2 = 0))) (r_pickT (congrArg Value.bool ao) rfl) <| lM (.bool (decide (ab.2 = 0))) ?_
  by_cases ap : (decide (ab.2 = 0)) = true
  ·rw [if_pos ap] at hm
   refine lg (b := decide (ab.2 = 0)) 37 rfl rfl rfl (by rw [ap]; rfl) ?_
   refine lM (.int .i64 aa.2) ?_
   refine lg (b := decide (ab.2 = 0)) 37 rfl rfl rfl (by rw [ap]; rfl) ?_
   refine lV (.bool (decide (aa.2 = 0))) (r_eql aa.2 0 rfl rfl) <| lV (.bool (decide (aa.2 = 0))) (r_pickT (congrArg Value.bool ap) rfl) <| lM (.bool (decide (aa.2 = 0))) ?_
   by_cases ai : (decide (aa.2 = 0)) = true
   ·rw [if_pos ai] at hm
    refine lg (b := decide (aa.2 = 0)) 41 rfl rfl rfl (by rw [ai]; rfl) ?_
    refine lV (.agg #[(.bool ac.1.1.1), (.slice a6 ac.1.1.2.length a7), (.slice a8 ac.1.2.length a9)]) (r_ldN Tryz.isAgg40 Tryz.sizeOf40 rfl rfl bp.atN) ?_
    refine lg (b := decide (aa.2 = 0)) 41 rfl rfl rfl (by rw [ai]; rfl) ?_
    obtain ⟨aj, eq, hm⟩ := bS hm
    refine lc rfl rfl (r_call1 Tryz.call18 rfl) (c_frac_Text N (frC 7 (frC 6 ad)) _ a6 a7 a8 a9 ((ac.1.1.1, ac.1.1.2), ac.1.2) ((bn.toSlF (Froz.int .u32)).froz 7) ((bo.froz 6 (by decide)).toSlF (Froz.int .u32)) aj eq) ?_
    rintro _ cu ⟨rfl, a0⟩
    refine ⟨_, rfl, ?_⟩
    replace a0 : Grow ad cq ad cu := .of_below a0
    refine lg (b := decide (aa.2 = 0)) 41 rfl rfl rfl (by rw [ai]; rfl) ?_
    refine lV (.bool (decide (aj = (⟨#[49, 51, 47, 53, 48]⟩)))) (r_eqlS aj (⟨#[49, 51, 47, 53, 48]⟩) Tryz.underlying9 rfl rfl) <| lV (.bool (decide (aj = (⟨#[49, 51, 47, 53, 48]⟩)))) (r_pickT (congrArg Value.bool ai) rfl) <| lM (.bool (decide (aj = (⟨#[49, 51, 47, 53, 48]⟩)))) ?_
    replace a1 := a1.gr a0
    replace a2 := a2.gr a0
    replace an := an.gr a0
    replace a3 := a3.gr a0
    replace az := az.gr a0
    replace hst := hst.grow a0
    by_cases ak : (decide (aj = (⟨#[49, 51, 47, 53, 48]⟩))) = true
    ·rw [if_pos ak] at hm
     refine lg (b := decide (aj = (⟨#[49, 51, 47, 53, 48]⟩))) 46 rfl rfl rfl (by rw [ak]; rfl) ?_
     refine lV (.agg #[(.bool ab.1.1.1), (.slice bb ab.1.1.2.length bc), (.slice bd ab.1.2.length be)]) (r_ldN Tryz.isAgg40 Tryz.sizeOf40 rfl rfl a3.atN) ?_
     refine lg (b := decide (aj = (⟨#[49, 51, 47, 53, 48]⟩))) 46 rfl rfl rfl (by rw [ak]; rfl) ?_
     obtain ⟨af, er, hm⟩ := bS hm
     refine lc rfl rfl (r_call1 Tryz.call18 rfl) (c_frac_Text N (frC 16 (frC 15 ad)) _ bb bc bd be ((ab.1.1.1, ab.1.1.2), ab.1.2) ((a1.toSlF (Froz.int .u32)).froz 16) ((a2.froz 15 (by decide)).toSlF (Froz.int .u32)) af er) ?_
     rintro _ cv ⟨rfl, br⟩
     refine ⟨_, rfl, ?_⟩
     replace br : Grow ad cu ad cv := .of_below br
     refine lg (b := decide (aj = (⟨#[49, 51, 47, 53, 48]⟩))) 46 rfl rfl rfl (by rw [ak]; rfl) ?_
     refine lV (.bool (decide (af = (⟨#[57, 47, 49, 51]⟩)))) (r_eqlS af (⟨#[57, 47, 49, 51]⟩) Tryz.underlying9 rfl rfl) <| lV (.bool (decide (af = (⟨#[57, 47, 49, 51]⟩)))) (r_pickT (congrArg Value.bool ak) rfl) <| lM (.bool (decide (af = (⟨#[57, 47, 49, 51]⟩)))) ?_
     replace an := an.gr br
     replace az := az.gr br
     replace hst := hst.grow br
     by_cases ag : (decide (af = (⟨#[57, 47, 49, 51]⟩))) = true
     ·rw [if_pos ag] at hm
      refine lg (b := decide (af = (⟨#[57, 47, 49, 51]⟩))) 51 rfl rfl rfl (by rw [ag]; rfl) ?_
      refine lV (.pointer ((some (⟨b1, 0, none⟩ : Addr)).map (·.add 2))) (rF (sz := 1) (off := 2) Tryz.underlying53 rfl Tryz.sizeOf51 (by decide) rfl rfl ⟨_, _, rfl⟩) ?_
      refine lg (b := decide (af = (⟨#[57, 47, 49, 51]⟩))) 51 rfl rfl rfl (by rw [ag]; rfl) ?_
      refine lV (.slice ar aa.1.2.2.length aw) (r_ld Tryz.isAgg51 rfl ((az.atN).nth (q := 2) (v := (.slice ar aa.1.2.2.length aw)) rfl)) ?_
      refine lg (b := decide (af = (⟨#[57, 47, 49, 51]⟩))) 51 rfl rfl rfl (by rw [ag]; rfl) ?_
      refine lV (.int .i64 (aa.1.2.2.length : Int)) (r_len Tryz.underlying51 rfl) ?_
      refine lg (b := decide (af = (⟨#[57, 47, 49, 51]⟩))) 51 rfl rfl rfl (by rw [ag]; rfl) ?_
      refine lV (.bool (decide ((aa.1.2.2.length : Int) = 2))) (r_eql (aa.1.2.2.length : Int) 2 rfl rfl) <| lV (.bool (decide ((aa.1.2.2.length : Int) = 2))) (r_pickT (congrArg Value.bool ag) rfl) <| lM (.bool (decide ((aa.1.2.2.length : Int) = 2))) ?_
      by_cases ae : (decide ((aa.1.2.2.length : Int) = 2)) = true
      ·rw [if_pos ae] at hm
       refine lg (b := decide ((aa.1.2.2.length : Int) = 2)) 57 rfl rfl rfl (by rw [ae]; rfl) ?_
       refine lV (.pointer ((some (⟨b1, 0, none⟩ : Addr)).map (·.add 2))) (rF (sz := 1) (off := 2) Tryz.underlying53 rfl Tryz.sizeOf51 (by decide) rfl rfl ⟨_, _, rfl⟩) ?_
       refine lg (b := decide ((aa.1.2.2.length : Int) = 2)) 57 rfl rfl rfl (by rw [ae]; rfl) ?_
       refine lV (.slice ar aa.1.2.2.length aw) (r_ld Tryz.isAgg51 rfl ((az.atN).nth (q := 2) (v := (.slice ar aa.1.2.2.length aw)) rfl)) ?_
       refine lg (b := decide ((aa.1.2.2.length : Int) = 2)) 57 rfl rfl rfl (by rw [ae]; rfl) ?_
       obtain ⟨bi, b3, hm⟩ := bS hm
       refine lV (sptr ar (Int.toNat 1 * 3)) (r_idx Tryz.underlying51 Tryz.sizeOf40 rfl rfl (at?_some b3).1 (at?_some b3).2.1 (an.addr b3)) ?_
       refine lg (b := decide ((aa.1.2.2.length : Int) = 2)) 57 rfl rfl rfl (by rw [ae]; rfl) ?_
       obtain ⟨_, es, et⟩ := an.atN b3
       obtain ⟨_, _, rfl, eu, ev⟩ := es.parts
       obtain ⟨_, _, rfl, ew, ex⟩ := eu.parts
       obtain rfl := ew.bool
       obtain ⟨cw, cx, rfl, ey⟩ := ex.row
       obtain ⟨cy, cz, rfl, ez⟩ := ev.row
       refine lV (.agg #[(.bool bi.1.1), (.slice cw bi.1.2.length cx), (.slice cy bi.2.length cz)]) (r_ldN Tryz.isAgg40 Tryz.sizeOf40 rfl rfl et) ?_
       refine lg (b := decide ((aa.1.2.2.length : Int) = 2)) 57 rfl rfl rfl (by rw [ae]; rfl) ?_
       obtain ⟨bj, e0, hm⟩ := bS hm
       refine lc rfl rfl (r_call1 Tryz.call18 rfl) (c_frac_Text N (frC 26 ad) _ cw cx cy cz ((bi.1.1, bi.1.2), bi.2) (ey.toSlF (Froz.int .u32)) (ez.toSlF (Froz.int .u32)) bj e0) ?_
       rintro _ e1 ⟨rfl, cn⟩
       refine ⟨_, rfl, ?_⟩
       replace cn : Grow ad cv ad e1 := .of_below cn
       refine lg (b := decide ((aa.1.2.2.length : Int) = 2)) 57 rfl rfl rfl (by rw [ae]; rfl) ?_
       refine lV (.bool (decide (bj = (⟨#[57, 47, 53, 48]⟩)))) (r_eqlS bj (⟨#[57, 47, 53, 48]⟩) Tryz.underlying9 rfl rfl) <| lV (.bool (decide (bj = (⟨#[57, 47, 53, 48]⟩)))) (r_pickT (congrArg Value.bool ae) rfl) <| lA (.bool (decide (bj = (⟨#[57, 47, 53, 48]⟩)))) <| lN ?_
       replace hst := hst.grow cn
       exact ⟨ad, (decide (bj = (⟨#[57, 47, 53, 48]⟩))), hm, hst, rfl, rfl⟩
      rw [if_neg ae] at hm
      replace ae := Bool.eq_false_iff.2 ae
      refine lp (b := decide ((aa.1.2.2.length : Int) = 2)) 57 rfl rfl rfl rfl (by rw [ae]; rfl) ?_
      refine lp (b := decide ((aa.1.2.2.length : Int) = 2)) 57 rfl rfl rfl rfl (by rw [ae]; rfl) ?_
      refine lp (b := decide ((aa.1.2.2.length : Int) = 2)) 57 rfl rfl rfl rfl (by rw [ae]; rfl) ?_
      refine lp (b := decide ((aa.1.2.2.length : Int) = 2)) 57 rfl rfl rfl rfl (by rw [ae]; rfl) ?_
      refine lp (b := decide ((aa.1.2.2.length : Int) = 2)) 57 rfl rfl rfl rfl (by rw [ae]; rfl) ?_
      refine lp (b := decide ((aa.1.2.2.length : Int) = 2)) 57 rfl rfl rfl rfl (by rw [ae]; rfl) ?_
      refine lV (.bool false) (r_pickF (congrArg Value.bool ae) rfl) <| lA (.bool false) <| lN ?_
      exact ⟨ad, false, hm, hst, rfl, rfl⟩
     rw [if_neg ag] at hm
     replace ag := Bool.eq_false_iff.2 ag
     refine lp (b := decide (af = (⟨#[57, 47, 49, 51]⟩))) 51 rfl rfl rfl rfl (by rw [ag]; rfl) ?_
     refine lp (b := decide (af = (⟨#[57, 47, 49, 51]⟩))) 51 rfl rfl rfl rfl (by rw [ag]; rfl) ?_
     refine lp (b := decide (af = (⟨#[57, 47, 49, 51]⟩))) 51 rfl rfl rfl rfl (by rw [ag]; rfl) ?_
     refine lp (b := decide (af = (⟨#[57, 47, 49, 51]⟩))) 51 rfl rfl rfl rfl (by rw [ag]; rfl) ?_
     refine lV (.bool false) (r_pickF (congrArg Value.bool ag) rfl) <| lM (.bool false) ?_
     refine lp (b := false) 57 rfl rfl rfl rfl rfl ?_
     refine lp (b := false) 57 rfl rfl rfl rfl rfl ?_
     refine lp (b := false) 57 rfl rfl rfl rfl rfl ?_
     refine lp (b := false) 57 rfl rfl rfl rfl rfl ?_
     refine lp (b := false) 57 rfl rfl rfl rfl rfl ?_
     refine lp (b := false) 57 rfl rfl rfl rfl rfl ?_
     refine lV (.bool false) (r_pickF rfl rfl) <| lA (.bool false) <| lN ?_
     exact ⟨ad, false, hm, hst, rfl, rfl⟩
    rw [if_neg ak] at hm
    replace ak := Bool.eq_false_iff.2 ak
    refine lp (b := decide (aj = (⟨#[49, 51, 47, 53, 48]⟩))) 46 rfl rfl rfl rfl (by rw [ak]; rfl) ?_
    refine lp (b := decide (aj = (⟨#[49, 51, 47, 53, 48]⟩))) 46 rfl rfl rfl rfl (by rw [ak]; rfl) ?_
    refine lp (b := decide (aj = (⟨#[49, 51, 47, 53, 48]⟩))) 46 rfl rfl rfl rfl (by rw [ak]; rfl) ?_
    refine lV (.bool false) (r_pickF (congrArg Value.bool ak) rfl) <| lM (.bool false) ?_
    refine lp (b := false) 51 rfl rfl rfl rfl rfl ?_
    refine lp (b := false) 51 rfl rfl rfl rfl rfl ?_
    refine lp (b := false) 51 rfl rfl rfl rfl rfl ?_
    refine lp (b := false) 51 rfl rfl rfl rfl rfl ?_
    refine lV (.bool false) (r_pickF rfl rfl) <| lM (.bool false) ?_
    refine lp (b := false) 57 rfl rfl rfl rfl rfl ?_
    refine lp (b := false) 57 rfl rfl rfl rfl rfl ?_
    refine lp (b := false) 57 rfl rfl rfl rfl rfl ?_
    refine lp (b := false) 57 rfl rfl rfl rfl rfl ?_
    refine lp (b := false) 57 rfl rfl rfl rfl rfl ?_
    refine lp (b := false) 57 rfl rfl rfl rfl rfl ?_
    refine lV (.bool false) (r_pickF rfl rfl) <| lA (.bool false) <| lN ?_
    exact ⟨ad, false, hm, hst, rfl, rfl⟩
   rw [if_neg ai] at hm
   replace ai := Bool.eq_false_iff.2 ai
   refine lp (b := decide (aa.2 = 0)) 41 rfl rfl rfl rfl (by rw [ai]; rfl) ?_
   refine lp (b := decide (aa.2 = 0)) 41 rfl rfl rfl rfl (by rw [ai]; rfl) ?_
   refine lp (b := decide (aa.2 = 0)) 41 rfl rfl rfl rfl (by rw [ai]; rfl) ?_
   refine lV (.bool false) (r_pickF (congrArg Value.bool ai) rfl) <| lM (.bool false) ?_
   refine lp (b := false) 46 rfl rfl rfl rfl rfl ?_
   refine lp (b := false) 46 rfl rfl rfl rfl rfl ?_
   refine lp (b := false) 46 rfl rfl rfl rfl rfl ?_
   refine lV (.bool false) (r_pickF rfl rfl) <| lM (.bool false) ?_
   refine lp (b := false) 51 rfl rfl rfl rfl rfl ?_
   refine lp (b := false) 51 rfl rfl rfl rfl rfl ?_
   refine lp (b := false) 51 rfl rfl rfl rfl rfl ?_
   refine lp (b := false) 51 rfl rfl rfl rfl rfl ?_
   refine lV (.bool false) (r_pickF rfl rfl) <| lM (.bool false) ?_
   refine lp (b := false) 57 rfl rfl rfl rfl rfl ?_
   refine lp (b := false) 57 rfl rfl rfl rfl rfl ?_
   refine lp (b := false) 57 rfl rfl rfl rfl rfl ?_
   refine lp (b := false) 57 rfl rfl rfl rfl rfl ?_
   refine lp (b := false) 57 rfl rfl rfl rfl rfl ?_
   refine lp (b := false) 57 rfl rfl rfl rfl rfl ?_
   refine lV (.bool false) (r_pickF rfl rfl) <| lA (.bool false) <| lN ?_
   exact ⟨ad, false, hm, hst, rfl, rfl⟩
  rw [if_neg ap] at hm
  replace ap := Bool.eq_false_iff.2 ap
  refine lp (b := decide (ab.2 = 0)) 37 rfl rfl rfl rfl (by rw [ap]; rfl) ?_
  refine lp (b := decide (ab.2 = 0)) 37 rfl rfl rfl rfl (by rw [ap]; rfl) ?_
  refine lV (.bool false) (r_pickF (congrArg Value.bool ap) rfl) <| lM (.bool false) ?_
  refine lp (b := false) 41 rfl rfl rfl rfl rfl ?_
  refine lp (b := false) 41 rfl rfl rfl rfl rfl ?_
  refine lp (b := false) 41 rfl rfl rfl rfl rfl ?_
  refine lV (.bool false) (r_pickF rfl rfl) <| lM (.bool false) ?_
  refine lp (b := false) 46 rfl rfl rfl rfl rfl ?_
  refine lp (b := false) 46 rfl rfl rfl rfl rfl ?_
  refine lp (b := false) 46 rfl rfl rfl rfl rfl ?_
  refine lV (.bool false) (r_pickF rfl rfl) <| lM (.bool false) ?_
  refine lp (b := false) 51 rfl rfl rfl rfl rfl ?_
  refine lp (b := false) 51 rfl rfl rfl rfl rfl ?_
  refine lp (b := false) 51 rfl rfl rfl rfl rfl ?_
  refine lp (b := false) 51 rfl rfl rfl rfl rfl ?_
  refine lV (.bool false) (r_pickF rfl rfl) <| lM (.bool false) ?_
  refine lp (b := false) 57 rfl rfl rfl rfl rfl ?_
  refine lp (b := false) 57 rfl rfl rfl rfl rfl ?_
  refine lp (b := false) 57 rfl rfl rfl rfl rfl ?_
  refine lp (b := false) 57 rfl rfl rfl rfl rfl ?_
  refine lp (b := false) 57 rfl rfl rfl rfl rfl ?_
  refine lp (b := false) 57 rfl rfl rfl rfl rfl ?_
  refine lV (.bool false) (r_pickF rfl rfl) <| lA (.bool false) <| lN ?_
  exact ⟨ad, false, hm, hst, rfl, rfl⟩
 rw [if_neg ao] at hm
 replace ao := Bool.eq_false_iff.2 ao
 refine lp (b := decide (ac.2 = 0)) 33 rfl rfl rfl rfl (by rw [ao]; rfl) ?_
 refine lp (b := decide (ac.2 = 0)) 33 rfl rfl rfl rfl (by rw [ao]; rfl) ?_
 refine lV (.bool false) (r_pickF (congrArg Value.bool ao) rfl) <| lM (.bool false) ?_
 refine lp (b := false) 37 rfl rfl rfl rfl rfl ?_
 refine lp (b := false) 37 rfl rfl rfl rfl rfl ?_
 refine lV (.bool false) (r_pickF rfl rfl) <| lM (.bool false) ?_
 refine lp (b := false) 41 rfl rfl rfl rfl rfl ?_
 refine lp (b := false) 41 rfl rfl rfl rfl rfl ?_
 refine lp (b := false) 41 rfl rfl rfl rfl rfl ?_
 refine lV (.bool false) (r_pickF rfl rfl) <| lM (.bool false) ?_
 refine lp (b := false) 46 rfl rfl rfl rfl rfl ?_
 refine lp (b := false) 46 rfl rfl rfl rfl rfl ?_
 refine lp (b := false) 46 rfl rfl rfl rfl rfl ?_
 refine lV (.bool false) (r_pickF rfl rfl) <| lM (.bool false) ?_
 refine lp (b := false) 51 rfl rfl rfl rfl rfl ?_
 refine lp (b := false) 51 rfl rfl rfl rfl rfl ?_
 refine lp (b := false) 51 rfl rfl rfl rfl rfl ?_
 refine lp (b := false) 51 rfl rfl rfl rfl rfl ?_
 refine lV (.bool false) (r_pickF rfl rfl) <| lM (.bool false) ?_
 refine lp (b := false) 57 rfl rfl rfl rfl rfl ?_
 refine lp (b := false) 57 rfl rfl rfl rfl rfl ?_
 refine lp (b := false) 57 rfl rfl rfl rfl rfl ?_
 refine lp (b := false) 57 rfl rfl rfl rfl rfl ?_
 refine lp (b := false) 57 rfl rfl rfl rfl rfl ?_
 refine lp (b := false) 57 rfl rfl rfl rfl rfl ?_
 refine lV (.bool false) (r_pickF rfl rfl) <| lA (.bool false) <| lN ?_
 exact ⟨ad, false, hm, hst, rfl, rfl⟩
def m_l20_JointNames_J1 (aa : Bool) : Option Bool :=
  some aa
def m_l20_JointNames (N : Nat)  : Option Bool :=
  (m_l20_alive N).bind fun aa => m_l20_JointNames_J1 aa
theorem c_l20_JointNames (N : Nat) (col : Col) (w0 : World)  (r : Bool) (hm : m_l20_JointNames N = some r) :
    Calls Tryz.prog 3 #[] w0 (fun e w' => e = .returned ((.bool r)) ∧ Below w0.heap.size w0 w') := by
 refine calls_of1 0 (m := 4) (args := []) Tryz.func3 rfl rfl rfl rfl rfl ?_
 rw [m_l20_JointNames.eq_1] at hm
 have hst := St.start col w0
 refine wS <| wR <| lA (.bool false) <| lN <| wS ?_
 refine Wp.cut (fun f ad => ∃ (ae : Col) (ab : Bool), m_l20_JointNames_J1 ab = some r ∧ St w0 (col0 col) ae ad ∧ f 0 = (.bool ab) ∧ f 1000000 = (enc [])) ?_ ?_
 ·intro f ad hJ
  obtain ⟨ae, ab, hm, hst, hs0, hs1000000⟩ := hJ
  rw [m_l20_JointNames_J1.eq_1] at hm
  refine .lD 0 hs0 <| .lD 1000000 hs1000000 ?_
  clear hs0 hs1000000
  refine wret ?_
  cases hm
  exact ⟨rfl, rfl, hst.below⟩
 refine wR <| lM (.bool true) ?_
 refine lg (b := true) 1 rfl rfl rfl rfl ?_
 obtain ⟨aa, af, hm⟩ := bS hm
 refine lc rfl rfl (r_call0 Tryz.call6 ) (c_l20_alive N (col0 col) _ aa af) ?_
 rintro _ ag ⟨rfl, ac⟩
 refine ⟨_, rfl, ?_⟩
 replace ac : Grow (col0 col) w0 (col0 col) ag := .of_below ac
 refine lV (.bool aa) (r_pickT rfl rfl) <| lA (.bool aa) <| lN ?_
 replace hst := hst.grow ac
 exact ⟨(col0 col), aa, hm, hst, rfl, rfl⟩

end Go.Proofs.YtonkjfnjadofpaaGreat
