/-
  What functions of the program compute, as plain Lean functions (m_..), and proofs that they compute it (c_..). Printed by a program of the author; no conditions.
-/
import Derived.Test.YtonkjfnjadofpaaGreatJointNamesBFloat
import Derived.Test.YtonkjfnjadofpaaGreatProg
import Derived.Test.YtonkjfnjadofpaaGreatJointNamesBThree
import Derived.Test.YtonkjfnjadofpaaGreatJointNamesF2
set_option linter.unusedVariables false
set_option maxRecDepth 100000
set_option maxHeartbeats 2000000
namespace Go.Proofs.YtonkjfnjadofpaaGreat
open Go Go.RowKit

theorem el3_94 : ElemOk Tryz.prog 3 1 8 := ⟨Tryz.t3, _, rfl, rfl, rfl, rfl, rfl⟩
def m_model_Sizes_L1  : List (List ByteArray) → (List Int) → Option (List Int)
  | [], aa => some aa
  | ab :: ac, aa => chk ((aa.length + [(ab.length : Int)].length) * 8 ≤ 140737488355328 ∧ aa.length + [(ab.length : Int)].length ≤ maxLen) ((m_model_Sizes_L1 ac) (aa ++ [(ab.length : Int)]))
termination_by structural x => x
def m_model_Sizes (aa : (ByteArray × (List ByteArray) × (List (List ByteArray)) × (List (List Int)) × (List (List ((Bool × (List Int)) × (List Int)))))) : Option (List Int) :=
  m_model_Sizes_L1 aa.2.2.1 ([] : List Int)
theorem c_model_Sizes (c1 : Nat) (col : Col) (w0 : World) (ak : Option Addr) (al : Nat) (ad : Option Addr) (ag : Nat) (am : Option Addr) (an : Nat) (ao : Option Addr) (ap : Nat) (aa : (ByteArray × (List ByteArray) × (List (List ByteArray)) × (List (List Int)) × (List (List ((Bool × (List Int)) × (List Int)))))) (bf : Sl Rep.str col w0 ak al aa.2.1) (ae : Sl (Rep.slice Rep.str) col w0 ad ag aa.2.2.1) (bg : Sl (Rep.slice (Rep.int .i64)) col w0 am an aa.2.2.2.1) (bh : Sl (Rep.slice (Rep.pair (Rep.pair Rep.bool (Rep.slice (Rep.int .u32))) (Rep.slice (Rep.int .u32)))) col w0 ao ap aa.2.2.2.2) (r : (List Int)) (hm : m_model_Sizes aa = some r) :
    Calls Tryz.prog 94 #[(.agg #[(.string aa.1), (.slice ak aa.2.1.length al), (.slice ad aa.2.2.1.length ag), (.slice am aa.2.2.2.1.length an), (.slice ao aa.2.2.2.2.length ap)])] w0 (fun e w' => ∃ (col' : Col) (ra1 : Option Addr) (rc2 : Nat), e = .returned ((.slice ra1 r.length rc2)) ∧ Grow col w0 col' w' ∧ Own (Rep.int .i64) 3 c1 col' w' ra1 rc2 r) := by
 refine calls_of1 2 (m := 20) (args := [(.agg #[(.string aa.1), (.slice ak aa.2.1.length al), (.slice ad aa.2.2.1.length ag), (.slice am aa.2.2.2.1.length an), (.slice ao aa.2.2.2.2.length ap)])]) Tryz.func94 rfl rfl rfl rfl rfl ?_
 rw [m_model_Sizes.eq_1] at hm
 have hst := St.start col w0
 refine wS <| wR ?_
 refine l_box (col := (col0 col)) (v := (.agg #[(.string aa.1), (.slice ak aa.2.1.length al), (.slice ad aa.2.2.1.length ag), (.slice am aa.2.2.2.1.length an), (.slice ao aa.2.2.2.2.length ap)])) 1 rfl rfl ?_
 intro az a7 a0 a1 av
 replace av : Box 28 1 a0 a7 az #[(.string aa.1), (.slice ak aa.2.1.length al), (.slice ad aa.2.2.1.length ag), (.slice am aa.2.2.2.1.length an), (.slice ao aa.2.2.2.2.length ap)] := av
 refine lA (.slice none (([] : List Int).length) 0) <| lN <| wS <| wR <| lA (.slice none (([] : List Int).length) 0) <| lN <| wS <| wS <| wR <| lV (.pointer ((some (⟨az, 0, none⟩ : Addr)).map (·.add 2))) (rF (sz := 1) (off := 2) Tryz.underlying28 rfl Tryz.sizeOf24 (by decide) rfl rfl ⟨_, _, rfl⟩) <| lV (.slice ad aa.2.2.1.length ag) (r_ld Tryz.isAgg24 rfl ((av.atN).nth (q := 2) (v := (.slice ad aa.2.2.1.length ag)) rfl)) <| lV (.int .i64 (aa.2.2.1.length : Int)) (r_len Tryz.underlying24 rfl) <| lM (.int .i64 0) <| lN <| wB ?_
 replace ae := (ae.keep (Stay.start col w0)).gr a1
 replace hst := hst.grow a1
 refine wloop (fun n f au => ∃ (aj : Col) (ah : Option Addr) (ai : Nat) (af : List Int) (ab : Nat) (aq : List (List ByteArray)), n = aq.length ∧ aa.2.2.1.drop ab = aq ∧ m_model_Sizes_L1 aq af = some r ∧ St w0 (col0 col) aj au ∧ Own (Rep.int .i64) 3 2 aj au ah ai af ∧ Sl (Rep.slice Rep.str) aj au ad ag aa.2.2.1 ∧ f 9 = (.int .i64 (ab : Int)) ∧ f 3 = (.slice ah af.length ai) ∧ f 7 = (.slice ad aa.2.2.1.length ag) ∧ f 8 = (.int .i64 (aa.2.2.1.length : Int)) ∧ f 1000000 = (enc [])) aa.2.2.1.length ⟨a0, none, 0, ([] : List Int), 0, aa.2.2.1, rfl, rfl, hm, hst, Own.nil, ae, rfl, rfl, rfl, rfl, rfl⟩ ?_
 clear hm; intro n f au hI
 obtain ⟨aj, ah, ai, af, ab, aq, hn, hl, hm, hst, ar, ae, hs9, hs3, hs7, hs8, hs1000000⟩ := hI
 subst hn
 refine .lD 9 hs9 <| .lD 3 hs3 <| .lD 7 hs7 <| .lD 8 hs8 <| .lD 1000000 hs1000000 ?_
 clear hs9 hs3 hs7 hs8 hs1000000
 cases aq with
 | nil =>
  have hk : ¬ ((ab : Int) < (aa.2.2.1.length : Int)) := by have := List.drop_eq_nil_iff.1 hl; omega
  have hkb := decide_eq_false hk
  rw [m_model_Sizes_L1.eq_1] at hm
  refine wS <| wR <| lV (.bool (decide ((ab : Int) < (aa.2.2.1.length : Int)))) (r_lss (ab : Int) (aa.2.2.1.length : Int) rfl rfl) <| lN <| wS ?_
  refine wcondF (congrArg Value.bool hkb) ?_
  refine wexit (inB_hit ?_)
  refine wS <| wR <| lM (.slice ah af.length ai) <| lA (.slice ah af.length ai) <| lN ?_
  refine wret ?_
  cases hm
  exact ⟨rfl, colF w0.heap.size col aj (fun n => bif Nat.beq n 2 then c1 else 0), ah, ai, rfl, hst.fin (fun n => bif Nat.beq n 2 then c1 else 0), hst.finOwn (g := (fun n => bif Nat.beq n 2 then c1 else 0)) rfl ar (by decide) (by decide) rfl⟩
 | cons ac a2 =>
  obtain ⟨hat, hl2_L1, hlt_L1⟩ := drop_get hl
  have hk : (ab : Int) < (aa.2.2.1.length : Int) := by omega
  have hkb := decide_eq_true hk
  rw [m_model_Sizes_L1.eq_2] at hm
  refine wS <| wR <| lV (.bool (decide ((ab : Int) < (aa.2.2.1.length : Int)))) (r_lss (ab : Int) (aa.2.2.1.length : Int) rfl rfl) <| lN <| wS ?_
  refine wcondT (congrArg Value.bool hkb) ?_
  refine wK <| wS <| wB <| wS <| wR ?_
  refine lV (sptr ad (Int.toNat (ab : Int) * 1)) (r_idx Tryz.underlying24 Tryz.sizeOf23 rfl rfl (at?_some hat).1 (at?_some hat).2.1 (ae.addr hat)) ?_
  obtain ⟨_, a8, a9⟩ := ae.atN hat
  obtain ⟨⟨aw, ax, rfl, bi⟩, _⟩ := a8
  refine lV (.slice aw ac.length ax) (r_ld Tryz.isAgg23 rfl a9.one) <| lA (.slice aw ac.length ax) <| lN <| wR <| lM (.slice ah af.length ai) <| lM (.slice aw ac.length ax) <| lV (.int .i64 (ac.length : Int)) (r_len Tryz.underlying23 rfl) ?_
  refine l_lit (col := aj) (r := (Rep.int .i64)) (xs := [(ac.length : Int)]) [(.int .i64 (ac.length : Int))] 3 rfl Tryz.underlying33 el3_94 rfl rfl rfl rfl rfl rfl (by intro v hv; simp only [List.mem_cons, List.not_mem_nil, or_false] at hv; subst hv; rfl) (RowsH.ofF (Rows.consF (r := (Rep.int .i64)) (x := (ac.length : Int)) (cs := [(.int .i64 (ac.length : Int))]) (rd_int .i64 (ac.length : Int)) Rows.nil0)) ?_
  intro bj ba bb ay bc
  obtain ⟨a3, hm⟩ := cS hm
  replace ar := ar.gr ay
  refine l_appendM (col := bb) (w := ba) (r := (Rep.int .i64)) (c := 2) (c2 := 2) (xs := af) (ys := [(ac.length : Int)]) ar (bc.srcN (NB.int (k := .i64))) rfl Tryz.underlying33 el3_94 rfl rfl rfl a3.1 a3.2 (by decide) ?_
  intro a4 a5 bk bd a6 be
  clear ar
  refine lA (.slice a4 ((af ++ [(ac.length : Int)]).length) a5) <| lN <| wR <| lV (.int .i64 (IntKind.i64.wrap ((ab : Int) + 1))) (r_add (ab : Int) 1 rfl rfl) <| lM (.int .i64 (IntKind.i64.wrap ((ab : Int) + 1))) <| lN ?_
  replace ae := (ae.gr ay).kpp a6
  replace hst := (hst.grow ay).kpp a6
  exact ⟨a2.length, by simp, ⟨bd, a4, a5, (af ++ [(ac.length : Int)]), (ab + 1), a2, rfl, hl2_L1, hm, hst, be, ae, (congrArg (Value.int .i64) (wrap_succ (Nat.lt_of_lt_of_le hlt_L1 ae.1.1))), rfl, rfl, rfl, rfl⟩⟩
def m_radix_Count_int_L2  : List Int → Int → Option (Int × Int)
  | [], aa => some (aa, 0)
  | ab :: ac, aa => chk (aa ≠ 0) (if (decide ((IntKind.i64.wrap (Int.tdiv 2147483647 aa)) < ab)) = true then none else ((m_radix_Count_int_L2 ac) (IntKind.i64.wrap (aa * ab))))
termination_by structural x => x
def m_radix_Count_int_J1 (kk_L1 : (Bool → Option (Int × Int))) (aa : Bool) : Option (Int × Int) :=
  kk_L1 aa
def m_radix_Count_int_L1 (aa : (List Int)) : List Int → Bool → Option (Int × Int)
  | [], ab => if ab = true then none else (m_radix_Count_int_L2 aa 1)
  | ac :: ad, ab => if (decide (ac < 0)) = true then none else (if ab = true then (m_radix_Count_int_J1 (m_radix_Count_int_L1 aa ad) true) else (m_radix_Count_int_J1 (m_radix_Count_int_L1 aa ad) (decide (ac = 0))))
termination_by structural x => x
def m_radix_Count_int (aa : (List Int)) : Option (Int × Int) :=
  m_radix_Count_int_L1 aa aa false
theorem c_radix_Count_int (col : Col) (w0 : World) (a0 : Option Addr) (cap0 : Nat) (aa : (List Int)) (h0 : Sl (Rep.int .i64) col w0 a0 cap0 aa) (r : (Int × Int)) (hm : m_radix_Count_int aa = some r) :
    Calls Tryz.prog 50 #[(.slice a0 aa.length cap0)] w0 (fun e w' => e = .returned (.tuple #[(.int .i64 r.1), (.int .i64 r.2)]) ∧ Below w0.heap.size w0 w') := by
 refine calls_of2 2 3 (m := 40) (args := [(.slice a0 aa.length cap0)]) Tryz.func50 rfl rfl rfl rfl rfl ?_
 rw [m_radix_Count_int.eq_1] at hm
 have hst := St.start col w0
 refine wS <| wR <| lA (.int .i64 0) <| lA (.int .i64 0) <| lN <| wS <| wR <| lA (.bool false) <| lN <| wS <| wS <| wR <| lM (.slice a0 aa.length cap0) <| lV (.int .i64 (aa.length : Int)) (r_len Tryz.underlying33 rfl) <| lM (.int .i64 0) <| lN <| wB ?_
 replace h0 := h0.keep (Stay.start col w0)
 refine wloop (fun n f ao => ∃ (ai : Col) (ac : Nat) (ae : Bool) (aj : List Int), n = aj.length ∧ aa.drop ac = aj ∧ m_radix_Count_int_L1 aa aj ae = some r ∧ St w0 (col0 col) ai ao ∧ Sl (Rep.int .i64) ai ao a0 cap0 aa ∧ f 12 = (.int .i64 (ac : Int)) ∧ f 0 = (.slice a0 aa.length cap0) ∧ f 10 = (.slice a0 aa.length cap0) ∧ f 11 = (.int .i64 (aa.length : Int)) ∧ f 4 = (.bool ae) ∧ f 1000000 = (enc [])) aa.length ⟨(col0 col), 0, false, aa, rfl, rfl, hm, hst, h0, rfl, rfl, rfl, rfl, rfl, rfl⟩ ?_
 clear hm; intro n f ao hI
 obtain ⟨ai, ac, ae, aj, hn, hl, hm, hst, h0, hs12, hs0, hs10, hs11, hs4, hs1000000⟩ := hI
 subst hn
 refine .lD 12 hs12 <| .lD 0 hs0 <| .lD 10 hs10 <| .lD 11 hs11 <| .lD 4 hs4 <| .lD 1000000 hs1000000 ?_
 clear hs12 hs0 hs10 hs11 hs4 hs1000000
 cases aj with
 | nil =>
  have hk : ¬ ((ac : Int) < (aa.length : Int)) := by have := List.drop_eq_nil_iff.1 hl; omega
  have hkb := decide_eq_false hk
  rw [m_radix_Count_int_L1.eq_1] at hm
  refine wS <| wR <| lV (.bool (decide ((ac : Int) < (aa.length : Int)))) (r_lss (ac : Int) (aa.length : Int) rfl rfl) <| lN <| wS ?_
  refine wcondF (congrArg Value.bool hkb) ?_
  refine wexit (inB_hit ?_)
  refine wS <| wS <| wR <| lM (.bool ae) <| lN ?_
  refine wcond (ae) rfl (fun hb => ?_) (fun hb => ?_)
  ·rw [if_pos hb] at hm
   clear hb
   cases hm
  rw [if_neg (by rw [hb]; decide)] at hm
  clear hb
  refine wK <| wS <| wR <| lA (.int .i64 1) <| lN <| wS <| wS <| wR <| lM (.slice a0 aa.length cap0) <| lV (.int .i64 (aa.length : Int)) (r_len Tryz.underlying33 rfl) <| lM (.int .i64 0) <| lN <| wB ?_
  refine wloop (fun n f ap => ∃ (al : Col) (ad : Nat) (ab : Int) (ak : List Int), n = ak.length ∧ aa.drop ad = ak ∧ m_radix_Count_int_L2 ak ab = some r ∧ St w0 (col0 col) al ap ∧ Sl (Rep.int .i64) al ap a0 cap0 aa ∧ f 27 = (.int .i64 (ad : Int)) ∧ f 25 = (.slice a0 aa.length cap0) ∧ f 26 = (.int .i64 (aa.length : Int)) ∧ f 7 = (.int .i64 ab) ∧ f 1000000 = (enc [])) aa.length ⟨ai, 0, 1, aa, rfl, rfl, hm, hst, h0, rfl, rfl, rfl, rfl, rfl⟩ ?_
  clear hm; intro n f ap hI
  obtain ⟨al, ad, ab, ak, hn, hl, hm, hst, h0, hs27, hs25, hs26, hs7, hs1000000⟩ := hI
  subst hn
  refine .lD 27 hs27 <| .lD 25 hs25 <| .lD 26 hs26 <| .lD 7 hs7 <| .lD 1000000 hs1000000 ?_
  clear hs27 hs25 hs26 hs7 hs1000000
  cases ak with
  | nil =>
   have hk : ¬ ((ad : Int) < (aa.length : Int)) := by have := List.drop_eq_nil_iff.1 hl; omega
   have hkb := decide_eq_false hk
   rw [m_radix_Count_int_L2.eq_1] at hm
   refine wS <| wR <| lV (.bool (decide ((ad : Int) < (aa.length : Int)))) (r_lss (ad : Int) (aa.length : Int) rfl rfl) <| lN <| wS ?_
   refine wcondF (congrArg Value.bool hkb) ?_
   refine wexit (inB_hit ?_)
   refine wS <| wR <| lM (.int .i64 ab) <| lA (.int .i64 ab) <| lA (.int .i64 0) <| lN ?_
   refine wret ?_
   cases hm
   exact ⟨rfl, rfl, hst.below⟩
  | cons ag au =>
   obtain ⟨hat, hl2_L2, hlt_L2⟩ := drop_get hl
   have hk : (ad : Int) < (aa.length : Int) := by omega
   have hkb := decide_eq_true hk
   rw [m_radix_Count_int_L2.eq_2] at hm
   refine wS <| wR <| lV (.bool (decide ((ad : Int) < (aa.length : Int)))) (r_lss (ad : Int) (aa.length : Int) rfl rfl) <| lN <| wS ?_
   refine wcondT (congrArg Value.bool hkb) ?_
   refine wK <| wS <| wB <| wS <| wR ?_
   refine lV (sptr a0 (Int.toNat (ad : Int) * 1)) (r_idx Tryz.underlying33 Tryz.sizeOf3 rfl rfl (at?_some hat).1 (at?_some hat).2.1 (h0.addr hat)) ?_
   refine lV (.int .i64 ag) (r_ld Tryz.isAgg3 rfl (h0.atInt hat)) <| lA (.int .i64 ag) <| lN <| wS <| wS <| wR <| lM (.int .i64 ag) <| lM (.int .i64 ab) ?_
   obtain ⟨av, hm⟩ := cS hm
   refine lV (.int .i64 (IntKind.i64.wrap (Int.tdiv 2147483647 ab))) (r_quo 2147483647 ab rfl rfl av) <| lV (.bool (decide ((IntKind.i64.wrap (Int.tdiv 2147483647 ab)) < ag))) (r_gtr ag (IntKind.i64.wrap (Int.tdiv 2147483647 ab)) rfl rfl) <| lN ?_
   refine wcond (decide ((IntKind.i64.wrap (Int.tdiv 2147483647 ab)) < ag)) rfl (fun hb => ?_) (fun hb => ?_)
   ·rw [if_pos hb] at hm
    clear hb
    cases hm
   rw [if_neg (by rw [hb]; decide)] at hm
   clear hb
   refine wK <| wR <| lM (.int .i64 ab) <| lM (.int .i64 ag) <| lV (.int .i64 (IntKind.i64.wrap (ab * ag))) (r_mul ab ag rfl rfl) <| lA (.int .i64 (IntKind.i64.wrap (ab * ag))) <| lN <| wR <| lV (.int .i64 (IntKind.i64.wrap ((ad : Int) + 1))) (r_add (ad : Int) 1 rfl rfl) <| lM (.int .i64 (IntKind.i64.wrap ((ad : Int) + 1))) <| lN ?_
   exact ⟨au.length, by simp, ⟨al, (ad + 1), (IntKind.i64.wrap (ab * ag)), au, rfl, hl2_L2, hm, hst, h0, (congrArg (Value.int .i64) (wrap_succ (Nat.lt_of_lt_of_le hlt_L2 h0.1.1))), rfl, rfl, rfl, rfl⟩⟩
 | cons af aq =>
  obtain ⟨hat, hl2_L1, hlt_L1⟩ := drop_get hl
  have hk : (ac : Int) < (aa.length : Int) := by omega
  have hkb := decide_eq_true hk
  rw [m_radix_Count_int_L1.eq_2] at hm
  refine wS <| wR <| lV (.bool (decide ((ac : Int) < (aa.length : Int)))) (r_lss (ac : Int) (aa.length : Int) rfl rfl) <| lN <| wS ?_
  refine wcondT (congrArg Value.bool hkb) ?_
  refine wK <| wS ?_
  refine Wp.cut (fun f ar => ∃ (am : Col) (an : Bool), m_radix_Count_int_J1 (m_radix_Count_int_L1 aa aq) an = some r ∧ St w0 (col0 col) am ar ∧ Sl (Rep.int .i64) am ar a0 cap0 aa ∧ f 0 = (.slice a0 aa.length cap0) ∧ f 10 = (.slice a0 aa.length cap0) ∧ f 11 = (.int .i64 (aa.length : Int)) ∧ f 12 = (.int .i64 (ac : Int)) ∧ f 4 = (.bool an) ∧ f 1000000 = (enc [])) ?_ ?_
  ·intro f ar hJ
   obtain ⟨am, an, hm, hst, h0, hs0, hs10, hs11, hs12, hs4, hs1000000⟩ := hJ
   rw [m_radix_Count_int_J1.eq_1] at hm
   refine .lD 0 hs0 <| .lD 10 hs10 <| .lD 11 hs11 <| .lD 12 hs12 <| .lD 4 hs4 <| .lD 1000000 hs1000000 ?_
   clear hs0 hs10 hs11 hs12 hs4 hs1000000
   refine wR <| lV (.int .i64 (IntKind.i64.wrap ((ac : Int) + 1))) (r_add (ac : Int) 1 rfl rfl) <| lM (.int .i64 (IntKind.i64.wrap ((ac : Int) + 1))) <| lN ?_
   exact ⟨aq.length, by simp, ⟨am, (ac + 1), an, aq, rfl, hl2_L1, hm, hst, h0, (congrArg (Value.int .i64) (wrap_succ (Nat.lt_of_lt_of_le hlt_L1 h0.1.1))), rfl, rfl, rfl, rfl, rfl⟩⟩
  refine wB <| wS <| wR ?_
  refine lV (sptr a0 (Int.toNat (ac : Int) * 1)) (r_idx Tryz.underlying33 Tryz.sizeOf3 rfl rfl (at?_some hat).1 (at?_some hat).2.1 (h0.addr hat)) ?_
  refine lV (.int .i64 af) (r_ld Tryz.isAgg3 rfl (h0.atInt hat)) <| lA (.int .i64 af) <| lN <| wS <| wS <| wR <| lM (.int .i64 af) <| lV (.bool (decide (af < 0))) (r_lss af 0 rfl rfl) <| lN ?_
  refine wcond (decide (af < 0)) rfl (fun hb => ?_) (fun hb => ?_)
  ·rw [if_pos hb] at hm
   clear hb
   cases hm
  rw [if_neg (by rw [hb]; decide)] at hm
  clear hb
  refine wK <| wR <| lM (.bool ae) <| lM (.bool ae) ?_
  by_cases ah : ae = true
  ·rw [if_pos ah] at hm
   refine lp (b := ae) 19 rfl rfl rfl rfl (by rw [ah]; rfl) ?_
   refine lp (b := ae) 19 rfl rfl rfl rfl (by rw [ah]; rfl) ?_
   refine lV (.bool true) (r_pickT (congrArg Value.bool ah) rfl) <| lA (.bool true) <| lN ?_
   exact ⟨ai, true, hm, hst, h0, rfl, rfl, rfl, rfl, rfl, rfl⟩
  rw [if_neg ah] at hm
  replace ah := Bool.eq_false_iff.2 ah
  refine lg (b := ae) 19 rfl rfl rfl (by rw [ah]; rfl) ?_
  refine lM (.int .i64 af) ?_
  refine lg (b := ae) 19 rfl rfl rfl (by rw [ah]; rfl) ?_
  refine lV (.bool (decide (af = 0))) (r_eql af 0 rfl rfl) <| lV (.bool (decide (af = 0))) (r_pickF (congrArg Value.bool ah) rfl) <| lA (.bool (decide (af = 0))) <| lN ?_
  exact ⟨ai, (decide (af = 0)), hm, hst, h0, rfl, rfl, rfl, rfl, rfl, rfl⟩
theorem el3_44 : ElemOk Tryz.prog 3 1 8 := ⟨Tryz.t3, _, rfl, rfl, rfl, rfl, rfl⟩
def m_joint_check_J1 (aa : (List Int)) (ab : Bool) : Option ((List Int) × Int) :=
  if ab = true then none else (some (aa, 0))
def m_joint_check_L4 (aa : (List Int)) : List Int → (List Bool) → Option ((List Int) × Int)
  | [], ab => (m_radix_Count_int aa).bind fun ac => if (!decide (ac.2 = 0)) = true then (m_joint_check_J1 aa true) else (m_joint_check_J1 aa (decide (65536 < ac.1)))
  | ad :: ae, ab => (at? ab ad).bind fun af => if af = true then none else ((some (ab.set (Int.toNat ad) true)).bind fun ag => (m_joint_check_L4 aa ae) ag)
termination_by structural x => x
def m_joint_check_L3 (ab : (List Int)) : List (Int × Int) → (List Int) → Option ((List Int) × Int)
  | [], aa => m_joint_check_L4 ab aa (List.replicate ab.length (false : Bool))
  | ac :: ad, aa => chk ((0 : Int) ≤ 0 ∧ 0 ≤ (aa.length : Int) ∧ (aa.length : Int) ≤ (aa.length : Int) ∧ (aa.length : Int) ≤ (aa.length : Int)) (chk (((aa.take (Int.toNat (aa.length : Int))).length + [ac.1].length) * 8 ≤ 140737488355328 ∧ (aa.take (Int.toNat (aa.length : Int))).length + [ac.1].length ≤ maxLen) ((m_joint_check_L3 ab ad) ((aa.take (Int.toNat (aa.length : Int))) ++ [ac.1])))
termination_by structural x => x
def m_joint_check_J2 (kk_L2 : (Option ((List Int) × Int))) (aa : Bool) : Option ((List Int) × Int) :=
  if aa = true then none else kk_L2
def m_joint_check_L2 (ab : (List (Int × Int))) (ac : (List Int)) (aa : (List Int)) : List Int → Option ((List Int) × Int)
  | [] => chk (aa.length * 1 ≤ 281474976710656 ∧ aa.length ≤ maxLen) (m_joint_check_L3 aa ab ac)
  | ad :: ae => if (decide (ad < 0)) = true then (m_joint_check_J2 (m_joint_check_L2 ab ac aa ae) true) else (m_joint_check_J2 (m_joint_check_L2 ab ac aa ae) (decide ((aa.length : Int) ≤ ad)))
termination_by structural x => x
def m_joint_check_J3 (kk_L1 : (Option ((List Int) × Int))) (aa : Bool) : Option ((List Int) × Int) :=
  if aa = true then none else kk_L1
def m_joint_check_L1 (ac : (List (Int × Int))) (ab : (List Int)) (aa : (List Int)) : List (Int × Int) → Option ((List Int) × Int)
  | [] => m_joint_check_L2 ac ab aa ab 
  | ad :: ae => if (decide (ad.1 < 0)) = true then (m_joint_check_J3 (m_joint_check_L1 ac ab aa ae) true) else (if (decide ((aa.length : Int) ≤ ad.1)) = true then (m_joint_check_J3 (m_joint_check_L1 ac ab aa ae) true) else (if (decide (ad.2 < 0)) = true then (m_joint_check_J3 (m_joint_check_L1 ac ab aa ae) true) else ((at? aa ad.1).bind fun af => m_joint_check_J3 (m_joint_check_L1 ac ab aa ae) (decide (af ≤ ad.2)))))
termination_by structural x => x
def m_joint_check (N : Nat) (aa : (ByteArray × (List ByteArray) × (List (List ByteArray)) × (List (List Int)) × (List (List ((Bool × (List Int)) × (List Int)))))) (ab : (List (Int × Int))) (ac : (List Int)) : Option ((List Int) × Int) :=
  (m_model_Check N (aa.1, aa.2.1, aa.2.2.1, aa.2.2.2.1, aa.2.2.2.2)).bind fun ad => if (!decide (ad = 0)) = true then none else ((m_model_Sizes (aa.1, aa.2.1, aa.2.2.1, aa.2.2.2.1, aa.2.2.2.2)).bind fun ae => m_joint_check_L1 ab ac ae ab)
theorem c_joint_check (N : Nat) (c1 : Nat) (col : Col) (w0 : World) (a6 : Option Addr) (a7 : Nat) (a8 : Option Addr) (a9 : Nat) (ba : Option Addr) (bb : Nat) (bc : Option Addr) (bd : Nat) (ae : (ByteArray × (List ByteArray) × (List (List ByteArray)) × (List (List Int)) × (List (List ((Bool × (List Int)) × (List Int)))))) (a1 : Option Addr) (cap1 : Nat) (af : (List (Int × Int))) (a2 : Option Addr) (cap2 : Nat) (ag : (List Int)) (bq : Sl Rep.str col w0 a6 a7 ae.2.1) (br : Sl (Rep.slice Rep.str) col w0 a8 a9 ae.2.2.1) (bs : Sl (Rep.slice (Rep.int .i64)) col w0 ba bb ae.2.2.2.1) (bt : Sl (Rep.slice (Rep.pair (Rep.pair Rep.bool (Rep.slice (Rep.int .u32))) (Rep.slice (Rep.int .u32)))) col w0 bc bd ae.2.2.2.2) (h1 : Sl (Rep.pair (Rep.int .i64) (Rep.int .i64)) col w0 a1 cap1 af) (h2 : Sl (Rep.int .i64) col w0 a2 cap2 ag) (r : ((List Int) × Int)) (hm : m_joint_check N ae af ag = some r) :
    Calls Tryz.prog 44 #[(.agg #[(.string ae.1), (.slice a6 ae.2.1.length a7), (.slice a8 ae.2.2.1.length a9), (.slice ba ae.2.2.2.1.length bb), (.slice bc ae.2.2.2.2.length bd)]), (.slice a1 af.length cap1), (.slice a2 ag.length cap2)] w0 (fun e w' => ∃ (col' : Col) (ra1 : Option Addr) (rc2 : Nat), e = .returned (.tuple #[(.slice ra1 r.1.length rc2), (.int .i64 r.2)]) ∧ Grow col w0 col' w' ∧ Own (Rep.int .i64) 3 c1 col' w' ra1 rc2 r.1) := by
 refine calls_of2 6 7 (m := 121) (args := [(.agg #[(.string ae.1), (.slice a6 ae.2.1.length a7), (.slice a8 ae.2.2.1.length a9), (.slice ba ae.2.2.2.1.length bb), (.slice bc ae.2.2.2.2.length bd)]), (.slice a1 af.length cap1), (.slice a2 ag.length cap2)]) Tryz.func44 rfl rfl rfl rfl rfl ?_
 rw [m_joint_check.eq_1] at hm
 have hst := St.start col w0
 refine wS <| wR ?_
 refine l_box (col := (col0 col)) (v := (.agg #[(.string ae.1), (.slice a6 ae.2.1.length a7), (.slice a8 ae.2.2.1.length a9), (.slice ba ae.2.2.2.1.length bb), (.slice bc ae.2.2.2.2.length bd)])) 1 rfl rfl ?_
 intro dp db b4 bk bu
 replace bu : Box 28 1 b4 db dp #[(.string ae.1), (.slice a6 ae.2.1.length a7), (.slice a8 ae.2.2.1.length a9), (.slice ba ae.2.2.2.1.length bb), (.slice bc ae.2.2.2.2.length bd)] := bu
 refine lA (.slice none (([] : List Int).length) 0) <| lA (.int .i64 0) <| lN <| wS <| wS <| wR <| lV (.agg #[(.string ae.1), (.slice a6 ae.2.1.length a7), (.slice a8 ae.2.2.1.length a9), (.slice ba ae.2.2.2.1.length bb), (.slice bc ae.2.2.2.2.length bd)]) (r_ldN Tryz.isAgg28 Tryz.sizeOf28 rfl rfl bu.atN) ?_
 obtain ⟨bv, dq, hm⟩ := bS hm
 replace bq := (bq.keep (Stay.start col w0)).gr bk
 replace br := (br.keep (Stay.start col w0)).gr bk
 replace bs := (bs.keep (Stay.start col w0)).gr bk
 replace bt := (bt.keep (Stay.start col w0)).gr bk
 refine lc rfl rfl (r_call1 Tryz.call69 rfl) (c_model_Check N b4 _ a6 a7 a8 a9 ba bb bc bd (ae.1, ae.2.1, ae.2.2.1, ae.2.2.2.1, ae.2.2.2.2) bq br bs bt bv dq) ?_
 rintro _ dr ⟨rfl, a3⟩
 refine ⟨_, rfl, ?_⟩
 replace a3 : Grow b4 db b4 dr := .of_below a3
 refine lA (.int .i64 bv) <| lN <| wS <| wR <| lM (.int .i64 bv) <| lV (.bool (!decide (bv = 0))) (r_neq bv 0 rfl rfl) <| lN ?_
 replace h1 := ((h1.keep (Stay.start col w0)).gr bk).gr a3
 replace h2 := ((h2.keep (Stay.start col w0)).gr bk).gr a3
 replace hst := (hst.grow bk).grow a3
 replace bq := bq.gr a3
 replace br := br.gr a3
 replace bs := bs.gr a3
 replace bt := bt.gr a3
 replace bu := bu.gr a3
 refine wcond (!decide (bv = 0)) rfl (fun hb => ?_) (fun hb => ?_)
 ·rw [if_pos hb] at hm
  clear hb
  cases hm
 rw [if_neg (by rw [hb]; decide)] at hm
 clear hb
 refine wK <| wS <| wR <| lV (.agg #[(.string ae.1), (.slice a6 ae.2.1.length a7), (.slice a8 ae.2.2.1.length a9), (.slice ba ae.2.2.2.1.length bb), (.slice bc ae.2.2.2.2.length bd)]) (r_ldN Tryz.isAgg28 Tryz.sizeOf28 rfl rfl bu.atN) ?_
 obtain ⟨ab, ds, hm⟩ := bS hm
 refine lc rfl rfl (r_call1 Tryz.call94 rfl) (c_model_Sizes 2 b4 _ a6 a7 a8 a9 ba bb bc bd (ae.1, ae.2.1, ae.2.2.1, ae.2.2.2.1, ae.2.2.2.2) bq br bs bt ab ds) ?_
 rintro _ eh ⟨dt, ah, ai, rfl, c3, ac⟩
 refine ⟨_, rfl, ?_⟩
 refine lA (.slice ah ab.length ai) <| lN <| wS <| wS <| wR <| lM (.slice a1 af.length cap1) <| lV (.int .i64 (af.length : Int)) (r_len Tryz.underlying49 rfl) <| lM (.int .i64 0) <| lN <| wB ?_
 replace h1 := h1.gr c3
 replace h2 := h2.gr c3
 replace hst := hst.grow c3
 refine wloop (fun n f b5 => ∃ (bl : Col) (ap : Nat) (b6 : List (Int × Int)), n = b6.length ∧ af.drop ap = b6 ∧ m_joint_check_L1 af ag ab b6  = some r ∧ St w0 (col0 col) bl b5 ∧ Sl (Rep.pair (Rep.int .i64) (Rep.int .i64)) bl b5 a1 cap1 af ∧ Sl (Rep.int .i64) bl b5 a2 cap2 ag ∧ Own (Rep.int .i64) 3 2 bl b5 ah ai ab ∧ f 30 = (.int .i64 (ap : Int)) ∧ f 1 = (.slice a1 af.length cap1) ∧ f 2 = (.slice a2 ag.length cap2) ∧ f 28 = (.slice a1 af.length cap1) ∧ f 29 = (.int .i64 (af.length : Int)) ∧ f 9 = (.slice ah ab.length ai) ∧ f 1000000 = (enc [])) af.length ⟨dt, 0, af, rfl, rfl, hm, hst, h1, h2, ac, rfl, rfl, rfl, rfl, rfl, rfl, rfl⟩ ?_
 clear hm; intro n f b5 hI
 obtain ⟨bl, ap, b6, hn, hl, hm, hst, h1, h2, ac, hs30, hs1, hs2, hs28, hs29, hs9, hs1000000⟩ := hI
 subst hn
 refine .lD 30 hs30 <| .lD 1 hs1 <| .lD 2 hs2 <| .lD 28 hs28 <| .lD 29 hs29 <| .lD 9 hs9 <| .lD 1000000 hs1000000 ?_
 clear hs30 hs1 hs2 hs28 hs29 hs9 hs1000000
 cases b6 with
 | nil =>
  have hk : ¬ ((ap : Int) < (af.length : Int)) := by have := List.drop_eq_nil_iff.1 hl; omega
  have hkb := decide_eq_false hk
  rw [m_joint_check_L1.eq_1] at hm
  refine wS <| wR <| lV (.bool (decide ((ap : Int) < (af.length : Int)))) (r_lss (ap : Int) (af.length : Int) rfl rfl) <| lN <| wS ?_
  refine wcondF (congrArg Value.bool hkb) ?_
  refine wexit (inB_hit ?_)
  refine wS <| wS <| wR <| lM (.slice a2 ag.length cap2) <| lV (.int .i64 (ag.length : Int)) (r_len Tryz.underlying33 rfl) <| lM (.int .i64 0) <| lN <| wB ?_
  refine wloop (fun n f bw => ∃ (bf : Col) (aq : Nat) (b7 : List Int), n = b7.length ∧ ag.drop aq = b7 ∧ m_joint_check_L2 af ag ab b7  = some r ∧ St w0 (col0 col) bf bw ∧ Sl (Rep.pair (Rep.int .i64) (Rep.int .i64)) bf bw a1 cap1 af ∧ Sl (Rep.int .i64) bf bw a2 cap2 ag ∧ Own (Rep.int .i64) 3 2 bf bw ah ai ab ∧ f 62 = (.int .i64 (aq : Int)) ∧ f 1 = (.slice a1 af.length cap1) ∧ f 2 = (.slice a2 ag.length cap2) ∧ f 60 = (.slice a2 ag.length cap2) ∧ f 61 = (.int .i64 (ag.length : Int)) ∧ f 9 = (.slice ah ab.length ai) ∧ f 1000000 = (enc [])) ag.length ⟨bl, 0, ag, rfl, rfl, hm, hst, h1, h2, ac, rfl, rfl, rfl, rfl, rfl, rfl, rfl⟩ ?_
  clear hm; intro n f bw hI
  obtain ⟨bf, aq, b7, hn, hl, hm, hst, h1, h2, ac, hs62, hs1, hs2, hs60, hs61, hs9, hs1000000⟩ := hI
  subst hn
  refine .lD 62 hs62 <| .lD 1 hs1 <| .lD 2 hs2 <| .lD 60 hs60 <| .lD 61 hs61 <| .lD 9 hs9 <| .lD 1000000 hs1000000 ?_
  clear hs62 hs1 hs2 hs60 hs61 hs9 hs1000000
  cases b7 with
  | nil =>
   have hk : ¬ ((aq : Int) < (ag.length : Int)) := by have := List.drop_eq_nil_iff.1 hl; omega
   have hkb := decide_eq_false hk
   rw [m_joint_check_L2.eq_1] at hm
   refine wS <| wR <| lV (.bool (decide ((aq : Int) < (ag.length : Int)))) (r_lss (aq : Int) (ag.length : Int) rfl rfl) <| lN <| wS ?_
   refine wcondF (congrArg Value.bool hkb) ?_
   refine wexit (inB_hit ?_)
   refine wS <| wR <| lM (.slice ah ab.length ai) <| lV (.int .i64 (ab.length : Int)) (r_len Tryz.underlying33 rfl) ?_
   obtain ⟨dc, hm⟩ := cS hm
   refine l_make (col := bf) (w := bw) (r := Rep.bool) (n := ab.length) (x0 := false) 3 rfl Tryz.underlying144 Tryz.t4 rfl rfl rfl rfl rfl rfl rfl dc.1 dc.2 (rd_bool false) ?_
   intro cl ei du cm ax
   refine lA (.slice cl ((List.replicate ab.length (false : Bool)).length) ab.length) <| lN <| wS <| wS <| wR <| lM (.slice a1 af.length cap1) <| lV (.int .i64 (af.length : Int)) (r_len Tryz.underlying49 rfl) <| lM (.int .i64 0) <| lN <| wB ?_
   replace h1 := h1.gr cm
   replace h2 := h2.gr cm
   replace ac := ac.gr cm
   replace hst := hst.grow cm
   refine wloop (fun n f bx => ∃ (bg : Col) (aw : Option Addr) (be : Nat) (ad : List Int) (ar : Nat) (b8 : List (Int × Int)), n = b8.length ∧ af.drop ar = b8 ∧ m_joint_check_L3 ab b8 ad = some r ∧ St w0 (col0 col) bg bx ∧ Own Rep.bool 4 3 bg bx cl ab.length (List.replicate ab.length (false : Bool)) ∧ Sl (Rep.int .i64) bg bx aw be ad ∧ Sl (Rep.pair (Rep.int .i64) (Rep.int .i64)) bg bx a1 cap1 af ∧ Own (Rep.int .i64) 3 2 bg bx ah ai ab ∧ f 80 = (.int .i64 (ar : Int)) ∧ f 14 = (.slice cl ((List.replicate ab.length (false : Bool)).length) ab.length) ∧ f 2 = (.slice aw ad.length be) ∧ f 78 = (.slice a1 af.length cap1) ∧ f 79 = (.int .i64 (af.length : Int)) ∧ f 9 = (.slice ah ab.length ai) ∧ f 1000000 = (enc [])) af.length ⟨du, a2, cap2, ag, 0, af, rfl, rfl, hm, hst, ax, h2, h1, ac, rfl, rfl, rfl, rfl, rfl, rfl, rfl⟩ ?_
   clear hm; intro n f bx hI
   obtain ⟨bg, aw, be, ad, ar, b8, hn, hl, hm, hst, ax, ay, h1, ac, hs80, hs14, hs2, hs78, hs79, hs9, hs1000000⟩ := hI
   subst hn
   refine .lD 80 hs80 <| .lD 14 hs14 <| .lD 2 hs2 <| .lD 78 hs78 <| .lD 79 hs79 <| .lD 9 hs9 <| .lD 1000000 hs1000000 ?_
   clear hs80 hs14 hs2 hs78 hs79 hs9 hs1000000
   cases b8 with
   | nil =>
    have hk : ¬ ((ar : Int) < (af.length : Int)) := by have := List.drop_eq_nil_iff.1 hl; omega
    have hkb := decide_eq_false hk
    rw [m_joint_check_L3.eq_1] at hm
    refine wS <| wR <| lV (.bool (decide ((ar : Int) < (af.length : Int)))) (r_lss (ar : Int) (af.length : Int) rfl rfl) <| lN <| wS ?_
    refine wcondF (congrArg Value.bool hkb) ?_
    refine wexit (inB_hit ?_)
    refine wS <| wS <| wR <| lM (.slice aw ad.length be) <| lV (.int .i64 (ad.length : Int)) (r_len Tryz.underlying33 rfl) <| lM (.int .i64 0) <| lN <| wB ?_
    refine wloop (fun n f bz => ∃ (a0 : Col) (a4 : Option Addr) (bh : Nat) (bi : List Bool) (au : Nat) (b9 : List Int), n = b9.length ∧ ad.drop au = b9 ∧ m_joint_check_L4 ab b9 bi = some r ∧ St w0 (col0 col) a0 bz ∧ Own Rep.bool 4 3 a0 bz a4 bh bi ∧ Own (Rep.int .i64) 3 2 a0 bz ah ai ab ∧ Sl (Rep.int .i64) a0 bz aw be ad ∧ f 97 = (.int .i64 (au : Int)) ∧ f 14 = (.slice a4 bi.length bh) ∧ f 9 = (.slice ah ab.length ai) ∧ f 95 = (.slice aw ad.length be) ∧ f 96 = (.int .i64 (ad.length : Int)) ∧ f 1000000 = (enc [])) ad.length ⟨bg, cl, ab.length, (List.replicate ab.length (false : Bool)), 0, ad, rfl, rfl, hm, hst, ax, ac, ay, rfl, rfl, rfl, rfl, rfl, rfl⟩ ?_
    clear hm; intro n f bz hI
    obtain ⟨a0, a4, bh, bi, au, b9, hn, hl, hm, hst, ca, ac, ay, hs97, hs14, hs9, hs95, hs96, hs1000000⟩ := hI
    subst hn
    refine .lD 97 hs97 <| .lD 14 hs14 <| .lD 9 hs9 <| .lD 95 hs95 <| .lD 96 hs96 <| .lD 1000000 hs1000000 ?_
    clear hs97 hs14 hs9 hs95 hs96 hs1000000
    cases b9 with
    | nil =>
     have hk : ¬ ((au : Int) < (ad.length : Int)) := by have := List.drop_eq_nil_iff.1 hl; omega
     have hkb := decide_eq_false hk
     rw [m_joint_check_L4.eq_1] at hm
     refine wS <| wR <| lV (.bool (decide ((au : Int) < (ad.length : Int)))) (r_lss (au : Int) (ad.length : Int) rfl rfl) <| lN <| wS ?_
     refine wcondF (congrArg Value.bool hkb) ?_
     refine wexit (inB_hit ?_)
     refine wS <| wS <| wR <| lM (.slice ah ab.length ai) ?_
     obtain ⟨ak, dv, hm⟩ := bS hm
     refine lc rfl rfl (r_call1 Tryz.call50 rfl) (c_radix_Count_int (frC 2 a0) _ ah ai ab (ac.toSlF (Froz.int .i64)) ak dv) ?_
     rintro _ dw ⟨rfl, cn⟩
     refine ⟨_, rfl, ?_⟩
     replace cn : Grow a0 bz a0 dw := .of_below cn
     refine lM (.tuple #[(.int .i64 ak.1), (.int .i64 ak.2)]) <| lV (.int .i64 ak.1) (r_extract rfl rfl) <| lV (.int .i64 ak.2) (r_extract rfl rfl) <| lA (.int .i64 ak.1) <| lA (.int .i64 ak.2) <| lN <| wS ?_
     replace ac := ac.gr cn
     replace hst := hst.grow cn
     refine Wp.cut (fun f c4 => ∃ (co : Col) (cp : Bool), m_joint_check_J1 ab cp = some r ∧ St w0 (col0 col) co c4 ∧ Own (Rep.int .i64) 3 2 co c4 ah ai ab ∧ f 119 = (.bool cp) ∧ f 9 = (.slice ah ab.length ai) ∧ f 1000000 = (enc [])) ?_ ?_
     ·intro f c4 hJ
      obtain ⟨co, cp, hm, hst, ac, hs119, hs9, hs1000000⟩ := hJ
      rw [m_joint_check_J1.eq_1] at hm
      refine .lD 119 hs119 <| .lD 9 hs9 <| .lD 1000000 hs1000000 ?_
      clear hs119 hs9 hs1000000
      refine wcond (cp) rfl (fun hb => ?_) (fun hb => ?_)
      ·rw [if_pos hb] at hm
       clear hb
       cases hm
      rw [if_neg (by rw [hb]; decide)] at hm
      clear hb
      refine wK <| wS <| wR <| lM (.slice ah ab.length ai) <| lA (.slice ah ab.length ai) <| lA (.int .i64 0) <| lN ?_
      refine wret ?_
      cases hm
      exact ⟨rfl, colF w0.heap.size col co (fun n => bif Nat.beq n 2 then c1 else 0), ah, ai, rfl, hst.fin (fun n => bif Nat.beq n 2 then c1 else 0), hst.finOwn (g := (fun n => bif Nat.beq n 2 then c1 else 0)) rfl ac (by decide) (by decide) rfl⟩
     refine wR <| lM (.int .i64 ak.2) <| lV (.bool (!decide (ak.2 = 0))) (r_neq ak.2 0 rfl rfl) <| lM (.bool (!decide (ak.2 = 0))) ?_
     by_cases a5 : (!decide (ak.2 = 0)) = true
     ·rw [if_pos a5] at hm
      refine lp (b := !decide (ak.2 = 0)) 116 rfl rfl rfl rfl (by rw [a5]; rfl) ?_
      refine lp (b := !decide (ak.2 = 0)) 116 rfl rfl rfl rfl (by rw [a5]; rfl) ?_
      refine lV (.bool true) (r_pickT (congrArg Value.bool a5) rfl) <| lN ?_
      exact ⟨a0, true, hm, hst, ac, rfl, rfl, rfl⟩
     rw [if_neg a5] at hm
     replace a5 := Bool.eq_false_iff.2 a5
     refine lg (b := !decide (ak.2 = 0)) 116 rfl rfl rfl (by rw [a5]; rfl) ?_
     refine lM (.int .i64 ak.1) ?_
     refine lg (b := !decide (ak.2 = 0)) 116 rfl rfl rfl (by rw [a5]; rfl) ?_
     refine lV (.bool (decide (65536 < ak.1))) (r_gtr ak.1 65536 rfl rfl) <| lV (.bool (decide (65536 < ak.1))) (r_pickF (congrArg Value.bool a5) rfl) <| lN ?_
     exact ⟨a0, (decide (65536 < ak.1)), hm, hst, ac, rfl, rfl, rfl⟩
    | cons bm dd =>
     obtain ⟨hat, hl2_L4, hlt_L4⟩ := drop_get hl
     have hk : (au : Int) < (ad.length : Int) := by omega
     have hkb := decide_eq_true hk
     rw [m_joint_check_L4.eq_2] at hm
     refine wS <| wR <| lV (.bool (decide ((au : Int) < (ad.length : Int)))) (r_lss (au : Int) (ad.length : Int) rfl rfl) <| lN <| wS ?_
     refine wcondT (congrArg Value.bool hkb) ?_
     refine wK <| wS <| wB <| wS <| wR ?_
     refine lV (sptr aw (Int.toNat (au : Int) * 1)) (r_idx Tryz.underlying33 Tryz.sizeOf3 rfl rfl (at?_some hat).1 (at?_some hat).2.1 (ay.addr hat)) ?_
     refine lV (.int .i64 bm) (r_ld Tryz.isAgg3 rfl (ay.atInt hat)) <| lA (.int .i64 bm) <| lN <| wS <| wS <| wR <| lM (.slice a4 bi.length bh) <| lM (.int .i64 bm) ?_
     obtain ⟨de, bj, hm⟩ := bS hm
     refine lV (sptr a4 (Int.toNat bm * 1)) (r_idx Tryz.underlying144 Tryz.sizeOf4 rfl rfl (at?_some bj).1 (at?_some bj).2.1 (ca.addr bj)) ?_
     refine lV (.bool de) (r_ld Tryz.isAgg4 rfl (ca.atBool bj)) <| lN ?_
     refine wcond (de) rfl (fun hb => ?_) (fun hb => ?_)
     ·rw [if_pos hb] at hm
      clear hb
      cases hm
     rw [if_neg (by rw [hb]; decide)] at hm
     clear hb
     refine wK <| wR <| lM (.slice a4 bi.length bh) <| lM (.int .i64 bm) ?_
     refine lV (sptr a4 (Int.toNat bm * 1)) (r_idx Tryz.underlying144 Tryz.sizeOf4 rfl rfl (at?_some bj).1 (at?_some bj).2.1 (ca.addr bj)) ?_
     obtain ⟨cq, cr, hm⟩ := bS hm
     have cr : cq = bi.set (Int.toNat bm) true := (Option.some.inj cr).symm
     refine l_store (x1 := true) (v := (.bool true)) ca bj rfl Tryz.sizeOf4 (rd_bool true) rfl rfl (by decide) ?_
     intro ej c5 dx df
     rw [← cr] at df
     refine .ld (d := 14) (v := (.slice a4 cq.length bh)) (congrArg (fun n => Value.slice a4 n bh) (show bi.length = cq.length by rw [cr, List.length_set])) ?_
     clear ca
     refine lN <| wR <| lV (.int .i64 (IntKind.i64.wrap ((au : Int) + 1))) (r_add (au : Int) 1 rfl rfl) <| lM (.int .i64 (IntKind.i64.wrap ((au : Int) + 1))) <| lN ?_
     replace ac := ac.kp c5
     replace ay := ay.kp c5
     replace hst := hst.kp c5 dx
     exact ⟨dd.length, by simp, ⟨a0, a4, bh, cq, (au + 1), dd, rfl, hl2_L4, hm, hst, df, ac, ay, (congrArg (Value.int .i64) (wrap_succ (Nat.lt_of_lt_of_le hlt_L4 ay.1.1))), rfl, rfl, rfl, rfl, rfl⟩⟩
   | cons an dg =>
    obtain ⟨hat, hl2_L3, hlt_L3⟩ := drop_get hl
    have hk : (ar : Int) < (af.length : Int) := by omega
    have hkb := decide_eq_true hk
    rw [m_joint_check_L3.eq_2] at hm
    refine wS <| wR <| lV (.bool (decide ((ar : Int) < (af.length : Int)))) (r_lss (ar : Int) (af.length : Int) rfl rfl) <| lN <| wS ?_
    refine wcondT (congrArg Value.bool hkb) ?_
    refine wK <| wS <| wB <| wS <| wR ?_
    refine lV (sptr a1 (Int.toNat (ar : Int) * 2)) (r_idx Tryz.underlying49 Tryz.sizeOf48 rfl rfl (at?_some hat).1 (at?_some hat).2.1 (h1.addr hat)) ?_
    obtain ⟨_, dy, dz⟩ := h1.atN hat
    obtain ⟨_, _, rfl, d0, d1⟩ := rd_pair dy
    obtain ⟨rfl, _⟩ := d0
    obtain ⟨rfl, _⟩ := d1
    refine lV (.agg #[(.int .i64 an.1), (.int .i64 an.2)]) (r_ldN Tryz.isAgg48 Tryz.sizeOf48 rfl rfl dz) ?_
    refine l_alloc (col := bg) (v := (.agg #[(.int .i64 0), (.int .i64 0)])) 4 rfl Tryz.zeroValue48 ?_
    intro c6 d2 bn cb ct
    replace ct : Box 48 4 bn d2 c6 #[(.int .i64 0), (.int .i64 0)] := ct
    refine l_bstore (v := (.agg #[(.int .i64 an.1), (.int .i64 an.2)])) ct Tryz.sizeOf48 rfl rfl (by intro u hu; simp only [Value.cells, List.mem_cons, List.not_mem_nil, or_false] at hu; rcases hu with rfl | rfl <;> rfl) rfl rfl ?_
    intro dh cc d3 c7
    clear ct
    replace c7 : Box 48 4 bn dh c6 #[(.int .i64 an.1), (.int .i64 an.2)] := c7
    refine lN ?_
    refine wmix (col := bn) [(0, 1), (1, 1), (2, 1), (3, 1), (4, 1), (5, 1), (6, 1), (7, 0), (8, 3), (9, 2), (10, 1)] (by kernel_rfl) (by kernel_rfl) ?_
    refine xu (v := (.slice aw ad.length be)) rfl rfl (fun _ => r_move rfl) ?_
    refine xu (v := (.slice aw ad.length be)) rfl rfl (fun _ => r_move rfl) ?_
    refine xu (v := (.int .i64 (ad.length : Int))) rfl rfl (fun _ => r_len Tryz.underlying33 rfl) ?_
    refine xu (v := (.slice aw ad.length be)) rfl rfl (fun _ => r_move rfl) ?_
    refine xu (v := (.int .i64 (ad.length : Int))) rfl rfl (fun _ => r_len Tryz.underlying33 rfl) ?_
    obtain ⟨cd, hm⟩ := cS hm
    replace ay := (ay.gr cb).kp cc
    have b0 := (ay.take (Int.toNat (ad.length : Int))).recap (show (ad.take (Int.toNat (ad.length : Int))).length ≤ (Int.toNat (ad.length : Int)) by rw [List.length_take (i := (Int.toNat (ad.length : Int))) (l := ad)]; have := cd.2; omega)
    refine xu (v := .slice aw (Int.toNat (ad.length : Int)) (Int.toNat (ad.length : Int))) rfl rfl (fun _ => r_sliceHM Tryz.underlying33 Tryz.sizeOf3 rfl rfl rfl cd.2.1 cd.2.2.1 (by have := ay.1.2; have := cd.2.2.2; omega)) ?_
    refine .ld (d := 89) (v := (.slice aw ((ad.take (Int.toNat (ad.length : Int))).length) (Int.toNat (ad.length : Int)))) (congrArg (fun n => Value.slice aw n (Int.toNat (ad.length : Int))) (show (Int.toNat (ad.length : Int)) = (ad.take (Int.toNat (ad.length : Int))).length by rw [List.length_take (i := (Int.toNat (ad.length : Int))) (l := ad)]; have := cd.2; omega)) ?_
    refine xu (v := (.pointer ((some (⟨c6, 0, none⟩ : Addr)).map (·.add 0)))) rfl rfl (fun _ => rF (sz := 1) (off := 0) Tryz.underlying48 rfl Tryz.sizeOf3 (by decide) rfl rfl ⟨_, _, rfl⟩) ?_
    refine xv (v := (.int .i64 an.1)) rfl rfl (fun _ hC => r_ld Tryz.isAgg3 rfl (((c7.atN).nth (q := 0) (v := (.int .i64 an.1)) rfl).gr (Grow.of_below (col := bn) hC.below))) ?_
    refine xe rfl rfl ?_
    intro d4 hC0
    have hC : Grow bn dh bn d4 := .of_below hC0.below
    refine l_lit (col := bn) (r := (Rep.int .i64)) (xs := [an.1]) [(.int .i64 an.1)] 5 rfl Tryz.underlying33 el3_44 rfl rfl rfl rfl rfl rfl (by intro v hv; simp only [List.mem_cons, List.not_mem_nil, or_false] at hv; subst hv; rfl) (RowsH.ofF (Rows.consF (r := (Rep.int .i64)) (x := an.1) (cs := [(.int .i64 an.1)]) (rd_int .i64 an.1) Rows.nil0)) ?_
    intro ek di ce b1 c8
    refine lN ⟨fun w' => Grow ce di ce w', Grow.refl _ _, fun _ _ h => cls hC0 b1 h, ?_⟩
    refine xe rfl rfl ?_
    intro dj hC0
    replace ax := (((ax.gr cb).kp cc).gr hC).gr b1
    replace h1 := (((h1.gr cb).kp cc).gr hC).gr b1
    replace ac := (((ac.gr cb).kp cc).gr hC).gr b1
    replace hst := (((hst.grow cb).kp cc d3).grow hC).grow b1
    replace b0 := (b0.gr hC).gr b1
    have hC : Grow ce di ce dj := .of_below hC0.below
    obtain ⟨dk, hm⟩ := cS hm
    replace b0 := b0.gr hC
    have d5 : (Int.toNat (ad.length : Int)) = (ad.take (Int.toNat (ad.length : Int))).length := by have := b0.1.2; rw [List.length_take (i := (Int.toNat (ad.length : Int))) (l := ad)] at this ⊢; omega
    replace c8 := c8.gr hC
    refine l_appendF (col := ce) (w := dj) (r := (Rep.int .i64)) (c := 6) (c2 := 6) 6 (xs := ad.take (Int.toNat (ad.length : Int))) (ys := [an.1]) b0 d5 (NB.int (k := .i64)) (by simp) (c8.srcN (NB.int (k := .i64))) rfl Tryz.underlying33 el3_44 rfl rfl rfl dk.1 dk.2 ?_
    intro dl dm dn cf cu cg
    refine lN ⟨fun w' => Grow cf dn cf w', Grow.refl _ _, fun h => absurd h (by decide), ?_⟩
    refine xu (v := (.slice dl (((ad.take (Int.toNat (ad.length : Int))) ++ [an.1]).length) dm)) rfl rfl (fun _ => r_assign rfl) ?_
    refine xnil ?_
    replace ax := (ax.gr hC).gr cu
    replace h1 := (h1.gr hC).gr cu
    replace ac := (ac.gr hC).gr cu
    replace hst := (hst.grow hC).grow cu
    intro d6 hC
    replace hC : Grow cf dn cf d6 := .of_below hC.below
    refine wR <| lV (.int .i64 (IntKind.i64.wrap ((ar : Int) + 1))) (r_add (ar : Int) 1 rfl rfl) <| lM (.int .i64 (IntKind.i64.wrap ((ar : Int) + 1))) <| lN ?_
    replace ax := ax.gr hC
    replace ax := ax.froz 6 (by decide)
    replace cg := cg.gr hC
    replace cg := (cg).toSlF (Froz.int .i64)
    replace h1 := h1.gr hC
    replace h1 := h1.froz 6
    replace ac := ac.gr hC
    replace ac := ac.froz 6 (by decide)
    replace hst := hst.grow hC
    replace hst := hst.froz 6 (by decide) (by decide)
    exact ⟨dg.length, by simp, ⟨(frC 6 cf), dl, dm, ((ad.take (Int.toNat (ad.length : Int))) ++ [an.1]), (ar + 1), dg, rfl, hl2_L3, hm, hst, ax, cg, h1, ac, (congrArg (Value.int .i64) (wrap_succ (Nat.lt_of_lt_of_le hlt_L3 h1.1.1))), rfl, rfl, rfl, rfl, rfl, rfl⟩⟩
  | cons am c9 =>
   obtain ⟨hat, hl2_L2, hlt_L2⟩ := drop_get hl
   have hk : (aq : Int) < (ag.length : Int) := by omega
   have hkb := decide_eq_true hk
   rw [m_joint_check_L2.eq_2] at hm
   refine wS <| wR <| lV (.bool (decide ((aq : Int) < (ag.length : Int)))) (r_lss (aq : Int) (ag.length : Int) rfl rfl) <| lN <| wS ?_
   refine wcondT (congrArg Value.bool hkb) ?_
   refine wK <| wS <| wB <| wS <| wR ?_
   refine lV (sptr a2 (Int.toNat (aq : Int) * 1)) (r_idx Tryz.underlying33 Tryz.sizeOf3 rfl rfl (at?_some hat).1 (at?_some hat).2.1 (h2.addr hat)) ?_
   refine lV (.int .i64 am) (r_ld Tryz.isAgg3 rfl (h2.atInt hat)) <| lA (.int .i64 am) <| lN <| wS ?_
   refine Wp.cut (fun f ch => ∃ (b2 : Col) (cv : Bool), m_joint_check_J2 (m_joint_check_L2 af ag ab c9) cv = some r ∧ St w0 (col0 col) b2 ch ∧ Sl (Rep.pair (Rep.int .i64) (Rep.int .i64)) b2 ch a1 cap1 af ∧ Sl (Rep.int .i64) b2 ch a2 cap2 ag ∧ Own (Rep.int .i64) 3 2 b2 ch ah ai ab ∧ f 1 = (.slice a1 af.length cap1) ∧ f 2 = (.slice a2 ag.length cap2) ∧ f 60 = (.slice a2 ag.length cap2) ∧ f 61 = (.int .i64 (ag.length : Int)) ∧ f 62 = (.int .i64 (aq : Int)) ∧ f 73 = (.bool cv) ∧ f 9 = (.slice ah ab.length ai) ∧ f 1000000 = (enc [])) ?_ ?_
   ·intro f ch hJ
    obtain ⟨b2, cv, hm, hst, h1, h2, ac, hs1, hs2, hs60, hs61, hs62, hs73, hs9, hs1000000⟩ := hJ
    rw [m_joint_check_J2.eq_1] at hm
    refine .lD 1 hs1 <| .lD 2 hs2 <| .lD 60 hs60 <| .lD 61 hs61 <| .lD 62 hs62 <| .lD 73 hs73 <| .lD 9 hs9 <| .lD 1000000 hs1000000 ?_
    clear hs1 hs2 hs60 hs61 hs62 hs73 hs9 hs1000000
    refine wcond (cv) rfl (fun hb => ?_) (fun hb => ?_)
    ·rw [if_pos hb] at hm
     clear hb
     cases hm
    rw [if_neg (by rw [hb]; decide)] at hm
    clear hb
    refine wK <| wR <| lV (.int .i64 (IntKind.i64.wrap ((aq : Int) + 1))) (r_add (aq : Int) 1 rfl rfl) <| lM (.int .i64 (IntKind.i64.wrap ((aq : Int) + 1))) <| lN ?_
    exact ⟨c9.length, by simp, ⟨b2, (aq + 1), c9, rfl, hl2_L2, hm, hst, h1, h2, ac, (congrArg (Value.int .i64) (wrap_succ (Nat.lt_of_lt_of_le hlt_L2 h2.1.1))), rfl, rfl, rfl, rfl, rfl, rfl⟩⟩
   refine wR <| lM (.int .i64 am) <| lV (.bool (decide (am < 0))) (r_lss am 0 rfl rfl) <| lM (.bool (decide (am < 0))) ?_
   by_cases av : (decide (am < 0)) = true
   ·rw [if_pos av] at hm
    refine lp (b := decide (am < 0)) 68 rfl rfl rfl rfl (by rw [av]; rfl) ?_
    refine lp (b := decide (am < 0)) 68 rfl rfl rfl rfl (by rw [av]; rfl) ?_
    refine lp (b := decide (am < 0)) 68 rfl rfl rfl rfl (by rw [av]; rfl) ?_
    refine lp (b := decide (am < 0)) 68 rfl rfl rfl rfl (by rw [av]; rfl) ?_
    refine lV (.bool true) (r_pickT (congrArg Value.bool av) rfl) <| lN ?_
    exact ⟨bf, true, hm, hst, h1, h2, ac, rfl, rfl, rfl, rfl, rfl, rfl, rfl, rfl⟩
   rw [if_neg av] at hm
   replace av := Bool.eq_false_iff.2 av
   refine lg (b := decide (am < 0)) 68 rfl rfl rfl (by rw [av]; rfl) ?_
   refine lM (.int .i64 am) ?_
   refine lg (b := decide (am < 0)) 68 rfl rfl rfl (by rw [av]; rfl) ?_
   refine lM (.slice ah ab.length ai) ?_
   refine lg (b := decide (am < 0)) 68 rfl rfl rfl (by rw [av]; rfl) ?_
   refine lV (.int .i64 (ab.length : Int)) (r_len Tryz.underlying33 rfl) ?_
   refine lg (b := decide (am < 0)) 68 rfl rfl rfl (by rw [av]; rfl) ?_
   refine lV (.bool (decide ((ab.length : Int) ≤ am))) (r_geq am (ab.length : Int) rfl rfl) <| lV (.bool (decide ((ab.length : Int) ≤ am))) (r_pickF (congrArg Value.bool av) rfl) <| lN ?_
   exact ⟨bf, (decide ((ab.length : Int) ≤ am)), hm, hst, h1, h2, ac, rfl, rfl, rfl, rfl, rfl, rfl, rfl, rfl⟩
 | cons aa da =>
  obtain ⟨hat, hl2_L1, hlt_L1⟩ := drop_get hl
  have hk : (ap : Int) < (af.length : Int) := by omega
  have hkb := decide_eq_true hk
  rw [m_joint_check_L1.eq_2] at hm
  refine wS <| wR <| lV (.bool (decide ((ap : Int) < (af.length : Int)))) (r_lss (ap : Int) (af.length : Int) rfl rfl) <| lN <| wS ?_
  refine wcondT (congrArg Value.bool hkb) ?_
  refine wK <| wS <| wB <| wS <| wR ?_
  refine lV (sptr a1 (Int.toNat (ap : Int) * 2)) (r_idx Tryz.underlying49 Tryz.sizeOf48 rfl rfl (at?_some hat).1 (at?_some hat).2.1 (h1.addr hat)) ?_
  obtain ⟨_, d7, d8⟩ := h1.atN hat
  obtain ⟨_, _, rfl, d9, ea⟩ := rd_pair d7
  obtain ⟨rfl, _⟩ := d9
  obtain ⟨rfl, _⟩ := ea
  refine lV (.agg #[(.int .i64 aa.1), (.int .i64 aa.2)]) (r_ldN Tryz.isAgg48 Tryz.sizeOf48 rfl rfl d8) ?_
  refine l_alloc (col := bl) (v := (.agg #[(.int .i64 0), (.int .i64 0)])) 7 rfl Tryz.zeroValue48 ?_
  intro bo eb al cw cx
  replace cx : Box 48 7 al eb bo #[(.int .i64 0), (.int .i64 0)] := cx
  refine l_bstore (v := (.agg #[(.int .i64 aa.1), (.int .i64 aa.2)])) cx Tryz.sizeOf48 rfl rfl (by intro u hu; simp only [Value.cells, List.mem_cons, List.not_mem_nil, or_false] at hu; rcases hu with rfl | rfl <;> rfl) rfl rfl ?_
  intro ci cy ec bp
  clear cx
  replace bp : Box 48 7 al ci bo #[(.int .i64 aa.1), (.int .i64 aa.2)] := bp
  refine lN <| wS ?_
  replace h1 := (h1.gr cw).kp cy
  replace h2 := (h2.gr cw).kp cy
  replace ac := (ac.gr cw).kp cy
  replace hst := (hst.grow cw).kp cy ec
  refine Wp.cut (fun f cj => ∃ (b3 : Col) (cz : Bool), m_joint_check_J3 (m_joint_check_L1 af ag ab da) cz = some r ∧ St w0 (col0 col) b3 cj ∧ Sl (Rep.pair (Rep.int .i64) (Rep.int .i64)) b3 cj a1 cap1 af ∧ Sl (Rep.int .i64) b3 cj a2 cap2 ag ∧ Own (Rep.int .i64) 3 2 b3 cj ah ai ab ∧ f 1 = (.slice a1 af.length cap1) ∧ f 2 = (.slice a2 ag.length cap2) ∧ f 28 = (.slice a1 af.length cap1) ∧ f 29 = (.int .i64 (af.length : Int)) ∧ f 30 = (.int .i64 (ap : Int)) ∧ f 58 = (.bool cz) ∧ f 9 = (.slice ah ab.length ai) ∧ f 1000000 = (enc [])) ?_ ?_
  ·intro f cj hJ
   obtain ⟨b3, cz, hm, hst, h1, h2, ac, hs1, hs2, hs28, hs29, hs30, hs58, hs9, hs1000000⟩ := hJ
   rw [m_joint_check_J3.eq_1] at hm
   refine .lD 1 hs1 <| .lD 2 hs2 <| .lD 28 hs28 <| .lD 29 hs29 <| .lD 30 hs30 <| .lD 58 hs58 <| .lD 9 hs9 <| .lD 1000000 hs1000000 ?_
   clear hs1 hs2 hs28 hs29 hs30 hs58 hs9 hs1000000
   refine wcond (cz) rfl (fun hb => ?_) (fun hb => ?_)
   ·rw [if_pos hb] at hm
    clear hb
    cases hm
   rw [if_neg (by rw [hb]; decide)] at hm
   clear hb
   refine wK <| wR <| lV (.int .i64 (IntKind.i64.wrap ((ap : Int) + 1))) (r_add (ap : Int) 1 rfl rfl) <| lM (.int .i64 (IntKind.i64.wrap ((ap : Int) + 1))) <| lN ?_
   exact ⟨da.length, by simp, ⟨b3, (ap + 1), da, rfl, hl2_L1, hm, hst, h1, h2, ac, (congrArg (Value.int .i64) (wrap_succ (Nat.lt_of_lt_of_le hlt_L1 h1.1.1))), rfl, rfl, rfl, rfl, rfl, rfl⟩⟩
  refine wquiet (col := al) (by kernel_rfl) (by kernel_rfl) ?_
  refine qv (v := (.pointer ((some (⟨bo, 0, none⟩ : Addr)).map (·.add 0)))) rfl (fun _ hC => rF (sz := 1) (off := 0) Tryz.underlying48 rfl Tryz.sizeOf3 (by decide) rfl rfl ⟨_, _, rfl⟩) ?_
  refine qv (v := (.int .i64 aa.1)) rfl (fun _ hC => r_ld Tryz.isAgg3 rfl (((bp.atN).nth (q := 0) (v := (.int .i64 aa.1)) rfl).gr (Grow.of_below (col := al) hC.below))) ?_
  refine qv (v := (.bool (decide (aa.1 < 0)))) rfl (fun _ hC => r_lss aa.1 0 rfl rfl) ?_
  refine qv (v := (.bool (decide (aa.1 < 0)))) rfl (fun _ hC => r_move rfl) ?_
  by_cases ao : (decide (aa.1 < 0)) = true
  ·rw [if_pos ao] at hm
   refine qp (b := decide (aa.1 < 0)) 37 rfl rfl rfl rfl (by rw [ao]; rfl) ?_
   refine qp (b := decide (aa.1 < 0)) 37 rfl rfl rfl rfl (by rw [ao]; rfl) ?_
   refine qp (b := decide (aa.1 < 0)) 37 rfl rfl rfl rfl (by rw [ao]; rfl) ?_
   refine qp (b := decide (aa.1 < 0)) 37 rfl rfl rfl rfl (by rw [ao]; rfl) ?_
   refine qp (b := decide (aa.1 < 0)) 37 rfl rfl rfl rfl (by rw [ao]; rfl) ?_
   refine qv (v := (.bool true)) rfl (fun _ hC => r_pickT (congrArg Value.bool ao) rfl) ?_
   refine qv (v := (.bool true)) rfl (fun _ hC => r_move rfl) ?_
   refine qp (b := true) 44 rfl rfl rfl rfl rfl ?_
   refine qp (b := true) 44 rfl rfl rfl rfl rfl ?_
   refine qp (b := true) 44 rfl rfl rfl rfl rfl ?_
   refine qv (v := (.bool true)) rfl (fun _ hC => r_pickT rfl rfl) ?_
   refine qv (v := (.bool true)) rfl (fun _ hC => r_move rfl) ?_
   refine qp (b := true) 49 rfl rfl rfl rfl rfl ?_
   refine qp (b := true) 49 rfl rfl rfl rfl rfl ?_
   refine qp (b := true) 49 rfl rfl rfl rfl rfl ?_
   refine qp (b := true) 49 rfl rfl rfl rfl rfl ?_
   refine qp (b := true) 49 rfl rfl rfl rfl rfl ?_
   refine qp (b := true) 49 rfl rfl rfl rfl rfl ?_
   refine qp (b := true) 49 rfl rfl rfl rfl rfl ?_
   refine qp (b := true) 49 rfl rfl rfl rfl rfl ?_
   refine qv (v := (.bool true)) rfl (fun _ hC => r_pickT rfl rfl) ?_
   refine qnil ?_
   intro ed hC
   replace hC : Grow al ci al ed := .of_below hC.below
   replace h1 := h1.gr hC
   replace h2 := h2.gr hC
   replace ac := ac.gr hC
   replace hst := hst.grow hC
   exact ⟨al, true, hm, hst, h1, h2, ac, rfl, rfl, rfl, rfl, rfl, rfl, rfl, rfl⟩
  rw [if_neg ao] at hm
  replace ao := Bool.eq_false_iff.2 ao
  refine qg (b := decide (aa.1 < 0)) 37 rfl rfl rfl (by rw [ao]; rfl) ?_
  refine qv (v := (.pointer ((some (⟨bo, 0, none⟩ : Addr)).map (·.add 0)))) rfl (fun _ hC => rF (sz := 1) (off := 0) Tryz.underlying48 rfl Tryz.sizeOf3 (by decide) rfl rfl ⟨_, _, rfl⟩) ?_
  refine qg (b := decide (aa.1 < 0)) 37 rfl rfl rfl (by rw [ao]; rfl) ?_
  refine qv (v := (.int .i64 aa.1)) rfl (fun _ hC => r_ld Tryz.isAgg3 rfl (((bp.atN).nth (q := 0) (v := (.int .i64 aa.1)) rfl).gr (Grow.of_below (col := al) hC.below))) ?_
  refine qg (b := decide (aa.1 < 0)) 37 rfl rfl rfl (by rw [ao]; rfl) ?_
  refine qv (v := (.slice ah ab.length ai)) rfl (fun _ hC => r_move rfl) ?_
  refine qg (b := decide (aa.1 < 0)) 37 rfl rfl rfl (by rw [ao]; rfl) ?_
  refine qv (v := (.int .i64 (ab.length : Int))) rfl (fun _ hC => r_len Tryz.underlying33 rfl) ?_
  refine qg (b := decide (aa.1 < 0)) 37 rfl rfl rfl (by rw [ao]; rfl) ?_
  refine qv (v := (.bool (decide ((ab.length : Int) ≤ aa.1)))) rfl (fun _ hC => r_geq aa.1 (ab.length : Int) rfl rfl) ?_
  refine qv (v := (.bool (decide ((ab.length : Int) ≤ aa.1)))) rfl (fun _ hC => r_pickF (congrArg Value.bool ao) rfl) ?_
  refine qv (v := (.bool (decide ((ab.length : Int) ≤ aa.1)))) rfl (fun _ hC => r_move rfl) ?_
  by_cases az : (decide ((ab.length : Int) ≤ aa.1)) = true
  ·rw [if_pos az] at hm
   refine qp (b := decide ((ab.length : Int) ≤ aa.1)) 44 rfl rfl rfl rfl (by rw [az]; rfl) ?_
   refine qp (b := decide ((ab.length : Int) ≤ aa.1)) 44 rfl rfl rfl rfl (by rw [az]; rfl) ?_
   refine qp (b := decide ((ab.length : Int) ≤ aa.1)) 44 rfl rfl rfl rfl (by rw [az]; rfl) ?_
   refine qv (v := (.bool true)) rfl (fun _ hC => r_pickT (congrArg Value.bool az) rfl) ?_
   refine qv (v := (.bool true)) rfl (fun _ hC => r_move rfl) ?_
   refine qp (b := true) 49 rfl rfl rfl rfl rfl ?_
   refine qp (b := true) 49 rfl rfl rfl rfl rfl ?_
   refine qp (b := true) 49 rfl rfl rfl rfl rfl ?_
   refine qp (b := true) 49 rfl rfl rfl rfl rfl ?_
   refine qp (b := true) 49 rfl rfl rfl rfl rfl ?_
   refine qp (b := true) 49 rfl rfl rfl rfl rfl ?_
   refine qp (b := true) 49 rfl rfl rfl rfl rfl ?_
   refine qp (b := true) 49 rfl rfl rfl rfl rfl ?_
   refine qv (v := (.bool true)) rfl (fun _ hC => r_pickT rfl rfl) ?_
   refine qnil ?_
   intro ee hC
   replace hC : Grow al ci al ee := .of_below hC.below
   replace h1 := h1.gr hC
   replace h2 := h2.gr hC
   replace ac := ac.gr hC
   replace hst := hst.grow hC
   exact ⟨al, true, hm, hst, h1, h2, ac, rfl, rfl, rfl, rfl, rfl, rfl, rfl, rfl⟩
  rw [if_neg az] at hm
  replace az := Bool.eq_false_iff.2 az
  refine qg (b := decide ((ab.length : Int) ≤ aa.1)) 44 rfl rfl rfl (by rw [az]; rfl) ?_
  refine qv (v := (.pointer ((some (⟨bo, 0, none⟩ : Addr)).map (·.add 1)))) rfl (fun _ hC => rF (sz := 1) (off := 1) Tryz.underlying48 rfl Tryz.sizeOf3 (by decide) rfl rfl ⟨_, _, rfl⟩) ?_
  refine qg (b := decide ((ab.length : Int) ≤ aa.1)) 44 rfl rfl rfl (by rw [az]; rfl) ?_
  refine qv (v := (.int .i64 aa.2)) rfl (fun _ hC => r_ld Tryz.isAgg3 rfl (((bp.atN).nth (q := 1) (v := (.int .i64 aa.2)) rfl).gr (Grow.of_below (col := al) hC.below))) ?_
  refine qg (b := decide ((ab.length : Int) ≤ aa.1)) 44 rfl rfl rfl (by rw [az]; rfl) ?_
  refine qv (v := (.bool (decide (aa.2 < 0)))) rfl (fun _ hC => r_lss aa.2 0 rfl rfl) ?_
  refine qv (v := (.bool (decide (aa.2 < 0)))) rfl (fun _ hC => r_pickF (congrArg Value.bool az) rfl) ?_
  refine qv (v := (.bool (decide (aa.2 < 0)))) rfl (fun _ hC => r_move rfl) ?_
  by_cases aj : (decide (aa.2 < 0)) = true
  ·rw [if_pos aj] at hm
   refine qp (b := decide (aa.2 < 0)) 49 rfl rfl rfl rfl (by rw [aj]; rfl) ?_
   refine qp (b := decide (aa.2 < 0)) 49 rfl rfl rfl rfl (by rw [aj]; rfl) ?_
   refine qp (b := decide (aa.2 < 0)) 49 rfl rfl rfl rfl (by rw [aj]; rfl) ?_
   refine qp (b := decide (aa.2 < 0)) 49 rfl rfl rfl rfl (by rw [aj]; rfl) ?_
   refine qp (b := decide (aa.2 < 0)) 49 rfl rfl rfl rfl (by rw [aj]; rfl) ?_
   refine qp (b := decide (aa.2 < 0)) 49 rfl rfl rfl rfl (by rw [aj]; rfl) ?_
   refine qp (b := decide (aa.2 < 0)) 49 rfl rfl rfl rfl (by rw [aj]; rfl) ?_
   refine qp (b := decide (aa.2 < 0)) 49 rfl rfl rfl rfl (by rw [aj]; rfl) ?_
   refine qv (v := (.bool true)) rfl (fun _ hC => r_pickT (congrArg Value.bool aj) rfl) ?_
   refine qnil ?_
   intro ef hC
   replace hC : Grow al ci al ef := .of_below hC.below
   replace h1 := h1.gr hC
   replace h2 := h2.gr hC
   replace ac := ac.gr hC
   replace hst := hst.grow hC
   exact ⟨al, true, hm, hst, h1, h2, ac, rfl, rfl, rfl, rfl, rfl, rfl, rfl, rfl⟩
  rw [if_neg aj] at hm
  replace aj := Bool.eq_false_iff.2 aj
  refine qg (b := decide (aa.2 < 0)) 49 rfl rfl rfl (by rw [aj]; rfl) ?_
  refine qv (v := (.pointer ((some (⟨bo, 0, none⟩ : Addr)).map (·.add 1)))) rfl (fun _ hC => rF (sz := 1) (off := 1) Tryz.underlying48 rfl Tryz.sizeOf3 (by decide) rfl rfl ⟨_, _, rfl⟩) ?_
  refine qg (b := decide (aa.2 < 0)) 49 rfl rfl rfl (by rw [aj]; rfl) ?_
  refine qv (v := (.int .i64 aa.2)) rfl (fun _ hC => r_ld Tryz.isAgg3 rfl (((bp.atN).nth (q := 1) (v := (.int .i64 aa.2)) rfl).gr (Grow.of_below (col := al) hC.below))) ?_
  refine qg (b := decide (aa.2 < 0)) 49 rfl rfl rfl (by rw [aj]; rfl) ?_
  refine qv (v := (.slice ah ab.length ai)) rfl (fun _ hC => r_move rfl) ?_
  refine qg (b := decide (aa.2 < 0)) 49 rfl rfl rfl (by rw [aj]; rfl) ?_
  refine qv (v := (.pointer ((some (⟨bo, 0, none⟩ : Addr)).map (·.add 0)))) rfl (fun _ hC => rF (sz := 1) (off := 0) Tryz.underlying48 rfl Tryz.sizeOf3 (by decide) rfl rfl ⟨_, _, rfl⟩) ?_
  refine qg (b := decide (aa.2 < 0)) 49 rfl rfl rfl (by rw [aj]; rfl) ?_
  refine qv (v := (.int .i64 aa.1)) rfl (fun _ hC => r_ld Tryz.isAgg3 rfl (((bp.atN).nth (q := 0) (v := (.int .i64 aa.1)) rfl).gr (Grow.of_below (col := al) hC.below))) ?_
  refine qg (b := decide (aa.2 < 0)) 49 rfl rfl rfl (by rw [aj]; rfl) ?_
  obtain ⟨ck, c0, hm⟩ := bS hm
  refine qv (v := (sptr ah (Int.toNat aa.1 * 1))) rfl (fun _ hC => r_idx Tryz.underlying33 Tryz.sizeOf3 rfl rfl (at?_some c0).1 (at?_some c0).2.1 (ac.addr c0)) ?_
  refine qg (b := decide (aa.2 < 0)) 49 rfl rfl rfl (by rw [aj]; rfl) ?_
  refine qv (v := (.int .i64 ck)) rfl (fun _ hC => r_ld Tryz.isAgg3 rfl ((ac.gr (Grow.of_below (col := al) hC.below)).atInt c0)) ?_
  refine qg (b := decide (aa.2 < 0)) 49 rfl rfl rfl (by rw [aj]; rfl) ?_
  refine qv (v := (.bool (decide (ck ≤ aa.2)))) rfl (fun _ hC => r_geq aa.2 ck rfl rfl) ?_
  refine qv (v := (.bool (decide (ck ≤ aa.2)))) rfl (fun _ hC => r_pickF (congrArg Value.bool aj) rfl) ?_
  refine qnil ?_
  intro eg hC
  replace hC : Grow al ci al eg := .of_below hC.below
  replace h1 := h1.gr hC
  replace h2 := h2.gr hC
  replace ac := ac.gr hC
  replace hst := hst.grow hC
  exact ⟨al, (decide (ck ≤ aa.2)), hm, hst, h1, h2, ac, rfl, rfl, rfl, rfl, rfl, rfl, rfl, rfl⟩
theorem el9_77 : ElemOk Tryz.prog 9 1 16 := ⟨Tryz.t9, _, rfl, rfl, rfl, rfl, rfl⟩
def m_slices_Clone_string_string (aa : (List ByteArray)) : Option (List ByteArray) :=
  chk ((([] : List ByteArray).length + aa.length) * 16 ≤ 140737488355328 ∧ ([] : List ByteArray).length + aa.length ≤ maxLen) (some (([] : List ByteArray) ++ aa))
theorem c_slices_Clone_string_string (c1 : Nat) (col : Col) (w0 : World) (a0 : Option Addr) (cap0 : Nat) (aa : (List ByteArray)) (h0 : Sl Rep.str col w0 a0 cap0 aa) (r : (List ByteArray)) (hm : m_slices_Clone_string_string aa = some r) :
    Calls Tryz.prog 77 #[(.slice a0 aa.length cap0)] w0 (fun e w' => ∃ (col' : Col) (ra1 : Option Addr) (rc2 : Nat), e = .returned ((.slice ra1 r.length rc2)) ∧ Grow col w0 col' w' ∧ Own Rep.str 9 c1 col' w' ra1 rc2 r) := by
 refine calls_of1 2 (m := 8) (args := [(.slice a0 aa.length cap0)]) Tryz.func77 rfl rfl rfl rfl rfl ?_
 rw [m_slices_Clone_string_string.eq_1] at hm
 have hst := St.start col w0
 refine wS <| wR <| lA (.slice none (([] : List ByteArray).length) 0) <| lN <| wS <| wS <| wR <| lM (.slice a0 aa.length cap0) ?_
 replace h0 := h0.keep (Stay.start col w0)
 rcases nil_or h0 with ab | ab
 ·replace hm : some ([] : List ByteArray) = some r := by have h0 := ab.2; subst h0; simpa [chk, maxLen] using hm
  refine lv (v := .bool a0.isNone) rfl rfl (r_eqlNil Tryz.underlying23 rfl) ?_
  refine .ld (d := 4) (v := .bool true) (congrArg Value.bool ab.1) ?_
  refine lN ?_
  refine wcondT rfl ?_
  refine wS <| wR <| lA (.slice none (([] : List ByteArray).length) 0) <| lN ?_
  refine wret ?_
  cases hm
  exact ⟨rfl, colF w0.heap.size col (col0 col) (fun n => 0), none, 0, rfl, hst.fin (fun n => 0), Own.nil⟩
 refine lv (v := .bool a0.isNone) rfl rfl (r_eqlNil Tryz.underlying23 rfl) ?_
 refine .ld (d := 4) (v := .bool false) (congrArg Value.bool ab) ?_
 refine lN ?_
 refine wcondF rfl ?_
 refine wK <| wS <| wR ?_
 refine l_lit0 (col := (col0 col)) (r := Rep.str) 1 rfl Tryz.underlying23 el9_77 rfl ?_
 intro am ah ai ac ad
 refine lM (.slice a0 aa.length cap0) ?_
 obtain ⟨ae, hm⟩ := cS hm
 replace h0 := h0.gr ac
 refine l_appendM (col := ai) (w := ah) (r := Rep.str) (c := 1) (c2 := 1) (xs := ([] : List ByteArray)) (ys := aa) ad h0.srcC rfl Tryz.underlying23 el9_77 rfl rfl rfl ae.1 ae.2 (by decide) ?_
 intro af ag an aj ak al
 clear ad
 refine lA (.slice af ((([] : List ByteArray) ++ aa).length) ag) <| lN ?_
 refine wret ?_
 cases hm
 replace hst := (hst.grow ac).kpp ak
 exact ⟨rfl, colF w0.heap.size col aj (fun n => bif Nat.beq n 1 then c1 else 0), af, ag, rfl, hst.fin (fun n => bif Nat.beq n 1 then c1 else 0), hst.finOwn (g := (fun n => bif Nat.beq n 1 then c1 else 0)) rfl al (by decide) (by decide) rfl⟩
theorem el3_78 : ElemOk Tryz.prog 3 1 8 := ⟨Tryz.t3, _, rfl, rfl, rfl, rfl, rfl⟩
def m_slices_Clone_int_int (aa : (List Int)) : Option (List Int) :=
  chk ((([] : List Int).length + aa.length) * 8 ≤ 140737488355328 ∧ ([] : List Int).length + aa.length ≤ maxLen) (some (([] : List Int) ++ aa))
theorem c_slices_Clone_int_int (c1 : Nat) (col : Col) (w0 : World) (a0 : Option Addr) (cap0 : Nat) (aa : (List Int)) (h0 : Sl (Rep.int .i64) col w0 a0 cap0 aa) (r : (List Int)) (hm : m_slices_Clone_int_int aa = some r) :
    Calls Tryz.prog 78 #[(.slice a0 aa.length cap0)] w0 (fun e w' => ∃ (col' : Col) (ra1 : Option Addr) (rc2 : Nat), e = .returned ((.slice ra1 r.length rc2)) ∧ Grow col w0 col' w' ∧ Own (Rep.int .i64) 3 c1 col' w' ra1 rc2 r) := by
 refine calls_of1 2 (m := 8) (args := [(.slice a0 aa.length cap0)]) Tryz.func78 rfl rfl rfl rfl rfl ?_
 rw [m_slices_Clone_int_int.eq_1] at hm
 have hst := St.start col w0
 refine wS <| wR <| lA (.slice none (([] : List Int).length) 0) <| lN <| wS <| wS <| wR <| lM (.slice a0 aa.length cap0) ?_
 replace h0 := h0.keep (Stay.start col w0)
 rcases nil_or h0 with ab | ab
 ·replace hm : some ([] : List Int) = some r := by have h0 := ab.2; subst h0; simpa [chk, maxLen] using hm
  refine lv (v := .bool a0.isNone) rfl rfl (r_eqlNil Tryz.underlying33 rfl) ?_
  refine .ld (d := 4) (v := .bool true) (congrArg Value.bool ab.1) ?_
  refine lN ?_
  refine wcondT rfl ?_
  refine wS <| wR <| lA (.slice none (([] : List Int).length) 0) <| lN ?_
  refine wret ?_
  cases hm
  exact ⟨rfl, colF w0.heap.size col (col0 col) (fun n => 0), none, 0, rfl, hst.fin (fun n => 0), Own.nil⟩
 refine lv (v := .bool a0.isNone) rfl rfl (r_eqlNil Tryz.underlying33 rfl) ?_
 refine .ld (d := 4) (v := .bool false) (congrArg Value.bool ab) ?_
 refine lN ?_
 refine wcondF rfl ?_
 refine wK <| wS <| wR ?_
 refine l_lit0 (col := (col0 col)) (r := (Rep.int .i64)) 1 rfl Tryz.underlying33 el3_78 rfl ?_
 intro am ah ai ac ad
 refine lM (.slice a0 aa.length cap0) ?_
 obtain ⟨ae, hm⟩ := cS hm
 replace h0 := h0.gr ac
 refine l_appendM (col := ai) (w := ah) (r := (Rep.int .i64)) (c := 1) (c2 := 1) (xs := ([] : List Int)) (ys := aa) ad h0.srcC rfl Tryz.underlying33 el3_78 rfl rfl rfl ae.1 ae.2 (by decide) ?_
 intro af ag an aj ak al
 clear ad
 refine lA (.slice af ((([] : List Int) ++ aa).length) ag) <| lN ?_
 refine wret ?_
 cases hm
 replace hst := (hst.grow ac).kpp ak
 exact ⟨rfl, colF w0.heap.size col aj (fun n => bif Nat.beq n 1 then c1 else 0), af, ag, rfl, hst.fin (fun n => bif Nat.beq n 1 then c1 else 0), hst.finOwn (g := (fun n => bif Nat.beq n 1 then c1 else 0)) rfl al (by decide) (by decide) rfl⟩
theorem el23_100 : ElemOk Tryz.prog 23 1 24 := ⟨Tryz.t23, _, rfl, rfl, rfl, rfl, rfl⟩
theorem el33_100 : ElemOk Tryz.prog 33 1 24 := ⟨Tryz.t33, _, rfl, rfl, rfl, rfl, rfl⟩
theorem el40_100 : ElemOk Tryz.prog 40 3 56 := ⟨Tryz.t40, _, rfl, rfl, rfl, rfl, rfl⟩
theorem el51_100 : ElemOk Tryz.prog 51 1 24 := ⟨Tryz.t51, _, rfl, rfl, rfl, rfl, rfl⟩
def m_joint_copied_L2 (N : Nat) (ae : Int) (af : ByteArray) (ag : List ByteArray) (ah : List (List ByteArray)) (ai : List (List Int)) (ac : List (List ((Bool × (List Int)) × (List Int)))) (kk_L1 : (Int → ByteArray → (List ByteArray) → (List (List ByteArray)) → (List (List Int)) → (List (List ((Bool × (List Int)) × (List Int)))) → Option (ByteArray × (List ByteArray) × (List (List ByteArray)) × (List (List Int)) × (List (List ((Bool × (List Int)) × (List Int))))))) (aj : (List ByteArray)) (ak : (List Int)) : List ((Bool × (List Int)) × (List Int)) → (List ((Bool × (List Int)) × (List Int))) → Option (ByteArray × (List ByteArray) × (List (List ByteArray)) × (List (List Int)) × (List (List ((Bool × (List Int)) × (List Int)))))
  | [], ab => chk ((ac.length + [ab].length) * 24 ≤ 140737488355328 ∧ ac.length + [ab].length ≤ maxLen) (kk_L1 (IntKind.i64.wrap (ae + 1)) af ag (ah ++ [aj]) (ai ++ [ak]) (ac ++ [ab]))
  | ad :: al, ab => (m_frac_Add N ((ad.1.1, ad.1.2), ad.2) ((false, ([] : List Int)), ([] : List Int))).bind fun aa => chk ((ab.length + [((aa.1.1, aa.1.2), aa.2)].length) * 56 ≤ 140737488355328 ∧ ab.length + [((aa.1.1, aa.1.2), aa.2)].length ≤ maxLen) ((m_joint_copied_L2 N ae af ag ah ai ac kk_L1 aj ak al) (ab ++ [((aa.1.1, aa.1.2), aa.2)]))
termination_by structural x => x
def m_joint_copied_L1 (N : Nat) (aa : (ByteArray × (List ByteArray) × (List (List ByteArray)) × (List (List Int)) × (List (List ((Bool × (List Int)) × (List Int)))))) : Nat → Int → ByteArray → (List ByteArray) → (List (List ByteArray)) → (List (List Int)) → (List (List ((Bool × (List Int)) × (List Int)))) → Option (ByteArray × (List ByteArray) × (List (List ByteArray)) × (List (List Int)) × (List (List ((Bool × (List Int)) × (List Int)))))
  | 0, _, _, _, _, _, _ => none
  | aj + 1, ab, ag, ah, ac, ad, ai => if (decide (ab < (aa.2.1.length : Int))) = true then ((at? aa.2.2.1 ab).bind fun ak => (m_slices_Clone_string_string ak).bind fun ae => chk ((ac.length + [ae].length) * 24 ≤ 140737488355328 ∧ ac.length + [ae].length ≤ maxLen) ((at? aa.2.2.2.1 ab).bind fun al => (m_slices_Clone_int_int al).bind fun af => chk ((ad.length + [af].length) * 24 ≤ 140737488355328 ∧ ad.length + [af].length ≤ maxLen) ((at? aa.2.2.2.2 ab).bind fun am => m_joint_copied_L2 N ab ag ah ac ad ai (m_joint_copied_L1 N aa aj) ae af am ([] : List ((Bool × (List Int)) × (List Int)))))) else (some (ag, ah, ac, ad, ai))
termination_by structural x => x
def m_joint_copied (N : Nat) (aa : (ByteArray × (List ByteArray) × (List (List ByteArray)) × (List (List Int)) × (List (List ((Bool × (List Int)) × (List Int)))))) : Option (ByteArray × (List ByteArray) × (List (List ByteArray)) × (List (List Int)) × (List (List ((Bool × (List Int)) × (List Int))))) :=
  (m_slices_Clone_string_string aa.2.1).bind fun ab => m_joint_copied_L1 N aa N 0 aa.1 ab ([] : List (List ByteArray)) ([] : List (List Int)) ([] : List (List ((Bool × (List Int)) × (List Int))))
theorem c_joint_copied (N : Nat) (c1 : Nat) (c2 : Nat) (c3 : Nat) (c4 : Nat) (col : Col) (w0 : World) (ar : Option Addr) (au : Nat) (a1 : Option Addr) (a7 : Nat) (av : Option Addr) (a2 : Nat) (ap : Option Addr) (aw : Nat) (aa : (ByteArray × (List ByteArray) × (List (List ByteArray)) × (List (List Int)) × (List (List ((Bool × (List Int)) × (List Int)))))) (ad : Sl Rep.str col w0 ar au aa.2.1) (ae : Sl (Rep.slice Rep.str) col w0 a1 a7 aa.2.2.1) (af : Sl (Rep.slice (Rep.int .i64)) col w0 av a2 aa.2.2.2.1) (ag : Sl (Rep.slice (Rep.pair (Rep.pair Rep.bool (Rep.slice (Rep.int .u32))) (Rep.slice (Rep.int .u32)))) col w0 ap aw aa.2.2.2.2) (r : (ByteArray × (List ByteArray) × (List (List ByteArray)) × (List (List Int)) × (List (List ((Bool × (List Int)) × (List Int)))))) (hm : m_joint_copied N aa = some r) :
    Calls Tryz.prog 100 #[(.agg #[(.string aa.1), (.slice ar aa.2.1.length au), (.slice a1 aa.2.2.1.length a7), (.slice av aa.2.2.2.1.length a2), (.slice ap aa.2.2.2.2.length aw)])] w0 (fun e w' => ∃ (col' : Col) (ra1 : Option Addr) (rc2 : Nat) (ra4 : Option Addr) (rc5 : Nat) (ra7 : Option Addr) (rc8 : Nat) (ra10 : Option Addr) (rc11 : Nat), e = .returned ((.agg #[(.string r.1), (.slice ra1 r.2.1.length rc2), (.slice ra4 r.2.2.1.length rc5), (.slice ra7 r.2.2.2.1.length rc8), (.slice ra10 r.2.2.2.2.length rc11)])) ∧ Grow col w0 col' w' ∧ Own Rep.str 9 c1 col' w' ra1 rc2 r.2.1 ∧ Own (Rep.row 9 Rep.str) 23 c2 col' w' ra4 rc5 r.2.2.1 ∧ Own (Rep.row 3 (Rep.int .i64)) 33 c3 col' w' ra7 rc8 r.2.2.2.1 ∧ Own (Rep.row 40 (Rep.pair (Rep.pair Rep.bool (Rep.row 114 (Rep.int .u32))) (Rep.row 114 (Rep.int .u32)))) 51 c4 col' w' ra10 rc11 r.2.2.2.2) := by
 refine calls_ofR (m := 69) (args := [(.agg #[(.string aa.1), (.slice ar aa.2.1.length au), (.slice a1 aa.2.2.1.length a7), (.slice av aa.2.2.2.1.length a2), (.slice ap aa.2.2.2.2.length aw)])]) Tryz.func100 rfl rfl rfl ?_
 rw [m_joint_copied.eq_1] at hm
 have hst := St.start col w0
 refine wS <| wR ?_
 refine l_box (col := (col0 col)) (v := (.agg #[(.string aa.1), (.slice ar aa.2.1.length au), (.slice a1 aa.2.2.1.length a7), (.slice av aa.2.2.2.1.length a2), (.slice ap aa.2.2.2.2.length aw)])) 1 rfl rfl ?_
 intro b5 fa d9 cx ab
 replace ab : Box 28 1 d9 fa b5 #[(.string aa.1), (.slice ar aa.2.1.length au), (.slice a1 aa.2.2.1.length a7), (.slice av aa.2.2.2.1.length a2), (.slice ap aa.2.2.2.2.length aw)] := ab
 refine l_alloc (col := d9) (v := (.agg #[(.string (⟨#[]⟩)), (.slice none (([] : List ByteArray).length) 0), (.slice none (([] : List (List ByteArray)).length) 0), (.slice none (([] : List (List Int)).length) 0), (.slice none (([] : List (List ((Bool × (List Int)) × (List Int)))).length) 0)])) 2 rfl Tryz.zeroValue28 ?_
 intro cp fb ea cq ac
 replace ac : Box 28 2 ea fb cp #[(.string (⟨#[]⟩)), (.slice none (([] : List ByteArray).length) 0), (.slice none (([] : List (List ByteArray)).length) 0), (.slice none (([] : List (List Int)).length) 0), (.slice none (([] : List (List ((Bool × (List Int)) × (List Int)))).length) 0)] := ac
 refine lN <| wS <| wR ?_
 replace ab := ab.gr cq
 refine lV (.agg #[(.string aa.1), (.slice ar aa.2.1.length au), (.slice a1 aa.2.2.1.length a7), (.slice av aa.2.2.2.1.length a2), (.slice ap aa.2.2.2.2.length aw)]) (r_ldN Tryz.isAgg28 Tryz.sizeOf28 rfl rfl ab.atN) ?_
 refine l_alloc (col := ea) (v := (.agg #[(.string (⟨#[]⟩)), (.slice none (([] : List ByteArray).length) 0), (.slice none (([] : List (List ByteArray)).length) 0), (.slice none (([] : List (List Int)).length) 0), (.slice none (([] : List (List ((Bool × (List Int)) × (List Int)))).length) 0)])) 3 rfl Tryz.zeroValue28 ?_
 intro ak fc ds ci dd
 replace dd : Box 28 3 ds fc ak #[(.string (⟨#[]⟩)), (.slice none (([] : List ByteArray).length) 0), (.slice none (([] : List (List ByteArray)).length) 0), (.slice none (([] : List (List Int)).length) 0), (.slice none (([] : List (List ((Bool × (List Int)) × (List Int)))).length) 0)] := dd
 refine l_bstore (v := (.agg #[(.string aa.1), (.slice ar aa.2.1.length au), (.slice a1 aa.2.2.1.length a7), (.slice av aa.2.2.2.1.length a2), (.slice ap aa.2.2.2.2.length aw)])) dd Tryz.sizeOf28 rfl rfl (by intro u hu; simp only [Value.cells, List.mem_cons, List.not_mem_nil, or_false] at hu; rcases hu with rfl | rfl | rfl | rfl | rfl <;> rfl) rfl rfl ?_
 intro fd cj fe cr
 clear dd
 replace cr : Box 28 3 ds fd ak #[(.string aa.1), (.slice ar aa.2.1.length au), (.slice a1 aa.2.2.1.length a7), (.slice av aa.2.2.2.1.length a2), (.slice ap aa.2.2.2.2.length aw)] := cr
 refine lN <| wS <| wR <| lV (.pointer ((some (⟨b5, 0, none⟩ : Addr)).map (·.add 1))) (rF (sz := 1) (off := 1) Tryz.underlying28 rfl Tryz.sizeOf23 (by decide) rfl rfl ⟨_, _, rfl⟩) ?_
 replace ab := (ab.gr ci).kp cj
 refine lV (.slice ar aa.2.1.length au) (r_ld Tryz.isAgg23 rfl ((ab.atN).nth (q := 1) (v := (.slice ar aa.2.1.length au)) rfl)) ?_
 obtain ⟨ck, ff, hm⟩ := bS hm
 replace ad := ((((ad.keep (Stay.start col w0)).gr cx).gr cq).gr ci).kp cj
 refine lc rfl rfl (r_call1 Tryz.call77 rfl) (c_slices_Clone_string_string 4 ds _ ar au aa.2.1 ad ck ff) ?_
 rintro _ gv ⟨cy, ct, cu, rfl, cc, dt⟩
 refine ⟨_, rfl, ?_⟩
 refine lV (.pointer ((some (⟨ak, 0, none⟩ : Addr)).map (·.add 1))) (rF (sz := 1) (off := 1) Tryz.underlying28 rfl Tryz.sizeOf23 (by decide) rfl rfl ⟨_, _, rfl⟩) ?_
 replace cr := cr.gr cc
 refine l_bstoreF (off := 1) (v := (.slice ct ck.length cu)) cr Tryz.sizeOf23 rfl rfl (by intro u hu; simp only [Value.cells, List.mem_cons, List.not_mem_nil, or_false] at hu; subst hu; rfl) rfl rfl ?_
 intro fg cd fh de
 clear cr
 replace de : Box 28 3 cy fg ak #[(.string aa.1), (.slice ct ck.length cu), (.slice a1 aa.2.2.1.length a7), (.slice av aa.2.2.2.1.length a2), (.slice ap aa.2.2.2.2.length aw)] := de
 refine lN <| wS <| wR <| lV (.pointer ((some (⟨ak, 0, none⟩ : Addr)).map (·.add 2))) (rF (sz := 1) (off := 2) Tryz.underlying28 rfl Tryz.sizeOf24 (by decide) rfl rfl ⟨_, _, rfl⟩) ?_
 refine l_bstoreF (off := 2) (v := (.slice none (([] : List (List ByteArray)).length) 0)) de Tryz.sizeOf24 rfl rfl (by intro u hu; simp only [Value.cells, List.mem_cons, List.not_mem_nil, or_false] at hu; subst hu; rfl) rfl rfl ?_
 intro fi ce fj df
 clear de
 replace df : Box 28 3 cy fi ak #[(.string aa.1), (.slice ct ck.length cu), (.slice none (([] : List (List ByteArray)).length) 0), (.slice av aa.2.2.2.1.length a2), (.slice ap aa.2.2.2.2.length aw)] := df
 refine lV (.pointer ((some (⟨ak, 0, none⟩ : Addr)).map (·.add 3))) (rF (sz := 1) (off := 3) Tryz.underlying28 rfl Tryz.sizeOf25 (by decide) rfl rfl ⟨_, _, rfl⟩) ?_
 refine l_bstoreF (off := 3) (v := (.slice none (([] : List (List Int)).length) 0)) df Tryz.sizeOf25 rfl rfl (by intro u hu; simp only [Value.cells, List.mem_cons, List.not_mem_nil, or_false] at hu; subst hu; rfl) rfl rfl ?_
 intro fk cf fl dg
 clear df
 replace dg : Box 28 3 cy fk ak #[(.string aa.1), (.slice ct ck.length cu), (.slice none (([] : List (List ByteArray)).length) 0), (.slice none (([] : List (List Int)).length) 0), (.slice ap aa.2.2.2.2.length aw)] := dg
 refine lV (.pointer ((some (⟨ak, 0, none⟩ : Addr)).map (·.add 4))) (rF (sz := 1) (off := 4) Tryz.underlying28 rfl Tryz.sizeOf26 (by decide) rfl rfl ⟨_, _, rfl⟩) ?_
 refine l_bstoreF (off := 4) (v := (.slice none (([] : List (List ((Bool × (List Int)) × (List Int)))).length) 0)) dg Tryz.sizeOf26 rfl rfl (by intro u hu; simp only [Value.cells, List.mem_cons, List.not_mem_nil, or_false] at hu; subst hu; rfl) rfl rfl ?_
 intro fm cg fn a3
 clear dg
 replace a3 : Box 28 3 cy fm ak #[(.string aa.1), (.slice ct ck.length cu), (.slice none (([] : List (List ByteArray)).length) 0), (.slice none (([] : List (List Int)).length) 0), (.slice none (([] : List (List ((Bool × (List Int)) × (List Int)))).length) 0)] := a3
 refine lN <| wS <| wS <| wR <| lV (.pointer ((some (⟨b5, 0, none⟩ : Addr)).map (·.add 1))) (rF (sz := 1) (off := 1) Tryz.underlying28 rfl Tryz.sizeOf23 (by decide) rfl rfl ⟨_, _, rfl⟩) ?_
 replace ab := ((((ab.gr cc).kp cd).kp ce).kp cf).kp cg
 refine lV (.slice ar aa.2.1.length au) (r_ld Tryz.isAgg23 rfl ((ab.atN).nth (q := 1) (v := (.slice ar aa.2.1.length au)) rfl)) <| lV (.int .i64 (aa.2.1.length : Int)) (r_len Tryz.underlying23 rfl) <| lM (.int .i64 0) <| lN <| wB ?_
 replace ae := (((((((((ae.keep (Stay.start col w0)).gr cx).gr cq).gr ci).kp cj).gr cc).kp cd).kp ce).kp cf).kp cg
 replace af := (((((((((af.keep (Stay.start col w0)).gr cx).gr cq).gr ci).kp cj).gr cc).kp cd).kp ce).kp cf).kp cg
 replace ag := (((((((((ag.keep (Stay.start col w0)).gr cx).gr cq).gr ci).kp cj).gr cc).kp cd).kp ce).kp cf).kp cg
 replace hst := ((((((((hst.grow cx).grow cq).grow ci).kp cj fe).grow cc).kp cd fh).kp ce fj).kp cf fl).kp cg fn
 replace ac := ((((((ac.gr ci).kp cj).gr cc).kp cd).kp ce).kp cf).kp cg
 replace ad := ((((ad.gr cc).kp cd).kp ce).kp cf).kp cg
 replace dt := (((dt.kp cd).kp ce).kp cf).kp cg
 refine wloop (fun n f bc => ∃ (al : Col) (an : Int) (bs : ByteArray) (bj : Option Addr) (bk : Nat) (bd : List ByteArray) (b9 : Option Addr) (ca : Nat) (ax : List (List ByteArray)) (b6 : Option Addr) (b7 : Nat) (ay : List (List Int)) (bl : Option Addr) (bm : Nat) (az : List (List ((Bool × (List Int)) × (List Int)))) (ch : Nat), ch = n ∧ m_joint_copied_L1 N aa ch an bs bd ax ay az = some r ∧ St w0 (col0 col) al bc ∧ Sl Rep.str al bc ar au aa.2.1 ∧ Sl (Rep.slice Rep.str) al bc a1 a7 aa.2.2.1 ∧ Sl (Rep.slice (Rep.int .i64)) al bc av a2 aa.2.2.2.1 ∧ Sl (Rep.slice (Rep.pair (Rep.pair Rep.bool (Rep.slice (Rep.int .u32))) (Rep.slice (Rep.int .u32)))) al bc ap aw aa.2.2.2.2 ∧ Box 28 1 al bc b5 #[(.string aa.1), (.slice ar aa.2.1.length au), (.slice a1 aa.2.2.1.length a7), (.slice av aa.2.2.2.1.length a2), (.slice ap aa.2.2.2.2.length aw)] ∧ Box 28 2 al bc cp #[(.string (⟨#[]⟩)), (.slice none (([] : List ByteArray).length) 0), (.slice none (([] : List (List ByteArray)).length) 0), (.slice none (([] : List (List Int)).length) 0), (.slice none (([] : List (List ((Bool × (List Int)) × (List Int)))).length) 0)] ∧ Own Rep.str 9 4 al bc bj bk bd ∧ Own (Rep.row 9 Rep.str) 23 5 al bc b9 ca ax ∧ Own (Rep.row 3 (Rep.int .i64)) 33 6 al bc b6 b7 ay ∧ Own (Rep.row 40 (Rep.pair (Rep.pair Rep.bool (Rep.row 114 (Rep.int .u32))) (Rep.row 114 (Rep.int .u32)))) 51 7 al bc bl bm az ∧ Box 28 3 al bc ak #[(.string bs), (.slice bj bd.length bk), (.slice b9 ax.length ca), (.slice b6 ay.length b7), (.slice bl az.length bm)] ∧ f 1 = (.pointer (some ⟨b5, 0, none⟩)) ∧ f 18 = (.int .i64 (aa.2.1.length : Int)) ∧ f 19 = (.int .i64 an) ∧ f 2 = (.pointer (some ⟨cp, 0, none⟩)) ∧ f 3 = (.pointer (some ⟨ak, 0, none⟩)) ∧ f 1000000 = (enc [])) N ⟨cy, 0, aa.1, ct, cu, ck, none, 0, ([] : List (List ByteArray)), none, 0, ([] : List (List Int)), none, 0, ([] : List (List ((Bool × (List Int)) × (List Int)))), N, rfl, hm, hst, ad, ae, af, ag, ab, ac, dt, Own.nil, Own.nil, Own.nil, a3, rfl, rfl, rfl, rfl, rfl, rfl⟩ ?_
 clear hm; intro n f bc hI
 obtain ⟨al, an, bs, bj, bk, bd, b9, ca, ax, b6, b7, ay, bl, bm, az, ch, hn, hm, hst, ad, ae, af, ag, ab, ac, ai, bw, am, ah, a3, hs1, hs18, hs19, hs2, hs3, hs1000000⟩ := hI
 subst hn
 refine .lD 1 hs1 <| .lD 18 hs18 <| .lD 19 hs19 <| .lD 2 hs2 <| .lD 3 hs3 <| .lD 1000000 hs1000000 ?_
 clear hs1 hs18 hs19 hs2 hs3 hs1000000
 cases ch with
 | zero => rw [m_joint_copied_L1.eq_1] at hm; cases hm
 | succ ch =>
  rw [m_joint_copied_L1.eq_2] at hm
  refine wS <| wR <| lV (.bool (decide (an < (aa.2.1.length : Int)))) (r_lss an (aa.2.1.length : Int) rfl rfl) <| lN <| wS ?_
  refine wcond (decide (an < (aa.2.1.length : Int))) rfl (fun hb => ?_) (fun hb => ?_)
  ·rw [if_pos hb] at hm
   clear hb
   refine wK <| wS <| wB <| wS <| wR <| lM (.int .i64 an) <| lA (.int .i64 an) <| lN <| wS ?_
   refine wmix (col := al) [(0, 1), (1, 0), (2, 1), (3, 0), (4, 1), (5, 1), (6, 0), (7, 3), (8, 3), (9, 2), (10, 1), (11, 2)] (by kernel_rfl) (by kernel_rfl) ?_
   refine xu (v := (.pointer ((some (⟨ak, 0, none⟩ : Addr)).map (·.add 2)))) rfl rfl (fun _ => rF (sz := 1) (off := 2) Tryz.underlying28 rfl Tryz.sizeOf24 (by decide) rfl rfl ⟨_, _, rfl⟩) ?_
   refine xv (v := (.slice b9 ax.length ca)) rfl rfl (fun _ hC => r_ld Tryz.isAgg24 rfl (((a3.atN).nth (q := 2) (v := (.slice b9 ax.length ca)) rfl).gr (Grow.of_below (col := al) hC.below))) ?_
   refine xu (v := (.pointer ((some (⟨b5, 0, none⟩ : Addr)).map (·.add 2)))) rfl rfl (fun _ => rF (sz := 1) (off := 2) Tryz.underlying28 rfl Tryz.sizeOf24 (by decide) rfl rfl ⟨_, _, rfl⟩) ?_
   refine xv (v := (.slice a1 aa.2.2.1.length a7)) rfl rfl (fun _ hC => r_ld Tryz.isAgg24 rfl (((ab.atN).nth (q := 2) (v := (.slice a1 aa.2.2.1.length a7)) rfl).gr (Grow.of_below (col := al) hC.below))) ?_
   refine xu (v := (.int .i64 an)) rfl rfl (fun _ => r_move rfl) ?_
   obtain ⟨eb, dh, hm⟩ := bS hm
   refine xu (v := (sptr a1 (Int.toNat an * 1))) rfl rfl (fun _ => r_idx Tryz.underlying24 Tryz.sizeOf23 rfl rfl (at?_some dh).1 (at?_some dh).2.1 (ae.addr dh)) ?_
   obtain ⟨_, fo, fp⟩ := ae.atN dh
   obtain ⟨⟨ec, ed, rfl, du⟩, _⟩ := fo
   refine xv (v := (.slice ec eb.length ed)) rfl rfl (fun _ hC => r_ld Tryz.isAgg23 rfl (fp.one.gr (Grow.of_below (col := al) hC.below))) ?_
   refine xe rfl rfl ?_
   intro fq hC0
   have hC : Grow al bc al fq := .of_below hC0.below
   obtain ⟨bt, fr, hm⟩ := bS hm
   replace du := du.gr hC
   refine lc rfl rfl (r_call1 Tryz.call77 rfl) (c_slices_Clone_string_string 8 al _ ec ed eb du bt fr) ?_
   rintro _ ee ⟨cz, ef, eg, rfl, bn, dv⟩
   refine ⟨_, rfl, ?_⟩
   refine lN ⟨fun w' => Grow cz ee cz w', Grow.refl _ _, fun _ _ h => cls hC0 bn h, ?_⟩
   refine xe rfl rfl ?_
   intro fs hC0
   replace ad := (ad.gr hC).gr bn
   replace ae := (ae.gr hC).gr bn
   replace af := (af.gr hC).gr bn
   replace ag := (ag.gr hC).gr bn
   replace ai := (ai.gr hC).gr bn
   replace bw := (bw.gr hC).gr bn
   replace am := (am.gr hC).gr bn
   replace ah := (ah.gr hC).gr bn
   replace ab := (ab.gr hC).gr bn
   replace ac := (ac.gr hC).gr bn
   replace a3 := (a3.gr hC).gr bn
   replace hst := (hst.grow hC).grow bn
   have hC : Grow cz ee cz fs := .of_below hC0.below
   replace dv := dv.gr hC
   refine l_lit (col := cz) (r := (Rep.row 9 Rep.str)) (xs := [bt]) [(.slice ef bt.length eg)] 8 rfl Tryz.underlying24 el23_100 rfl rfl rfl rfl rfl rfl (by intro v hv; simp only [List.mem_cons, List.not_mem_nil, or_false] at hv; subst hv; rfl) (RowsH.cons1 (cs := [(.slice ef bt.length eg)]) dv.has Rows.nil0) ?_
   intro gw eh c0 bo di
   refine lN ⟨fun w' => Grow c0 eh c0 w', Grow.refl _ _, fun _ _ h => cls hC0 bo h, ?_⟩
   refine xe rfl rfl ?_
   intro ei hC0
   replace ad := (ad.gr hC).gr bo
   replace ae := (ae.gr hC).gr bo
   replace af := (af.gr hC).gr bo
   replace ag := (ag.gr hC).gr bo
   replace ai := (ai.gr hC).gr bo
   replace bw := (bw.gr hC).gr bo
   replace am := (am.gr hC).gr bo
   replace ah := (ah.gr hC).gr bo
   replace ab := (ab.gr hC).gr bo
   replace ac := (ac.gr hC).gr bo
   replace a3 := (a3.gr hC).gr bo
   replace hst := (hst.grow hC).grow bo
   have hC : Grow c0 eh c0 ei := .of_below hC0.below
   obtain ⟨ej, hm⟩ := cS hm
   replace bw := bw.gr hC
   replace di := di.gr hC
   refine l_ext (col := c0) (w := ei) (r := (Rep.row 9 Rep.str)) (c := 5) (c2 := 8) (bw.ex) (di.srcC (by decide)) rfl Tryz.underlying24 el23_100 rfl rfl rfl ej.1 ej.2 (by decide) ?_
   intro cl cm ek a4 bx dj
   clear di
   clear bw
   refine lN ⟨fun w' => Grow a4 ek a4 w', Grow.refl _ _, fun h => absurd h (by decide), ?_⟩
   refine xu (v := (.pointer ((some (⟨ak, 0, none⟩ : Addr)).map (·.add 2)))) rfl rfl (fun _ => rF (sz := 1) (off := 2) Tryz.underlying28 rfl Tryz.sizeOf24 (by decide) rfl rfl ⟨_, _, rfl⟩) ?_
   refine xe rfl rfl ?_
   intro ft hC0
   replace ad := (ad.gr hC).kpp bx
   replace ae := (ae.gr hC).kpp bx
   replace af := (af.gr hC).kpp bx
   replace ag := (ag.gr hC).kpp bx
   replace ai := (ai.gr hC).kpp bx
   replace am := (am.gr hC).kpp bx
   replace ah := (ah.gr hC).kpp bx
   replace ab := (ab.gr hC).kpp bx
   replace ac := (ac.gr hC).kpp bx
   replace a3 := (a3.gr hC).kpp bx
   replace hst := (hst.grow hC).kpp bx
   have hC : Grow a4 ek a4 ft := .of_below hC0.below
   replace a3 := a3.gr hC
   refine l_bstoreF (off := 2) (v := (.slice cl ((ax ++ [bt]).length) cm)) a3 Tryz.sizeOf24 rfl rfl (by intro u hu; simp only [Value.cells, List.mem_cons, List.not_mem_nil, or_false] at hu; subst hu; rfl) rfl rfl ?_
   intro dw bz fu a8
   clear a3
   replace a8 : Box 28 3 a4 dw ak #[(.string bs), (.slice bj bd.length bk), (.slice cl ((ax ++ [bt]).length) cm), (.slice b6 ay.length b7), (.slice bl az.length bm)] := a8
   refine lN ⟨fun w' => Grow a4 dw a4 w', Grow.refl _ _, fun h => absurd h (by decide), ?_⟩
   replace dj := (dj.gr hC).kp bz
   have aj := dj.new
   clear dj
   refine xnil ?_
   replace ad := (ad.gr hC).kp bz
   replace ae := (ae.gr hC).kp bz
   replace af := (af.gr hC).kp bz
   replace ag := (ag.gr hC).kp bz
   replace ai := (ai.gr hC).kp bz
   replace am := (am.gr hC).kp bz
   replace ah := (ah.gr hC).kp bz
   replace ab := (ab.gr hC).kp bz
   replace ac := (ac.gr hC).kp bz
   replace hst := (hst.grow hC).kp bz fu
   intro el hC
   replace hC : Grow a4 dw a4 el := .of_below hC.below
   refine wS ?_
   refine wmix (col := a4) [(0, 1), (1, 0), (2, 1), (3, 0), (4, 1), (5, 1), (6, 0), (7, 3), (8, 3), (9, 2), (10, 1), (11, 2)] (by kernel_rfl) (by kernel_rfl) ?_
   refine xu (v := (.pointer ((some (⟨ak, 0, none⟩ : Addr)).map (·.add 3)))) rfl rfl (fun _ => rF (sz := 1) (off := 3) Tryz.underlying28 rfl Tryz.sizeOf25 (by decide) rfl rfl ⟨_, _, rfl⟩) ?_
   replace a8 := a8.gr hC
   refine xv (v := (.slice b6 ay.length b7)) rfl rfl (fun _ hC => r_ld Tryz.isAgg25 rfl (((a8.atN).nth (q := 3) (v := (.slice b6 ay.length b7)) rfl).gr (Grow.of_below (col := a4) hC.below))) ?_
   refine xu (v := (.pointer ((some (⟨b5, 0, none⟩ : Addr)).map (·.add 3)))) rfl rfl (fun _ => rF (sz := 1) (off := 3) Tryz.underlying28 rfl Tryz.sizeOf25 (by decide) rfl rfl ⟨_, _, rfl⟩) ?_
   replace ab := ab.gr hC
   refine xv (v := (.slice av aa.2.2.2.1.length a2)) rfl rfl (fun _ hC => r_ld Tryz.isAgg25 rfl (((ab.atN).nth (q := 3) (v := (.slice av aa.2.2.2.1.length a2)) rfl).gr (Grow.of_below (col := a4) hC.below))) ?_
   refine xu (v := (.int .i64 an)) rfl rfl (fun _ => r_move rfl) ?_
   obtain ⟨em, dk, hm⟩ := bS hm
   replace af := af.gr hC
   refine xu (v := (sptr av (Int.toNat an * 1))) rfl rfl (fun _ => r_idx Tryz.underlying25 Tryz.sizeOf33 rfl rfl (at?_some dk).1 (at?_some dk).2.1 (af.addr dk)) ?_
   obtain ⟨_, fv, fw⟩ := af.atN dk
   obtain ⟨⟨en, eo, rfl, dx⟩, _⟩ := fv
   refine xv (v := (.slice en em.length eo)) rfl rfl (fun _ hC => r_ld Tryz.isAgg33 rfl (fw.one.gr (Grow.of_below (col := a4) hC.below))) ?_
   refine xe rfl rfl ?_
   intro fx hC0
   replace ad := ad.gr hC
   replace ae := ae.gr hC
   replace ag := ag.gr hC
   replace ai := ai.gr hC
   replace aj := aj.gr hC
   replace am := am.gr hC
   replace ah := ah.gr hC
   replace ac := ac.gr hC
   replace hst := hst.grow hC
   have hC : Grow a4 el a4 fx := .of_below hC0.below
   obtain ⟨b0, fy, hm⟩ := bS hm
   replace dx := dx.gr hC
   refine lc rfl rfl (r_call1 Tryz.call78 rfl) (c_slices_Clone_int_int 9 a4 _ en eo em dx b0 fy) ?_
   rintro _ ep ⟨c5, eq, er, rfl, bp, dy⟩
   refine ⟨_, rfl, ?_⟩
   refine lN ⟨fun w' => Grow c5 ep c5 w', Grow.refl _ _, fun _ _ h => cls hC0 bp h, ?_⟩
   refine xe rfl rfl ?_
   intro fz hC0
   replace ad := (ad.gr hC).gr bp
   replace ae := (ae.gr hC).gr bp
   replace af := (af.gr hC).gr bp
   replace ag := (ag.gr hC).gr bp
   replace ai := (ai.gr hC).gr bp
   replace aj := (aj.gr hC).gr bp
   replace am := (am.gr hC).gr bp
   replace ah := (ah.gr hC).gr bp
   replace ab := (ab.gr hC).gr bp
   replace ac := (ac.gr hC).gr bp
   replace a8 := (a8.gr hC).gr bp
   replace hst := (hst.grow hC).grow bp
   have hC : Grow c5 ep c5 fz := .of_below hC0.below
   replace dy := dy.gr hC
   refine l_lit (col := c5) (r := (Rep.row 3 (Rep.int .i64))) (xs := [b0]) [(.slice eq b0.length er)] 9 rfl Tryz.underlying25 el33_100 rfl rfl rfl rfl rfl rfl (by intro v hv; simp only [List.mem_cons, List.not_mem_nil, or_false] at hv; subst hv; rfl) (RowsH.cons1 (cs := [(.slice eq b0.length er)]) dy.has Rows.nil0) ?_
   intro gx es c6 bq dl
   refine lN ⟨fun w' => Grow c6 es c6 w', Grow.refl _ _, fun _ _ h => cls hC0 bq h, ?_⟩
   refine xe rfl rfl ?_
   intro et hC0
   replace ad := (ad.gr hC).gr bq
   replace ae := (ae.gr hC).gr bq
   replace af := (af.gr hC).gr bq
   replace ag := (ag.gr hC).gr bq
   replace ai := (ai.gr hC).gr bq
   replace aj := (aj.gr hC).gr bq
   replace am := (am.gr hC).gr bq
   replace ah := (ah.gr hC).gr bq
   replace ab := (ab.gr hC).gr bq
   replace ac := (ac.gr hC).gr bq
   replace a8 := (a8.gr hC).gr bq
   replace hst := (hst.grow hC).grow bq
   have hC : Grow c6 es c6 et := .of_below hC0.below
   obtain ⟨eu, hm⟩ := cS hm
   replace am := am.gr hC
   replace dl := dl.gr hC
   refine l_ext (col := c6) (w := et) (r := (Rep.row 3 (Rep.int .i64))) (c := 6) (c2 := 9) (am.ex) (dl.srcC (by decide)) rfl Tryz.underlying25 el33_100 rfl rfl rfl eu.1 eu.2 (by decide) ?_
   intro cv cw ev b8 b1 dm
   clear dl
   clear am
   refine lN ⟨fun w' => Grow b8 ev b8 w', Grow.refl _ _, fun h => absurd h (by decide), ?_⟩
   refine xu (v := (.pointer ((some (⟨ak, 0, none⟩ : Addr)).map (·.add 3)))) rfl rfl (fun _ => rF (sz := 1) (off := 3) Tryz.underlying28 rfl Tryz.sizeOf25 (by decide) rfl rfl ⟨_, _, rfl⟩) ?_
   refine xe rfl rfl ?_
   intro f0 hC0
   replace ad := (ad.gr hC).kpp b1
   replace ae := (ae.gr hC).kpp b1
   replace af := (af.gr hC).kpp b1
   replace ag := (ag.gr hC).kpp b1
   replace ai := (ai.gr hC).kpp b1
   replace aj := (aj.gr hC).kpp b1
   replace ah := (ah.gr hC).kpp b1
   replace ab := (ab.gr hC).kpp b1
   replace ac := (ac.gr hC).kpp b1
   replace a8 := (a8.gr hC).kpp b1
   replace hst := (hst.grow hC).kpp b1
   have hC : Grow b8 ev b8 f0 := .of_below hC0.below
   replace a8 := a8.gr hC
   refine l_bstoreF (off := 3) (v := (.slice cv ((ay ++ [b0]).length) cw)) a8 Tryz.sizeOf25 rfl rfl (by intro u hu; simp only [Value.cells, List.mem_cons, List.not_mem_nil, or_false] at hu; subst hu; rfl) rfl rfl ?_
   intro dz b2 f1 aq
   clear a8
   replace aq : Box 28 3 b8 dz ak #[(.string bs), (.slice bj bd.length bk), (.slice cl ((ax ++ [bt]).length) cm), (.slice cv ((ay ++ [b0]).length) cw), (.slice bl az.length bm)] := aq
   refine lN ⟨fun w' => Grow b8 dz b8 w', Grow.refl _ _, fun h => absurd h (by decide), ?_⟩
   replace dm := (dm.gr hC).kp b2
   have be := dm.new
   clear dm
   refine xnil ?_
   replace ad := (ad.gr hC).kp b2
   replace ae := (ae.gr hC).kp b2
   replace af := (af.gr hC).kp b2
   replace ag := (ag.gr hC).kp b2
   replace ai := (ai.gr hC).kp b2
   replace aj := (aj.gr hC).kp b2
   replace ah := (ah.gr hC).kp b2
   replace ab := (ab.gr hC).kp b2
   replace ac := (ac.gr hC).kp b2
   replace hst := (hst.grow hC).kp b2 f1
   intro f2 hC
   replace hC : Grow b8 dz b8 f2 := .of_below hC.below
   refine wS <| wR <| lA (.slice none (([] : List ((Bool × (List Int)) × (List Int))).length) 0) <| lN <| wS <| wS <| wR <| lV (.pointer ((some (⟨b5, 0, none⟩ : Addr)).map (·.add 4))) (rF (sz := 1) (off := 4) Tryz.underlying28 rfl Tryz.sizeOf26 (by decide) rfl rfl ⟨_, _, rfl⟩) ?_
   replace ab := ab.gr hC
   refine lV (.slice ap aa.2.2.2.2.length aw) (r_ld Tryz.isAgg26 rfl ((ab.atN).nth (q := 4) (v := (.slice ap aa.2.2.2.2.length aw)) rfl)) <| lM (.int .i64 an) ?_
   obtain ⟨bf, dn, hm⟩ := bS hm
   replace ag := ag.gr hC
   refine lV (sptr ap (Int.toNat an * 1)) (r_idx Tryz.underlying26 Tryz.sizeOf51 rfl rfl (at?_some dn).1 (at?_some dn).2.1 (ag.addr dn)) ?_
   obtain ⟨_, f3, f4⟩ := ag.atN dn
   obtain ⟨⟨dp, d0, rfl, bu⟩, _⟩ := f3
   refine lV (.slice dp bf.length d0) (r_ld Tryz.isAgg51 rfl f4.one) <| lV (.int .i64 (bf.length : Int)) (r_len Tryz.underlying51 rfl) <| lM (.int .i64 0) <| lN <| wB ?_
   replace ad := ad.gr hC
   replace ae := ae.gr hC
   replace af := af.gr hC
   replace ai := ai.gr hC
   replace aj := aj.gr hC
   replace be := be.gr hC
   replace ah := ah.gr hC
   replace ac := ac.gr hC
   replace aq := aq.gr hC
   replace hst := hst.grow hC
   refine wloop (fun n f a9 => ∃ (a0 : Col) (cn : Option Addr) (co : Nat) (ba : List ((Bool × (List Int)) × (List Int))) (bg : Nat) (c7 : List ((Bool × (List Int)) × (List Int))), n = c7.length ∧ bf.drop bg = c7 ∧ m_joint_copied_L2 N an bs bd ax ay az (m_joint_copied_L1 N aa ch) bt b0 c7 ba = some r ∧ St w0 (col0 col) a0 a9 ∧ Sl Rep.str a0 a9 ar au aa.2.1 ∧ Sl (Rep.slice Rep.str) a0 a9 a1 a7 aa.2.2.1 ∧ Sl (Rep.slice (Rep.int .i64)) a0 a9 av a2 aa.2.2.2.1 ∧ Sl (Rep.slice (Rep.pair (Rep.pair Rep.bool (Rep.slice (Rep.int .u32))) (Rep.slice (Rep.int .u32)))) a0 a9 ap aw aa.2.2.2.2 ∧ Box 28 1 a0 a9 b5 #[(.string aa.1), (.slice ar aa.2.1.length au), (.slice a1 aa.2.2.1.length a7), (.slice av aa.2.2.2.1.length a2), (.slice ap aa.2.2.2.2.length aw)] ∧ Box 28 2 a0 a9 cp #[(.string (⟨#[]⟩)), (.slice none (([] : List ByteArray).length) 0), (.slice none (([] : List (List ByteArray)).length) 0), (.slice none (([] : List (List Int)).length) 0), (.slice none (([] : List (List ((Bool × (List Int)) × (List Int)))).length) 0)] ∧ Own Rep.str 9 4 a0 a9 bj bk bd ∧ Own (Rep.row 9 Rep.str) 23 5 a0 a9 cl cm (ax ++ [bt]) ∧ Own (Rep.row 3 (Rep.int .i64)) 33 6 a0 a9 cv cw (ay ++ [b0]) ∧ Own (Rep.row 40 (Rep.pair (Rep.pair Rep.bool (Rep.row 114 (Rep.int .u32))) (Rep.row 114 (Rep.int .u32)))) 51 7 a0 a9 bl bm az ∧ Box 28 3 a0 a9 ak #[(.string bs), (.slice bj bd.length bk), (.slice cl ((ax ++ [bt]).length) cm), (.slice cv ((ay ++ [b0]).length) cw), (.slice bl az.length bm)] ∧ Sl (Rep.pair (Rep.pair Rep.bool (Rep.slice (Rep.int .u32))) (Rep.slice (Rep.int .u32))) a0 a9 dp d0 bf ∧ Own (Rep.pair (Rep.pair Rep.bool (Rep.row 114 (Rep.int .u32))) (Rep.row 114 (Rep.int .u32))) 40 10 a0 a9 cn co ba ∧ f 50 = (.int .i64 (bg : Int)) ∧ f 1 = (.pointer (some ⟨b5, 0, none⟩)) ∧ f 18 = (.int .i64 (aa.2.1.length : Int)) ∧ f 19 = (.int .i64 an) ∧ f 2 = (.pointer (some ⟨cp, 0, none⟩)) ∧ f 3 = (.pointer (some ⟨ak, 0, none⟩)) ∧ f 48 = (.slice dp bf.length d0) ∧ f 49 = (.int .i64 (bf.length : Int)) ∧ f 5 = (.slice cn ba.length co) ∧ f 1000000 = (enc [])) bf.length ⟨b8, none, 0, ([] : List ((Bool × (List Int)) × (List Int))), 0, bf, rfl, rfl, hm, hst, ad, ae, af, ag, ab, ac, ai, aj, be, ah, aq, bu, Own.nil, rfl, rfl, rfl, rfl, rfl, rfl, rfl, rfl, rfl, rfl⟩ ?_
   clear hm; intro n f a9 hI
   obtain ⟨a0, cn, co, ba, bg, c7, hn, hl, hm, hst, ad, ae, af, ag, ab, ac, ai, aj, be, ah, aq, bu, cb, hs50, hs1, hs18, hs19, hs2, hs3, hs48, hs49, hs5, hs1000000⟩ := hI
   subst hn
   refine .lD 50 hs50 <| .lD 1 hs1 <| .lD 18 hs18 <| .lD 19 hs19 <| .lD 2 hs2 <| .lD 3 hs3 <| .lD 48 hs48 <| .lD 49 hs49 <| .lD 5 hs5 <| .lD 1000000 hs1000000 ?_
   clear hs50 hs1 hs18 hs19 hs2 hs3 hs48 hs49 hs5 hs1000000
   cases c7 with
   | nil =>
    have hk : ¬ ((bg : Int) < (bf.length : Int)) := by have := List.drop_eq_nil_iff.1 hl; omega
    have hkb := decide_eq_false hk
    rw [m_joint_copied_L2.eq_1] at hm
    refine wS <| wR <| lV (.bool (decide ((bg : Int) < (bf.length : Int)))) (r_lss (bg : Int) (bf.length : Int) rfl rfl) <| lN <| wS ?_
    refine wcondF (congrArg Value.bool hkb) ?_
    refine wexit (inB_hit ?_)
    refine wR <| lV (.pointer ((some (⟨ak, 0, none⟩ : Addr)).map (·.add 4))) (rF (sz := 1) (off := 4) Tryz.underlying28 rfl Tryz.sizeOf26 (by decide) rfl rfl ⟨_, _, rfl⟩) <| lV (.slice bl az.length bm) (r_ld Tryz.isAgg26 rfl ((aq.atN).nth (q := 4) (v := (.slice bl az.length bm)) rfl)) <| lM (.slice cn ba.length co) ?_
    refine l_lit (col := a0) (r := (Rep.row 40 (Rep.pair (Rep.pair Rep.bool (Rep.row 114 (Rep.int .u32))) (Rep.row 114 (Rep.int .u32))))) (xs := [ba]) [(.slice cn ba.length co)] 10 rfl Tryz.underlying26 el51_100 rfl rfl rfl rfl rfl rfl (by intro v hv; simp only [List.mem_cons, List.not_mem_nil, or_false] at hv; subst hv; rfl) (RowsH.cons1 (cs := [(.slice cn ba.length co)]) cb.has Rows.nil0) ?_
    intro gy f5 f6 bv ew
    obtain ⟨ey, hm⟩ := cS hm
    replace ah := ah.gr bv
    refine l_ext (col := f6) (w := f5) (r := (Rep.row 40 (Rep.pair (Rep.pair Rep.bool (Rep.row 114 (Rep.int .u32))) (Rep.row 114 (Rep.int .u32))))) (c := 7) (c2 := 10) (ah.ex) (ew.srcC (by decide)) rfl Tryz.underlying26 el51_100 rfl rfl rfl ey.1 ey.2 (by decide) ?_
    intro d1 d2 gz ez b3 dq
    clear ew
    clear ah
    refine lV (.pointer ((some (⟨ak, 0, none⟩ : Addr)).map (·.add 4))) (rF (sz := 1) (off := 4) Tryz.underlying28 rfl Tryz.sizeOf26 (by decide) rfl rfl ⟨_, _, rfl⟩) ?_
    replace aq := (aq.gr bv).kpp b3
    refine l_bstoreF (off := 4) (v := (.slice d1 ((az ++ [ba]).length) d2)) aq Tryz.sizeOf26 rfl rfl (by intro u hu; simp only [Value.cells, List.mem_cons, List.not_mem_nil, or_false] at hu; subst hu; rfl) rfl rfl ?_
    intro f7 b4 f8 d3
    clear aq
    replace d3 : Box 28 3 ez f7 ak #[(.string bs), (.slice bj bd.length bk), (.slice cl ((ax ++ [bt]).length) cm), (.slice cv ((ay ++ [b0]).length) cw), (.slice d1 ((az ++ [ba]).length) d2)] := d3
    replace dq := dq.kp b4
    have f9 := dq.new
    clear dq
    refine lN <| wR <| lV (.int .i64 (IntKind.i64.wrap (an + 1))) (r_add an 1 rfl rfl) <| lM (.int .i64 (IntKind.i64.wrap (an + 1))) <| lN ?_
    replace ad := ((ad.gr bv).kpp b3).kp b4
    replace ae := ((ae.gr bv).kpp b3).kp b4
    replace af := ((af.gr bv).kpp b3).kp b4
    replace ag := ((ag.gr bv).kpp b3).kp b4
    replace ai := ((ai.gr bv).kpp b3).kp b4
    replace aj := ((aj.gr bv).kpp b3).kp b4
    replace be := ((be.gr bv).kpp b3).kp b4
    replace ab := ((ab.gr bv).kpp b3).kp b4
    replace ac := ((ac.gr bv).kpp b3).kp b4
    replace hst := ((hst.grow bv).kpp b3).kp b4 f8
    exact ⟨ch, by omega, ⟨ez, (IntKind.i64.wrap (an + 1)), bs, bj, bk, bd, cl, cm, (ax ++ [bt]), cv, cw, (ay ++ [b0]), d1, d2, (az ++ [ba]), ch, rfl, hm, hst, ad, ae, af, ag, ab, ac, ai, aj, be, f9, d3, rfl, rfl, rfl, rfl, rfl, rfl⟩⟩
   | cons bb e0 =>
    obtain ⟨hat, hl2_L2, hlt_L2⟩ := drop_get hl
    have hk : (bg : Int) < (bf.length : Int) := by omega
    have hkb := decide_eq_true hk
    rw [m_joint_copied_L2.eq_2] at hm
    refine wS <| wR <| lV (.bool (decide ((bg : Int) < (bf.length : Int)))) (r_lss (bg : Int) (bf.length : Int) rfl rfl) <| lN <| wS ?_
    refine wcondT (congrArg Value.bool hkb) ?_
    refine wK <| wS <| wB <| wS <| wR ?_
    refine lV (sptr dp (Int.toNat (bg : Int) * 3)) (r_idx Tryz.underlying51 Tryz.sizeOf40 rfl rfl (at?_some hat).1 (at?_some hat).2.1 (bu.addr hat)) ?_
    obtain ⟨_, ga, gb⟩ := bu.atN hat
    obtain ⟨_, _, rfl, gc, gd⟩ := rd_pair ga
    obtain ⟨_, _, rfl, ge, gf⟩ := rd_pair gc
    obtain ⟨rfl, _⟩ := ge
    obtain ⟨⟨c8, c9, rfl, d4⟩, _⟩ := gf
    obtain ⟨⟨da, db, rfl, d5⟩, _⟩ := gd
    refine lV (.agg #[(.bool bb.1.1), (.slice c8 bb.1.2.length c9), (.slice da bb.2.length db)]) (r_ldN Tryz.isAgg40 Tryz.sizeOf40 rfl rfl gb) ?_
    refine l_alloc (col := a0) (v := (.agg #[(.bool false), (.slice none (([] : List Int).length) 0), (.slice none (([] : List Int).length) 0)])) 11 rfl Tryz.zeroValue40 ?_
    intro e1 gg d6 a5 dr
    replace dr : Box 40 11 d6 gg e1 #[(.bool false), (.slice none (([] : List Int).length) 0), (.slice none (([] : List Int).length) 0)] := dr
    refine l_bstore (v := (.agg #[(.bool bb.1.1), (.slice c8 bb.1.2.length c9), (.slice da bb.2.length db)])) dr Tryz.sizeOf40 rfl rfl (by intro u hu; simp only [Value.cells, List.mem_cons, List.not_mem_nil, or_false] at hu; rcases hu with rfl | rfl | rfl <;> rfl) rfl rfl ?_
    intro gh a6 gi d7
    clear dr
    replace d7 : Box 40 11 d6 gh e1 #[(.bool bb.1.1), (.slice c8 bb.1.2.length c9), (.slice da bb.2.length db)] := d7
    refine lN <| wR <| lM (.slice cn ba.length co) <| lV (.agg #[(.bool bb.1.1), (.slice c8 bb.1.2.length c9), (.slice da bb.2.length db)]) (r_ldN Tryz.isAgg40 Tryz.sizeOf40 rfl rfl d7.atN) <| lV (.agg #[(.bool false), (.slice none (([] : List Int).length) 0), (.slice none (([] : List Int).length) 0)]) (r_build (l := [_, _]) (qs := [(0, 2), (2, 1)]) Tryz.underlying40 Tryz.zeroValue40 ⟨rfl, Tryz.sizeOf38, rfl, Tryz.sizeOf36, trivial⟩ rfl) ?_
    obtain ⟨ao, gj, hm⟩ := bS hm
    replace d4 := (d4.gr a5).kp a6
    replace d5 := (d5.gr a5).kp a6
    refine lc rfl rfl (r_call2 Tryz.call27 rfl rfl) (c_frac_Add N 12 13 d6 _ c8 c9 da db ((bb.1.1, bb.1.2), bb.2) none 0 none 0 ((false, ([] : List Int)), ([] : List Int)) d4 d5 Sl.nil Sl.nil ao gj) ?_
    rintro _ g0 ⟨gk, e2, e3, e4, e5, rfl, bh, gl, gm⟩
    refine ⟨_, rfl, ?_⟩
    have gn := Has.join (Has.joinL (rd_bool ao.1.1) gl.has) gm.has (by decide) (by decide)
    replace ad := ((ad.gr a5).kp a6).gr bh
    replace ad := ad.recol 13 12 (by decide)
    replace ae := ((ae.gr a5).kp a6).gr bh
    replace ae := ae.recol 13 12 (by decide)
    replace af := ((af.gr a5).kp a6).gr bh
    replace af := af.recol 13 12 (by decide)
    replace ag := ((ag.gr a5).kp a6).gr bh
    replace ag := ag.recol 13 12 (by decide)
    replace ai := ((ai.gr a5).kp a6).gr bh
    replace ai := ai.recol 13 12 (by decide)
    replace aj := ((aj.gr a5).kp a6).gr bh
    replace aj := aj.recol 13 12 (by decide)
    replace be := ((be.gr a5).kp a6).gr bh
    replace be := be.recol 13 12 (by decide)
    replace ah := ((ah.gr a5).kp a6).gr bh
    replace ah := ah.recol 13 12 (by decide)
    replace bu := ((bu.gr a5).kp a6).gr bh
    replace bu := bu.recol 13 12 (by decide)
    replace cb := ((cb.gr a5).kp a6).gr bh
    replace cb := cb.recol 13 12 (by decide)
    replace ab := ((ab.gr a5).kp a6).gr bh
    replace ab := ab.recol 13 12 (by decide)
    replace ac := ((ac.gr a5).kp a6).gr bh
    replace ac := ac.recol 13 12 (by decide)
    replace aq := ((aq.gr a5).kp a6).gr bh
    replace aq := aq.recol 13 12 (by decide)
    replace hst := ((hst.grow a5).kp a6 gi).grow bh
    replace hst := hst.recol 13 12 (by decide) (by decide)
    refine l_lit (col := (rcC 13 12 gk)) (r := (Rep.pair (Rep.pair Rep.bool (Rep.row 114 (Rep.int .u32))) (Rep.row 114 (Rep.int .u32)))) (xs := [((ao.1.1, ao.1.2), ao.2)]) [(.agg #[(.bool ao.1.1), (.slice e2 ao.1.2.length e3), (.slice e4 ao.2.length e5)])] 12 rfl Tryz.underlying51 el40_100 rfl rfl rfl rfl rfl rfl (by intro v hv; simp only [List.mem_cons, List.not_mem_nil, or_false] at hv; subst hv; rfl) (RowsH.cons1 (cs := [(.bool ao.1.1), (.slice e2 ao.1.2.length e3), (.slice e4 ao.2.length e5)]) gn Rows.nil0) ?_
    intro g1 go gp bi e6
    obtain ⟨e7, hm⟩ := cS hm
    replace cb := cb.gr bi
    refine l_appendM (col := gp) (w := go) (r := (Rep.pair (Rep.pair Rep.bool (Rep.row 114 (Rep.int .u32))) (Rep.row 114 (Rep.int .u32)))) (c := 10) (c2 := 12) (xs := ba) (ys := [((ao.1.1, ao.1.2), ao.2)]) cb (e6.srcC (by decide)) rfl Tryz.underlying51 el40_100 rfl rfl rfl e7.1 e7.2 (by decide) ?_
    intro e8 e9 g2 gq br gs
    clear e6
    clear cb
    refine lA (.slice e8 ((ba ++ [((ao.1.1, ao.1.2), ao.2)]).length) e9) <| lN <| wR <| lV (.int .i64 (IntKind.i64.wrap ((bg : Int) + 1))) (r_add (bg : Int) 1 rfl rfl) <| lM (.int .i64 (IntKind.i64.wrap ((bg : Int) + 1))) <| lN ?_
    replace ad := (ad.gr bi).kpp br
    replace ae := (ae.gr bi).kpp br
    replace af := (af.gr bi).kpp br
    replace ag := (ag.gr bi).kpp br
    replace ai := (ai.gr bi).kpp br
    replace aj := (aj.gr bi).kpp br
    replace be := (be.gr bi).kpp br
    replace ah := (ah.gr bi).kpp br
    replace bu := (bu.gr bi).kpp br
    replace ab := (ab.gr bi).kpp br
    replace ac := (ac.gr bi).kpp br
    replace aq := (aq.gr bi).kpp br
    replace hst := (hst.grow bi).kpp br
    exact ⟨e0.length, by simp, ⟨gq, e8, e9, (ba ++ [((ao.1.1, ao.1.2), ao.2)]), (bg + 1), e0, rfl, hl2_L2, hm, hst, ad, ae, af, ag, ab, ac, ai, aj, be, ah, aq, bu, gs, (congrArg (Value.int .i64) (wrap_succ (Nat.lt_of_lt_of_le hlt_L2 bu.1.1))), rfl, rfl, rfl, rfl, rfl, rfl, rfl, rfl, rfl⟩⟩
  rw [if_neg (by rw [hb]; decide)] at hm
  clear hb
  refine wexit (inB_hit ?_)
  refine wS <| wR <| lV (.agg #[(.string bs), (.slice bj bd.length bk), (.slice b9 ax.length ca), (.slice b6 ay.length b7), (.slice bl az.length bm)]) (r_ldN Tryz.isAgg28 Tryz.sizeOf28 rfl rfl a3.atN) ?_
  refine l_bstore (v := (.agg #[(.string bs), (.slice bj bd.length bk), (.slice b9 ax.length ca), (.slice b6 ay.length b7), (.slice bl az.length bm)])) ac Tryz.sizeOf28 rfl rfl (by intro u hu; simp only [Value.cells, List.mem_cons, List.not_mem_nil, or_false] at hu; rcases hu with rfl | rfl | rfl | rfl | rfl <;> rfl) rfl rfl ?_
  intro gt dc gu d8
  clear ac
  replace d8 : Box 28 2 al gt cp #[(.string bs), (.slice bj bd.length bk), (.slice b9 ax.length ca), (.slice b6 ay.length b7), (.slice bl az.length bm)] := d8
  refine lN ?_
  refine wret ?_
  cases hm
  replace ai := ai.kp dc
  replace bw := bw.kp dc
  replace am := am.kp dc
  replace ah := ah.kp dc
  replace hst := hst.kp dc gu
  exact ⟨rfl, _, res_a rfl rfl Tryz.isAgg28 Tryz.sizeOf28 rfl rfl d8.atN, colF w0.heap.size col al (fun n => bif Nat.beq n 4 then c1 else bif Nat.beq n 5 then c2 else bif Nat.beq n 6 then c3 else bif Nat.beq n 7 then c4 else 0), bj, bk, b9, ca, b6, b7, bl, bm, rfl, hst.fin (fun n => bif Nat.beq n 4 then c1 else bif Nat.beq n 5 then c2 else bif Nat.beq n 6 then c3 else bif Nat.beq n 7 then c4 else 0), hst.finOwn (g := (fun n => bif Nat.beq n 4 then c1 else bif Nat.beq n 5 then c2 else bif Nat.beq n 6 then c3 else bif Nat.beq n 7 then c4 else 0)) rfl ai (by decide) (by decide) rfl, hst.finOwn (g := (fun n => bif Nat.beq n 4 then c1 else bif Nat.beq n 5 then c2 else bif Nat.beq n 6 then c3 else bif Nat.beq n 7 then c4 else 0)) rfl bw (by decide) (by decide) rfl, hst.finOwn (g := (fun n => bif Nat.beq n 4 then c1 else bif Nat.beq n 5 then c2 else bif Nat.beq n 6 then c3 else bif Nat.beq n 7 then c4 else 0)) rfl am (by decide) (by decide) rfl, hst.finOwn (g := (fun n => bif Nat.beq n 4 then c1 else bif Nat.beq n 5 then c2 else bif Nat.beq n 6 then c3 else bif Nat.beq n 7 then c4 else 0)) rfl ah (by decide) (by decide) rfl⟩
def m_slices_Backward_int_int_1_L1 (N : Nat) (ab : List Int) : Nat → Int → Option (List (Int × Int))
  | 0, _ => none
  | ac + 1, aa => if (decide (0 ≤ aa)) = true then ((at? ab aa).bind fun ad => ((m_slices_Backward_int_int_1_L1 N ab ac) (IntKind.i64.wrap (aa - 1))).bind fun ae => some ((aa, ad) :: ae)) else (some [])
termination_by structural x => x
def m_slices_Backward_int_int_1 (N : Nat) (aa : List Int) : Option (List (Int × Int)) :=
  m_slices_Backward_int_int_1_L1 N aa N (IntKind.i64.wrap ((aa.length : Int) - 1))
theorem c_slices_Backward_int_int_1 (N : Nat) (col : Col) (w0 : World) (g0 : Nat) (af0 : Option Addr) (capf0 : Nat) (ab : List Int) (hf0 : Sl (Rep.int .i64) col w0 af0 capf0 ab) (hb0 : Box 33 450 col w0 g0 #[(.slice af0 ab.length capf0)]) (r : List (Int × Int)) (hm : m_slices_Backward_int_int_1 N ab = some r) :
    Goes Tryz.prog 1 176 [(.pointer (some ⟨g0, 0, none⟩))] (fun (y : Int × Int) (col : Col) (w : World) (args : List Value) => args = [.int .i64 y.1, .int .i64 y.2]) r col w0 := by
 intro l J X hjs hxs hy hst
 refine calls_of0 (m := 19) (args := [.func (.yield l) #[] #[], (.pointer (some ⟨g0, 0, none⟩))]) Tryz.func176 rfl rfl rfl rfl ?_
 rw [m_slices_Backward_int_int_1.eq_1] at hm
 refine wS <| wR <| lV (.slice af0 ab.length capf0) (r_ld Tryz.isAgg33 rfl hb0.at1) <| lV (.int .i64 (ab.length : Int)) (r_len Tryz.underlying33 rfl) <| lV (.int .i64 (IntKind.i64.wrap ((ab.length : Int) - 1))) (r_sub (ab.length : Int) 1 rfl rfl) <| lA (.int .i64 (IntKind.i64.wrap ((ab.length : Int) - 1))) <| lN <| wB ?_
 refine wloop (fun n f ad => ∃ (ae : Col) (r : List (Int × Int)) (aa : Int) (ac : Nat), ac = n ∧ m_slices_Backward_int_int_1_L1 N ab ac aa = some r ∧ J r ae ad ∧ Sl (Rep.int .i64) ae ad af0 capf0 ab ∧ Box 33 450 ae ad g0 #[(.slice af0 ab.length capf0)] ∧ f 0 = (.func (.yield l) #[] #[]) ∧ f 1 = (.pointer (some ⟨g0, 0, none⟩)) ∧ f 3 = (.int .i64 aa) ∧ f 1000000 = (enc [])) N ⟨col, r, (IntKind.i64.wrap ((ab.length : Int) - 1)), N, rfl, hm, hst, hf0, hb0, rfl, rfl, rfl, rfl⟩ ?_
 clear hm; intro n f ad hI
 obtain ⟨ae, r, aa, ac, hn, hm, hst, hf0, hb0, hs0, hs1, hs3, hs1000000⟩ := hI
 subst hn
 refine .lD 0 hs0 <| .lD 1 hs1 <| .lD 3 hs3 <| .lD 1000000 hs1000000 ?_
 clear hs0 hs1 hs3 hs1000000
 cases ac with
 | zero => rw [m_slices_Backward_int_int_1_L1.eq_1] at hm; cases hm
 | succ ac =>
  rw [m_slices_Backward_int_int_1_L1.eq_2] at hm
  refine wS <| wS <| wR <| lM (.int .i64 aa) <| lV (.bool (decide (0 ≤ aa))) (r_geq aa 0 rfl rfl) <| lN ?_
  refine wcond (decide (0 ≤ aa)) rfl (fun hb => ?_) (fun hb => ?_)
  ·rw [if_pos hb] at hm
   clear hb
   refine wK <| wS <| wB <| wS <| wR <| lM (.func (.yield l) #[] #[]) <| lM (.int .i64 aa) <| lV (.slice af0 ab.length capf0) (r_ld Tryz.isAgg33 rfl hb0.at1) <| lM (.int .i64 aa) ?_
   obtain ⟨ag, af, hm⟩ := bS hm
   refine lV (sptr af0 (Int.toNat aa * 1)) (r_idx Tryz.underlying33 Tryz.sizeOf3 rfl rfl (at?_some af).1 (at?_some af).2.1 (hf0.addr af)) ?_
   refine lV (.int .i64 ag) (r_ld Tryz.isAgg3 rfl (hf0.atInt af)) ?_
   obtain ⟨ai, hc_8m, aj⟩ := bS hm
   cases aj
   have hm := hc_8m
   clear hc_8m
   refine ly2 rfl rfl rfl rfl (hy _ _ _ _ [(.int .i64 aa), (.int .i64 ag)] hst rfl) ?_
   rintro _ al ⟨ak, ah, ⟨rfl, hJ⟩ | ⟨rfl, hX⟩⟩
   ·refine ⟨_, rfl, ?_⟩
    clear hst
    have hst := hJ
    clear hJ
    refine lV (.bool false) (r_not true rfl) <| lN ?_
    refine wcondF rfl ?_
    refine wK <| wR <| lM (.int .i64 aa) <| lV (.int .i64 (IntKind.i64.wrap (aa - 1))) (r_sub aa 1 rfl rfl) <| lA (.int .i64 (IntKind.i64.wrap (aa - 1))) <| lN ?_
    replace hf0 := hf0.kpp ah
    replace hb0 := hb0.kpp ah
    exact ⟨ac, by omega, ⟨ak, ai, (IntKind.i64.wrap (aa - 1)), ac, rfl, hm, hst, hf0, hb0, rfl, rfl, rfl, rfl⟩⟩
   clear hm
   refine ⟨_, rfl, ?_⟩
   clear hst
   have hst := hX
   clear hX
   refine lV (.bool true) (r_not false rfl) <| lN ?_
   refine wcondT rfl ?_
   refine wret ?_
   exact ⟨rfl, ⟨_, rfl⟩, _, .inr hst⟩
  rw [if_neg (by rw [hb]; decide)] at hm
  clear hb
  refine wexit (inB_hit ?_)
  cases hm
  exact ⟨rfl, ⟨_, rfl⟩, _, .inl hst⟩
def m_slices_Backward_int_int (N : Nat) (aa : (List Int)) : Option (List (Int × Int)) :=
  m_slices_Backward_int_int_1 N aa
theorem c_slices_Backward_int_int (N : Nat) (col : Col) (w0 : World) (a0 : Option Addr) (cap0 : Nat) (aa : (List Int)) (h0 : Sl (Rep.int .i64) col w0 a0 cap0 aa) (r : (List (Int × Int))) (hm : m_slices_Backward_int_int N aa = some r) :
    Calls Tryz.prog 154 #[(.slice a0 aa.length cap0)] w0 (fun e w' => ∃ (col' : Col) (rv1 : Value), e = .returned (rv1) ∧ Grow col w0 col' w' ∧ It Tryz.prog 1 rv1 (fun (y : Int × Int) (col : Col) (w : World) (args : List Value) => args = [.int .i64 y.1, .int .i64 y.2]) r q0 col' w') := by
 refine calls_of1 2 (m := 4) (args := [(.slice a0 aa.length cap0)]) Tryz.func154 rfl rfl rfl rfl rfl ?_
 rw [m_slices_Backward_int_int.eq_1] at hm
 have hst := St.start col w0
 refine wS <| wR ?_
 refine l_box (col := (col0 col)) (v := (.slice a0 aa.length cap0)) 1 rfl rfl ?_
 intro ab ag ae af ac
 replace ac : Box 33 1 ae ag ab #[(.slice a0 aa.length cap0)] := ac
 refine lv (v := _) rfl rfl (r_assign rfl) ?_
 refine lN <| wS <| wR <| lV (.func (.func 176) #[] #[(.pointer (some ⟨ab, 0, none⟩))]) (r_func1 rfl) <| lA (.func (.func 176) #[] #[(.pointer (some ⟨ab, 0, none⟩))]) <| lN ?_
 refine wret ?_
 replace hst := hst.grow af
 have ad := hst.finBox (G := (fun n => bif Nat.beq n 1 then 450 else 0)) ac (by decide) (by decide) (show (fun n => bif Nat.beq n 1 then 450 else 0) 1 = 450 from rfl)
 replace h0 := (h0.keep (Stay.start col w0)).gr af
 have h0f := hst.finSl (g := (fun n => bif Nat.beq n 1 then 450 else 0)) rfl h0
 refine ⟨rfl, colF w0.heap.size col ae (fun n => bif Nat.beq n 1 then 450 else 0), _, rfl, hst.fin (fun n => bif Nat.beq n 1 then 450 else 0), 176, [(.pointer (some ⟨ab, 0, none⟩))], rfl, Tryz.call176, ?_⟩
 intro col9 w9 hs9 hk9
 replace ad := ad.itk hs9 hk9 rfl
 replace h0f := h0f.itk hs9 hk9 rfl
 exact c_slices_Backward_int_int_1 N col9 w9 ab a0 cap0 aa h0f ad r hm
def m_radix_digits_int_L1  : List (Int × Int) → Int → (List Int) → Option (List Int)
  | [], ac, ab => some ab
  | aa :: ad, ac, ab => chk (aa.2 ≠ 0) ((at? ab aa.1).bind fun af => (some (ab.set (Int.toNat aa.1) (Int.tmod ac aa.2))).bind fun ae => chk (aa.2 ≠ 0) ((m_radix_digits_int_L1 ad) (IntKind.i64.wrap (Int.tdiv ac aa.2)) ae))
termination_by structural x => x
def m_radix_digits_int (N : Nat) (aa : (List Int)) (ab : Int) : Option (List Int) :=
  if (decide ((aa.length : Int) = 0)) = true then none else (chk (aa.length * 8 ≤ 281474976710656 ∧ aa.length ≤ maxLen) ((m_slices_Backward_int_int N aa).bind fun ac => m_radix_digits_int_L1 ac ab (List.replicate aa.length (0 : Int))))
theorem c_radix_digits_int (N : Nat) (c1 : Nat) (col : Col) (w0 : World) (a0 : Option Addr) (cap0 : Nat) (aa : (List Int)) (al : Int) (h0 : Sl (Rep.int .i64) col w0 a0 cap0 aa) (r : (List Int)) (hm : m_radix_digits_int N aa al = some r) :
    Calls Tryz.prog 129 #[(.slice a0 aa.length cap0), (.int .i64 al)] w0 (fun e w' => ∃ (col' : Col) (ra1 : Option Addr) (rc2 : Nat), e = .returned ((.slice ra1 r.length rc2)) ∧ Grow col w0 col' w' ∧ Own (Rep.int .i64) 3 c1 col' w' ra1 rc2 r) := by
 refine calls_ofM1 4 (mc := 499) (m := 28) (args := [(.slice a0 aa.length cap0), (.int .i64 al)]) Tryz.func129 rfl rfl rfl rfl rfl ?_
 rw [m_radix_digits_int.eq_1] at hm
 have hst := St.start col w0
 replace h0 := h0.keep (Stay.start col w0)
 have hmk : Marks 499 (col0 col) w0 [] := .nil
 refine wS <| wR ?_
 refine l_box (col := (col0 col)) (v := (.int .i64 al)) 1 rfl rfl ?_
 intro a2 a9 ba a3 ad
 replace ad : Box 3 1 ba a9 a2 #[(.int .i64 al)] := ad
 refine lA (.slice none (([] : List Int).length) 0) <| lN <| wS <| wS <| wR <| lM (.slice a0 aa.length cap0) <| lV (.int .i64 (aa.length : Int)) (r_len Tryz.underlying33 rfl) <| lV (.bool (decide ((aa.length : Int) = 0))) (r_eql (aa.length : Int) 0 rfl rfl) <| lN ?_
 replace h0 := h0.gr a3
 replace hmk := hmk.gr a3
 replace hst := hst.grow a3
 refine wcond (decide ((aa.length : Int) = 0)) rfl (fun hb => ?_) (fun hb => ?_)
 ·rw [if_pos hb] at hm
  clear hb
  cases hm
 rw [if_neg (by rw [hb]; decide)] at hm
 clear hb
 refine wK <| wS <| wR <| lM (.slice a0 aa.length cap0) <| lV (.int .i64 (aa.length : Int)) (r_len Tryz.underlying33 rfl) ?_
 obtain ⟨bb, hm⟩ := cS hm
 refine l_make (col := ba) (w := a9) (r := (Rep.int .i64)) (n := aa.length) (x0 := 0) 2 rfl Tryz.underlying33 Tryz.t3 rfl rfl rfl rfl rfl rfl rfl bb.1 bb.2 (rd_int .i64 0) ?_
 intro a4 bw bh au a5
 refine l_alloc (col := bh) (v := (.slice none (([] : List Int).length) 0)) 3 rfl Tryz.zeroValue33 ?_
 intro av bi a6 ap aw
 replace aw : Box 33 3 a6 bi av #[(.slice none (([] : List Int).length) 0)] := aw
 refine l_bstore (v := (.slice a4 ((List.replicate aa.length (0 : Int)).length) aa.length)) aw Tryz.sizeOf33 rfl rfl (by intro u hu; simp only [Value.cells, List.mem_cons, List.not_mem_nil, or_false] at hu; subst hu; rfl) rfl rfl ?_
 intro bj aq bk ab
 clear aw
 replace ab : Box 33 3 a6 bj av #[(.slice a4 ((List.replicate aa.length (0 : Int)).length) aa.length)] := ab
 refine lN <| wS <| wS <| wR <| lM (.slice a0 aa.length cap0) ?_
 obtain ⟨bc, bl, hm⟩ := bS hm
 replace h0 := ((h0.gr au).gr ap).kp aq
 refine lc rfl rfl (r_call1 Tryz.call154 rfl) (c_slices_Backward_int_int N a6 _ a0 cap0 aa h0 bc bl) ?_
 rintro _ bx ⟨bm, bz, rfl, ar, bn⟩
 refine ⟨_, rfl, ?_⟩
 refine lN <| wB ?_
 replace ad := (((ad.gr au).gr ap).kp aq).gr ar
 replace hmk := (((hmk.gr au).gr ap).kp aq).gr ar
 replace hst := (((hst.grow au).grow ap).kp aq bk).grow ar
 replace a5 := ((a5.gr ap).kp aq).gr ar
 replace ab := ab.gr ar
 refine wrange (psl := [16, 17]) (arr := (fun (y : Int × Int) (col : Col) (w : World) (args : List Value) => args = [.int .i64 y.1, .int .i64 y.2])) (ys := bc) (col := bm) 498 rfl bn rfl hmk rfl rfl (by rintro _ _ _ _ rfl; rfl) (fun ys_ ac ak => ∃ (ae : Int) (ag : Option Addr) (ai : Nat) (aj : List Int), m_radix_digits_int_L1 ys_ ae aj = some r ∧ St w0 (col0 col) ac ak ∧ Box 3 1 ac ak a2 #[(.int .i64 ae)] ∧ Own (Rep.int .i64) 3 2 ac ak ag ai aj ∧ Box 33 3 ac ak av #[(.slice ag aj.length ai)]) (fun _ _ _ => False) ?_ ?_ ⟨al, a4, aa.length, (List.replicate aa.length (0 : Int)), hm, hst, ad, a5, ab⟩ ?_ ?_ ?_
 ·intro ys_ ac ak col2_ w2_ hJ hk
  obtain ⟨ae, ag, ai, aj, hm, hst, ad, ah, ab⟩ := hJ
  exact ⟨ae, ag, ai, aj, hm, hst.kpp hk rfl rfl, ad.kpp hk rfl, ah.kpp hk rfl rfl, ab.kpp hk rfl⟩
 ·intro _ _ _ _ _ h _
  exact h
 ·intro b0 b1 b2 af b3 ac ak args hJ hrec hmk harr
  obtain ⟨ae, ag, ai, aj, hm, hst, ad, ah, ab⟩ := hJ
  rw [m_radix_digits_int_L1.eq_2] at hm
  have hki := KeepP.refl (pC 1) ac ak
  subst harr
  refine wS <| wR <| lA (.int .i64 af.1) <| lN <| wR <| lA (.int .i64 af.2) <| lN ?_
  refine ⟨_, hrec, ?_⟩
  intro bo b4 am bd hrec2
  clear hrec
  have hrec := hrec2
  clear hrec2
  refine wB <| wS ?_
  refine wmix (col := ac) [(0, 0), (1, 1), (2, 0), (3, 1), (4, 1), (5, 1), (6, 2)] (by kernel_rfl) (by kernel_rfl) ?_
  replace ab := ab.kp am
  refine xv (v := (.slice ag aj.length ai)) rfl rfl (fun _ hC => r_ld Tryz.isAgg33 rfl (ab.at1.gr (Grow.of_below (col := ac) hC.below))) ?_
  refine xu (v := (.int .i64 af.1)) rfl rfl (fun _ => r_move rfl) ?_
  replace ad := ad.kp am
  refine xv (v := (.int .i64 ae)) rfl rfl (fun _ hC => r_ld Tryz.isAgg3 rfl (ad.at1.gr (Grow.of_below (col := ac) hC.below))) ?_
  refine xu (v := (.int .i64 af.2)) rfl rfl (fun _ => r_move rfl) ?_
  obtain ⟨bp, hm⟩ := cS hm
  refine xu (v := (.int .i64 (Int.tmod ae af.2))) rfl rfl (fun _ => r_rem ae af.2 rfl rfl bp) ?_
  obtain ⟨b5, ax, hm⟩ := bS hm
  replace ah := ah.kp am
  refine xu (v := (sptr ag (Int.toNat af.1 * 1))) rfl rfl (fun _ => r_idx Tryz.underlying33 Tryz.sizeOf3 rfl rfl (at?_some ax).1 (at?_some ax).2.1 (ah.addr ax)) ?_
  refine xe rfl rfl ?_
  intro bq hC0
  have hC : Grow ac bo ac bq := .of_below hC0.below
  obtain ⟨ay, az, hm⟩ := bS hm
  have az : ay = aj.set (Int.toNat af.1) (Int.tmod ae af.2) := (Option.some.inj az).symm
  replace ah := ah.gr hC
  refine l_store (x1 := Int.tmod ae af.2) (v := (.int .i64 (Int.tmod ae af.2))) ah ax rfl Tryz.sizeOf3 (rd_int .i64 (Int.tmod ae af.2)) rfl rfl (by decide) ?_
  intro a7 an be a1
  rw [← az] at a1
  replace ab := (ab.gr hC).kp an
  replace ab : Box 33 3 ac a7 av #[(.slice ag ay.length ai)] := by rw [← (show aj.length = ay.length by rw [az, List.length_set])]; exact ab
  clear ah
  refine lN ⟨fun w' => Grow ac a7 ac w', Grow.refl _ _, fun h => absurd h (by decide), ?_⟩
  refine xnil ?_
  replace hmk := ((hmk.kp am).gr hC).kp an
  replace hki := ((hki.kp am bd rfl).gr hC).kp an be rfl
  replace hst := ((hst.kp am bd).grow hC).kp an be
  replace ad := (ad.gr hC).kp an
  replace hrec := (hrec.gr hC).kp an
  intro br hC
  replace hC : Grow ac a7 ac br := .of_below hC.below
  refine wR ?_
  replace ad := ad.gr hC
  refine lV (.int .i64 ae) (r_ld Tryz.isAgg3 rfl ad.at1) <| lM (.int .i64 af.2) ?_
  obtain ⟨bs, hm⟩ := cS hm
  refine lV (.int .i64 (IntKind.i64.wrap (Int.tdiv ae af.2))) (r_quo ae af.2 rfl rfl bs) ?_
  refine l_bstore (v := (.int .i64 (IntKind.i64.wrap (Int.tdiv ae af.2)))) ad Tryz.sizeOf3 rfl rfl (by intro u hu; simp only [Value.cells, List.mem_cons, List.not_mem_nil, or_false] at hu; subst hu; rfl) rfl rfl ?_
  intro bt ao bf a8
  clear ad
  replace a8 : Box 3 1 ac bt a2 #[(.int .i64 (IntKind.i64.wrap (Int.tdiv ae af.2)))] := a8
  refine lN ?_
  replace a1 := (a1.gr hC).kp ao
  replace ab := (ab.gr hC).kp ao
  replace hrec := (hrec.gr hC).kp ao
  replace hmk := (hmk.gr hC).kp ao
  replace hki := (hki.gr hC).kp ao bf rfl
  replace hst := (hst.grow hC).kp ao bf
  exact ⟨_, hki, ⟨(IntKind.i64.wrap (Int.tdiv ae af.2)), ag, ai, ay, hm, hst, a8, a1, ab⟩, hrec, hmk⟩
 ·clear hmk
  intro bu ac ak hJ hmk
  obtain ⟨ae, ag, ai, aj, hm, hst, ad, ah, ab⟩ := hJ
  rw [m_radix_digits_int_L1.eq_1] at hm
  refine wS <| wR <| lV (.slice ag aj.length ai) (r_ld Tryz.isAgg33 rfl ab.at1) <| lA (.slice ag aj.length ai) <| lN ?_
  refine wret ?_
  cases hm
  refine ⟨_, (bu :: []), rfl, hmk, ?_⟩
  intro b6 bg bv
  clear hmk
  replace ah := ah.kp bg
  replace hst := hst.kp bg bv
  exact ⟨colF w0.heap.size col ac (fun n => bif Nat.beq n 2 then c1 else 0), ag, ai, rfl, hst.fin (fun n => bif Nat.beq n 2 then c1 else 0), hst.finOwn (g := (fun n => bif Nat.beq n 2 then c1 else 0)) rfl ah (by decide) (by decide) rfl⟩
 intro _ _ _ _ h
 exact h.elim
def m_radix_All_int_1_L1 (N : Nat) (ab : Int) (ac : List Int) : Nat → Int → Option (List (Int × (List Int)))
  | 0, _ => none
  | ad + 1, aa => if (decide (aa < ab)) = true then ((m_radix_digits_int N ac aa).bind fun ae => ((m_radix_All_int_1_L1 N ab ac ad) (IntKind.i64.wrap (aa + 1))).bind fun af => some ((aa, ae) :: af)) else (some [])
termination_by structural x => x
def m_radix_All_int_1 (N : Nat) (aa : Int) (ab : List Int) : Option (List (Int × (List Int))) :=
  m_radix_All_int_1_L1 N aa ab N 0
theorem c_radix_All_int_1 (N : Nat) (cy : Nat) (col : Col) (w0 : World) (g0 : Nat) (ab : Int) (hb0 : Box 3 450 col w0 g0 #[(.int .i64 ab)]) (g1 : Nat) (af1 : Option Addr) (capf1 : Nat) (ad : List Int) (hf1 : Own (Rep.int .i64) 3 450 col w0 af1 capf1 ad) (hb1 : Box 33 450 col w0 g1 #[(.slice af1 ad.length capf1)]) (r : List (Int × (List Int))) (hm : m_radix_All_int_1 N ab ad = some r) :
    Goes Tryz.prog 1 128 [(.pointer (some ⟨g0, 0, none⟩)), (.pointer (some ⟨g1, 0, none⟩))] (fun (y : Int × (List Int)) (col : Col) (w : World) (args : List Value) => ∃ (a1 : Option Addr) (cap1 : Nat), args = [.int .i64 y.1, .slice a1 y.2.length cap1] ∧ Own (Rep.int .i64) 3 cy col w a1 cap1 y.2) r col w0 := by
 intro l J X hjs hxs hy hst
 refine calls_of0 (m := 17) (args := [.func (.yield l) #[] #[], (.pointer (some ⟨g0, 0, none⟩)), (.pointer (some ⟨g1, 0, none⟩))]) Tryz.func128 rfl rfl rfl rfl ?_
 rw [m_radix_All_int_1.eq_1] at hm
 refine wS <| wR <| lV (.int .i64 ab) (r_ld Tryz.isAgg3 rfl hb0.at1) <| lM (.int .i64 0) <| lN <| wB ?_
 refine wloop (fun n f ag => ∃ (ac : Col) (r : List (Int × (List Int))) (aa : Int) (ae : Nat), ae = n ∧ m_radix_All_int_1_L1 N ab ad ae aa = some r ∧ J r ac ag ∧ Own (Rep.int .i64) 3 450 ac ag af1 capf1 ad ∧ Box 33 450 ac ag g1 #[(.slice af1 ad.length capf1)] ∧ Box 3 450 ac ag g0 #[(.int .i64 ab)] ∧ f 0 = (.func (.yield l) #[] #[]) ∧ f 2 = (.pointer (some ⟨g1, 0, none⟩)) ∧ f 5 = (.int .i64 ab) ∧ f 6 = (.int .i64 aa) ∧ f 1000000 = (enc [])) N ⟨col, r, 0, N, rfl, hm, hst, hf1, hb1, hb0, rfl, rfl, rfl, rfl, rfl⟩ ?_
 clear hm; intro n f ag hI
 obtain ⟨ac, r, aa, ae, hn, hm, hst, hf1, hb1, hb0, hs0, hs2, hs5, hs6, hs1000000⟩ := hI
 subst hn
 refine .lD 0 hs0 <| .lD 2 hs2 <| .lD 5 hs5 <| .lD 6 hs6 <| .lD 1000000 hs1000000 ?_
 clear hs0 hs2 hs5 hs6 hs1000000
 cases ae with
 | zero => rw [m_radix_All_int_1_L1.eq_1] at hm; cases hm
 | succ ae =>
  rw [m_radix_All_int_1_L1.eq_2] at hm
  refine wS <| wR <| lV (.bool (decide (aa < ab))) (r_lss aa ab rfl rfl) <| lN <| wS ?_
  refine wcond (decide (aa < ab)) rfl (fun hb => ?_) (fun hb => ?_)
  ·rw [if_pos hb] at hm
   clear hb
   refine wK <| wS <| wB <| wS <| wR <| lM (.int .i64 aa) <| lA (.int .i64 aa) <| lN <| wS <| wR <| lM (.func (.yield l) #[] #[]) <| lM (.int .i64 aa) <| lV (.slice af1 ad.length capf1) (r_ld Tryz.isAgg33 rfl hb1.at1) <| lM (.int .i64 aa) ?_
   obtain ⟨aj, am, hm⟩ := bS hm
   refine lc rfl rfl (r_call2 Tryz.call129 rfl rfl) (c_radix_digits_int N 501 (frC 450 ac) _ af1 capf1 ad aa (hf1.toSlF (Froz.int .i64)) aj am) ?_
   rintro _ ar ⟨an, ak, al, rfl, af, ah⟩
   refine ⟨_, rfl, ?_⟩
   replace ah := ah.thaw (flat_int .i64) af ((Fz.refl (col := ac)).froz 450) (by decide)
   replace af := af.thawR (col := ac)
   generalize colR ag.heap.size ac an = au at *
   replace hf1 := hf1.gr af
   replace hb1 := hb1.gr af
   replace hb0 := hb0.gr af
   replace hst := hjs _ _ _ _ _ hst af.toP
   replace hf1 := hf1.recol 501 cy (by decide)
   replace ah := ah.recolSelf cy (by decide)
   replace hb1 := hb1.recol 501 cy (by decide)
   replace hb0 := hb0.recol 501 cy (by decide)
   replace hst := hjs _ _ _ _ _ hst ((KeepP.refl _ _ _).recol 501 cy rfl)
   obtain ⟨ao, hc_15m, ap⟩ := bS hm
   cases ap
   have hm := hc_15m
   clear hc_15m
   refine ly2 rfl rfl rfl rfl (hy _ _ _ _ [(.int .i64 aa), (.slice ak aj.length al)] hst ⟨ak, al, rfl, ah⟩) ?_
   rintro _ av ⟨aq, ai, ⟨rfl, hJ⟩ | ⟨rfl, hX⟩⟩
   ·refine ⟨_, rfl, ?_⟩
    clear hst
    have hst := hJ
    clear hJ
    refine lV (.bool false) (r_not true rfl) <| lN ?_
    refine wcondF rfl ?_
    refine wK <| wR <| lV (.int .i64 (IntKind.i64.wrap (aa + 1))) (r_add aa 1 rfl rfl) <| lM (.int .i64 (IntKind.i64.wrap (aa + 1))) <| lN ?_
    replace hf1 := hf1.kpp ai
    replace hb1 := hb1.kpp ai
    replace hb0 := hb0.kpp ai
    exact ⟨ae, by omega, ⟨aq, ao, (IntKind.i64.wrap (aa + 1)), ae, rfl, hm, hst, hf1, hb1, hb0, rfl, rfl, rfl, rfl, rfl⟩⟩
   clear hm
   refine ⟨_, rfl, ?_⟩
   clear hst
   have hst := hX
   clear hX
   refine lV (.bool true) (r_not false rfl) <| lN ?_
   refine wcondT rfl ?_
   refine wret ?_
   exact ⟨rfl, ⟨_, rfl⟩, _, .inr hst⟩
  rw [if_neg (by rw [hb]; decide)] at hm
  clear hb
  refine wexit (inB_hit ?_)
  cases hm
  exact ⟨rfl, ⟨_, rfl⟩, _, .inl hst⟩
def m_radix_All_int (N : Nat) (ab : (List Int)) : Option (List (Int × (List Int))) :=
  (m_slices_Clone_int_int ab).bind fun aa => (m_radix_Count_int aa).bind fun ac => m_radix_All_int_1 N ac.1 aa
theorem c_radix_All_int (N : Nat) (cy : Nat) (col : Col) (w0 : World) (a0 : Option Addr) (cap0 : Nat) (ab : (List Int)) (h0 : Sl (Rep.int .i64) col w0 a0 cap0 ab) (r : (List (Int × (List Int)))) (hm : m_radix_All_int N ab = some r) :
    Calls Tryz.prog 85 #[(.slice a0 ab.length cap0)] w0 (fun e w' => ∃ (col' : Col) (rv1 : Value), e = .returned (rv1) ∧ Grow col w0 col' w' ∧ It Tryz.prog 1 rv1 (fun (y : Int × (List Int)) (col : Col) (w : World) (args : List Value) => ∃ (a1 : Option Addr) (cap1 : Nat), args = [.int .i64 y.1, .slice a1 y.2.length cap1] ∧ Own (Rep.int .i64) 3 cy col w a1 cap1 y.2) r q1 col' w') := by
 refine calls_of1 2 (m := 14) (args := [(.slice a0 ab.length cap0)]) Tryz.func85 rfl rfl rfl rfl rfl ?_
 rw [m_radix_All_int.eq_1] at hm
 have hst := St.start col w0
 refine wS <| wR ?_
 refine lv (v := _) rfl rfl (r_assign rfl) ?_
 refine lN <| wS <| wR <| lM (.slice a0 ab.length cap0) ?_
 obtain ⟨ac, az, hm⟩ := bS hm
 replace h0 := h0.keep (Stay.start col w0)
 refine lc rfl rfl (r_call1 Tryz.call78 rfl) (c_slices_Clone_int_int 1 (col0 col) _ a0 cap0 ab h0 ac az) ?_
 rintro _ bb ⟨a2, ai, aj, rfl, a3, ad⟩
 refine ⟨_, rfl, ?_⟩
 refine l_alloc (col := a2) (v := (.slice none (([] : List Int).length) 0)) 2 rfl Tryz.zeroValue33 ?_
 intro ae a4 af aw al
 replace al : Box 33 2 af a4 ae #[(.slice none (([] : List Int).length) 0)] := al
 refine l_bstore (v := (.slice ai ac.length aj)) al Tryz.sizeOf33 rfl rfl (by intro u hu; simp only [Value.cells, List.mem_cons, List.not_mem_nil, or_false] at hu; subst hu; rfl) rfl rfl ?_
 intro ax ay a5 ag
 clear al
 replace ag : Box 33 2 af ax ae #[(.slice ai ac.length aj)] := ag
 refine lN <| wS <| wR <| lV (.slice ai ac.length aj) (r_ld Tryz.isAgg33 rfl ag.at1) ?_
 obtain ⟨aa, a6, hm⟩ := bS hm
 replace ad := (ad.gr aw).kp ay
 refine lc rfl rfl (r_call1 Tryz.call50 rfl) (c_radix_Count_int (frC 1 af) _ ai aj ac (ad.toSlF (Froz.int .i64)) aa a6) ?_
 rintro _ a7 ⟨rfl, ak⟩
 refine ⟨_, rfl, ?_⟩
 replace ak : Grow af ax af a7 := .of_below ak
 refine lM (.tuple #[(.int .i64 aa.1), (.int .i64 aa.2)]) <| lV (.int .i64 aa.1) (r_extract rfl rfl) <| lV (.int .i64 aa.2) (r_extract rfl rfl) ?_
 refine l_alloc (col := af) (v := (.int .i64 0)) 3 rfl Tryz.zeroValue3 ?_
 intro ah a8 an ao am
 replace am : Box 3 3 an a8 ah #[(.int .i64 0)] := am
 refine l_bstore (v := (.int .i64 aa.1)) am Tryz.sizeOf3 rfl rfl (by intro u hu; simp only [Value.cells, List.mem_cons, List.not_mem_nil, or_false] at hu; subst hu; rfl) rfl rfl ?_
 intro a9 ap ba aq
 clear am
 replace aq : Box 3 3 an a9 ah #[(.int .i64 aa.1)] := aq
 refine lA (.int .i64 aa.2) <| lN <| wS <| wR <| lV (.func (.func 128) #[] #[(.pointer (some ⟨ah, 0, none⟩)), (.pointer (some ⟨ae, 0, none⟩))]) (r_func2 rfl rfl) <| lA (.func (.func 128) #[] #[(.pointer (some ⟨ah, 0, none⟩)), (.pointer (some ⟨ae, 0, none⟩))]) <| lN ?_
 refine wret ?_
 replace hst := (((((hst.grow a3).grow aw).kp ay a5).grow ak).grow ao).kp ap ba
 have ar := hst.finBox (G := (fun n => bif Nat.beq n 3 then 450 else bif Nat.beq n 2 then 450 else bif Nat.beq n 1 then 450 else 0)) aq (by decide) (by decide) (show (fun n => bif Nat.beq n 3 then 450 else bif Nat.beq n 2 then 450 else bif Nat.beq n 1 then 450 else 0) 3 = 450 from rfl)
 replace ag := ((ag.gr ak).gr ao).kp ap
 have au := hst.finBox (G := (fun n => bif Nat.beq n 3 then 450 else bif Nat.beq n 2 then 450 else bif Nat.beq n 1 then 450 else 0)) ag (by decide) (by decide) (show (fun n => bif Nat.beq n 3 then 450 else bif Nat.beq n 2 then 450 else bif Nat.beq n 1 then 450 else 0) 2 = 450 from rfl)
 replace ad := ((ad.gr ak).gr ao).kp ap
 have av := hst.finOwn (g := (fun n => bif Nat.beq n 3 then 450 else bif Nat.beq n 2 then 450 else bif Nat.beq n 1 then 450 else 0)) rfl ad (by decide) (by decide) (show (fun n => bif Nat.beq n 3 then 450 else bif Nat.beq n 2 then 450 else bif Nat.beq n 1 then 450 else 0) 1 = 450 from rfl)
 refine ⟨rfl, colF w0.heap.size col an (fun n => bif Nat.beq n 3 then 450 else bif Nat.beq n 2 then 450 else bif Nat.beq n 1 then 450 else 0), _, rfl, hst.fin (fun n => bif Nat.beq n 3 then 450 else bif Nat.beq n 2 then 450 else bif Nat.beq n 1 then 450 else 0), 128, [(.pointer (some ⟨ah, 0, none⟩)), (.pointer (some ⟨ae, 0, none⟩))], rfl, Tryz.call128, ?_⟩
 intro col9 w9 hs9 hk9
 replace ar := ar.itk hs9 hk9 rfl
 replace au := au.itk hs9 hk9 rfl
 replace av := av.itk hs9 hk9 rfl (flat_int .i64)
 exact c_radix_All_int_1 N cy col9 w9 ah aa.1 ar ae ai aj ac av au r hm
def m_frac_Mul (N : Nat) (aa : ((Bool × (List Int)) × (List Int))) (ab : ((Bool × (List Int)) × (List Int))) : Option ((Bool × (List Int)) × (List Int)) :=
  (m_nat_Mul N aa.1.2 ab.1.2).bind fun ad => (m_frac_under N ((aa.1.1, aa.1.2), aa.2)).bind fun ae => (m_frac_under N ((ab.1.1, ab.1.2), ab.2)).bind fun af => (m_nat_Mul N ae af).bind fun ag => (m_frac_lowest N (!decide (aa.1.1 = ab.1.1)) ad ag).bind fun ac => some ((ac.1.1, ac.1.2), ac.2)
theorem c_frac_Mul (N : Nat) (c1 : Nat) (c2 : Nat) (col : Col) (w0 : World) (ae : Option Addr) (af : Nat) (an : Option Addr) (ao : Nat) (aa : ((Bool × (List Int)) × (List Int))) (ag : Option Addr) (ah : Nat) (ap : Option Addr) (aq : Nat) (ab : ((Bool × (List Int)) × (List Int))) (a3 : Sl (Rep.int .u32) col w0 ae af aa.1.2) (a6 : Sl (Rep.int .u32) col w0 an ao aa.2) (al : Sl (Rep.int .u32) col w0 ag ah ab.1.2) (ar : Sl (Rep.int .u32) col w0 ap aq ab.2) (r : ((Bool × (List Int)) × (List Int))) (hm : m_frac_Mul N aa ab = some r) :
    Calls Tryz.prog 35 #[(.agg #[(.bool aa.1.1), (.slice ae aa.1.2.length af), (.slice an aa.2.length ao)]), (.agg #[(.bool ab.1.1), (.slice ag ab.1.2.length ah), (.slice ap ab.2.length aq)])] w0 (fun e w' => ∃ (col' : Col) (ra1 : Option Addr) (rc2 : Nat) (ra4 : Option Addr) (rc5 : Nat), e = .returned ((.agg #[(.bool r.1.1), (.slice ra1 r.1.2.length rc2), (.slice ra4 r.2.length rc5)])) ∧ Grow col w0 col' w' ∧ Own (Rep.int .u32) 114 c1 col' w' ra1 rc2 r.1.2 ∧ Own (Rep.int .u32) 114 c2 col' w' ra4 rc5 r.2) := by
 refine calls_ofR (m := 25) (args := [(.agg #[(.bool aa.1.1), (.slice ae aa.1.2.length af), (.slice an aa.2.length ao)]), (.agg #[(.bool ab.1.1), (.slice ag ab.1.2.length ah), (.slice ap ab.2.length aq)])]) Tryz.func35 rfl rfl rfl ?_
 rw [m_frac_Mul.eq_1] at hm
 have hst := St.start col w0
 refine wS <| wR ?_
 refine l_box (col := (col0 col)) (v := (.agg #[(.bool aa.1.1), (.slice ae aa.1.2.length af), (.slice an aa.2.length ao)])) 1 rfl rfl ?_
 intro a7 b3 bn a8 au
 replace au : Box 40 1 bn b3 a7 #[(.bool aa.1.1), (.slice ae aa.1.2.length af), (.slice an aa.2.length ao)] := au
 refine l_box (col := bn) (v := (.agg #[(.bool ab.1.1), (.slice ag ab.1.2.length ah), (.slice ap ab.2.length aq)])) 2 rfl rfl ?_
 intro a9 b4 bo a4 av
 replace av : Box 40 2 bo b4 a9 #[(.bool ab.1.1), (.slice ag ab.1.2.length ah), (.slice ap ab.2.length aq)] := av
 refine l_alloc (col := bo) (v := (.agg #[(.bool false), (.slice none (([] : List Int).length) 0), (.slice none (([] : List Int).length) 0)])) 3 rfl Tryz.zeroValue40 ?_
 intro bp bq ad aw ac
 replace ac : Box 40 3 ad bq bp #[(.bool false), (.slice none (([] : List Int).length) 0), (.slice none (([] : List Int).length) 0)] := ac
 refine lN <| wS ?_
 refine wmix (col := ad) [(0, 1), (1, 1), (2, 0), (3, 1), (4, 1), (5, 0), (6, 1), (7, 1), (8, 1), (9, 0), (10, 1), (11, 1), (12, 0), (14, 0), (16, 0), (13, 3), (15, 3), (17, 3), (18, 3), (19, 3), (20, 2)] (by kernel_rfl) (by kernel_rfl) ?_
 refine xu (v := (.pointer ((some (⟨a7, 0, none⟩ : Addr)).map (·.add 0)))) rfl rfl (fun _ => rF (sz := 2) (off := 0) Tryz.underlying40 rfl Tryz.sizeOf38 (by decide) rfl rfl ⟨_, _, rfl⟩) ?_
 refine xu (v := (.pointer (((some (⟨a7, 0, none⟩ : Addr)).map (·.add 0)).map (·.add 0)))) rfl rfl (fun _ => rF (sz := 1) (off := 0) Tryz.underlying38 rfl Tryz.sizeOf4 (by decide) rfl rfl (sptr_addr ⟨_, _, rfl⟩)) ?_
 replace au := (au.gr a4).gr aw
 refine xv (v := (.bool aa.1.1)) rfl rfl (fun _ hC => r_ld Tryz.isAgg4 rfl (((((au.atN).part 0 2 _ rfl)).nth (q := 0) (v := (.bool aa.1.1)) rfl).gr (Grow.of_below (col := ad) hC.below))) ?_
 refine xu (v := (.pointer ((some (⟨a9, 0, none⟩ : Addr)).map (·.add 0)))) rfl rfl (fun _ => rF (sz := 2) (off := 0) Tryz.underlying40 rfl Tryz.sizeOf38 (by decide) rfl rfl ⟨_, _, rfl⟩) ?_
 refine xu (v := (.pointer (((some (⟨a9, 0, none⟩ : Addr)).map (·.add 0)).map (·.add 0)))) rfl rfl (fun _ => rF (sz := 1) (off := 0) Tryz.underlying38 rfl Tryz.sizeOf4 (by decide) rfl rfl (sptr_addr ⟨_, _, rfl⟩)) ?_
 replace av := av.gr aw
 refine xv (v := (.bool ab.1.1)) rfl rfl (fun _ hC => r_ld Tryz.isAgg4 rfl (((((av.atN).part 0 2 _ rfl)).nth (q := 0) (v := (.bool ab.1.1)) rfl).gr (Grow.of_below (col := ad) hC.below))) ?_
 refine xu (v := (.bool (!decide (aa.1.1 = ab.1.1)))) rfl rfl (fun _ => r_neqB aa.1.1 ab.1.1 Tryz.underlying4 rfl rfl) ?_
 refine xu (v := (.pointer ((some (⟨a7, 0, none⟩ : Addr)).map (·.add 0)))) rfl rfl (fun _ => rF (sz := 2) (off := 0) Tryz.underlying40 rfl Tryz.sizeOf38 (by decide) rfl rfl ⟨_, _, rfl⟩) ?_
 refine xu (v := (.pointer (((some (⟨a7, 0, none⟩ : Addr)).map (·.add 0)).map (·.add 1)))) rfl rfl (fun _ => rF (sz := 1) (off := 1) Tryz.underlying38 rfl Tryz.sizeOf36 (by decide) rfl rfl (sptr_addr ⟨_, _, rfl⟩)) ?_
 refine xv (v := (.slice ae aa.1.2.length af)) rfl rfl (fun _ hC => r_ld Tryz.isAgg36 rfl (((((au.atN).part 0 2 _ rfl)).nth (q := 1) (v := (.slice ae aa.1.2.length af)) rfl).gr (Grow.of_below (col := ad) hC.below))) ?_
 refine xu (v := (.pointer ((some (⟨a9, 0, none⟩ : Addr)).map (·.add 0)))) rfl rfl (fun _ => rF (sz := 2) (off := 0) Tryz.underlying40 rfl Tryz.sizeOf38 (by decide) rfl rfl ⟨_, _, rfl⟩) ?_
 refine xu (v := (.pointer (((some (⟨a9, 0, none⟩ : Addr)).map (·.add 0)).map (·.add 1)))) rfl rfl (fun _ => rF (sz := 1) (off := 1) Tryz.underlying38 rfl Tryz.sizeOf36 (by decide) rfl rfl (sptr_addr ⟨_, _, rfl⟩)) ?_
 refine xv (v := (.slice ag ab.1.2.length ah)) rfl rfl (fun _ hC => r_ld Tryz.isAgg36 rfl (((((av.atN).part 0 2 _ rfl)).nth (q := 1) (v := (.slice ag ab.1.2.length ah)) rfl).gr (Grow.of_below (col := ad) hC.below))) ?_
 refine xv (v := (.agg #[(.bool aa.1.1), (.slice ae aa.1.2.length af), (.slice an aa.2.length ao)])) rfl rfl (fun _ hC => r_ldN Tryz.isAgg40 Tryz.sizeOf40 rfl rfl (au.atN.gr (Grow.of_below (col := ad) hC.below))) ?_
 refine xv (v := (.agg #[(.bool ab.1.1), (.slice ag ab.1.2.length ah), (.slice ap ab.2.length aq)])) rfl rfl (fun _ hC => r_ldN Tryz.isAgg40 Tryz.sizeOf40 rfl rfl (av.atN.gr (Grow.of_below (col := ad) hC.below))) ?_
 refine xe rfl rfl ?_
 intro b5 hC0
 have hC : Grow ad bq ad b5 := .of_below hC0.below
 obtain ⟨br, b6, hm⟩ := bS hm
 replace a3 := ((((a3.keep (Stay.start col w0)).gr a8).gr a4).gr aw).gr hC
 replace al := ((((al.keep (Stay.start col w0)).gr a8).gr a4).gr aw).gr hC
 refine lc rfl rfl (r_call2 Tryz.call40 rfl rfl) (c_nat_Mul N 4 ad _ ae af aa.1.2 ag ah ab.1.2 a3 al br b6) ?_
 rintro _ bs ⟨ba, b7, b8, rfl, ax, aj⟩
 refine ⟨_, rfl, ?_⟩
 refine lN ⟨fun w' => Grow ba bs ba w', Grow.refl _ _, fun _ _ h => cls hC0 ax h, ?_⟩
 refine xe rfl rfl ?_
 intro b9 hC0
 replace a6 := (((((a6.keep (Stay.start col w0)).gr a8).gr a4).gr aw).gr hC).gr ax
 replace ar := (((((ar.keep (Stay.start col w0)).gr a8).gr a4).gr aw).gr hC).gr ax
 replace hst := ((((hst.grow a8).grow a4).grow aw).grow hC).grow ax
 replace ac := (ac.gr hC).gr ax
 have hC : Grow ba bs ba b9 := .of_below hC0.below
 obtain ⟨bt, ca, hm⟩ := bS hm
 replace a3 := (a3.gr ax).gr hC
 replace a6 := a6.gr hC
 refine lc rfl rfl (r_call1 Tryz.call56 rfl) (c_frac_under N 5 ba _ ae af an ao ((aa.1.1, aa.1.2), aa.2) a3 a6 bt ca) ?_
 rintro _ bu ⟨bb, cb, cc, rfl, a5, bc⟩
 refine ⟨_, rfl, ?_⟩
 refine lN ⟨fun w' => Grow bb bu bb w', Grow.refl _ _, fun _ _ h => cls hC0 a5 h, ?_⟩
 refine xe rfl rfl ?_
 intro cd hC0
 replace al := ((al.gr ax).gr hC).gr a5
 replace ar := (ar.gr hC).gr a5
 replace aj := (aj.gr hC).gr a5
 replace ac := (ac.gr hC).gr a5
 replace hst := (hst.grow hC).grow a5
 have hC : Grow bb bu bb cd := .of_below hC0.below
 obtain ⟨bv, ce, hm⟩ := bS hm
 replace al := al.gr hC
 replace ar := ar.gr hC
 refine lc rfl rfl (r_call1 Tryz.call56 rfl) (c_frac_under N 6 bb _ ag ah ap aq ((ab.1.1, ab.1.2), ab.2) al ar bv ce) ?_
 rintro _ bw ⟨am, cf, cg, rfl, bd, bg⟩
 refine ⟨_, rfl, ?_⟩
 refine lN ⟨fun w' => Grow am bw am w', Grow.refl _ _, fun _ _ h => cls hC0 bd h, ?_⟩
 refine xe rfl rfl ?_
 intro bx hC0
 replace aj := (aj.gr hC).gr bd
 replace bc := (bc.gr hC).gr bd
 replace ac := (ac.gr hC).gr bd
 replace hst := (hst.grow hC).grow bd
 have hC : Grow am bw am bx := .of_below hC0.below
 obtain ⟨bz, ch, hm⟩ := bS hm
 replace bc := bc.gr hC
 replace bg := bg.gr hC
 refine lc rfl rfl (r_call2 Tryz.call40 rfl rfl) (c_nat_Mul N 7 (frC 6 (frC 5 am)) _ cb cc bt cf cg bv ((bc.toSlF (Froz.int .u32)).froz 6) ((bg.froz 5 (by decide)).toSlF (Froz.int .u32)) bz ch) ?_
 rintro _ b0 ⟨ci, cj, ck, rfl, ay, be⟩
 refine ⟨_, rfl, ?_⟩
 replace be := be.thaw (flat_int .u32) ay (((Fz.refl (col := am)).froz 5).froz 6) (by decide)
 replace ay := ay.thawR (col := am)
 generalize colR bx.heap.size am ci = ak at *
 refine lN ⟨fun w' => Grow ak b0 ak w', Grow.refl _ _, fun _ _ h => cls hC0 ay h, ?_⟩
 refine xe rfl rfl ?_
 intro b1 hC0
 replace aj := (aj.gr hC).gr ay
 replace ac := (ac.gr hC).gr ay
 replace hst := (hst.grow hC).grow ay
 have hC : Grow ak b0 ak b1 := .of_below hC0.below
 obtain ⟨az, cl, hm⟩ := bS hm
 replace aj := aj.gr hC
 replace be := be.gr hC
 refine lc rfl rfl (r_call3 Tryz.call55 rfl rfl rfl) (c_frac_lowest N 8 9 (frC 7 (frC 4 ak)) _ (!decide (aa.1.1 = ab.1.1)) b7 b8 br cj ck bz ((aj.toSlF (Froz.int .u32)).froz 7) ((be.froz 4 (by decide)).toSlF (Froz.int .u32)) az cl) ?_
 rintro _ b2 ⟨cm, bh, bi, bj, bk, rfl, a0, a1, a2⟩
 refine ⟨_, rfl, ?_⟩
 replace a1 := a1.thaw (flat_int .u32) a0 (((Fz.refl (col := ak)).froz 4).froz 7) (by decide)
 replace a2 := a2.thaw (flat_int .u32) a0 (((Fz.refl (col := ak)).froz 4).froz 7) (by decide)
 replace a0 := a0.thawR (col := ak)
 generalize colR b1.heap.size ak cm = ai at *
 refine lN ⟨fun w' => Grow ai b2 ai w', Grow.refl _ _, fun _ _ h => cls hC0 a0 h, ?_⟩
 refine xe rfl rfl ?_
 intro cn hC0
 replace ac := (ac.gr hC).gr a0
 replace hst := (hst.grow hC).grow a0
 have hC : Grow ai b2 ai cn := .of_below hC0.below
 replace ac := ac.gr hC
 refine l_bstore (v := (.agg #[(.bool az.1.1), (.slice bh az.1.2.length bi), (.slice bj az.2.length bk)])) ac Tryz.sizeOf40 rfl rfl (by intro u hu; simp only [Value.cells, List.mem_cons, List.not_mem_nil, or_false] at hu; rcases hu with rfl | rfl | rfl <;> rfl) rfl rfl ?_
 intro bl bm co bf
 clear ac
 replace bf : Box 40 3 ai bl bp #[(.bool az.1.1), (.slice bh az.1.2.length bi), (.slice bj az.2.length bk)] := bf
 refine lN ⟨fun w' => Grow ai bl ai w', Grow.refl _ _, fun h => absurd h (by decide), ?_⟩
 refine xnil ?_
 replace a1 := (a1.gr hC).kp bm
 replace a2 := (a2.gr hC).kp bm
 replace hst := (hst.grow hC).kp bm co
 intro cp hC
 replace hC : Grow ai bl ai cp := .of_below hC.below
 refine wret ?_
 cases hm
 replace a1 := a1.gr hC
 replace a2 := a2.gr hC
 replace bf := bf.gr hC
 replace hst := hst.grow hC
 exact ⟨rfl, _, res_a rfl rfl Tryz.isAgg40 Tryz.sizeOf40 rfl rfl bf.atN, colF w0.heap.size col ai (fun n => bif Nat.beq n 8 then c1 else bif Nat.beq n 9 then c2 else 0), bh, bi, bj, bk, rfl, hst.fin (fun n => bif Nat.beq n 8 then c1 else bif Nat.beq n 9 then c2 else 0), hst.finOwn (g := (fun n => bif Nat.beq n 8 then c1 else bif Nat.beq n 9 then c2 else 0)) rfl a1 (by decide) (by decide) rfl, hst.finOwn (g := (fun n => bif Nat.beq n 8 then c1 else bif Nat.beq n 9 then c2 else 0)) rfl a2 (by decide) (by decide) rfl⟩
def m_model_Chance_L3 (N : Nat) (ab : (ByteArray × (List ByteArray) × (List (List ByteArray)) × (List (List Int)) × (List (List ((Bool × (List Int)) × (List Int)))))) (ac : (List Int)) (aa : Nat) (ah : Bool) (ai : List Int) (aj : List Int) (kk_L2 : (Nat → Bool → (List Int) → (List Int) → Option (((Bool × (List Int)) × (List Int)) × Int))) (ak : (List ((Bool × (List Int)) × (List Int)))) : List Int → Int → Option (((Bool × (List Int)) × (List Int)) × Int)
  | [], ad => (at? ab.2.2.1 (aa : Int)).bind fun am => (at? ac (aa : Int)).bind fun an => (at? ak (IntKind.i64.wrap ((IntKind.i64.wrap (ad * (am.length : Int))) + an))).bind fun ae => (m_model_fitting N ((ae.1.1, ae.1.2), ae.2)).bind fun af => (m_frac_Mul N ((ah, ai), aj) ((af.1.1, af.1.2), af.2)).bind fun ag => kk_L2 (aa + 1) ag.1.1 ag.1.2 ag.2
  | al :: ao, ad => (at? ab.2.2.1 al).bind fun ap => (at? ac al).bind fun aq => (m_model_Chance_L3 N ab ac aa ah ai aj kk_L2 ak ao) (IntKind.i64.wrap ((IntKind.i64.wrap (ad * (ap.length : Int))) + aq))
termination_by structural x => x
def m_model_Chance_L2 (N : Nat) (aa : (ByteArray × (List ByteArray) × (List (List ByteArray)) × (List (List Int)) × (List (List ((Bool × (List Int)) × (List Int)))))) (af : (List Int)) : List (List ((Bool × (List Int)) × (List Int))) → Nat → Bool → (List Int) → (List Int) → Option (((Bool × (List Int)) × (List Int)) × Int)
  | [], ab, ac, ad, ae => some (((ac, ad), ae), 0)
  | ag :: ah, ab, ac, ad, ae => (at? aa.2.2.2.1 (ab : Int)).bind fun ai => m_model_Chance_L3 N aa af ab ac ad ae (m_model_Chance_L2 N aa af ah) ag ai 0
termination_by structural x => x
def m_model_Chance_J1 (aa : Nat) (ab : Bool) (ac : List Int) (ad : List Int) (kk_L1 : (Nat → Bool → (List Int) → (List Int) → Option (((Bool × (List Int)) × (List Int)) × Int))) (ae : Bool) : Option (((Bool × (List Int)) × (List Int)) × Int) :=
  if ae = true then none else (kk_L1 (aa + 1) ab ac ad)
def m_model_Chance_L1 (N : Nat) (aa : (ByteArray × (List ByteArray) × (List (List ByteArray)) × (List (List Int)) × (List (List ((Bool × (List Int)) × (List Int)))))) (ac : (List Int)) : List Int → Nat → Bool → (List Int) → (List Int) → Option (((Bool × (List Int)) × (List Int)) × Int)
  | [], ab, ad, ae, af => (m_model_one N).bind fun ag => m_model_Chance_L2 N aa ac aa.2.2.2.2 0 ag.1.1 ag.1.2 ag.2
  | ah :: ai, ab, ad, ae, af => if (decide (ah < 0)) = true then (m_model_Chance_J1 ab ad ae af (m_model_Chance_L1 N aa ac ai) true) else ((at? aa.2.2.1 (ab : Int)).bind fun aj => m_model_Chance_J1 ab ad ae af (m_model_Chance_L1 N aa ac ai) (decide ((aj.length : Int) ≤ ah)))
termination_by structural x => x
def m_model_Chance (N : Nat) (aa : (ByteArray × (List ByteArray) × (List (List ByteArray)) × (List (List Int)) × (List (List ((Bool × (List Int)) × (List Int)))))) (ab : (List Int)) : Option (((Bool × (List Int)) × (List Int)) × Int) :=
  (m_model_Check N (aa.1, aa.2.1, aa.2.2.1, aa.2.2.2.1, aa.2.2.2.2)).bind fun ac => if (!decide (ac = 0)) = true then none else (if (!decide ((ab.length : Int) = (aa.2.1.length : Int))) = true then none else (m_model_Chance_L1 N aa ab ab 0 false ([] : List Int) ([] : List Int)))
theorem c_model_Chance (N : Nat) (c1 : Nat) (c2 : Nat) (col : Col) (w0 : World) (ay : Option Addr) (az : Nat) (an : Option Addr) (ap : Nat) (aw : Option Addr) (a0 : Nat) (ar : Option Addr) (au : Nat) (aa : (ByteArray × (List ByteArray) × (List (List ByteArray)) × (List (List Int)) × (List (List ((Bool × (List Int)) × (List Int)))))) (a1 : Option Addr) (cap1 : Nat) (ac : (List Int)) (ah : Sl Rep.str col w0 ay az aa.2.1) (ad : Sl (Rep.slice Rep.str) col w0 an ap aa.2.2.1) (af : Sl (Rep.slice (Rep.int .i64)) col w0 aw a0 aa.2.2.2.1) (ae : Sl (Rep.slice (Rep.pair (Rep.pair Rep.bool (Rep.slice (Rep.int .u32))) (Rep.slice (Rep.int .u32)))) col w0 ar au aa.2.2.2.2) (h1 : Sl (Rep.int .i64) col w0 a1 cap1 ac) (r : (((Bool × (List Int)) × (List Int)) × Int)) (hm : m_model_Chance N aa ac = some r) :
    Calls Tryz.prog 102 #[(.agg #[(.string aa.1), (.slice ay aa.2.1.length az), (.slice an aa.2.2.1.length ap), (.slice aw aa.2.2.2.1.length a0), (.slice ar aa.2.2.2.2.length au)]), (.slice a1 ac.length cap1)] w0 (fun e w' => ∃ (col' : Col) (ra1 : Option Addr) (rc2 : Nat) (ra4 : Option Addr) (rc5 : Nat), e = .returned (.tuple #[(.agg #[(.bool r.1.1.1), (.slice ra1 r.1.1.2.length rc2), (.slice ra4 r.1.2.length rc5)]), (.int .i64 r.2)]) ∧ Grow col w0 col' w' ∧ Own (Rep.int .u32) 114 c1 col' w' ra1 rc2 r.1.1.2 ∧ Own (Rep.int .u32) 114 c2 col' w' ra4 rc5 r.1.2) := by
 refine calls_ofR (m := 103) (args := [(.agg #[(.string aa.1), (.slice ay aa.2.1.length az), (.slice an aa.2.2.1.length ap), (.slice aw aa.2.2.2.1.length a0), (.slice ar aa.2.2.2.2.length au)]), (.slice a1 ac.length cap1)]) Tryz.func102 rfl rfl rfl ?_
 rw [m_model_Chance.eq_1] at hm
 have hst := St.start col w0
 refine wS <| wR ?_
 refine l_box (col := (col0 col)) (v := (.agg #[(.string aa.1), (.slice ay aa.2.1.length az), (.slice an aa.2.2.1.length ap), (.slice aw aa.2.2.2.1.length a0), (.slice ar aa.2.2.2.2.length au)])) 1 rfl rfl ?_
 intro a5 d1 dr ce ab
 replace ab : Box 28 1 dr d1 a5 #[(.string aa.1), (.slice ay aa.2.1.length az), (.slice an aa.2.2.1.length ap), (.slice aw aa.2.2.2.1.length a0), (.slice ar aa.2.2.2.2.length au)] := ab
 refine l_alloc (col := dr) (v := (.agg #[(.bool false), (.slice none (([] : List Int).length) 0), (.slice none (([] : List Int).length) 0)])) 2 rfl Tryz.zeroValue40 ?_
 intro bt ds cl ca ag
 replace ag : Box 40 2 cl ds bt #[(.bool false), (.slice none (([] : List Int).length) 0), (.slice none (([] : List Int).length) 0)] := ag
 refine lA (.int .i64 0) <| lN <| wS <| wS <| wR ?_
 replace ab := ab.gr ca
 refine lV (.agg #[(.string aa.1), (.slice ay aa.2.1.length az), (.slice an aa.2.2.1.length ap), (.slice aw aa.2.2.2.1.length a0), (.slice ar aa.2.2.2.2.length au)]) (r_ldN Tryz.isAgg28 Tryz.sizeOf28 rfl rfl ab.atN) ?_
 obtain ⟨cf, d2, hm⟩ := bS hm
 replace ah := ((ah.keep (Stay.start col w0)).gr ce).gr ca
 replace ad := ((ad.keep (Stay.start col w0)).gr ce).gr ca
 replace af := ((af.keep (Stay.start col w0)).gr ce).gr ca
 replace ae := ((ae.keep (Stay.start col w0)).gr ce).gr ca
 refine lc rfl rfl (r_call1 Tryz.call69 rfl) (c_model_Check N cl _ ay az an ap aw a0 ar au (aa.1, aa.2.1, aa.2.2.1, aa.2.2.2.1, aa.2.2.2.2) ah ad af ae cf d2) ?_
 rintro _ d3 ⟨rfl, bu⟩
 refine ⟨_, rfl, ?_⟩
 replace bu : Grow cl ds cl d3 := .of_below bu
 refine lA (.int .i64 cf) <| lN <| wS <| wR <| lM (.int .i64 cf) <| lV (.bool (!decide (cf = 0))) (r_neq cf 0 rfl rfl) <| lN ?_
 replace h1 := (((h1.keep (Stay.start col w0)).gr ce).gr ca).gr bu
 replace hst := ((hst.grow ce).grow ca).grow bu
 replace ah := ah.gr bu
 replace ad := ad.gr bu
 replace af := af.gr bu
 replace ae := ae.gr bu
 replace ab := ab.gr bu
 replace ag := ag.gr bu
 refine wcond (!decide (cf = 0)) rfl (fun hb => ?_) (fun hb => ?_)
 ·rw [if_pos hb] at hm
  clear hb
  cases hm
 rw [if_neg (by rw [hb]; decide)] at hm
 clear hb
 refine wK <| wS <| wS <| wR <| lM (.slice a1 ac.length cap1) <| lV (.int .i64 (ac.length : Int)) (r_len Tryz.underlying33 rfl) <| lV (.pointer ((some (⟨a5, 0, none⟩ : Addr)).map (·.add 1))) (rF (sz := 1) (off := 1) Tryz.underlying28 rfl Tryz.sizeOf23 (by decide) rfl rfl ⟨_, _, rfl⟩) <| lV (.slice ay aa.2.1.length az) (r_ld Tryz.isAgg23 rfl ((ab.atN).nth (q := 1) (v := (.slice ay aa.2.1.length az)) rfl)) <| lV (.int .i64 (aa.2.1.length : Int)) (r_len Tryz.underlying23 rfl) <| lV (.bool (!decide ((ac.length : Int) = (aa.2.1.length : Int)))) (r_neq (ac.length : Int) (aa.2.1.length : Int) rfl rfl) <| lN ?_
 refine wcond (!decide ((ac.length : Int) = (aa.2.1.length : Int))) rfl (fun hb => ?_) (fun hb => ?_)
 ·rw [if_pos hb] at hm
  clear hb
  cases hm
 rw [if_neg (by rw [hb]; decide)] at hm
 clear hb
 refine wK <| wS <| wS <| wR <| lM (.slice a1 ac.length cap1) <| lV (.int .i64 (ac.length : Int)) (r_len Tryz.underlying33 rfl) <| lM (.int .i64 0) <| lN <| wB ?_
 refine wloop (fun n f bl => ∃ (a6 : Col) (aq : Nat) (b7 : Bool) (bv : Option Addr) (bw : Nat) (bd : List Int) (bx : Option Addr) (bz : Nat) (be : List Int) (cm : List Int), n = cm.length ∧ ac.drop aq = cm ∧ m_model_Chance_L1 N aa ac cm aq b7 bd be = some r ∧ St w0 (col0 col) a6 bl ∧ Sl (Rep.int .i64) a6 bl a1 cap1 ac ∧ Sl Rep.str a6 bl ay az aa.2.1 ∧ Sl (Rep.slice Rep.str) a6 bl an ap aa.2.2.1 ∧ Sl (Rep.slice (Rep.int .i64)) a6 bl aw a0 aa.2.2.2.1 ∧ Sl (Rep.slice (Rep.pair (Rep.pair Rep.bool (Rep.slice (Rep.int .u32))) (Rep.slice (Rep.int .u32)))) a6 bl ar au aa.2.2.2.2 ∧ Box 28 1 a6 bl a5 #[(.string aa.1), (.slice ay aa.2.1.length az), (.slice an aa.2.2.1.length ap), (.slice aw aa.2.2.2.1.length a0), (.slice ar aa.2.2.2.2.length au)] ∧ Own (Rep.int .u32) 114 3 a6 bl bv bw bd ∧ Own (Rep.int .u32) 114 4 a6 bl bx bz be ∧ Box 40 2 a6 bl bt #[(.bool b7), (.slice bv bd.length bw), (.slice bx be.length bz)] ∧ f 30 = (.int .i64 (aq : Int)) ∧ f 1 = (.slice a1 ac.length cap1) ∧ f 2 = (.pointer (some ⟨a5, 0, none⟩)) ∧ f 28 = (.slice a1 ac.length cap1) ∧ f 29 = (.int .i64 (ac.length : Int)) ∧ f 4 = (.pointer (some ⟨bt, 0, none⟩)) ∧ f 1000000 = (enc [])) ac.length ⟨cl, 0, false, none, 0, ([] : List Int), none, 0, ([] : List Int), ac, rfl, rfl, hm, hst, h1, ah, ad, af, ae, ab, Own.nil, Own.nil, ag, rfl, rfl, rfl, rfl, rfl, rfl, rfl⟩ ?_
 clear hm; intro n f bl hI
 obtain ⟨a6, aq, b7, bv, bw, bd, bx, bz, be, cm, hn, hl, hm, hst, h1, ah, ad, af, ae, ab, ak, al, ag, hs30, hs1, hs2, hs28, hs29, hs4, hs1000000⟩ := hI
 subst hn
 refine .lD 30 hs30 <| .lD 1 hs1 <| .lD 2 hs2 <| .lD 28 hs28 <| .lD 29 hs29 <| .lD 4 hs4 <| .lD 1000000 hs1000000 ?_
 clear hs30 hs1 hs2 hs28 hs29 hs4 hs1000000
 cases cm with
 | nil =>
  have hk : ¬ ((aq : Int) < (ac.length : Int)) := by have := List.drop_eq_nil_iff.1 hl; omega
  have hkb := decide_eq_false hk
  rw [m_model_Chance_L1.eq_1] at hm
  refine wS <| wR <| lV (.bool (decide ((aq : Int) < (ac.length : Int)))) (r_lss (aq : Int) (ac.length : Int) rfl rfl) <| lN <| wS ?_
  refine wcondF (congrArg Value.bool hkb) ?_
  refine wexit (inB_hit ?_)
  refine wS <| wR ?_
  obtain ⟨b0, d4, hm⟩ := bS hm
  refine lc rfl rfl (r_call0 Tryz.call141 ) (c_model_one N 5 6 a6 _ b0 d4) ?_
  rintro _ e9 ⟨d5, c5, c6, c7, c8, rfl, b1, c9, da⟩
  refine ⟨_, rfl, ?_⟩
  refine l_alloc (col := d5) (v := (.agg #[(.bool false), (.slice none (([] : List Int).length) 0), (.slice none (([] : List Int).length) 0)])) 7 rfl Tryz.zeroValue40 ?_
  intro cb d6 db bf cr
  replace cr : Box 40 7 db d6 cb #[(.bool false), (.slice none (([] : List Int).length) 0), (.slice none (([] : List Int).length) 0)] := cr
  refine l_bstore (v := (.agg #[(.bool b0.1.1), (.slice c5 b0.1.2.length c6), (.slice c7 b0.2.length c8)])) cr Tryz.sizeOf40 rfl rfl (by intro u hu; simp only [Value.cells, List.mem_cons, List.not_mem_nil, or_false] at hu; rcases hu with rfl | rfl | rfl <;> rfl) rfl rfl ?_
  intro d7 bg d8 av
  clear cr
  replace av : Box 40 7 db d7 cb #[(.bool b0.1.1), (.slice c5 b0.1.2.length c6), (.slice c7 b0.2.length c8)] := av
  refine lN <| wS <| wS <| wR <| lV (.pointer ((some (⟨a5, 0, none⟩ : Addr)).map (·.add 4))) (rF (sz := 1) (off := 4) Tryz.underlying28 rfl Tryz.sizeOf26 (by decide) rfl rfl ⟨_, _, rfl⟩) ?_
  replace ab := ((ab.gr b1).gr bf).kp bg
  refine lV (.slice ar aa.2.2.2.2.length au) (r_ld Tryz.isAgg26 rfl ((ab.atN).nth (q := 4) (v := (.slice ar aa.2.2.2.2.length au)) rfl)) <| lV (.int .i64 (aa.2.2.2.2.length : Int)) (r_len Tryz.underlying26 rfl) <| lM (.int .i64 0) <| lN <| wB ?_
  replace h1 := ((h1.gr b1).gr bf).kp bg
  replace ah := ((ah.gr b1).gr bf).kp bg
  replace ad := ((ad.gr b1).gr bf).kp bg
  replace af := ((af.gr b1).gr bf).kp bg
  replace ae := ((ae.gr b1).gr bf).kp bg
  replace ak := ((ak.gr b1).gr bf).kp bg
  replace al := ((al.gr b1).gr bf).kp bg
  replace ag := ((ag.gr b1).gr bf).kp bg
  replace hst := ((hst.grow b1).grow bf).kp bg d8
  replace c9 := (c9.gr bf).kp bg
  replace da := (da.gr bf).kp bg
  refine wloop (fun n f a7 => ∃ (a2 : Col) (am : Nat) (b2 : Bool) (bm : Option Addr) (bn : Nat) (bh : List Int) (bo : Option Addr) (bp : Nat) (bi : List Int) (cn : List (List ((Bool × (List Int)) × (List Int)))), n = cn.length ∧ aa.2.2.2.2.drop am = cn ∧ m_model_Chance_L2 N aa ac cn am b2 bh bi = some r ∧ St w0 (col0 col) a2 a7 ∧ Sl (Rep.int .i64) a2 a7 a1 cap1 ac ∧ Sl Rep.str a2 a7 ay az aa.2.1 ∧ Sl (Rep.slice Rep.str) a2 a7 an ap aa.2.2.1 ∧ Sl (Rep.slice (Rep.int .i64)) a2 a7 aw a0 aa.2.2.2.1 ∧ Sl (Rep.slice (Rep.pair (Rep.pair Rep.bool (Rep.slice (Rep.int .u32))) (Rep.slice (Rep.int .u32)))) a2 a7 ar au aa.2.2.2.2 ∧ Box 28 1 a2 a7 a5 #[(.string aa.1), (.slice ay aa.2.1.length az), (.slice an aa.2.2.1.length ap), (.slice aw aa.2.2.2.1.length a0), (.slice ar aa.2.2.2.2.length au)] ∧ Own (Rep.int .u32) 114 3 a2 a7 bv bw bd ∧ Own (Rep.int .u32) 114 4 a2 a7 bx bz be ∧ Box 40 2 a2 a7 bt #[(.bool b7), (.slice bv bd.length bw), (.slice bx be.length bz)] ∧ Own (Rep.int .u32) 114 5 a2 a7 bm bn bh ∧ Own (Rep.int .u32) 114 6 a2 a7 bo bp bi ∧ Box 40 7 a2 a7 cb #[(.bool b2), (.slice bm bh.length bn), (.slice bo bi.length bp)] ∧ f 53 = (.int .i64 (am : Int)) ∧ f 1 = (.slice a1 ac.length cap1) ∧ f 2 = (.pointer (some ⟨a5, 0, none⟩)) ∧ f 4 = (.pointer (some ⟨bt, 0, none⟩)) ∧ f 51 = (.slice ar aa.2.2.2.2.length au) ∧ f 52 = (.int .i64 (aa.2.2.2.2.length : Int)) ∧ f 9 = (.pointer (some ⟨cb, 0, none⟩)) ∧ f 1000000 = (enc [])) aa.2.2.2.2.length ⟨db, 0, b0.1.1, c5, c6, b0.1.2, c7, c8, b0.2, aa.2.2.2.2, rfl, rfl, hm, hst, h1, ah, ad, af, ae, ab, ak, al, ag, c9, da, av, rfl, rfl, rfl, rfl, rfl, rfl, rfl, rfl⟩ ?_
  clear hm; intro n f a7 hI
  obtain ⟨a2, am, b2, bm, bn, bh, bo, bp, bi, cn, hn, hl, hm, hst, h1, ah, ad, af, ae, ab, ak, al, ag, bb, bc, av, hs53, hs1, hs2, hs4, hs51, hs52, hs9, hs1000000⟩ := hI
  subst hn
  refine .lD 53 hs53 <| .lD 1 hs1 <| .lD 2 hs2 <| .lD 4 hs4 <| .lD 51 hs51 <| .lD 52 hs52 <| .lD 9 hs9 <| .lD 1000000 hs1000000 ?_
  clear hs53 hs1 hs2 hs4 hs51 hs52 hs9 hs1000000
  cases cn with
  | nil =>
   have hk : ¬ ((am : Int) < (aa.2.2.2.2.length : Int)) := by have := List.drop_eq_nil_iff.1 hl; omega
   have hkb := decide_eq_false hk
   rw [m_model_Chance_L2.eq_1] at hm
   refine wS <| wR <| lV (.bool (decide ((am : Int) < (aa.2.2.2.2.length : Int)))) (r_lss (am : Int) (aa.2.2.2.2.length : Int) rfl rfl) <| lN <| wS ?_
   refine wcondF (congrArg Value.bool hkb) ?_
   refine wexit (inB_hit ?_)
   refine wS <| wR <| lV (.agg #[(.bool b2), (.slice bm bh.length bn), (.slice bo bi.length bp)]) (r_ldN Tryz.isAgg40 Tryz.sizeOf40 rfl rfl av.atN) ?_
   refine l_bstore (v := (.agg #[(.bool b2), (.slice bm bh.length bn), (.slice bo bi.length bp)])) ag Tryz.sizeOf40 rfl rfl (by intro u hu; simp only [Value.cells, List.mem_cons, List.not_mem_nil, or_false] at hu; rcases hu with rfl | rfl | rfl <;> rfl) rfl rfl ?_
   intro d9 dc ea dd
   clear ag
   replace dd : Box 40 2 a2 d9 bt #[(.bool b2), (.slice bm bh.length bn), (.slice bo bi.length bp)] := dd
   refine lA (.int .i64 0) <| lN ?_
   refine wret ?_
   cases hm
   replace bb := bb.kp dc
   replace bc := bc.kp dc
   replace hst := hst.kp dc ea
   exact ⟨rfl, _, res_at rfl rfl Tryz.isAgg40 Tryz.sizeOf40 rfl rfl dd.atN rfl rfl, colF w0.heap.size col a2 (fun n => bif Nat.beq n 5 then c1 else bif Nat.beq n 6 then c2 else 0), bm, bn, bo, bp, rfl, hst.fin (fun n => bif Nat.beq n 5 then c1 else bif Nat.beq n 6 then c2 else 0), hst.finOwn (g := (fun n => bif Nat.beq n 5 then c1 else bif Nat.beq n 6 then c2 else 0)) rfl bb (by decide) (by decide) rfl, hst.finOwn (g := (fun n => bif Nat.beq n 5 then c1 else bif Nat.beq n 6 then c2 else 0)) rfl bc (by decide) (by decide) rfl⟩
  | cons cg de =>
   obtain ⟨hat, hl2_L2, hlt_L2⟩ := drop_get hl
   have hk : (am : Int) < (aa.2.2.2.2.length : Int) := by omega
   have hkb := decide_eq_true hk
   rw [m_model_Chance_L2.eq_2] at hm
   refine wS <| wR <| lV (.bool (decide ((am : Int) < (aa.2.2.2.2.length : Int)))) (r_lss (am : Int) (aa.2.2.2.2.length : Int) rfl rfl) <| lN <| wS ?_
   refine wcondT (congrArg Value.bool hkb) ?_
   refine wK <| wS <| wB <| wS <| wR <| lM (.int .i64 (am : Int)) ?_
   refine lV (sptr ar (Int.toNat (am : Int) * 1)) (r_idx Tryz.underlying26 Tryz.sizeOf51 rfl rfl (at?_some hat).1 (at?_some hat).2.1 (ae.addr hat)) ?_
   obtain ⟨_, eb, ec⟩ := ae.atN hat
   obtain ⟨⟨ch, co, rfl, cc⟩, _⟩ := eb
   refine lV (.slice ch cg.length co) (r_ld Tryz.isAgg51 rfl ec.one) <| lA (.int .i64 (am : Int)) <| lA (.slice ch cg.length co) <| lN <| wS <| wR <| lA (.int .i64 0) <| lN <| wS <| wS <| wR <| lV (.pointer ((some (⟨a5, 0, none⟩ : Addr)).map (·.add 3))) (rF (sz := 1) (off := 3) Tryz.underlying28 rfl Tryz.sizeOf25 (by decide) rfl rfl ⟨_, _, rfl⟩) <| lV (.slice aw aa.2.2.2.1.length a0) (r_ld Tryz.isAgg25 rfl ((ab.atN).nth (q := 3) (v := (.slice aw aa.2.2.2.1.length a0)) rfl)) <| lM (.int .i64 (am : Int)) ?_
   obtain ⟨a8, cs, hm⟩ := bS hm
   refine lV (sptr aw (Int.toNat (am : Int) * 1)) (r_idx Tryz.underlying25 Tryz.sizeOf33 rfl rfl (at?_some cs).1 (at?_some cs).2.1 (af.addr cs)) ?_
   obtain ⟨_, ed, ee⟩ := af.atN cs
   obtain ⟨⟨ct, df, rfl, b8⟩, _⟩ := ed
   refine lV (.slice ct a8.length df) (r_ld Tryz.isAgg33 rfl ee.one) <| lV (.int .i64 (a8.length : Int)) (r_len Tryz.underlying33 rfl) <| lM (.int .i64 0) <| lN <| wB ?_
   refine wloop (fun n f ax => ∃ (ai : Col) (a3 : Int) (a9 : Nat) (cp : List Int), n = cp.length ∧ a8.drop a9 = cp ∧ m_model_Chance_L3 N aa ac am b2 bh bi (m_model_Chance_L2 N aa ac de) cg cp a3 = some r ∧ St w0 (col0 col) ai ax ∧ Sl (Rep.int .i64) ai ax a1 cap1 ac ∧ Sl (Rep.pair (Rep.pair Rep.bool (Rep.slice (Rep.int .u32))) (Rep.slice (Rep.int .u32))) ai ax ch co cg ∧ Sl Rep.str ai ax ay az aa.2.1 ∧ Sl (Rep.slice Rep.str) ai ax an ap aa.2.2.1 ∧ Sl (Rep.slice (Rep.int .i64)) ai ax aw a0 aa.2.2.2.1 ∧ Sl (Rep.slice (Rep.pair (Rep.pair Rep.bool (Rep.slice (Rep.int .u32))) (Rep.slice (Rep.int .u32)))) ai ax ar au aa.2.2.2.2 ∧ Box 28 1 ai ax a5 #[(.string aa.1), (.slice ay aa.2.1.length az), (.slice an aa.2.2.1.length ap), (.slice aw aa.2.2.2.1.length a0), (.slice ar aa.2.2.2.2.length au)] ∧ Own (Rep.int .u32) 114 3 ai ax bv bw bd ∧ Own (Rep.int .u32) 114 4 ai ax bx bz be ∧ Box 40 2 ai ax bt #[(.bool b7), (.slice bv bd.length bw), (.slice bx be.length bz)] ∧ Sl (Rep.int .i64) ai ax ct df a8 ∧ Own (Rep.int .u32) 114 5 ai ax bm bn bh ∧ Own (Rep.int .u32) 114 6 ai ax bo bp bi ∧ Box 40 7 ai ax cb #[(.bool b2), (.slice bm bh.length bn), (.slice bo bi.length bp)] ∧ f 64 = (.int .i64 (a9 : Int)) ∧ f 1 = (.slice a1 ac.length cap1) ∧ f 10 = (.int .i64 (am : Int)) ∧ f 11 = (.slice ch cg.length co) ∧ f 12 = (.int .i64 a3) ∧ f 2 = (.pointer (some ⟨a5, 0, none⟩)) ∧ f 4 = (.pointer (some ⟨bt, 0, none⟩)) ∧ f 51 = (.slice ar aa.2.2.2.2.length au) ∧ f 52 = (.int .i64 (aa.2.2.2.2.length : Int)) ∧ f 53 = (.int .i64 (am : Int)) ∧ f 62 = (.slice ct a8.length df) ∧ f 63 = (.int .i64 (a8.length : Int)) ∧ f 9 = (.pointer (some ⟨cb, 0, none⟩)) ∧ f 1000000 = (enc [])) a8.length ⟨a2, 0, 0, a8, rfl, rfl, hm, hst, h1, cc, ah, ad, af, ae, ab, ak, al, ag, b8, bb, bc, av, rfl, rfl, rfl, rfl, rfl, rfl, rfl, rfl, rfl, rfl, rfl, rfl, rfl, rfl⟩ ?_
   clear hm; intro n f ax hI
   obtain ⟨ai, a3, a9, cp, hn, hl, hm, hst, h1, cc, ah, ad, af, ae, ab, ak, al, ag, b8, bb, bc, av, hs64, hs1, hs10, hs11, hs12, hs2, hs4, hs51, hs52, hs53, hs62, hs63, hs9, hs1000000⟩ := hI
   subst hn
   refine .lD 64 hs64 <| .lD 1 hs1 <| .lD 10 hs10 <| .lD 11 hs11 <| .lD 12 hs12 <| .lD 2 hs2 <| .lD 4 hs4 <| .lD 51 hs51 <| .lD 52 hs52 <| .lD 53 hs53 <| .lD 62 hs62 <| .lD 63 hs63 <| .lD 9 hs9 <| .lD 1000000 hs1000000 ?_
   clear hs64 hs1 hs10 hs11 hs12 hs2 hs4 hs51 hs52 hs53 hs62 hs63 hs9 hs1000000
   cases cp with
   | nil =>
    have hk : ¬ ((a9 : Int) < (a8.length : Int)) := by have := List.drop_eq_nil_iff.1 hl; omega
    have hkb := decide_eq_false hk
    rw [m_model_Chance_L3.eq_1] at hm
    refine wS <| wR <| lV (.bool (decide ((a9 : Int) < (a8.length : Int)))) (r_lss (a9 : Int) (a8.length : Int) rfl rfl) <| lN <| wS ?_
    refine wcondF (congrArg Value.bool hkb) ?_
    refine wexit (inB_hit ?_)
    refine wmix (col := ai) [(0, 0), (1, 1), (2, 1), (3, 1), (4, 0), (5, 1), (6, 1), (7, 0), (8, 1), (9, 1), (10, 1), (11, 1), (12, 1), (13, 0), (14, 1), (15, 1), (16, 0), (17, 3), (18, 3), (19, 2)] (by kernel_rfl) (by kernel_rfl) ?_
    refine xv (v := (.agg #[(.bool b2), (.slice bm bh.length bn), (.slice bo bi.length bp)])) rfl rfl (fun _ hC => r_ldN Tryz.isAgg40 Tryz.sizeOf40 rfl rfl (av.atN.gr (Grow.of_below (col := ai) hC.below))) ?_
    refine xu (v := (.slice ch cg.length co)) rfl rfl (fun _ => r_move rfl) ?_
    refine xu (v := (.int .i64 a3)) rfl rfl (fun _ => r_move rfl) ?_
    refine xu (v := (.pointer ((some (⟨a5, 0, none⟩ : Addr)).map (·.add 2)))) rfl rfl (fun _ => rF (sz := 1) (off := 2) Tryz.underlying28 rfl Tryz.sizeOf24 (by decide) rfl rfl ⟨_, _, rfl⟩) ?_
    refine xv (v := (.slice an aa.2.2.1.length ap)) rfl rfl (fun _ hC => r_ld Tryz.isAgg24 rfl (((ab.atN).nth (q := 2) (v := (.slice an aa.2.2.1.length ap)) rfl).gr (Grow.of_below (col := ai) hC.below))) ?_
    refine xu (v := (.int .i64 (am : Int))) rfl rfl (fun _ => r_move rfl) ?_
    obtain ⟨cd, cu, hm⟩ := bS hm
    refine xu (v := (sptr an (Int.toNat (am : Int) * 1))) rfl rfl (fun _ => r_idx Tryz.underlying24 Tryz.sizeOf23 rfl rfl (at?_some cu).1 (at?_some cu).2.1 (ad.addr cu)) ?_
    obtain ⟨_, ef, eg⟩ := ad.atN cu
    obtain ⟨⟨eh, ei, rfl, fa⟩, _⟩ := ef
    refine xv (v := (.slice eh cd.length ei)) rfl rfl (fun _ hC => r_ld Tryz.isAgg23 rfl (eg.one.gr (Grow.of_below (col := ai) hC.below))) ?_
    refine xu (v := (.int .i64 (cd.length : Int))) rfl rfl (fun _ => r_len Tryz.underlying23 rfl) ?_
    refine xu (v := (.int .i64 (IntKind.i64.wrap (a3 * (cd.length : Int))))) rfl rfl (fun _ => r_mul a3 (cd.length : Int) rfl rfl) ?_
    refine xu (v := (.slice a1 ac.length cap1)) rfl rfl (fun _ => r_move rfl) ?_
    refine xu (v := (.int .i64 (am : Int))) rfl rfl (fun _ => r_move rfl) ?_
    obtain ⟨cv, cw, hm⟩ := bS hm
    refine xu (v := (sptr a1 (Int.toNat (am : Int) * 1))) rfl rfl (fun _ => r_idx Tryz.underlying33 Tryz.sizeOf3 rfl rfl (at?_some cw).1 (at?_some cw).2.1 (h1.addr cw)) ?_
    refine xv (v := (.int .i64 cv)) rfl rfl (fun _ hC => r_ld Tryz.isAgg3 rfl ((h1.gr (Grow.of_below (col := ai) hC.below)).atInt cw)) ?_
    refine xu (v := (.int .i64 (IntKind.i64.wrap ((IntKind.i64.wrap (a3 * (cd.length : Int))) + cv)))) rfl rfl (fun _ => r_add (IntKind.i64.wrap (a3 * (cd.length : Int))) cv rfl rfl) ?_
    obtain ⟨ci, cx, hm⟩ := bS hm
    refine xu (v := (sptr ch (Int.toNat (IntKind.i64.wrap ((IntKind.i64.wrap (a3 * (cd.length : Int))) + cv)) * 3))) rfl rfl (fun _ => r_idx Tryz.underlying51 Tryz.sizeOf40 rfl rfl (at?_some cx).1 (at?_some cx).2.1 (cc.addr cx)) ?_
    obtain ⟨_, ej, ek⟩ := cc.atN cx
    obtain ⟨_, _, rfl, el, em⟩ := rd_pair ej
    obtain ⟨_, _, rfl, en, eo⟩ := rd_pair el
    obtain ⟨rfl, _⟩ := en
    obtain ⟨⟨dt, du, rfl, dg⟩, _⟩ := eo
    obtain ⟨⟨dv, dw, rfl, dh⟩, _⟩ := em
    refine xv (v := (.agg #[(.bool ci.1.1), (.slice dt ci.1.2.length du), (.slice dv ci.2.length dw)])) rfl rfl (fun _ hC => r_ldN Tryz.isAgg40 Tryz.sizeOf40 rfl rfl (ek.gr (Grow.of_below (col := ai) hC.below))) ?_
    refine xe rfl rfl ?_
    intro ep hC0
    have hC : Grow ai ax ai ep := .of_below hC0.below
    obtain ⟨cy, eq, hm⟩ := bS hm
    replace dg := dg.gr hC
    replace dh := dh.gr hC
    refine lc rfl rfl (r_call1 Tryz.call142 rfl) (c_model_fitting N ai _ dt du dv dw ((ci.1.1, ci.1.2), ci.2) dg dh cy eq) ?_
    rintro _ dx ⟨b5, er, es, et, eu, rfl, ba, di, dj⟩
    refine ⟨_, rfl, ?_⟩
    refine lN ⟨fun w' => Grow b5 dx b5 w', Grow.refl _ _, fun _ _ h => cls hC0 ba h, ?_⟩
    refine xe rfl rfl ?_
    intro dy hC0
    replace h1 := (h1.gr hC).gr ba
    replace ah := (ah.gr hC).gr ba
    replace ad := (ad.gr hC).gr ba
    replace af := (af.gr hC).gr ba
    replace ae := (ae.gr hC).gr ba
    replace ak := (ak.gr hC).gr ba
    replace al := (al.gr hC).gr ba
    replace bb := (bb.gr hC).gr ba
    replace bc := (bc.gr hC).gr ba
    replace ab := (ab.gr hC).gr ba
    replace ag := (ag.gr hC).gr ba
    replace av := (av.gr hC).gr ba
    replace hst := (hst.grow hC).grow ba
    have hC : Grow b5 dx b5 dy := .of_below hC0.below
    obtain ⟨b3, ev, hm⟩ := bS hm
    replace bb := bb.gr hC
    replace bc := bc.gr hC
    replace di := di.gr hC
    replace dj := dj.gr hC
    refine lc rfl rfl (r_call2 Tryz.call35 rfl rfl) (c_frac_Mul N 8 9 (frC 6 (frC 5 b5)) _ bm bn bo bp ((b2, bh), bi) er es et eu ((cy.1.1, cy.1.2), cy.2) ((bb.toSlF (Froz.int .u32)).froz 6) ((bc.froz 5 (by decide)).toSlF (Froz.int .u32)) ((di.froz 5).froz 6) ((dj.froz 5).froz 6) b3 ev) ?_
    rintro _ dz ⟨ew, dk, dl, dm, dn, rfl, a4, bq, br⟩
    refine ⟨_, rfl, ?_⟩
    replace bq := bq.thaw (flat_int .u32) a4 (((Fz.refl (col := b5)).froz 5).froz 6) (by decide)
    replace br := br.thaw (flat_int .u32) a4 (((Fz.refl (col := b5)).froz 5).froz 6) (by decide)
    replace a4 := a4.thawR (col := b5)
    generalize colR dy.heap.size b5 ew = b4 at *
    refine lN ⟨fun w' => Grow b4 dz b4 w', Grow.refl _ _, fun _ _ h => cls hC0 a4 h, ?_⟩
    refine xe rfl rfl ?_
    intro ex hC0
    replace h1 := (h1.gr hC).gr a4
    replace ah := (ah.gr hC).gr a4
    replace ad := (ad.gr hC).gr a4
    replace af := (af.gr hC).gr a4
    replace ae := (ae.gr hC).gr a4
    replace ak := (ak.gr hC).gr a4
    replace al := (al.gr hC).gr a4
    replace ab := (ab.gr hC).gr a4
    replace ag := (ag.gr hC).gr a4
    replace av := (av.gr hC).gr a4
    replace hst := (hst.grow hC).grow a4
    have hC : Grow b4 dz b4 ex := .of_below hC0.below
    replace av := av.gr hC
    refine l_bstore (v := (.agg #[(.bool b3.1.1), (.slice dk b3.1.2.length dl), (.slice dm b3.2.length dn)])) av Tryz.sizeOf40 rfl rfl (by intro u hu; simp only [Value.cells, List.mem_cons, List.not_mem_nil, or_false] at hu; rcases hu with rfl | rfl | rfl <;> rfl) rfl rfl ?_
    intro dp bj ey b6
    clear av
    replace b6 : Box 40 7 b4 dp cb #[(.bool b3.1.1), (.slice dk b3.1.2.length dl), (.slice dm b3.2.length dn)] := b6
    refine lN ⟨fun w' => Grow b4 dp b4 w', Grow.refl _ _, fun h => absurd h (by decide), ?_⟩
    refine xnil ?_
    replace h1 := (h1.gr hC).kp bj
    replace ah := (ah.gr hC).kp bj
    replace ad := (ad.gr hC).kp bj
    replace af := (af.gr hC).kp bj
    replace ae := (ae.gr hC).kp bj
    replace ak := (ak.gr hC).kp bj
    replace al := (al.gr hC).kp bj
    replace bq := (bq.gr hC).kp bj
    replace br := (br.gr hC).kp bj
    replace ab := (ab.gr hC).kp bj
    replace ag := (ag.gr hC).kp bj
    replace hst := (hst.grow hC).kp bj ey
    intro ez hC
    replace hC : Grow b4 dp b4 ez := .of_below hC.below
    refine wR <| lV (.int .i64 (IntKind.i64.wrap ((am : Int) + 1))) (r_add (am : Int) 1 rfl rfl) <| lM (.int .i64 (IntKind.i64.wrap ((am : Int) + 1))) <| lN ?_
    replace h1 := h1.gr hC
    replace h1 := h1.recol 8 5 (by decide)
    replace ah := ah.gr hC
    replace ah := ah.recol 8 5 (by decide)
    replace ad := ad.gr hC
    replace ad := ad.recol 8 5 (by decide)
    replace af := af.gr hC
    replace af := af.recol 8 5 (by decide)
    replace ae := ae.gr hC
    replace ae := ae.recol 8 5 (by decide)
    replace ak := ak.gr hC
    replace ak := ak.recol 8 5 (by decide)
    replace al := al.gr hC
    replace al := al.recol 8 5 (by decide)
    replace bq := bq.gr hC
    replace bq := bq.recolSelf 5 (by decide)
    replace br := br.gr hC
    replace br := br.recol 8 5 (by decide)
    replace ab := ab.gr hC
    replace ab := ab.recol 8 5 (by decide)
    replace ag := ag.gr hC
    replace ag := ag.recol 8 5 (by decide)
    replace b6 := b6.gr hC
    replace b6 := b6.recol 8 5 (by decide)
    replace hst := hst.grow hC
    replace hst := hst.recol 8 5 (by decide) (by decide)
    replace h1 := h1.recol 9 6 (by decide)
    replace ah := ah.recol 9 6 (by decide)
    replace ad := ad.recol 9 6 (by decide)
    replace af := af.recol 9 6 (by decide)
    replace ae := ae.recol 9 6 (by decide)
    replace ak := ak.recol 9 6 (by decide)
    replace al := al.recol 9 6 (by decide)
    replace bq := bq.recol 9 6 (by decide)
    replace br := br.recolSelf 6 (by decide)
    replace ab := ab.recol 9 6 (by decide)
    replace ag := ag.recol 9 6 (by decide)
    replace b6 := b6.recol 9 6 (by decide)
    replace hst := hst.recol 9 6 (by decide) (by decide)
    exact ⟨de.length, by simp, ⟨(rcC 9 6 (rcC 8 5 b4)), (am + 1), b3.1.1, dk, dl, b3.1.2, dm, dn, b3.2, de, rfl, hl2_L2, hm, hst, h1, ah, ad, af, ae, ab, ak, al, ag, bq, br, b6, (congrArg (Value.int .i64) (wrap_succ (Nat.lt_of_lt_of_le hlt_L2 ae.1.1))), rfl, rfl, rfl, rfl, rfl, rfl, rfl⟩⟩
   | cons cj d0 =>
    obtain ⟨hat, hl2_L3, hlt_L3⟩ := drop_get hl
    have hk : (a9 : Int) < (a8.length : Int) := by omega
    have hkb := decide_eq_true hk
    rw [m_model_Chance_L3.eq_2] at hm
    refine wS <| wR <| lV (.bool (decide ((a9 : Int) < (a8.length : Int)))) (r_lss (a9 : Int) (a8.length : Int) rfl rfl) <| lN <| wS ?_
    refine wcondT (congrArg Value.bool hkb) ?_
    refine wK <| wS <| wB <| wS <| wR ?_
    refine lV (sptr ct (Int.toNat (a9 : Int) * 1)) (r_idx Tryz.underlying33 Tryz.sizeOf3 rfl rfl (at?_some hat).1 (at?_some hat).2.1 (b8.addr hat)) ?_
    refine lV (.int .i64 cj) (r_ld Tryz.isAgg3 rfl (b8.atInt hat)) <| lA (.int .i64 cj) <| lN ?_
    refine wquiet (col := ai) (by kernel_rfl) (by kernel_rfl) ?_
    refine qv (v := (.int .i64 a3)) rfl (fun _ hC => r_move rfl) ?_
    refine qv (v := (.pointer ((some (⟨a5, 0, none⟩ : Addr)).map (·.add 2)))) rfl (fun _ hC => rF (sz := 1) (off := 2) Tryz.underlying28 rfl Tryz.sizeOf24 (by decide) rfl rfl ⟨_, _, rfl⟩) ?_
    refine qv (v := (.slice an aa.2.2.1.length ap)) rfl (fun _ hC => r_ld Tryz.isAgg24 rfl (((ab.atN).nth (q := 2) (v := (.slice an aa.2.2.1.length ap)) rfl).gr (Grow.of_below (col := ai) hC.below))) ?_
    refine qv (v := (.int .i64 cj)) rfl (fun _ hC => r_move rfl) ?_
    obtain ⟨b9, cz, hm⟩ := bS hm
    refine qv (v := (sptr an (Int.toNat cj * 1))) rfl (fun _ hC => r_idx Tryz.underlying24 Tryz.sizeOf23 rfl rfl (at?_some cz).1 (at?_some cz).2.1 (ad.addr cz)) ?_
    obtain ⟨_, e0, e1⟩ := ad.atN cz
    obtain ⟨⟨e2, e3, rfl, fb⟩, _⟩ := e0
    refine qv (v := (.slice e2 b9.length e3)) rfl (fun _ hC => r_ld Tryz.isAgg23 rfl (e1.one.gr (Grow.of_below (col := ai) hC.below))) ?_
    refine qv (v := (.int .i64 (b9.length : Int))) rfl (fun _ hC => r_len Tryz.underlying23 rfl) ?_
    refine qv (v := (.int .i64 (IntKind.i64.wrap (a3 * (b9.length : Int))))) rfl (fun _ hC => r_mul a3 (b9.length : Int) rfl rfl) ?_
    refine qv (v := (.slice a1 ac.length cap1)) rfl (fun _ hC => r_move rfl) ?_
    refine qv (v := (.int .i64 cj)) rfl (fun _ hC => r_move rfl) ?_
    obtain ⟨cq, c0, hm⟩ := bS hm
    refine qv (v := (sptr a1 (Int.toNat cj * 1))) rfl (fun _ hC => r_idx Tryz.underlying33 Tryz.sizeOf3 rfl rfl (at?_some c0).1 (at?_some c0).2.1 (h1.addr c0)) ?_
    refine qv (v := (.int .i64 cq)) rfl (fun _ hC => r_ld Tryz.isAgg3 rfl ((h1.gr (Grow.of_below (col := ai) hC.below)).atInt c0)) ?_
    refine qv (v := (.int .i64 (IntKind.i64.wrap ((IntKind.i64.wrap (a3 * (b9.length : Int))) + cq)))) rfl (fun _ hC => r_add (IntKind.i64.wrap (a3 * (b9.length : Int))) cq rfl rfl) ?_
    refine qv (v := (.int .i64 (IntKind.i64.wrap ((IntKind.i64.wrap (a3 * (b9.length : Int))) + cq)))) rfl (fun _ hC => r_assign rfl) ?_
    refine qnil ?_
    intro e4 hC
    replace hC : Grow ai ax ai e4 := .of_below hC.below
    refine wR <| lV (.int .i64 (IntKind.i64.wrap ((a9 : Int) + 1))) (r_add (a9 : Int) 1 rfl rfl) <| lM (.int .i64 (IntKind.i64.wrap ((a9 : Int) + 1))) <| lN ?_
    replace h1 := h1.gr hC
    replace cc := cc.gr hC
    replace ah := ah.gr hC
    replace ad := ad.gr hC
    replace af := af.gr hC
    replace ae := ae.gr hC
    replace ak := ak.gr hC
    replace al := al.gr hC
    replace b8 := b8.gr hC
    replace bb := bb.gr hC
    replace bc := bc.gr hC
    replace ab := ab.gr hC
    replace ag := ag.gr hC
    replace av := av.gr hC
    replace hst := hst.grow hC
    exact ⟨d0.length, by simp, ⟨ai, (IntKind.i64.wrap ((IntKind.i64.wrap (a3 * (b9.length : Int))) + cq)), (a9 + 1), d0, rfl, hl2_L3, hm, hst, h1, cc, ah, ad, af, ae, ab, ak, al, ag, b8, bb, bc, av, (congrArg (Value.int .i64) (wrap_succ (Nat.lt_of_lt_of_le hlt_L3 b8.1.1))), rfl, rfl, rfl, rfl, rfl, rfl, rfl, rfl, rfl, rfl, rfl, rfl, rfl⟩⟩
 | cons aj dq =>
  obtain ⟨hat, hl2_L1, hlt_L1⟩ := drop_get hl
  have hk : (aq : Int) < (ac.length : Int) := by omega
  have hkb := decide_eq_true hk
  rw [m_model_Chance_L1.eq_2] at hm
  refine wS <| wR <| lV (.bool (decide ((aq : Int) < (ac.length : Int)))) (r_lss (aq : Int) (ac.length : Int) rfl rfl) <| lN <| wS ?_
  refine wcondT (congrArg Value.bool hkb) ?_
  refine wK <| wS <| wB <| wS <| wR <| lM (.int .i64 (aq : Int)) ?_
  refine lV (sptr a1 (Int.toNat (aq : Int) * 1)) (r_idx Tryz.underlying33 Tryz.sizeOf3 rfl rfl (at?_some hat).1 (at?_some hat).2.1 (h1.addr hat)) ?_
  refine lV (.int .i64 aj) (r_ld Tryz.isAgg3 rfl (h1.atInt hat)) <| lA (.int .i64 (aq : Int)) <| lA (.int .i64 aj) <| lN <| wS ?_
  refine Wp.cut (fun f bs => ∃ (bk : Col) (c3 : Bool), m_model_Chance_J1 aq b7 bd be (m_model_Chance_L1 N aa ac dq) c3 = some r ∧ St w0 (col0 col) bk bs ∧ Sl (Rep.int .i64) bk bs a1 cap1 ac ∧ Sl Rep.str bk bs ay az aa.2.1 ∧ Sl (Rep.slice Rep.str) bk bs an ap aa.2.2.1 ∧ Sl (Rep.slice (Rep.int .i64)) bk bs aw a0 aa.2.2.2.1 ∧ Sl (Rep.slice (Rep.pair (Rep.pair Rep.bool (Rep.slice (Rep.int .u32))) (Rep.slice (Rep.int .u32)))) bk bs ar au aa.2.2.2.2 ∧ Box 28 1 bk bs a5 #[(.string aa.1), (.slice ay aa.2.1.length az), (.slice an aa.2.2.1.length ap), (.slice aw aa.2.2.2.1.length a0), (.slice ar aa.2.2.2.2.length au)] ∧ Own (Rep.int .u32) 114 3 bk bs bv bw bd ∧ Own (Rep.int .u32) 114 4 bk bs bx bz be ∧ Box 40 2 bk bs bt #[(.bool b7), (.slice bv bd.length bw), (.slice bx be.length bz)] ∧ f 1 = (.slice a1 ac.length cap1) ∧ f 2 = (.pointer (some ⟨a5, 0, none⟩)) ∧ f 28 = (.slice a1 ac.length cap1) ∧ f 29 = (.int .i64 (ac.length : Int)) ∧ f 30 = (.int .i64 (aq : Int)) ∧ f 4 = (.pointer (some ⟨bt, 0, none⟩)) ∧ f 46 = (.bool c3) ∧ f 1000000 = (enc [])) ?_ ?_
  ·intro f bs hJ
   obtain ⟨bk, c3, hm, hst, h1, ah, ad, af, ae, ab, ak, al, ag, hs1, hs2, hs28, hs29, hs30, hs4, hs46, hs1000000⟩ := hJ
   rw [m_model_Chance_J1.eq_1] at hm
   refine .lD 1 hs1 <| .lD 2 hs2 <| .lD 28 hs28 <| .lD 29 hs29 <| .lD 30 hs30 <| .lD 4 hs4 <| .lD 46 hs46 <| .lD 1000000 hs1000000 ?_
   clear hs1 hs2 hs28 hs29 hs30 hs4 hs46 hs1000000
   refine wcond (c3) rfl (fun hb => ?_) (fun hb => ?_)
   ·rw [if_pos hb] at hm
    clear hb
    cases hm
   rw [if_neg (by rw [hb]; decide)] at hm
   clear hb
   refine wK <| wR <| lV (.int .i64 (IntKind.i64.wrap ((aq : Int) + 1))) (r_add (aq : Int) 1 rfl rfl) <| lM (.int .i64 (IntKind.i64.wrap ((aq : Int) + 1))) <| lN ?_
   exact ⟨dq.length, by simp, ⟨bk, (aq + 1), b7, bv, bw, bd, bx, bz, be, dq, rfl, hl2_L1, hm, hst, h1, ah, ad, af, ae, ab, ak, al, ag, (congrArg (Value.int .i64) (wrap_succ (Nat.lt_of_lt_of_le hlt_L1 h1.1.1))), rfl, rfl, rfl, rfl, rfl, rfl⟩⟩
  refine wR <| lM (.int .i64 aj) <| lV (.bool (decide (aj < 0))) (r_lss aj 0 rfl rfl) <| lM (.bool (decide (aj < 0))) ?_
  by_cases ao : (decide (aj < 0)) = true
  ·rw [if_pos ao] at hm
   refine lp (b := decide (aj < 0)) 37 rfl rfl rfl rfl (by rw [ao]; rfl) ?_
   refine lp (b := decide (aj < 0)) 37 rfl rfl rfl rfl (by rw [ao]; rfl) ?_
   refine lp (b := decide (aj < 0)) 37 rfl rfl rfl rfl (by rw [ao]; rfl) ?_
   refine lp (b := decide (aj < 0)) 37 rfl rfl rfl rfl (by rw [ao]; rfl) ?_
   refine lp (b := decide (aj < 0)) 37 rfl rfl rfl rfl (by rw [ao]; rfl) ?_
   refine lp (b := decide (aj < 0)) 37 rfl rfl rfl rfl (by rw [ao]; rfl) ?_
   refine lp (b := decide (aj < 0)) 37 rfl rfl rfl rfl (by rw [ao]; rfl) ?_
   refine lp (b := decide (aj < 0)) 37 rfl rfl rfl rfl (by rw [ao]; rfl) ?_
   refine lV (.bool true) (r_pickT (congrArg Value.bool ao) rfl) <| lN ?_
   exact ⟨a6, true, hm, hst, h1, ah, ad, af, ae, ab, ak, al, ag, rfl, rfl, rfl, rfl, rfl, rfl, rfl, rfl⟩
  rw [if_neg ao] at hm
  replace ao := Bool.eq_false_iff.2 ao
  refine lg (b := decide (aj < 0)) 37 rfl rfl rfl (by rw [ao]; rfl) ?_
  refine lM (.int .i64 aj) ?_
  refine lg (b := decide (aj < 0)) 37 rfl rfl rfl (by rw [ao]; rfl) ?_
  refine lV (.pointer ((some (⟨a5, 0, none⟩ : Addr)).map (·.add 2))) (rF (sz := 1) (off := 2) Tryz.underlying28 rfl Tryz.sizeOf24 (by decide) rfl rfl ⟨_, _, rfl⟩) ?_
  refine lg (b := decide (aj < 0)) 37 rfl rfl rfl (by rw [ao]; rfl) ?_
  refine lV (.slice an aa.2.2.1.length ap) (r_ld Tryz.isAgg24 rfl ((ab.atN).nth (q := 2) (v := (.slice an aa.2.2.1.length ap)) rfl)) ?_
  refine lg (b := decide (aj < 0)) 37 rfl rfl rfl (by rw [ao]; rfl) ?_
  refine lM (.int .i64 (aq : Int)) ?_
  refine lg (b := decide (aj < 0)) 37 rfl rfl rfl (by rw [ao]; rfl) ?_
  obtain ⟨ck, c4, hm⟩ := bS hm
  refine lV (sptr an (Int.toNat (aq : Int) * 1)) (r_idx Tryz.underlying24 Tryz.sizeOf23 rfl rfl (at?_some c4).1 (at?_some c4).2.1 (ad.addr c4)) ?_
  refine lg (b := decide (aj < 0)) 37 rfl rfl rfl (by rw [ao]; rfl) ?_
  obtain ⟨_, e5, e6⟩ := ad.atN c4
  obtain ⟨⟨e7, e8, rfl, fc⟩, _⟩ := e5
  refine lV (.slice e7 ck.length e8) (r_ld Tryz.isAgg23 rfl e6.one) ?_
  refine lg (b := decide (aj < 0)) 37 rfl rfl rfl (by rw [ao]; rfl) ?_
  refine lV (.int .i64 (ck.length : Int)) (r_len Tryz.underlying23 rfl) ?_
  refine lg (b := decide (aj < 0)) 37 rfl rfl rfl (by rw [ao]; rfl) ?_
  refine lV (.bool (decide ((ck.length : Int) ≤ aj))) (r_geq aj (ck.length : Int) rfl rfl) <| lV (.bool (decide ((ck.length : Int) ≤ aj))) (r_pickF (congrArg Value.bool ao) rfl) <| lN ?_
  exact ⟨a6, (decide ((ck.length : Int) ≤ aj)), hm, hst, h1, ah, ad, af, ae, ab, ak, al, ag, rfl, rfl, rfl, rfl, rfl, rfl, rfl, rfl⟩
def m_joint_All_2_L1 (N : Nat) (aa : (ByteArray × (List ByteArray) × (List (List ByteArray)) × (List (List Int)) × (List (List ((Bool × (List Int)) × (List Int)))))) : List (Int × (List Int)) → Option (List ((List Int) × ((Bool × (List Int)) × (List Int))))
  | [] => some []
  | ac :: ad => (m_model_Chance N (aa.1, aa.2.1, aa.2.2.1, aa.2.2.2.1, aa.2.2.2.2) ac.2).bind fun ab => (m_slices_Clone_int_int ac.2).bind fun ae => ((m_joint_All_2_L1 N aa ad) ).bind fun af => some ((ae, ((ab.1.1.1, ab.1.1.2), ab.1.2)) :: af)
termination_by structural x => x
def m_joint_All_2 (N : Nat) (aa : List Int) (ab : (ByteArray × (List ByteArray) × (List (List ByteArray)) × (List (List Int)) × (List (List ((Bool × (List Int)) × (List Int)))))) : Option (List ((List Int) × ((Bool × (List Int)) × (List Int)))) :=
  (m_radix_All_int N aa).bind fun ac => m_joint_All_2_L1 N ab ac 
theorem c_joint_All_2 (N : Nat) (cy : Nat) (col : Col) (w0 : World) (g0 : Nat) (af0 : Option Addr) (capf0 : Nat) (az : List Int) (hf0 : Sl (Rep.int .i64) col w0 af0 capf0 az) (hb0 : Box 33 450 col w0 g0 #[(.slice af0 az.length capf0)]) (g1 : Nat) (a6 : Option Addr) (a7 : Nat) (a8 : Option Addr) (a9 : Nat) (ba : Option Addr) (bb : Nat) (bc : Option Addr) (bd : Nat) (af : (ByteArray × (List ByteArray) × (List (List ByteArray)) × (List (List Int)) × (List (List ((Bool × (List Int)) × (List Int)))))) (aa : Sl Rep.str col w0 a6 a7 af.2.1) (ab : Sl (Rep.slice Rep.str) col w0 a8 a9 af.2.2.1) (ac : Sl (Rep.slice (Rep.int .i64)) col w0 ba bb af.2.2.2.1) (ad : Sl (Rep.slice (Rep.pair (Rep.pair Rep.bool (Rep.slice (Rep.int .u32))) (Rep.slice (Rep.int .u32)))) col w0 bc bd af.2.2.2.2) (hb1 : Box 28 450 col w0 g1 #[(.string af.1), (.slice a6 af.2.1.length a7), (.slice a8 af.2.2.1.length a9), (.slice ba af.2.2.2.1.length bb), (.slice bc af.2.2.2.2.length bd)]) (r : List ((List Int) × ((Bool × (List Int)) × (List Int)))) (hm : m_joint_All_2 N az af = some r) :
    Goes Tryz.prog 2 101 [(.pointer (some ⟨g0, 0, none⟩)), (.pointer (some ⟨g1, 0, none⟩))] (fun (y : (List Int) × ((Bool × (List Int)) × (List Int))) (col : Col) (w : World) (args : List Value) => ∃ (a0 : Option Addr) (cap0 : Nat) (a1_0_1 : Option Addr) (c1_0_1 : Nat) (bl : Option Addr) (bm : Nat), args = [.slice a0 y.1.length cap0, .agg #[(.bool y.2.1.1), (.slice a1_0_1 y.2.1.2.length c1_0_1), (.slice bl y.2.2.length bm)]] ∧ Own (Rep.int .i64) 3 cy col w a0 cap0 y.1 ∧ Sl (Rep.int .u32) col w a1_0_1 c1_0_1 y.2.1.2 ∧ Sl (Rep.int .u32) col w bl bm y.2.2) r col w0 := by
 intro l J X hjs hxs hy hst
 refine calls_ofM0 (mc := 1998) (m := 24) (args := [.func (.yield l) #[] #[], (.pointer (some ⟨g0, 0, none⟩)), (.pointer (some ⟨g1, 0, none⟩))]) Tryz.func101 rfl rfl rfl rfl ?_
 rw [m_joint_All_2.eq_1] at hm
 have hmk : Marks 1998 col w0 [] := .nil
 refine wS <| wR ?_
 refine l_box (col := col) (v := (.func (.yield l) #[] #[])) 1001 rfl rfl ?_
 intro bn b0 bo ax ae
 replace hf0 := hf0.gr ax
 replace aa := aa.gr ax
 replace ab := ab.gr ax
 replace ac := ac.gr ax
 replace ad := ad.gr ax
 replace hb0 := hb0.gr ax
 replace hb1 := hb1.gr ax
 replace hmk := hmk.gr ax
 replace hst := hjs _ _ _ _ _ hst ax.toP
 replace ae : Box 146 1001 bo b0 bn #[(.func (.yield l) #[] #[])] := ae
 refine lN <| wS <| wR <| lV (.slice af0 az.length capf0) (r_ld Tryz.isAgg33 rfl hb0.at1) ?_
 obtain ⟨bp, b1, hm⟩ := bS hm
 refine lc rfl rfl (r_call1 Tryz.call85 rfl) (c_radix_All_int N 1002 bo _ af0 capf0 az hf0 bp b1) ?_
 rintro _ cm ⟨b2, cn, rfl, aw, b3⟩
 refine ⟨_, rfl, ?_⟩
 replace aa := aa.gr aw
 replace ab := ab.gr aw
 replace ac := ac.gr aw
 replace ad := ad.gr aw
 replace hf0 := hf0.gr aw
 replace hb0 := hb0.gr aw
 replace hb1 := hb1.gr aw
 replace ae := ae.gr aw
 replace hmk := hmk.gr aw
 replace hst := hjs _ _ _ _ _ hst aw.toP
 refine lN <| wB ?_
 refine wrange (psl := [10, 11]) (arr := (fun (y : Int × (List Int)) (col : Col) (w : World) (args : List Value) => ∃ (a1 : Option Addr) (cap1 : Nat), args = [.int .i64 y.1, .slice a1 y.2.length cap1] ∧ Own (Rep.int .i64) 3 1002 col w a1 cap1 y.2)) (ys := bp) (col := b2) 1999 rfl b3 rfl hmk rfl rfl (by rintro _ _ _ _ ⟨_, _, rfl, _⟩; rfl) (fun ys_ ag al => ∃ (r : List ((List Int) × ((Bool × (List Int)) × (List Int)))), m_joint_All_2_L1 N af ys_  = some r ∧ J r ag al ∧ Sl Rep.str ag al a6 a7 af.2.1 ∧ Sl (Rep.slice Rep.str) ag al a8 a9 af.2.2.1 ∧ Sl (Rep.slice (Rep.int .i64)) ag al ba bb af.2.2.2.1 ∧ Sl (Rep.slice (Rep.pair (Rep.pair Rep.bool (Rep.slice (Rep.int .u32))) (Rep.slice (Rep.int .u32)))) ag al bc bd af.2.2.2.2 ∧ Box 28 450 ag al g1 #[(.string af.1), (.slice a6 af.2.1.length a7), (.slice a8 af.2.2.1.length a9), (.slice ba af.2.2.2.1.length bb), (.slice bc af.2.2.2.2.length bd)] ∧ Box 146 1001 ag al bn #[(.func (.yield l) #[] #[])] ∧ Sl (Rep.int .i64) ag al af0 capf0 az ∧ Box 33 450 ag al g0 #[(.slice af0 az.length capf0)]) (fun c_ ag al => (c_ = .ret ∧ X ag al)) ?_ ?_ ⟨r, hm, hst, aa, ab, ac, ad, hb1, ae, hf0, hb0⟩ ?_ ?_ ?_
 ·intro ys_ ag al col2_ w2_ hJ hk
  obtain ⟨r, hm, hst, aa, ab, ac, ad, hb1, ae, hf0, hb0⟩ := hJ
  exact ⟨r, hm, (hjs _ _ _ _ _ hst (hk.mono fun _ => pSt_pI)), aa.kpp hk rfl, ab.kpp hk rfl, ac.kpp hk rfl, ad.kpp hk rfl, hb1.kpp hk rfl, ae.kpp hk rfl, hf0.kpp hk rfl, hb0.kpp hk rfl⟩
 ·intro c_ ag al col2_ w2_ hX hk
  obtain ⟨rfl, hX⟩ := hX
  exact ⟨rfl, hxs _ _ _ _ hX (hk.mono fun _ => pSt_pI)⟩
 ·intro co cp cq be cr ag al args hJ hrec hmk harr
  obtain ⟨r, hm, hst, aa, ab, ac, ad, hb1, ae, hf0, hb0⟩ := hJ
  rw [m_joint_All_2_L1.eq_2] at hm
  have hki := KeepP.refl (pC 1) ag al
  obtain ⟨bf, bg, rfl, aq⟩ := harr
  refine wR <| lA (.slice bf be.2.length bg) <| lN ?_
  refine ⟨_, hrec, ?_⟩
  intro b4 cs ar bq hrec2
  replace aa := aa.kp ar
  replace ab := ab.kp ar
  replace ac := ac.kp ar
  replace ad := ad.kp ar
  replace aq := aq.kp ar
  replace hf0 := hf0.kp ar
  replace hb1 := hb1.kp ar
  replace ae := ae.kp ar
  replace hb0 := hb0.kp ar
  replace hmk := hmk.kp ar
  replace hki := hki.kp ar bq rfl
  replace hst := hjs _ _ _ _ _ hst (ar.toP bq rfl)
  clear hrec
  have hrec := hrec2
  clear hrec2
  refine wB <| wS <| wR <| lV (.agg #[(.string af.1), (.slice a6 af.2.1.length a7), (.slice a8 af.2.2.1.length a9), (.slice ba af.2.2.2.1.length bb), (.slice bc af.2.2.2.2.length bd)]) (r_ldN Tryz.isAgg28 Tryz.sizeOf28 rfl rfl hb1.atN) <| lM (.slice bf be.2.length bg) ?_
  obtain ⟨ah, b5, hm⟩ := bS hm
  refine lc rfl rfl (r_call2 Tryz.call102 rfl rfl) (c_model_Chance N 1003 1004 (frC 1002 ag) _ a6 a7 a8 a9 ba bb bc bd (af.1, af.2.1, af.2.2.1, af.2.2.2.1, af.2.2.2.2) bf bg be.2 (aa.froz 1002) (ab.froz 1002) (ac.froz 1002) (ad.froz 1002) (aq.toSlF (Froz.int .i64)) ah b5) ?_
  rintro _ ct ⟨b6, a2, a3, a4, a5, rfl, am, ai, aj⟩
  refine ⟨_, rfl, ?_⟩
  replace ai := ai.thaw (flat_int .u32) am ((Fz.refl (col := ag)).froz 1002) (by decide)
  replace aj := aj.thaw (flat_int .u32) am ((Fz.refl (col := ag)).froz 1002) (by decide)
  replace am := am.thawR (col := ag)
  generalize colR b4.heap.size ag b6 = b7 at *
  replace aa := aa.gr am
  replace ab := ab.gr am
  replace ac := ac.gr am
  replace ad := ad.gr am
  replace aq := aq.gr am
  replace hf0 := hf0.gr am
  replace hb1 := hb1.gr am
  replace ae := ae.gr am
  replace hb0 := hb0.gr am
  replace hrec := hrec.gr am
  replace hmk := hmk.gr am
  replace hki := hki.gr am
  replace hst := hjs _ _ _ _ _ hst am.toP
  refine lM (.tuple #[(.agg #[(.bool ah.1.1.1), (.slice a2 ah.1.1.2.length a3), (.slice a4 ah.1.2.length a5)]), (.int .i64 ah.2)]) <| lV (.agg #[(.bool ah.1.1.1), (.slice a2 ah.1.1.2.length a3), (.slice a4 ah.1.2.length a5)]) (r_extract rfl rfl) <| lV (.int .i64 ah.2) (r_extract rfl rfl) ?_
  refine l_alloc (col := b7) (v := (.agg #[(.bool false), (.slice none (([] : List Int).length) 0), (.slice none (([] : List Int).length) 0)])) 1005 rfl Tryz.zeroValue40 ?_
  intro br b8 au an bh
  replace aa := aa.gr an
  replace ab := ab.gr an
  replace ac := ac.gr an
  replace ad := ad.gr an
  replace aq := aq.gr an
  replace ai := ai.gr an
  replace aj := aj.gr an
  replace hf0 := hf0.gr an
  replace hb1 := hb1.gr an
  replace ae := ae.gr an
  replace hb0 := hb0.gr an
  replace hrec := hrec.gr an
  replace hmk := hmk.gr an
  replace hki := hki.gr an
  replace hst := hjs _ _ _ _ _ hst an.toP
  replace bh : Box 40 1005 au b8 br #[(.bool false), (.slice none (([] : List Int).length) 0), (.slice none (([] : List Int).length) 0)] := bh
  refine l_bstore (v := (.agg #[(.bool ah.1.1.1), (.slice a2 ah.1.1.2.length a3), (.slice a4 ah.1.2.length a5)])) bh Tryz.sizeOf40 rfl rfl (by intro u hu; simp only [Value.cells, List.mem_cons, List.not_mem_nil, or_false] at hu; rcases hu with rfl | rfl | rfl <;> rfl) rfl rfl ?_
  intro bs ao bt bk
  replace aa := aa.kp ao
  replace ab := ab.kp ao
  replace ac := ac.kp ao
  replace ad := ad.kp ao
  replace aq := aq.kp ao
  replace ai := ai.kp ao
  replace aj := aj.kp ao
  replace hf0 := hf0.kp ao
  replace hb1 := hb1.kp ao
  replace ae := ae.kp ao
  replace hb0 := hb0.kp ao
  replace hrec := hrec.kp ao
  replace hmk := hmk.kp ao
  replace hki := hki.kp ao bt rfl
  replace hst := hjs _ _ _ _ _ hst (ao.toP bt rfl)
  clear bh
  replace bk : Box 40 1005 au bs br #[(.bool ah.1.1.1), (.slice a2 ah.1.1.2.length a3), (.slice a4 ah.1.2.length a5)] := bk
  refine lA (.int .i64 ah.2) <| lN <| wS ?_
  refine wmix (col := au) [(0, 0), (1, 1), (3, 0), (2, 3), (4, 2), (5, 1)] (by kernel_rfl) (by kernel_rfl) ?_
  refine xv (v := (.func (.yield l) #[] #[])) rfl rfl (fun _ hC => r_ld Tryz.isAgg146 rfl (ae.at1.gr (Grow.of_below (col := au) hC.below))) ?_
  refine xu (v := (.slice bf be.2.length bg)) rfl rfl (fun _ => r_move rfl) ?_
  refine xv (v := (.agg #[(.bool ah.1.1.1), (.slice a2 ah.1.1.2.length a3), (.slice a4 ah.1.2.length a5)])) rfl rfl (fun _ hC => r_ldN Tryz.isAgg40 Tryz.sizeOf40 rfl rfl (bk.atN.gr (Grow.of_below (col := au) hC.below))) ?_
  refine xe rfl rfl ?_
  intro bu hC0
  have hC : Grow au bs au bu := .of_below hC0.below
  replace aa := aa.gr hC
  replace ab := ab.gr hC
  replace ac := ac.gr hC
  replace ad := ad.gr hC
  replace aq := aq.gr hC
  replace ai := ai.gr hC
  replace aj := aj.gr hC
  replace hf0 := hf0.gr hC
  replace hb1 := hb1.gr hC
  replace ae := ae.gr hC
  replace hb0 := hb0.gr hC
  replace hrec := hrec.gr hC
  replace hmk := hmk.gr hC
  replace hki := hki.gr hC
  replace hst := hjs _ _ _ _ _ hst hC.toP
  obtain ⟨bv, b9, hm⟩ := bS hm
  refine lc rfl rfl (r_call1 Tryz.call78 rfl) (c_slices_Clone_int_int 1006 (frC 1002 au) _ bf bg be.2 (aq.toSlF (Froz.int .i64)) bv b9) ?_
  rintro _ bw ⟨ca, bx, bz, rfl, ak, av⟩
  refine ⟨_, rfl, ?_⟩
  replace av := av.thaw (flat_int .i64) ak ((Fz.refl (col := au)).froz 1002) (by decide)
  replace ak := ak.thawR (col := au)
  generalize colR bu.heap.size au ca = bi at *
  replace aa := aa.gr ak
  replace ab := ab.gr ak
  replace ac := ac.gr ak
  replace ad := ad.gr ak
  replace ai := ai.gr ak
  replace aj := aj.gr ak
  replace hf0 := hf0.gr ak
  replace hb1 := hb1.gr ak
  replace ae := ae.gr ak
  replace hb0 := hb0.gr ak
  replace hrec := hrec.gr ak
  replace hmk := hmk.gr ak
  replace hki := hki.gr ak
  replace hst := hjs _ _ _ _ _ hst ak.toP
  refine lN ⟨fun w' => Grow bi bw bi w', Grow.refl _ _, fun _ _ h => cls hC0 ak h, ?_⟩
  refine xe rfl rfl ?_
  intro cb hC0
  have hC : Grow bi bw bi cb := .of_below hC0.below
  replace aa := aa.gr hC
  replace ab := ab.gr hC
  replace ac := ac.gr hC
  replace ad := ad.gr hC
  replace ai := ai.gr hC
  replace aj := aj.gr hC
  replace av := av.gr hC
  replace hf0 := hf0.gr hC
  replace hb1 := hb1.gr hC
  replace ae := ae.gr hC
  replace hb0 := hb0.gr hC
  replace hrec := hrec.gr hC
  replace hmk := hmk.gr hC
  replace hki := hki.gr hC
  replace hst := hjs _ _ _ _ _ hst hC.toP
  replace aa := aa.froz 1003
  replace ab := ab.froz 1003
  replace ac := ac.froz 1003
  replace ad := ad.froz 1003
  replace ai := (ai).toSlF (Froz.int .u32)
  replace aj := aj.froz 1003 (by decide)
  replace av := av.froz 1003 (by decide)
  replace hf0 := hf0.froz 1003
  replace hb1 := hb1.froz 1003 (by decide)
  replace ae := ae.froz 1003 (by decide)
  replace hb0 := hb0.froz 1003 (by decide)
  replace hrec := hrec.froz 1003 (by decide)
  replace hmk := hmk.froz 1003 (by decide)
  replace hki := hki.froz 1003 rfl
  replace hst := hjs _ _ _ _ _ hst ((KeepP.refl _ _ _).froz 1003 rfl)
  replace aa := aa.froz 1004
  replace ab := ab.froz 1004
  replace ac := ac.froz 1004
  replace ad := ad.froz 1004
  replace ai := ai.froz 1004
  replace aj := (aj).toSlF (Froz.int .u32)
  replace av := av.froz 1004 (by decide)
  replace hf0 := hf0.froz 1004
  replace hb1 := hb1.froz 1004 (by decide)
  replace ae := ae.froz 1004 (by decide)
  replace hb0 := hb0.froz 1004 (by decide)
  replace hrec := hrec.froz 1004 (by decide)
  replace hmk := hmk.froz 1004 (by decide)
  replace hki := hki.froz 1004 rfl
  replace hst := hjs _ _ _ _ _ hst ((KeepP.refl _ _ _).froz 1004 rfl)
  replace aa := aa.recol 1006 cy (by decide)
  replace ab := ab.recol 1006 cy (by decide)
  replace ac := ac.recol 1006 cy (by decide)
  replace ad := ad.recol 1006 cy (by decide)
  replace ai := ai.recol 1006 cy (by decide)
  replace aj := aj.recol 1006 cy (by decide)
  replace av := av.recolSelf cy (by decide)
  replace hf0 := hf0.recol 1006 cy (by decide)
  replace hb1 := hb1.recol 1006 cy (by decide)
  replace ae := ae.recol 1006 cy (by decide)
  replace hb0 := hb0.recol 1006 cy (by decide)
  replace hrec := hrec.recol 1006 cy (by decide)
  replace hmk := hmk.recol 1006 cy (by decide)
  replace hki := hki.recol 1006 cy rfl
  replace hst := hjs _ _ _ _ _ hst ((KeepP.refl _ _ _).recol 1006 cy rfl)
  obtain ⟨cc, hc_68m, cd⟩ := bS hm
  cases cd
  have hm := hc_68m
  clear hc_68m
  refine ly2 rfl rfl rfl rfl (hy _ _ _ _ [(.slice bx bv.length bz), (.agg #[(.bool ah.1.1.1), (.slice a2 ah.1.1.2.length a3), (.slice a4 ah.1.2.length a5)])] hst ⟨bx, bz, a2, a3, a4, a5, rfl, av, ai, aj⟩) ?_
  rintro _ bj ⟨ay, ap, ⟨rfl, hJ⟩ | ⟨rfl, hX⟩⟩
  ·refine ⟨_, rfl, ?_⟩
   clear hst
   replace aa := aa.kpp ap
   replace ab := ab.kpp ap
   replace ac := ac.kpp ap
   replace ad := ad.kpp ap
   replace hf0 := hf0.kpp ap
   replace hb1 := hb1.kpp ap
   replace ae := ae.kpp ap
   replace hb0 := hb0.kpp ap
   replace hrec := hrec.kpp ap
   replace hmk := hmk.kpp ap
   replace hki := hki.trans (ap.mono (by first | exact pCo_p2 rfl | exact pCo_p1 rfl | exact pCo_pS rfl | exact fun _ => pC_21 | exact fun _ h => h | exact fun _ _ => rfl))
   have hst := hJ
   clear hJ
   refine lN ⟨fun w' => Grow ay bj ay w', Grow.refl _ _, fun h => absurd h (by decide), ?_⟩
   refine xu (v := (.bool false)) rfl rfl (fun _ => r_not true rfl) ?_
   refine xnil ?_
   intro ce hC
   replace hC : Grow ay bj ay ce := .of_below hC.below
   replace aa := aa.gr hC
   replace ab := ab.gr hC
   replace ac := ac.gr hC
   replace ad := ad.gr hC
   replace hf0 := hf0.gr hC
   replace hb1 := hb1.gr hC
   replace ae := ae.gr hC
   replace hb0 := hb0.gr hC
   replace hrec := hrec.gr hC
   replace hmk := hmk.gr hC
   replace hki := hki.gr hC
   replace hst := hjs _ _ _ _ _ hst hC.toP
   refine wcondF rfl ?_
   refine wK ?_
   exact ⟨_, hki, ⟨cc, hm, hst, aa, ab, ac, ad, hb1, ae, hf0, hb0⟩, hrec, hmk⟩
  clear hm
  refine ⟨_, rfl, ?_⟩
  clear hst
  replace hrec := hrec.kpp ap
  replace hmk := hmk.kpp ap
  replace hki := hki.trans (ap.mono (by first | exact pCo_p2 rfl | exact pCo_p1 rfl | exact pCo_pS rfl | exact fun _ => pC_21 | exact fun _ h => h | exact fun _ _ => rfl))
  have hst := hX
  clear hX
  refine lN ⟨fun w' => Grow ay bj ay w', Grow.refl _ _, fun h => absurd h (by decide), ?_⟩
  refine xu (v := (.bool true)) rfl rfl (fun _ => r_not false rfl) ?_
  refine xnil ?_
  intro cf hC
  replace hC : Grow ay bj ay cf := .of_below hC.below
  replace hrec := hrec.gr hC
  replace hmk := hmk.gr hC
  replace hki := hki.gr hC
  replace hst := hxs _ _ _ _ hst hC.toP
  refine wcondT rfl ?_
  refine wret ?_
  exact ⟨_, hki, ⟨rfl, hst⟩, hrec, hmk⟩
 ·clear hmk
  intro cg ag al hJ hmk
  obtain ⟨r, hm, hst, aa, ab, ac, ad, hb1, ae, hf0, hb0⟩ := hJ
  rw [m_joint_All_2_L1.eq_1] at hm
  cases hm
  refine ⟨_, (cg :: []), rfl, hmk, ?_⟩
  intro cu ch ci
  clear hmk
  replace hst := hjs _ _ _ _ _ hst (ch.toP ci rfl)
  exact ⟨⟨_, rfl⟩, _, .inl hst⟩
 clear hmk
 intro c_ cj ag al hX hmk
 obtain ⟨rfl, hX⟩ := hX
 clear hst
 have hst := hX
 clear hX
 refine wret ?_
 refine ⟨_, (cj :: []), rfl, hmk, ?_⟩
 intro cv ck cl
 clear hmk
 replace hst := hxs _ _ _ _ hst (ck.toP cl rfl)
 exact ⟨⟨_, rfl⟩, _, .inr hst⟩
def m_joint_All (N : Nat) (aa : (ByteArray × (List ByteArray) × (List (List ByteArray)) × (List (List Int)) × (List (List ((Bool × (List Int)) × (List Int)))))) : Option (List ((List Int) × ((Bool × (List Int)) × (List Int)))) :=
  (m_joint_check N (aa.1, aa.2.1, aa.2.2.1, aa.2.2.2.1, aa.2.2.2.2) ([] : List (Int × Int)) ([] : List Int)).bind fun ac => if (!decide (ac.2 = 0)) = true then none else ((m_joint_copied N (aa.1, aa.2.1, aa.2.2.1, aa.2.2.2.1, aa.2.2.2.2)).bind fun ab => m_joint_All_2 N ac.1 (ab.1, ab.2.1, ab.2.2.1, ab.2.2.2.1, ab.2.2.2.2))
theorem c_joint_All (N : Nat) (cy : Nat) (col : Col) (w0 : World) (ak : Option Addr) (al : Nat) (am : Option Addr) (an : Nat) (ao : Option Addr) (ap : Nat) (aq : Option Addr) (ar : Nat) (aa : (ByteArray × (List ByteArray) × (List (List ByteArray)) × (List (List Int)) × (List (List ((Bool × (List Int)) × (List Int)))))) (ay : Sl Rep.str col w0 ak al aa.2.1) (az : Sl (Rep.slice Rep.str) col w0 am an aa.2.2.1) (a1 : Sl (Rep.slice (Rep.int .i64)) col w0 ao ap aa.2.2.2.1) (a2 : Sl (Rep.slice (Rep.pair (Rep.pair Rep.bool (Rep.slice (Rep.int .u32))) (Rep.slice (Rep.int .u32)))) col w0 aq ar aa.2.2.2.2) (r : (List ((List Int) × ((Bool × (List Int)) × (List Int))))) (hm : m_joint_All N aa = some r) :
    Calls Tryz.prog 52 #[(.agg #[(.string aa.1), (.slice ak aa.2.1.length al), (.slice am aa.2.2.1.length an), (.slice ao aa.2.2.2.1.length ap), (.slice aq aa.2.2.2.2.length ar)])] w0 (fun e w' => ∃ (col' : Col) (rv1 : Value), e = .returned (rv1) ∧ Grow col w0 col' w' ∧ It Tryz.prog 2 rv1 (fun (y : (List Int) × ((Bool × (List Int)) × (List Int))) (col : Col) (w : World) (args : List Value) => ∃ (a0 : Option Addr) (cap0 : Nat) (a1_0_1 : Option Addr) (c1_0_1 : Nat) (bu : Option Addr) (bv : Nat), args = [.slice a0 y.1.length cap0, .agg #[(.bool y.2.1.1), (.slice a1_0_1 y.2.1.2.length c1_0_1), (.slice bu y.2.2.length bv)]] ∧ Own (Rep.int .i64) 3 cy col w a0 cap0 y.1 ∧ Sl (Rep.int .u32) col w a1_0_1 c1_0_1 y.2.1.2 ∧ Sl (Rep.int .u32) col w bu bv y.2.2) r q0 col' w') := by
 refine calls_of1 2 (m := 16) (args := [(.agg #[(.string aa.1), (.slice ak aa.2.1.length al), (.slice am aa.2.2.1.length an), (.slice ao aa.2.2.2.1.length ap), (.slice aq aa.2.2.2.2.length ar)])]) Tryz.func52 rfl rfl rfl rfl rfl ?_
 rw [m_joint_All.eq_1] at hm
 have hst := St.start col w0
 refine wS <| wR ?_
 refine l_box (col := (col0 col)) (v := (.agg #[(.string aa.1), (.slice ak aa.2.1.length al), (.slice am aa.2.2.1.length an), (.slice ao aa.2.2.2.1.length ap), (.slice aq aa.2.2.2.2.length ar)])) 1 rfl rfl ?_
 intro bx bz bw a7 a3
 replace a3 : Box 28 1 bw bz bx #[(.string aa.1), (.slice ak aa.2.1.length al), (.slice am aa.2.2.1.length an), (.slice ao aa.2.2.2.1.length ap), (.slice aq aa.2.2.2.2.length ar)] := a3
 refine lv (v := _) rfl rfl (r_assign rfl) ?_
 refine lN <| wS <| wR <| lV (.agg #[(.string aa.1), (.slice ak aa.2.1.length al), (.slice am aa.2.2.1.length an), (.slice ao aa.2.2.2.1.length ap), (.slice aq aa.2.2.2.2.length ar)]) (r_ldN Tryz.isAgg28 Tryz.sizeOf28 rfl rfl a3.atN) ?_
 obtain ⟨ae, b0, hm⟩ := bS hm
 replace ay := (ay.keep (Stay.start col w0)).gr a7
 replace az := (az.keep (Stay.start col w0)).gr a7
 replace a1 := (a1.keep (Stay.start col w0)).gr a7
 replace a2 := (a2.keep (Stay.start col w0)).gr a7
 refine lc rfl rfl (r_call3 Tryz.call44 rfl rfl rfl) (c_joint_check N 2 bw _ ak al am an ao ap aq ar (aa.1, aa.2.1, aa.2.2.1, aa.2.2.2.1, aa.2.2.2.2) none 0 ([] : List (Int × Int)) none 0 ([] : List Int) ay az a1 a2 Sl.nil Sl.nil ae b0) ?_
 rintro _ ca ⟨b1, a8, a9, rfl, a4, ac⟩
 refine ⟨_, rfl, ?_⟩
 refine lM (.tuple #[(.slice a8 ae.1.length a9), (.int .i64 ae.2)]) <| lV (.slice a8 ae.1.length a9) (r_extract rfl rfl) <| lV (.int .i64 ae.2) (r_extract rfl rfl) ?_
 refine l_alloc (col := b1) (v := (.slice none (([] : List Int).length) 0)) 3 rfl Tryz.zeroValue33 ?_
 intro a5 b2 bc au ba
 replace ba : Box 33 3 bc b2 a5 #[(.slice none (([] : List Int).length) 0)] := ba
 refine l_bstore (v := (.slice a8 ae.1.length a9)) ba Tryz.sizeOf33 rfl rfl (by intro u hu; simp only [Value.cells, List.mem_cons, List.not_mem_nil, or_false] at hu; subst hu; rfl) rfl rfl ?_
 intro b3 av b4 ad
 clear ba
 replace ad : Box 33 3 bc b3 a5 #[(.slice a8 ae.1.length a9)] := ad
 refine lA (.int .i64 ae.2) <| lN <| wS <| wS <| wR <| lM (.int .i64 ae.2) <| lV (.bool (!decide (ae.2 = 0))) (r_neq ae.2 0 rfl rfl) <| lN ?_
 replace hst := (((hst.grow a7).grow a4).grow au).kp av b4
 replace ay := ((ay.gr a4).gr au).kp av
 replace az := ((az.gr a4).gr au).kp av
 replace a1 := ((a1.gr a4).gr au).kp av
 replace a2 := ((a2.gr a4).gr au).kp av
 replace a3 := ((a3.gr a4).gr au).kp av
 replace ac := (ac.gr au).kp av
 refine wcond (!decide (ae.2 = 0)) rfl (fun hb => ?_) (fun hb => ?_)
 ·rw [if_pos hb] at hm
  clear hb
  cases hm
 rw [if_neg (by rw [hb]; decide)] at hm
 clear hb
 refine wK <| wS <| wR <| lV (.agg #[(.string aa.1), (.slice ak aa.2.1.length al), (.slice am aa.2.2.1.length an), (.slice ao aa.2.2.2.1.length ap), (.slice aq aa.2.2.2.2.length ar)]) (r_ldN Tryz.isAgg28 Tryz.sizeOf28 rfl rfl a3.atN) ?_
 obtain ⟨ab, b5, hm⟩ := bS hm
 refine lc rfl rfl (r_call1 Tryz.call100 rfl) (c_joint_copied N 4 5 6 7 bc _ ak al am an ao ap aq ar (aa.1, aa.2.1, aa.2.2.1, aa.2.2.2.1, aa.2.2.2.2) ay az a1 a2 ab b5) ?_
 rintro _ cb ⟨b6, bd, be, bf, bg, bh, bi, bj, bk, rfl, bl, af, ag, ah, ai⟩
 refine ⟨_, rfl, ?_⟩
 refine l_alloc (col := b6) (v := (.agg #[(.string (⟨#[]⟩)), (.slice none (([] : List ByteArray).length) 0), (.slice none (([] : List (List ByteArray)).length) 0), (.slice none (([] : List (List Int)).length) 0), (.slice none (([] : List (List ((Bool × (List Int)) × (List Int)))).length) 0)])) 8 rfl Tryz.zeroValue28 ?_
 intro a6 b7 bm aw bb
 replace bb : Box 28 8 bm b7 a6 #[(.string (⟨#[]⟩)), (.slice none (([] : List ByteArray).length) 0), (.slice none (([] : List (List ByteArray)).length) 0), (.slice none (([] : List (List Int)).length) 0), (.slice none (([] : List (List ((Bool × (List Int)) × (List Int)))).length) 0)] := bb
 refine l_bstore (v := (.agg #[(.string ab.1), (.slice bd ab.2.1.length be), (.slice bf ab.2.2.1.length bg), (.slice bh ab.2.2.2.1.length bi), (.slice bj ab.2.2.2.2.length bk)])) bb Tryz.sizeOf28 rfl rfl (by intro u hu; simp only [Value.cells, List.mem_cons, List.not_mem_nil, or_false] at hu; rcases hu with rfl | rfl | rfl | rfl | rfl <;> rfl) rfl rfl ?_
 intro b8 ax b9 aj
 clear bb
 replace aj : Box 28 8 bm b8 a6 #[(.string ab.1), (.slice bd ab.2.1.length be), (.slice bf ab.2.2.1.length bg), (.slice bh ab.2.2.2.1.length bi), (.slice bj ab.2.2.2.2.length bk)] := aj
 refine lN <| wS <| wR <| lV (.func (.func 101) #[] #[(.pointer (some ⟨a5, 0, none⟩)), (.pointer (some ⟨a6, 0, none⟩))]) (r_func2 rfl rfl) <| lA (.func (.func 101) #[] #[(.pointer (some ⟨a5, 0, none⟩)), (.pointer (some ⟨a6, 0, none⟩))]) <| lN ?_
 refine wret ?_
 replace ac := ((ac.gr bl).gr aw).kp ax
 replace ac := (ac).toSlF (Froz.int .i64)
 replace af := (af.gr aw).kp ax
 replace af := af.froz 2 (by decide)
 replace ag := (ag.gr aw).kp ax
 replace ag := ag.froz 2 (by decide)
 replace ah := (ah.gr aw).kp ax
 replace ah := ah.froz 2 (by decide)
 replace ai := (ai.gr aw).kp ax
 replace ai := ai.froz 2 (by decide)
 replace ad := ((ad.gr bl).gr aw).kp ax
 replace ad := ad.froz 2 (by decide)
 replace aj := aj.froz 2 (by decide)
 replace hst := ((hst.grow bl).grow aw).kp ax b9
 replace hst := hst.froz 2 (by decide) (by decide)
 replace ac := ac.froz 4
 replace af := (af).toSlF Froz.str
 replace ag := ag.froz 4 (by decide)
 replace ah := ah.froz 4 (by decide)
 replace ai := ai.froz 4 (by decide)
 replace ad := ad.froz 4 (by decide)
 replace aj := aj.froz 4 (by decide)
 replace hst := hst.froz 4 (by decide) (by decide)
 replace ac := ac.froz 5
 replace af := af.froz 5
 replace ag := (ag).toSlF (Froz.row Froz.str)
 replace ah := ah.froz 5 (by decide)
 replace ai := ai.froz 5 (by decide)
 replace ad := ad.froz 5 (by decide)
 replace aj := aj.froz 5 (by decide)
 replace hst := hst.froz 5 (by decide) (by decide)
 replace ac := ac.froz 6
 replace af := af.froz 6
 replace ag := ag.froz 6
 replace ah := (ah).toSlF (Froz.row (Froz.int .i64))
 replace ai := ai.froz 6 (by decide)
 replace ad := ad.froz 6 (by decide)
 replace aj := aj.froz 6 (by decide)
 replace hst := hst.froz 6 (by decide) (by decide)
 replace ac := ac.froz 7
 replace af := af.froz 7
 replace ag := ag.froz 7
 replace ah := ah.froz 7
 replace ai := (ai).toSlF (Froz.row (Froz.pair (Froz.pair Froz.bool (Froz.row (Froz.int .u32))) (Froz.row (Froz.int .u32))))
 replace ad := ad.froz 7 (by decide)
 replace aj := aj.froz 7 (by decide)
 replace hst := hst.froz 7 (by decide) (by decide)
 have bn := hst.finBox (G := (fun n => bif Nat.beq n 3 then 450 else bif Nat.beq n 8 then 450 else 0)) ad (by decide) (by decide) (show (fun n => bif Nat.beq n 3 then 450 else bif Nat.beq n 8 then 450 else 0) 3 = 450 from rfl)
 have bo := hst.finSl (g := (fun n => bif Nat.beq n 3 then 450 else bif Nat.beq n 8 then 450 else 0)) rfl ac
 have bp := hst.finBox (G := (fun n => bif Nat.beq n 3 then 450 else bif Nat.beq n 8 then 450 else 0)) aj (by decide) (by decide) (show (fun n => bif Nat.beq n 3 then 450 else bif Nat.beq n 8 then 450 else 0) 8 = 450 from rfl)
 have bq := hst.finSl (g := (fun n => bif Nat.beq n 3 then 450 else bif Nat.beq n 8 then 450 else 0)) rfl af
 have br := hst.finSl (g := (fun n => bif Nat.beq n 3 then 450 else bif Nat.beq n 8 then 450 else 0)) rfl ag
 have bs := hst.finSl (g := (fun n => bif Nat.beq n 3 then 450 else bif Nat.beq n 8 then 450 else 0)) rfl ah
 have bt := hst.finSl (g := (fun n => bif Nat.beq n 3 then 450 else bif Nat.beq n 8 then 450 else 0)) rfl ai
 refine ⟨rfl, colF w0.heap.size col (frC 7 (frC 6 (frC 5 (frC 4 (frC 2 bm))))) (fun n => bif Nat.beq n 3 then 450 else bif Nat.beq n 8 then 450 else 0), _, rfl, hst.fin (fun n => bif Nat.beq n 3 then 450 else bif Nat.beq n 8 then 450 else 0), 101, [(.pointer (some ⟨a5, 0, none⟩)), (.pointer (some ⟨a6, 0, none⟩))], rfl, Tryz.call101, ?_⟩
 intro col9 w9 hs9 hk9
 replace bn := bn.itk hs9 hk9 rfl
 replace bo := bo.itk hs9 hk9 rfl
 replace bp := bp.itk hs9 hk9 rfl
 replace bq := bq.itk hs9 hk9 rfl
 replace br := br.itk hs9 hk9 rfl
 replace bs := bs.itk hs9 hk9 rfl
 replace bt := bt.itk hs9 hk9 rfl
 exact c_joint_All_2 N cy col9 w9 a5 a8 a9 ae.1 bo bn a6 bd be bf bg bh bi bj bk (ab.1, ab.2.1, ab.2.2.1, ab.2.2.2.1, ab.2.2.2.2) bq br bs bt bp r hm
def m_joint_has_L1 (aa : (List Int)) : List (Int × Int) → Option Bool
  | [] => some true
  | ab :: ac => (at? aa ab.1).bind fun ad => if (!decide (ad = ab.2)) = true then (some false) else (m_joint_has_L1 aa ac)
termination_by structural x => x
def m_joint_has (aa : (List Int)) (ab : (List (Int × Int))) : Option Bool :=
  m_joint_has_L1 aa ab 
theorem c_joint_has (col : Col) (w0 : World) (a0 : Option Addr) (cap0 : Nat) (ae : (List Int)) (a1 : Option Addr) (cap1 : Nat) (aa : (List (Int × Int))) (h0 : Sl (Rep.int .i64) col w0 a0 cap0 ae) (h1 : Sl (Rep.pair (Rep.int .i64) (Rep.int .i64)) col w0 a1 cap1 aa) (r : Bool) (hm : m_joint_has ae aa = some r) :
    Calls Tryz.prog 53 #[(.slice a0 ae.length cap0), (.slice a1 aa.length cap1)] w0 (fun e w' => e = .returned ((.bool r)) ∧ Below w0.heap.size w0 w') := by
 refine calls_of1 4 (m := 22) (args := [(.slice a0 ae.length cap0), (.slice a1 aa.length cap1)]) Tryz.func53 rfl rfl rfl rfl rfl ?_
 rw [m_joint_has.eq_1] at hm
 have hst := St.start col w0
 refine wS <| wR <| lA (.bool false) <| lN <| wS <| wS <| wR <| lM (.slice a1 aa.length cap1) <| lV (.int .i64 (aa.length : Int)) (r_len Tryz.underlying49 rfl) <| lM (.int .i64 0) <| lN <| wB ?_
 replace h0 := h0.keep (Stay.start col w0)
 replace h1 := h1.keep (Stay.start col w0)
 refine wloop (fun n f ah => ∃ (af : Col) (ab : Nat) (ag : List (Int × Int)), n = ag.length ∧ aa.drop ab = ag ∧ m_joint_has_L1 ae ag  = some r ∧ St w0 (col0 col) af ah ∧ Sl (Rep.int .i64) af ah a0 cap0 ae ∧ Sl (Rep.pair (Rep.int .i64) (Rep.int .i64)) af ah a1 cap1 aa ∧ f 9 = (.int .i64 (ab : Int)) ∧ f 0 = (.slice a0 ae.length cap0) ∧ f 7 = (.slice a1 aa.length cap1) ∧ f 8 = (.int .i64 (aa.length : Int)) ∧ f 1000000 = (enc [])) aa.length ⟨(col0 col), 0, aa, rfl, rfl, hm, hst, h0, h1, rfl, rfl, rfl, rfl, rfl⟩ ?_
 clear hm; intro n f ah hI
 obtain ⟨af, ab, ag, hn, hl, hm, hst, h0, h1, hs9, hs0, hs7, hs8, hs1000000⟩ := hI
 subst hn
 refine .lD 9 hs9 <| .lD 0 hs0 <| .lD 7 hs7 <| .lD 8 hs8 <| .lD 1000000 hs1000000 ?_
 clear hs9 hs0 hs7 hs8 hs1000000
 cases ag with
 | nil =>
  have hk : ¬ ((ab : Int) < (aa.length : Int)) := by have := List.drop_eq_nil_iff.1 hl; omega
  have hkb := decide_eq_false hk
  rw [m_joint_has_L1.eq_1] at hm
  refine wS <| wR <| lV (.bool (decide ((ab : Int) < (aa.length : Int)))) (r_lss (ab : Int) (aa.length : Int) rfl rfl) <| lN <| wS ?_
  refine wcondF (congrArg Value.bool hkb) ?_
  refine wexit (inB_hit ?_)
  refine wS <| wR <| lA (.bool true) <| lN ?_
  refine wret ?_
  cases hm
  exact ⟨rfl, rfl, hst.below⟩
 | cons ac ap =>
  obtain ⟨hat, hl2_L1, hlt_L1⟩ := drop_get hl
  have hk : (ab : Int) < (aa.length : Int) := by omega
  have hkb := decide_eq_true hk
  rw [m_joint_has_L1.eq_2] at hm
  refine wS <| wR <| lV (.bool (decide ((ab : Int) < (aa.length : Int)))) (r_lss (ab : Int) (aa.length : Int) rfl rfl) <| lN <| wS ?_
  refine wcondT (congrArg Value.bool hkb) ?_
  refine wK <| wS <| wB <| wS <| wR ?_
  refine lV (sptr a1 (Int.toNat (ab : Int) * 2)) (r_idx Tryz.underlying49 Tryz.sizeOf48 rfl rfl (at?_some hat).1 (at?_some hat).2.1 (h1.addr hat)) ?_
  obtain ⟨_, ar, au⟩ := h1.atN hat
  obtain ⟨_, _, rfl, av, aw⟩ := rd_pair ar
  obtain ⟨rfl, _⟩ := av
  obtain ⟨rfl, _⟩ := aw
  refine lV (.agg #[(.int .i64 ac.1), (.int .i64 ac.2)]) (r_ldN Tryz.isAgg48 Tryz.sizeOf48 rfl rfl au) ?_
  refine l_alloc (col := af) (v := (.agg #[(.int .i64 0), (.int .i64 0)])) 1 rfl Tryz.zeroValue48 ?_
  intro ai ax ad an aj
  replace aj : Box 48 1 ad ax ai #[(.int .i64 0), (.int .i64 0)] := aj
  refine l_bstore (v := (.agg #[(.int .i64 ac.1), (.int .i64 ac.2)])) aj Tryz.sizeOf48 rfl rfl (by intro u hu; simp only [Value.cells, List.mem_cons, List.not_mem_nil, or_false] at hu; rcases hu with rfl | rfl <;> rfl) rfl rfl ?_
  intro aq ao ay ak
  clear aj
  replace ak : Box 48 1 ad aq ai #[(.int .i64 ac.1), (.int .i64 ac.2)] := ak
  refine lN <| wS ?_
  refine wquiet (col := ad) (by kernel_rfl) (by kernel_rfl) ?_
  refine qv (v := (.slice a0 ae.length cap0)) rfl (fun _ hC => r_move rfl) ?_
  refine qv (v := (.pointer ((some (⟨ai, 0, none⟩ : Addr)).map (·.add 0)))) rfl (fun _ hC => rF (sz := 1) (off := 0) Tryz.underlying48 rfl Tryz.sizeOf3 (by decide) rfl rfl ⟨_, _, rfl⟩) ?_
  refine qv (v := (.int .i64 ac.1)) rfl (fun _ hC => r_ld Tryz.isAgg3 rfl (((ak.atN).nth (q := 0) (v := (.int .i64 ac.1)) rfl).gr (Grow.of_below (col := ad) hC.below))) ?_
  obtain ⟨al, am, hm⟩ := bS hm
  replace h0 := (h0.gr an).kp ao
  refine qv (v := (sptr a0 (Int.toNat ac.1 * 1))) rfl (fun _ hC => r_idx Tryz.underlying33 Tryz.sizeOf3 rfl rfl (at?_some am).1 (at?_some am).2.1 (h0.addr am)) ?_
  refine qv (v := (.int .i64 al)) rfl (fun _ hC => r_ld Tryz.isAgg3 rfl ((h0.gr (Grow.of_below (col := ad) hC.below)).atInt am)) ?_
  refine qv (v := (.pointer ((some (⟨ai, 0, none⟩ : Addr)).map (·.add 1)))) rfl (fun _ hC => rF (sz := 1) (off := 1) Tryz.underlying48 rfl Tryz.sizeOf3 (by decide) rfl rfl ⟨_, _, rfl⟩) ?_
  refine qv (v := (.int .i64 ac.2)) rfl (fun _ hC => r_ld Tryz.isAgg3 rfl (((ak.atN).nth (q := 1) (v := (.int .i64 ac.2)) rfl).gr (Grow.of_below (col := ad) hC.below))) ?_
  refine qv (v := (.bool (!decide (al = ac.2)))) rfl (fun _ hC => r_neq al ac.2 rfl rfl) ?_
  refine qnil ?_
  intro az hC
  replace hC : Grow ad aq ad az := .of_below hC.below
  replace h1 := ((h1.gr an).kp ao).gr hC
  replace hst := ((hst.grow an).kp ao ay).grow hC
  replace h0 := h0.gr hC
  refine wcond (!decide (al = ac.2)) rfl (fun hb => ?_) (fun hb => ?_)
  ·rw [if_pos hb] at hm
   clear hb
   refine wS <| wR <| lA (.bool false) <| lN ?_
   refine wret ?_
   cases hm
   exact ⟨rfl, rfl, hst.below⟩
  rw [if_neg (by rw [hb]; decide)] at hm
  clear hb
  refine wK <| wR <| lV (.int .i64 (IntKind.i64.wrap ((ab : Int) + 1))) (r_add (ab : Int) 1 rfl rfl) <| lM (.int .i64 (IntKind.i64.wrap ((ab : Int) + 1))) <| lN ?_
  exact ⟨ap.length, by simp, ⟨ad, (ab + 1), ap, rfl, hl2_L1, hm, hst, h0, h1, (congrArg (Value.int .i64) (wrap_succ (Nat.lt_of_lt_of_le hlt_L1 h1.1.1))), rfl, rfl, rfl, rfl⟩⟩
def m_joint_sum_L1 (N : Nat) (ae : (List (Int × Int))) : List ((List Int) × ((Bool × (List Int)) × (List Int))) → Bool → (List Int) → (List Int) → Option ((Bool × (List Int)) × (List Int))
  | [], aa, ab, ac => some ((aa, ab), ac)
  | ad :: ag, aa, ab, ac => (m_joint_has ad.1 ae).bind fun ah => if ah = true then ((m_frac_Add N ((aa, ab), ac) ((ad.2.1.1, ad.2.1.2), ad.2.2)).bind fun af => (m_joint_sum_L1 N ae ag) af.1.1 af.1.2 af.2) else ((m_joint_sum_L1 N ae ag) aa ab ac)
termination_by structural x => x
def m_joint_sum (N : Nat) (aa : (ByteArray × (List ByteArray) × (List (List ByteArray)) × (List (List Int)) × (List (List ((Bool × (List Int)) × (List Int)))))) (ac : (List (Int × Int))) : Option ((Bool × (List Int)) × (List Int)) :=
  (m_frac_Sum N ([] : List ((Bool × (List Int)) × (List Int)))).bind fun ab => (m_joint_All N (aa.1, aa.2.1, aa.2.2.1, aa.2.2.2.1, aa.2.2.2.2)).bind fun ad => m_joint_sum_L1 N ac ad ab.1.1 ab.1.2 ab.2
theorem c_joint_sum (N : Nat) (c1 : Nat) (c2 : Nat) (col : Col) (w0 : World) (bc : Option Addr) (bd : Nat) (be : Option Addr) (bf : Nat) (bg : Option Addr) (bh : Nat) (bi : Option Addr) (bj : Nat) (aa : (ByteArray × (List ByteArray) × (List (List ByteArray)) × (List (List Int)) × (List (List ((Bool × (List Int)) × (List Int)))))) (a1 : Option Addr) (cap1 : Nat) (aw : (List (Int × Int))) (bm : Sl Rep.str col w0 bc bd aa.2.1) (bn : Sl (Rep.slice Rep.str) col w0 be bf aa.2.2.1) (bo : Sl (Rep.slice (Rep.int .i64)) col w0 bg bh aa.2.2.2.1) (bp : Sl (Rep.slice (Rep.pair (Rep.pair Rep.bool (Rep.slice (Rep.int .u32))) (Rep.slice (Rep.int .u32)))) col w0 bi bj aa.2.2.2.2) (h1 : Sl (Rep.pair (Rep.int .i64) (Rep.int .i64)) col w0 a1 cap1 aw) (r : ((Bool × (List Int)) × (List Int))) (hm : m_joint_sum N aa aw = some r) :
    Calls Tryz.prog 45 #[(.agg #[(.string aa.1), (.slice bc aa.2.1.length bd), (.slice be aa.2.2.1.length bf), (.slice bg aa.2.2.2.1.length bh), (.slice bi aa.2.2.2.2.length bj)]), (.slice a1 aw.length cap1)] w0 (fun e w' => ∃ (col' : Col) (ra1 : Option Addr) (rc2 : Nat) (ra4 : Option Addr) (rc5 : Nat), e = .returned ((.agg #[(.bool r.1.1), (.slice ra1 r.1.2.length rc2), (.slice ra4 r.2.length rc5)])) ∧ Grow col w0 col' w' ∧ Own (Rep.int .u32) 114 c1 col' w' ra1 rc2 r.1.2 ∧ Own (Rep.int .u32) 114 c2 col' w' ra4 rc5 r.2) := by
 refine calls_ofMR (m := 20) (args := [(.agg #[(.string aa.1), (.slice bc aa.2.1.length bd), (.slice be aa.2.2.1.length bf), (.slice bg aa.2.2.2.1.length bh), (.slice bi aa.2.2.2.2.length bj)]), (.slice a1 aw.length cap1)]) Tryz.func45 rfl rfl rfl ?_
 rw [m_joint_sum.eq_1] at hm
 have hst := St.start col w0
 replace bm := bm.keep (Stay.start col w0)
 replace bn := bn.keep (Stay.start col w0)
 replace bo := bo.keep (Stay.start col w0)
 replace bp := bp.keep (Stay.start col w0)
 replace h1 := h1.keep (Stay.start col w0)
 have hmk : Marks 499 (col0 col) w0 [] := .nil
 refine wS <| wR ?_
 refine l_box (col := (col0 col)) (v := (.agg #[(.string aa.1), (.slice bc aa.2.1.length bd), (.slice be aa.2.2.1.length bf), (.slice bg aa.2.2.2.1.length bh), (.slice bi aa.2.2.2.2.length bj)])) 1 rfl rfl ?_
 intro cx cy ck bk bq
 replace bq : Box 28 1 ck cy cx #[(.string aa.1), (.slice bc aa.2.1.length bd), (.slice be aa.2.2.1.length bf), (.slice bg aa.2.2.2.1.length bh), (.slice bi aa.2.2.2.2.length bj)] := bq
 refine l_box (col := ck) (v := (.slice a1 aw.length cap1)) 2 rfl rfl ?_
 intro cl cz cm ba ab
 replace ab : Box 49 2 cm cz cl #[(.slice a1 aw.length cap1)] := ab
 refine l_alloc (col := cm) (v := (.agg #[(.bool false), (.slice none (([] : List Int).length) 0), (.slice none (([] : List Int).length) 0)])) 3 rfl Tryz.zeroValue40 ?_
 intro b3 c0 cn a6 ac
 replace ac : Box 40 3 cn c0 b3 #[(.bool false), (.slice none (([] : List Int).length) 0), (.slice none (([] : List Int).length) 0)] := ac
 refine lN <| wS <| wR ?_
 obtain ⟨ay, c3, hm⟩ := bS hm
 refine lc rfl rfl (r_call1 Tryz.call51 rfl) (c_frac_Sum N 4 5 cn _ none 0 ([] : List ((Bool × (List Int)) × (List Int))) Sl.nil ay c3) ?_
 rintro _ dn ⟨c4, b4, b5, b6, b7, rfl, az, b8, b9⟩
 refine ⟨_, rfl, ?_⟩
 refine l_alloc (col := c4) (v := (.agg #[(.bool false), (.slice none (([] : List Int).length) 0), (.slice none (([] : List Int).length) 0)])) 6 rfl Tryz.zeroValue40 ?_
 intro bt c5 ca aq bu
 replace bu : Box 40 6 ca c5 bt #[(.bool false), (.slice none (([] : List Int).length) 0), (.slice none (([] : List Int).length) 0)] := bu
 refine l_bstore (v := (.agg #[(.bool ay.1.1), (.slice b4 ay.1.2.length b5), (.slice b6 ay.2.length b7)])) bu Tryz.sizeOf40 rfl rfl (by intro u hu; simp only [Value.cells, List.mem_cons, List.not_mem_nil, or_false] at hu; rcases hu with rfl | rfl | rfl <;> rfl) rfl rfl ?_
 intro c6 ar c7 ad
 clear bu
 replace ad : Box 40 6 ca c6 bt #[(.bool ay.1.1), (.slice b4 ay.1.2.length b5), (.slice b6 ay.2.length b7)] := ad
 refine lN <| wS <| wS <| wR ?_
 replace bq := ((((bq.gr ba).gr a6).gr az).gr aq).kp ar
 refine lV (.agg #[(.string aa.1), (.slice bc aa.2.1.length bd), (.slice be aa.2.2.1.length bf), (.slice bg aa.2.2.2.1.length bh), (.slice bi aa.2.2.2.2.length bj)]) (r_ldN Tryz.isAgg28 Tryz.sizeOf28 rfl rfl bq.atN) ?_
 obtain ⟨co, c8, hm⟩ := bS hm
 replace bm := (((((bm.gr bk).gr ba).gr a6).gr az).gr aq).kp ar
 replace bn := (((((bn.gr bk).gr ba).gr a6).gr az).gr aq).kp ar
 replace bo := (((((bo.gr bk).gr ba).gr a6).gr az).gr aq).kp ar
 replace bp := (((((bp.gr bk).gr ba).gr a6).gr az).gr aq).kp ar
 refine lc rfl rfl (r_call1 Tryz.call52 rfl) (c_joint_All N 7 ca _ bc bd be bf bg bh bi bj (aa.1, aa.2.1, aa.2.2.1, aa.2.2.2.1, aa.2.2.2.2) bm bn bo bp co c8) ?_
 rintro _ dp ⟨c9, dq, rfl, bb, da⟩
 refine ⟨_, rfl, ?_⟩
 refine lN <| wB ?_
 replace h1 := ((((((h1.gr bk).gr ba).gr a6).gr az).gr aq).kp ar).gr bb
 replace hmk := ((((((hmk.gr bk).gr ba).gr a6).gr az).gr aq).kp ar).gr bb
 replace hst := ((((((hst.grow bk).grow ba).grow a6).grow az).grow aq).kp ar c7).grow bb
 replace ab := ((((ab.gr a6).gr az).gr aq).kp ar).gr bb
 replace ac := (((ac.gr az).gr aq).kp ar).gr bb
 replace b8 := ((b8.gr aq).kp ar).gr bb
 replace b9 := ((b9.gr aq).kp ar).gr bb
 replace ad := ad.gr bb
 refine wrange (psl := [11, 12]) (arr := (fun (y : (List Int) × ((Bool × (List Int)) × (List Int))) (col : Col) (w : World) (args : List Value) => ∃ (a0 : Option Addr) (cap0 : Nat) (a1_0_1 : Option Addr) (c1_0_1 : Nat) (cp : Option Addr) (cq : Nat), args = [.slice a0 y.1.length cap0, .agg #[(.bool y.2.1.1), (.slice a1_0_1 y.2.1.2.length c1_0_1), (.slice cp y.2.2.length cq)]] ∧ Own (Rep.int .i64) 3 7 col w a0 cap0 y.1 ∧ Sl (Rep.int .u32) col w a1_0_1 c1_0_1 y.2.1.2 ∧ Sl (Rep.int .u32) col w cp cq y.2.2)) (ys := co) (col := c9) 498 rfl da rfl hmk rfl rfl (by rintro _ _ _ _ ⟨_, _, _, _, _, _, rfl, _⟩; rfl) (fun ys_ ag ax => ∃ (au : Bool) (ah : Option Addr) (ai : Nat) (aj : List Int) (ak : Option Addr) (al : Nat) (am : List Int), m_joint_sum_L1 N aw ys_ au aj am = some r ∧ St w0 (col0 col) ag ax ∧ Sl (Rep.pair (Rep.int .i64) (Rep.int .i64)) ag ax a1 cap1 aw ∧ Box 49 2 ag ax cl #[(.slice a1 aw.length cap1)] ∧ Box 40 3 ag ax b3 #[(.bool false), (.slice none (([] : List Int).length) 0), (.slice none (([] : List Int).length) 0)] ∧ Own (Rep.int .u32) 114 4 ag ax ah ai aj ∧ Own (Rep.int .u32) 114 5 ag ax ak al am ∧ Box 40 6 ag ax bt #[(.bool au), (.slice ah aj.length ai), (.slice ak am.length al)]) (fun _ _ _ => False) ?_ ?_ ⟨ay.1.1, b4, b5, ay.1.2, b6, b7, ay.2, hm, hst, h1, ab, ac, b8, b9, ad⟩ ?_ ?_ ?_
 ·intro ys_ ag ax col2_ w2_ hJ hk
  obtain ⟨au, ah, ai, aj, ak, al, am, hm, hst, h1, ab, ac, a2, a3, ad⟩ := hJ
  exact ⟨au, ah, ai, aj, ak, al, am, hm, hst.kpp hk rfl rfl, h1.kpp hk rfl, ab.kpp hk rfl, ac.kpp hk rfl, a2.kpp hk rfl rfl, a3.kpp hk rfl rfl, ad.kpp hk rfl⟩
 ·intro _ _ _ _ _ h _
  exact h
 ·intro dr ds dt ae du ag ax args hJ hrec hmk harr
  obtain ⟨au, ah, ai, aj, ak, al, am, hm, hst, h1, ab, ac, a2, a3, ad⟩ := hJ
  rw [m_joint_sum_L1.eq_2] at hm
  have hki := KeepP.refl (pC 2) ag ax
  obtain ⟨cb, cc, bv, bw, bx, bz, rfl, cd, ce, cf⟩ := harr
  refine wS <| wR <| lA (.slice cb ae.1.length cc) <| lN <| wR ?_
  refine l_alloc (col := ag) (v := (.agg #[(.bool false), (.slice none (([] : List Int).length) 0), (.slice none (([] : List Int).length) 0)])) 8 rfl Tryz.zeroValue40 ?_
  intro cr db a4 an b0
  replace b0 : Box 40 8 a4 db cr #[(.bool false), (.slice none (([] : List Int).length) 0), (.slice none (([] : List Int).length) 0)] := b0
  refine l_bstore (v := (.agg #[(.bool ae.2.1.1), (.slice bv ae.2.1.2.length bw), (.slice bx ae.2.2.length bz)])) b0 Tryz.sizeOf40 rfl rfl (by intro u hu; simp only [Value.cells, List.mem_cons, List.not_mem_nil, or_false] at hu; rcases hu with rfl | rfl | rfl <;> rfl) rfl rfl ?_
  intro dc ao cs br
  clear b0
  replace br : Box 40 8 a4 dc cr #[(.bool ae.2.1.1), (.slice bv ae.2.1.2.length bw), (.slice bx ae.2.2.length bz)] := br
  refine lN ?_
  replace hrec := (hrec.gr an).kp ao
  refine ⟨_, hrec, ?_⟩
  intro dd dv ap ct hrec2
  clear hrec
  have hrec := hrec2
  clear hrec2
  refine wB <| wS <| wR <| lM (.slice cb ae.1.length cc) ?_
  replace ab := ((ab.gr an).kp ao).kp ap
  refine lV (.slice a1 aw.length cap1) (r_ld Tryz.isAgg49 rfl ab.at1) ?_
  obtain ⟨cu, de, hm⟩ := bS hm
  replace h1 := ((h1.gr an).kp ao).kp ap
  replace cd := ((cd.gr an).kp ao).kp ap
  refine lc rfl rfl (r_call2 Tryz.call53 rfl rfl) (c_joint_has (frC 7 a4) _ cb cc ae.1 a1 cap1 aw (cd.toSlF (Froz.int .i64)) (h1.froz 7) cu de) ?_
  rintro _ cv ⟨rfl, af⟩
  refine ⟨_, rfl, ?_⟩
  replace af : Grow a4 dd a4 cv := .of_below af
  refine lN ?_
  replace a2 := (((a2.gr an).kp ao).kp ap).gr af
  replace a3 := (((a3.gr an).kp ao).kp ap).gr af
  replace ce := (((ce.gr an).kp ao).kp ap).gr af
  replace cf := (((cf.gr an).kp ao).kp ap).gr af
  replace ac := (((ac.gr an).kp ao).kp ap).gr af
  replace ad := (((ad.gr an).kp ao).kp ap).gr af
  replace hmk := (((hmk.gr an).kp ao).kp ap).gr af
  replace hki := (((hki.gr an).kp ao cs rfl).kp ap ct rfl).gr af
  replace hst := (((hst.grow an).kp ao cs).kp ap ct).grow af
  replace br := (br.kp ap).gr af
  replace h1 := h1.gr af
  replace ab := ab.gr af
  replace hrec := hrec.gr af
  refine wcond (cu) rfl (fun hb => ?_) (fun hb => ?_)
  ·rw [if_pos hb] at hm
   clear hb
   refine wR <| lV (.agg #[(.bool au), (.slice ah aj.length ai), (.slice ak am.length al)]) (r_ldN Tryz.isAgg40 Tryz.sizeOf40 rfl rfl ad.atN) <| lV (.agg #[(.bool ae.2.1.1), (.slice bv ae.2.1.2.length bw), (.slice bx ae.2.2.length bz)]) (r_ldN Tryz.isAgg40 Tryz.sizeOf40 rfl rfl br.atN) ?_
   obtain ⟨a5, df, hm⟩ := bS hm
   refine lc rfl rfl (r_call2 Tryz.call27 rfl rfl) (c_frac_Add N 9 10 (frC 5 (frC 4 a4)) _ ah ai ak al ((au, aj), am) bv bw bx bz ((ae.2.1.1, ae.2.1.2), ae.2.2) ((a2.toSlF (Froz.int .u32)).froz 5) ((a3.froz 4 (by decide)).toSlF (Froz.int .u32)) ((ce.froz 4).froz 5) ((cf.froz 4).froz 5) a5 df) ?_
   rintro _ dw ⟨dg, cg, ch, ci, cj, rfl, av, a7, a8⟩
   refine ⟨_, rfl, ?_⟩
   replace a7 := a7.thaw (flat_int .u32) av (((Fz.refl (col := a4)).froz 4).froz 5) (by decide)
   replace a8 := a8.thaw (flat_int .u32) av (((Fz.refl (col := a4)).froz 4).froz 5) (by decide)
   replace av := av.thawR (col := a4)
   generalize colR cv.heap.size a4 dg = dh at *
   replace ad := ad.gr av
   refine l_bstore (v := (.agg #[(.bool a5.1.1), (.slice cg a5.1.2.length ch), (.slice ci a5.2.length cj)])) ad Tryz.sizeOf40 rfl rfl (by intro u hu; simp only [Value.cells, List.mem_cons, List.not_mem_nil, or_false] at hu; rcases hu with rfl | rfl | rfl <;> rfl) rfl rfl ?_
   intro di a9 cw bl
   clear ad
   replace bl : Box 40 6 dh di bt #[(.bool a5.1.1), (.slice cg a5.1.2.length ch), (.slice ci a5.2.length cj)] := bl
   refine lN ?_
   replace h1 := (h1.gr av).kp a9
   replace h1 := h1.recol 9 4 (by decide)
   replace a7 := a7.kp a9
   replace a7 := a7.recolSelf 4 (by decide)
   replace a8 := a8.kp a9
   replace a8 := a8.recol 9 4 (by decide)
   replace ab := (ab.gr av).kp a9
   replace ab := ab.recol 9 4 (by decide)
   replace ac := (ac.gr av).kp a9
   replace ac := ac.recol 9 4 (by decide)
   replace bl := bl.recol 9 4 (by decide)
   replace hrec := (hrec.gr av).kp a9
   replace hrec := hrec.recol 9 4 (by decide)
   replace hmk := (hmk.gr av).kp a9
   replace hmk := hmk.recol 9 4 (by decide)
   replace hki := (hki.gr av).kp a9 cw rfl
   replace hki := hki.recol 9 4 rfl
   replace hst := (hst.grow av).kp a9 cw
   replace hst := hst.recol 9 4 (by decide) (by decide)
   replace h1 := h1.recol 10 5 (by decide)
   replace a7 := a7.recol 10 5 (by decide)
   replace a8 := a8.recolSelf 5 (by decide)
   replace ab := ab.recol 10 5 (by decide)
   replace ac := ac.recol 10 5 (by decide)
   replace bl := bl.recol 10 5 (by decide)
   replace hrec := hrec.recol 10 5 (by decide)
   replace hmk := hmk.recol 10 5 (by decide)
   replace hki := hki.recol 10 5 rfl
   replace hst := hst.recol 10 5 (by decide) (by decide)
   exact ⟨_, hki, ⟨a5.1.1, cg, ch, a5.1.2, ci, cj, a5.2, hm, hst, h1, ab, ac, a7, a8, bl⟩, hrec, hmk⟩
  rw [if_neg (by rw [hb]; decide)] at hm
  clear hb
  refine wK ?_
  exact ⟨_, hki, ⟨au, ah, ai, aj, ak, al, am, hm, hst, h1, ab, ac, a2, a3, ad⟩, hrec, hmk⟩
 ·clear hmk
  intro dj ag ax hJ hmk
  obtain ⟨au, ah, ai, aj, ak, al, am, hm, hst, h1, ab, ac, a2, a3, ad⟩ := hJ
  rw [m_joint_sum_L1.eq_1] at hm
  refine wS <| wR <| lV (.agg #[(.bool au), (.slice ah aj.length ai), (.slice ak am.length al)]) (r_ldN Tryz.isAgg40 Tryz.sizeOf40 rfl rfl ad.atN) ?_
  refine l_bstore (v := (.agg #[(.bool au), (.slice ah aj.length ai), (.slice ak am.length al)])) ac Tryz.sizeOf40 rfl rfl (by intro u hu; simp only [Value.cells, List.mem_cons, List.not_mem_nil, or_false] at hu; rcases hu with rfl | rfl | rfl <;> rfl) rfl rfl ?_
  intro dk b1 dl bs
  clear ac
  replace bs : Box 40 3 ag dk b3 #[(.bool au), (.slice ah aj.length ai), (.slice ak am.length al)] := bs
  refine lN ?_
  refine wret ?_
  cases hm
  replace hmk := hmk.kp b1
  refine ⟨_, (dj :: []), rfl, hmk, ?_⟩
  intro dx b2 dm
  clear hmk
  replace a2 := (a2.kp b1).kp b2
  replace a3 := (a3.kp b1).kp b2
  replace hst := (hst.kp b1 dl).kp b2 dm
  replace bs := bs.kp b2
  exact ⟨_, res_a rfl rfl Tryz.isAgg40 Tryz.sizeOf40 rfl rfl bs.atN, colF w0.heap.size col ag (fun n => bif Nat.beq n 4 then c1 else bif Nat.beq n 5 then c2 else 0), ah, ai, ak, al, rfl, hst.fin (fun n => bif Nat.beq n 4 then c1 else bif Nat.beq n 5 then c2 else 0), hst.finOwn (g := (fun n => bif Nat.beq n 4 then c1 else bif Nat.beq n 5 then c2 else 0)) rfl a2 (by decide) (by decide) rfl, hst.finOwn (g := (fun n => bif Nat.beq n 4 then c1 else bif Nat.beq n 5 then c2 else 0)) rfl a3 (by decide) (by decide) rfl⟩
 intro _ _ _ _ h
 exact h.elim
def m_joint_Sum (N : Nat) (aa : (ByteArray × (List ByteArray) × (List (List ByteArray)) × (List (List Int)) × (List (List ((Bool × (List Int)) × (List Int)))))) (ac : (List (Int × Int))) : Option (((Bool × (List Int)) × (List Int)) × Int) :=
  (m_joint_check N (aa.1, aa.2.1, aa.2.2.1, aa.2.2.2.1, aa.2.2.2.2) ac ([] : List Int)).bind fun ad => if (!decide (ad.2 = 0)) = true then none else ((m_joint_sum N (aa.1, aa.2.1, aa.2.2.1, aa.2.2.2.1, aa.2.2.2.2) ac).bind fun ab => some (((ab.1.1, ab.1.2), ab.2), 0))
theorem c_joint_Sum (N : Nat) (c1 : Nat) (c2 : Nat) (col : Col) (w0 : World) (ac : Option Addr) (ad : Nat) (ae : Option Addr) (af : Nat) (ag : Option Addr) (ah : Nat) (ai : Option Addr) (aj : Nat) (aa : (ByteArray × (List ByteArray) × (List (List ByteArray)) × (List (List Int)) × (List (List ((Bool × (List Int)) × (List Int)))))) (a1 : Option Addr) (cap1 : Nat) (ak : (List (Int × Int))) (aq : Sl Rep.str col w0 ac ad aa.2.1) (ar : Sl (Rep.slice Rep.str) col w0 ae af aa.2.2.1) (au : Sl (Rep.slice (Rep.int .i64)) col w0 ag ah aa.2.2.2.1) (av : Sl (Rep.slice (Rep.pair (Rep.pair Rep.bool (Rep.slice (Rep.int .u32))) (Rep.slice (Rep.int .u32)))) col w0 ai aj aa.2.2.2.2) (h1 : Sl (Rep.pair (Rep.int .i64) (Rep.int .i64)) col w0 a1 cap1 ak) (r : (((Bool × (List Int)) × (List Int)) × Int)) (hm : m_joint_Sum N aa ak = some r) :
    Calls Tryz.prog 14 #[(.agg #[(.string aa.1), (.slice ac aa.2.1.length ad), (.slice ae aa.2.2.1.length af), (.slice ag aa.2.2.2.1.length ah), (.slice ai aa.2.2.2.2.length aj)]), (.slice a1 ak.length cap1)] w0 (fun e w' => ∃ (col' : Col) (ra1 : Option Addr) (rc2 : Nat) (ra4 : Option Addr) (rc5 : Nat), e = .returned (.tuple #[(.agg #[(.bool r.1.1.1), (.slice ra1 r.1.1.2.length rc2), (.slice ra4 r.1.2.length rc5)]), (.int .i64 r.2)]) ∧ Grow col w0 col' w' ∧ Own (Rep.int .u32) 114 c1 col' w' ra1 rc2 r.1.1.2 ∧ Own (Rep.int .u32) 114 c2 col' w' ra4 rc5 r.1.2) := by
 refine calls_ofR (m := 21) (args := [(.agg #[(.string aa.1), (.slice ac aa.2.1.length ad), (.slice ae aa.2.2.1.length af), (.slice ag aa.2.2.2.1.length ah), (.slice ai aa.2.2.2.2.length aj)]), (.slice a1 ak.length cap1)]) Tryz.func14 rfl rfl rfl ?_
 rw [m_joint_Sum.eq_1] at hm
 have hst := St.start col w0
 refine wS <| wR ?_
 refine l_box (col := (col0 col)) (v := (.agg #[(.string aa.1), (.slice ac aa.2.1.length ad), (.slice ae aa.2.2.1.length af), (.slice ag aa.2.2.2.1.length ah), (.slice ai aa.2.2.2.2.length aj)])) 1 rfl rfl ?_
 intro bd be a8 aw al
 replace al : Box 28 1 a8 be bd #[(.string aa.1), (.slice ac aa.2.1.length ad), (.slice ae aa.2.2.1.length af), (.slice ag aa.2.2.2.1.length ah), (.slice ai aa.2.2.2.2.length aj)] := al
 refine l_alloc (col := a8) (v := (.agg #[(.bool false), (.slice none (([] : List Int).length) 0), (.slice none (([] : List Int).length) 0)])) 2 rfl Tryz.zeroValue40 ?_
 intro a9 bf ba ao am
 replace am : Box 40 2 ba bf a9 #[(.bool false), (.slice none (([] : List Int).length) 0), (.slice none (([] : List Int).length) 0)] := am
 refine lA (.int .i64 0) <| lN <| wS <| wS <| wR ?_
 replace al := al.gr ao
 refine lV (.agg #[(.string aa.1), (.slice ac aa.2.1.length ad), (.slice ae aa.2.2.1.length af), (.slice ag aa.2.2.2.1.length ah), (.slice ai aa.2.2.2.2.length aj)]) (r_ldN Tryz.isAgg28 Tryz.sizeOf28 rfl rfl al.atN) <| lM (.slice a1 ak.length cap1) ?_
 obtain ⟨ab, bg, hm⟩ := bS hm
 replace aq := ((aq.keep (Stay.start col w0)).gr aw).gr ao
 replace ar := ((ar.keep (Stay.start col w0)).gr aw).gr ao
 replace au := ((au.keep (Stay.start col w0)).gr aw).gr ao
 replace av := ((av.keep (Stay.start col w0)).gr aw).gr ao
 replace h1 := ((h1.keep (Stay.start col w0)).gr aw).gr ao
 refine lc rfl rfl (r_call3 Tryz.call44 rfl rfl rfl) (c_joint_check N 3 ba _ ac ad ae af ag ah ai aj (aa.1, aa.2.1, aa.2.2.1, aa.2.2.2.1, aa.2.2.2.2) a1 cap1 ak none 0 ([] : List Int) aq ar au av h1 Sl.nil ab bg) ?_
 rintro _ bl ⟨bh, ax, ay, rfl, an, bm⟩
 refine ⟨_, rfl, ?_⟩
 refine lM (.tuple #[(.slice ax ab.1.length ay), (.int .i64 ab.2)]) <| lV (.slice ax ab.1.length ay) (r_extract rfl rfl) <| lV (.int .i64 ab.2) (r_extract rfl rfl) <| lA (.slice ax ab.1.length ay) <| lA (.int .i64 ab.2) <| lN <| wS <| wR <| lM (.int .i64 ab.2) <| lV (.bool (!decide (ab.2 = 0))) (r_neq ab.2 0 rfl rfl) <| lN ?_
 replace hst := ((hst.grow aw).grow ao).grow an
 replace h1 := h1.gr an
 replace aq := aq.gr an
 replace ar := ar.gr an
 replace au := au.gr an
 replace av := av.gr an
 replace al := al.gr an
 replace am := am.gr an
 refine wcond (!decide (ab.2 = 0)) rfl (fun hb => ?_) (fun hb => ?_)
 ·rw [if_pos hb] at hm
  clear hb
  cases hm
 rw [if_neg (by rw [hb]; decide)] at hm
 clear hb
 refine wK <| wS <| wR <| lV (.agg #[(.string aa.1), (.slice ac aa.2.1.length ad), (.slice ae aa.2.2.1.length af), (.slice ag aa.2.2.2.1.length ah), (.slice ai aa.2.2.2.2.length aj)]) (r_ldN Tryz.isAgg28 Tryz.sizeOf28 rfl rfl al.atN) <| lM (.slice a1 ak.length cap1) ?_
 obtain ⟨ap, bi, hm⟩ := bS hm
 refine lc rfl rfl (r_call2 Tryz.call45 rfl rfl) (c_joint_sum N 4 5 bh _ ac ad ae af ag ah ai aj (aa.1, aa.2.1, aa.2.2.1, aa.2.2.2.1, aa.2.2.2.2) a1 cap1 ak aq ar au av h1 ap bi) ?_
 rintro _ bn ⟨bb, az, a0, a2, a3, rfl, bc, a4, a5⟩
 refine ⟨_, rfl, ?_⟩
 replace am := am.gr bc
 refine l_bstore (v := (.agg #[(.bool ap.1.1), (.slice az ap.1.2.length a0), (.slice a2 ap.2.length a3)])) am Tryz.sizeOf40 rfl rfl (by intro u hu; simp only [Value.cells, List.mem_cons, List.not_mem_nil, or_false] at hu; rcases hu with rfl | rfl | rfl <;> rfl) rfl rfl ?_
 intro bj a6 bk a7
 clear am
 replace a7 : Box 40 2 bb bj a9 #[(.bool ap.1.1), (.slice az ap.1.2.length a0), (.slice a2 ap.2.length a3)] := a7
 refine lA (.int .i64 0) <| lN ?_
 refine wret ?_
 cases hm
 replace hst := (hst.grow bc).kp a6 bk
 replace a4 := a4.kp a6
 replace a5 := a5.kp a6
 exact ⟨rfl, _, res_at rfl rfl Tryz.isAgg40 Tryz.sizeOf40 rfl rfl a7.atN rfl rfl, colF w0.heap.size col bb (fun n => bif Nat.beq n 4 then c1 else bif Nat.beq n 5 then c2 else 0), az, a0, a2, a3, rfl, hst.fin (fun n => bif Nat.beq n 4 then c1 else bif Nat.beq n 5 then c2 else 0), hst.finOwn (g := (fun n => bif Nat.beq n 4 then c1 else bif Nat.beq n 5 then c2 else 0)) rfl a4 (by decide) (by decide) rfl, hst.finOwn (g := (fun n => bif Nat.beq n 4 then c1 else bif Nat.beq n 5 then c2 else 0)) rfl a5 (by decide) (by decide) rfl⟩
theorem el48_47 : ElemOk Tryz.prog 48 2 16 := ⟨Tryz.t48, _, rfl, rfl, rfl, rfl, rfl⟩
def m_slices_Clone_api_Fix_api_Fix (aa : (List (Int × Int))) : Option (List (Int × Int)) :=
  chk ((([] : List (Int × Int)).length + aa.length) * 16 ≤ 140737488355328 ∧ ([] : List (Int × Int)).length + aa.length ≤ maxLen) (some (([] : List (Int × Int)) ++ aa))
theorem c_slices_Clone_api_Fix_api_Fix (c1 : Nat) (col : Col) (w0 : World) (a0 : Option Addr) (cap0 : Nat) (aa : (List (Int × Int))) (h0 : Sl (Rep.pair (Rep.int .i64) (Rep.int .i64)) col w0 a0 cap0 aa) (r : (List (Int × Int))) (hm : m_slices_Clone_api_Fix_api_Fix aa = some r) :
    Calls Tryz.prog 47 #[(.slice a0 aa.length cap0)] w0 (fun e w' => ∃ (col' : Col) (ra1 : Option Addr) (rc2 : Nat), e = .returned ((.slice ra1 r.length rc2)) ∧ Grow col w0 col' w' ∧ Own (Rep.pair (Rep.int .i64) (Rep.int .i64)) 48 c1 col' w' ra1 rc2 r) := by
 refine calls_of1 2 (m := 8) (args := [(.slice a0 aa.length cap0)]) Tryz.func47 rfl rfl rfl rfl rfl ?_
 rw [m_slices_Clone_api_Fix_api_Fix.eq_1] at hm
 have hst := St.start col w0
 refine wS <| wR <| lA (.slice none (([] : List (Int × Int)).length) 0) <| lN <| wS <| wS <| wR <| lM (.slice a0 aa.length cap0) ?_
 replace h0 := h0.keep (Stay.start col w0)
 rcases nil_or h0 with ab | ab
 ·replace hm : some ([] : List (Int × Int)) = some r := by have h0 := ab.2; subst h0; simpa [chk, maxLen] using hm
  refine lv (v := .bool a0.isNone) rfl rfl (r_eqlNil Tryz.underlying49 rfl) ?_
  refine .ld (d := 4) (v := .bool true) (congrArg Value.bool ab.1) ?_
  refine lN ?_
  refine wcondT rfl ?_
  refine wS <| wR <| lA (.slice none (([] : List (Int × Int)).length) 0) <| lN ?_
  refine wret ?_
  cases hm
  exact ⟨rfl, colF w0.heap.size col (col0 col) (fun n => 0), none, 0, rfl, hst.fin (fun n => 0), Own.nil⟩
 refine lv (v := .bool a0.isNone) rfl rfl (r_eqlNil Tryz.underlying49 rfl) ?_
 refine .ld (d := 4) (v := .bool false) (congrArg Value.bool ab) ?_
 refine lN ?_
 refine wcondF rfl ?_
 refine wK <| wS <| wR ?_
 refine l_lit0 (col := (col0 col)) (r := (Rep.pair (Rep.int .i64) (Rep.int .i64))) 1 rfl Tryz.underlying49 el48_47 rfl ?_
 intro am ah ai ac ad
 refine lM (.slice a0 aa.length cap0) ?_
 obtain ⟨ae, hm⟩ := cS hm
 replace h0 := h0.gr ac
 refine l_appendM (col := ai) (w := ah) (r := (Rep.pair (Rep.int .i64) (Rep.int .i64))) (c := 1) (c2 := 1) (xs := ([] : List (Int × Int))) (ys := aa) ad h0.srcC rfl Tryz.underlying49 el48_47 rfl rfl rfl ae.1 ae.2 (by decide) ?_
 intro af ag an aj ak al
 clear ad
 refine lA (.slice af ((([] : List (Int × Int)) ++ aa).length) ag) <| lN ?_
 refine wret ?_
 cases hm
 replace hst := (hst.grow ac).kpp ak
 exact ⟨rfl, colF w0.heap.size col aj (fun n => bif Nat.beq n 1 then c1 else 0), af, ag, rfl, hst.fin (fun n => bif Nat.beq n 1 then c1 else 0), hst.finOwn (g := (fun n => bif Nat.beq n 1 then c1 else 0)) rfl al (by decide) (by decide) rfl⟩
def m_frac_Div (N : Nat) (ab : ((Bool × (List Int)) × (List Int))) (aa : ((Bool × (List Int)) × (List Int))) : Option (((Bool × (List Int)) × (List Int)) × Int) :=
  (m_frac_Sign N ((aa.1.1, aa.1.2), aa.2)).bind fun ad => if (decide (ad = 0)) = true then none else ((m_frac_under N ((aa.1.1, aa.1.2), aa.2)).bind fun ae => (m_nat_Mul N ab.1.2 ae).bind fun af => (m_frac_under N ((ab.1.1, ab.1.2), ab.2)).bind fun ag => (m_nat_Mul N ag aa.1.2).bind fun ah => (m_frac_lowest N (!decide (ab.1.1 = aa.1.1)) af ah).bind fun ac => some (((ac.1.1, ac.1.2), ac.2), 0))
theorem c_frac_Div (N : Nat) (c1 : Nat) (c2 : Nat) (col : Col) (w0 : World) (ah : Option Addr) (ai : Nat) (ay : Option Addr) (az : Nat) (ab : ((Bool × (List Int)) × (List Int))) (af : Option Addr) (ag : Nat) (an : Option Addr) (ao : Nat) (aa : ((Bool × (List Int)) × (List Int))) (aj : Sl (Rep.int .u32) col w0 ah ai ab.1.2) (ap : Sl (Rep.int .u32) col w0 ay az ab.2) (ad : Sl (Rep.int .u32) col w0 af ag aa.1.2) (av : Sl (Rep.int .u32) col w0 an ao aa.2) (r : (((Bool × (List Int)) × (List Int)) × Int)) (hm : m_frac_Div N ab aa = some r) :
    Calls Tryz.prog 36 #[(.agg #[(.bool ab.1.1), (.slice ah ab.1.2.length ai), (.slice ay ab.2.length az)]), (.agg #[(.bool aa.1.1), (.slice af aa.1.2.length ag), (.slice an aa.2.length ao)])] w0 (fun e w' => ∃ (col' : Col) (ra1 : Option Addr) (rc2 : Nat) (ra4 : Option Addr) (rc5 : Nat), e = .returned (.tuple #[(.agg #[(.bool r.1.1.1), (.slice ra1 r.1.1.2.length rc2), (.slice ra4 r.1.2.length rc5)]), (.int .i64 r.2)]) ∧ Grow col w0 col' w' ∧ Own (Rep.int .u32) 114 c1 col' w' ra1 rc2 r.1.1.2 ∧ Own (Rep.int .u32) 114 c2 col' w' ra4 rc5 r.1.2) := by
 refine calls_ofR (m := 30) (args := [(.agg #[(.bool ab.1.1), (.slice ah ab.1.2.length ai), (.slice ay ab.2.length az)]), (.agg #[(.bool aa.1.1), (.slice af aa.1.2.length ag), (.slice an aa.2.length ao)])]) Tryz.func36 rfl rfl rfl ?_
 rw [m_frac_Div.eq_1] at hm
 have hst := St.start col w0
 refine wS <| wR ?_
 refine l_box (col := (col0 col)) (v := (.agg #[(.bool ab.1.1), (.slice ah ab.1.2.length ai), (.slice ay ab.2.length az)])) 1 rfl rfl ?_
 intro a9 b7 bp ba a0
 replace a0 : Box 40 1 bp b7 a9 #[(.bool ab.1.1), (.slice ah ab.1.2.length ai), (.slice ay ab.2.length az)] := a0
 refine l_box (col := bp) (v := (.agg #[(.bool aa.1.1), (.slice af aa.1.2.length ag), (.slice an aa.2.length ao)])) 2 rfl rfl ?_
 intro bb b8 bq a7 ak
 replace ak : Box 40 2 bq b8 bb #[(.bool aa.1.1), (.slice af aa.1.2.length ag), (.slice an aa.2.length ao)] := ak
 refine l_alloc (col := bq) (v := (.agg #[(.bool false), (.slice none (([] : List Int).length) 0), (.slice none (([] : List Int).length) 0)])) 3 rfl Tryz.zeroValue40 ?_
 intro br bs ae a1 ac
 replace ac : Box 40 3 ae bs br #[(.bool false), (.slice none (([] : List Int).length) 0), (.slice none (([] : List Int).length) 0)] := ac
 refine lA (.int .i64 0) <| lN <| wS <| wS <| wR ?_
 replace ak := ak.gr a1
 refine lV (.agg #[(.bool aa.1.1), (.slice af aa.1.2.length ag), (.slice an aa.2.length ao)]) (r_ldN Tryz.isAgg40 Tryz.sizeOf40 rfl rfl ak.atN) ?_
 obtain ⟨bg, b9, hm⟩ := bS hm
 replace ad := (((ad.keep (Stay.start col w0)).gr ba).gr a7).gr a1
 replace av := (((av.keep (Stay.start col w0)).gr ba).gr a7).gr a1
 refine lc rfl rfl (r_call1 Tryz.call24 rfl) (c_frac_Sign N ae _ af ag an ao ((aa.1.1, aa.1.2), aa.2) ad av bg b9) ?_
 rintro _ bt ⟨rfl, al⟩
 refine ⟨_, rfl, ?_⟩
 replace al : Grow ae bs ae bt := .of_below al
 refine lV (.bool (decide (bg = 0))) (r_eql bg 0 rfl rfl) <| lN ?_
 replace aj := ((((aj.keep (Stay.start col w0)).gr ba).gr a7).gr a1).gr al
 replace ap := ((((ap.keep (Stay.start col w0)).gr ba).gr a7).gr a1).gr al
 replace hst := (((hst.grow ba).grow a7).grow a1).grow al
 replace a0 := ((a0.gr a7).gr a1).gr al
 replace ad := ad.gr al
 replace av := av.gr al
 replace ak := ak.gr al
 replace ac := ac.gr al
 refine wcond (decide (bg = 0)) rfl (fun hb => ?_) (fun hb => ?_)
 ·rw [if_pos hb] at hm
  clear hb
  cases hm
 rw [if_neg (by rw [hb]; decide)] at hm
 clear hb
 refine wK <| wS ?_
 refine wmix (col := ae) [(0, 1), (1, 1), (2, 0), (3, 1), (4, 1), (5, 0), (6, 1), (7, 1), (8, 1), (9, 0), (10, 0), (13, 0), (15, 1), (16, 1), (17, 0), (11, 3), (12, 3), (14, 3), (18, 3), (19, 3), (20, 2), (21, 1)] (by kernel_rfl) (by kernel_rfl) ?_
 refine xu (v := (.pointer ((some (⟨a9, 0, none⟩ : Addr)).map (·.add 0)))) rfl rfl (fun _ => rF (sz := 2) (off := 0) Tryz.underlying40 rfl Tryz.sizeOf38 (by decide) rfl rfl ⟨_, _, rfl⟩) ?_
 refine xu (v := (.pointer (((some (⟨a9, 0, none⟩ : Addr)).map (·.add 0)).map (·.add 0)))) rfl rfl (fun _ => rF (sz := 1) (off := 0) Tryz.underlying38 rfl Tryz.sizeOf4 (by decide) rfl rfl (sptr_addr ⟨_, _, rfl⟩)) ?_
 refine xv (v := (.bool ab.1.1)) rfl rfl (fun _ hC => r_ld Tryz.isAgg4 rfl (((((a0.atN).part 0 2 _ rfl)).nth (q := 0) (v := (.bool ab.1.1)) rfl).gr (Grow.of_below (col := ae) hC.below))) ?_
 refine xu (v := (.pointer ((some (⟨bb, 0, none⟩ : Addr)).map (·.add 0)))) rfl rfl (fun _ => rF (sz := 2) (off := 0) Tryz.underlying40 rfl Tryz.sizeOf38 (by decide) rfl rfl ⟨_, _, rfl⟩) ?_
 refine xu (v := (.pointer (((some (⟨bb, 0, none⟩ : Addr)).map (·.add 0)).map (·.add 0)))) rfl rfl (fun _ => rF (sz := 1) (off := 0) Tryz.underlying38 rfl Tryz.sizeOf4 (by decide) rfl rfl (sptr_addr ⟨_, _, rfl⟩)) ?_
 refine xv (v := (.bool aa.1.1)) rfl rfl (fun _ hC => r_ld Tryz.isAgg4 rfl (((((ak.atN).part 0 2 _ rfl)).nth (q := 0) (v := (.bool aa.1.1)) rfl).gr (Grow.of_below (col := ae) hC.below))) ?_
 refine xu (v := (.bool (!decide (ab.1.1 = aa.1.1)))) rfl rfl (fun _ => r_neqB ab.1.1 aa.1.1 Tryz.underlying4 rfl rfl) ?_
 refine xu (v := (.pointer ((some (⟨a9, 0, none⟩ : Addr)).map (·.add 0)))) rfl rfl (fun _ => rF (sz := 2) (off := 0) Tryz.underlying40 rfl Tryz.sizeOf38 (by decide) rfl rfl ⟨_, _, rfl⟩) ?_
 refine xu (v := (.pointer (((some (⟨a9, 0, none⟩ : Addr)).map (·.add 0)).map (·.add 1)))) rfl rfl (fun _ => rF (sz := 1) (off := 1) Tryz.underlying38 rfl Tryz.sizeOf36 (by decide) rfl rfl (sptr_addr ⟨_, _, rfl⟩)) ?_
 refine xv (v := (.slice ah ab.1.2.length ai)) rfl rfl (fun _ hC => r_ld Tryz.isAgg36 rfl (((((a0.atN).part 0 2 _ rfl)).nth (q := 1) (v := (.slice ah ab.1.2.length ai)) rfl).gr (Grow.of_below (col := ae) hC.below))) ?_
 refine xv (v := (.agg #[(.bool aa.1.1), (.slice af aa.1.2.length ag), (.slice an aa.2.length ao)])) rfl rfl (fun _ hC => r_ldN Tryz.isAgg40 Tryz.sizeOf40 rfl rfl (ak.atN.gr (Grow.of_below (col := ae) hC.below))) ?_
 refine xv (v := (.agg #[(.bool ab.1.1), (.slice ah ab.1.2.length ai), (.slice ay ab.2.length az)])) rfl rfl (fun _ hC => r_ldN Tryz.isAgg40 Tryz.sizeOf40 rfl rfl (a0.atN.gr (Grow.of_below (col := ae) hC.below))) ?_
 refine xu (v := (.pointer ((some (⟨bb, 0, none⟩ : Addr)).map (·.add 0)))) rfl rfl (fun _ => rF (sz := 2) (off := 0) Tryz.underlying40 rfl Tryz.sizeOf38 (by decide) rfl rfl ⟨_, _, rfl⟩) ?_
 refine xu (v := (.pointer (((some (⟨bb, 0, none⟩ : Addr)).map (·.add 0)).map (·.add 1)))) rfl rfl (fun _ => rF (sz := 1) (off := 1) Tryz.underlying38 rfl Tryz.sizeOf36 (by decide) rfl rfl (sptr_addr ⟨_, _, rfl⟩)) ?_
 refine xv (v := (.slice af aa.1.2.length ag)) rfl rfl (fun _ hC => r_ld Tryz.isAgg36 rfl (((((ak.atN).part 0 2 _ rfl)).nth (q := 1) (v := (.slice af aa.1.2.length ag)) rfl).gr (Grow.of_below (col := ae) hC.below))) ?_
 refine xe rfl rfl ?_
 intro ca hC0
 have hC : Grow ae bt ae ca := .of_below hC0.below
 obtain ⟨bu, cb, hm⟩ := bS hm
 replace ad := ad.gr hC
 replace av := av.gr hC
 refine lc rfl rfl (r_call1 Tryz.call56 rfl) (c_frac_under N 4 ae _ af ag an ao ((aa.1.1, aa.1.2), aa.2) ad av bu cb) ?_
 rintro _ bv ⟨aw, cc, cd, rfl, a8, bh⟩
 refine ⟨_, rfl, ?_⟩
 refine lN ⟨fun w' => Grow aw bv aw w', Grow.refl _ _, fun _ _ h => cls hC0 a8 h, ?_⟩
 refine xe rfl rfl ?_
 intro bw hC0
 replace aj := (aj.gr hC).gr a8
 replace ap := (ap.gr hC).gr a8
 replace ac := (ac.gr hC).gr a8
 replace hst := (hst.grow hC).grow a8
 have hC : Grow aw bv aw bw := .of_below hC0.below
 obtain ⟨bx, ce, hm⟩ := bS hm
 replace aj := aj.gr hC
 replace bh := bh.gr hC
 refine lc rfl rfl (r_call2 Tryz.call40 rfl rfl) (c_nat_Mul N 5 (frC 4 aw) _ ah ai ab.1.2 cc cd bu (aj.froz 4) (bh.toSlF (Froz.int .u32)) bx ce) ?_
 rintro _ bz ⟨cf, cg, ch, rfl, aq, ar⟩
 refine ⟨_, rfl, ?_⟩
 replace ar := ar.thaw (flat_int .u32) aq ((Fz.refl (col := aw)).froz 4) (by decide)
 replace aq := aq.thawR (col := aw)
 generalize colR bw.heap.size aw cf = bc at *
 refine lN ⟨fun w' => Grow bc bz bc w', Grow.refl _ _, fun _ _ h => cls hC0 aq h, ?_⟩
 refine xe rfl rfl ?_
 intro ci hC0
 replace ad := ((ad.gr a8).gr hC).gr aq
 replace ap := (ap.gr hC).gr aq
 replace ac := (ac.gr hC).gr aq
 replace hst := (hst.grow hC).grow aq
 have hC : Grow bc bz bc ci := .of_below hC0.below
 obtain ⟨b0, cj, hm⟩ := bS hm
 replace aj := (aj.gr aq).gr hC
 replace ap := ap.gr hC
 refine lc rfl rfl (r_call1 Tryz.call56 rfl) (c_frac_under N 6 bc _ ah ai ay az ((ab.1.1, ab.1.2), ab.2) aj ap b0 cj) ?_
 rintro _ b1 ⟨ax, ck, cl, rfl, bd, bi⟩
 refine ⟨_, rfl, ?_⟩
 refine lN ⟨fun w' => Grow ax b1 ax w', Grow.refl _ _, fun _ _ h => cls hC0 bd h, ?_⟩
 refine xe rfl rfl ?_
 intro b2 hC0
 replace ad := (ad.gr hC).gr bd
 replace ar := (ar.gr hC).gr bd
 replace ac := (ac.gr hC).gr bd
 replace hst := (hst.grow hC).grow bd
 have hC : Grow ax b1 ax b2 := .of_below hC0.below
 obtain ⟨b3, cm, hm⟩ := bS hm
 replace ad := ad.gr hC
 replace bi := bi.gr hC
 refine lc rfl rfl (r_call2 Tryz.call40 rfl rfl) (c_nat_Mul N 7 (frC 6 ax) _ ck cl b0 af ag aa.1.2 (bi.toSlF (Froz.int .u32)) (ad.froz 6) b3 cm) ?_
 rintro _ b4 ⟨cn, co, cp, rfl, a2, be⟩
 refine ⟨_, rfl, ?_⟩
 replace be := be.thaw (flat_int .u32) a2 ((Fz.refl (col := ax)).froz 6) (by decide)
 replace a2 := a2.thawR (col := ax)
 generalize colR b2.heap.size ax cn = au at *
 refine lN ⟨fun w' => Grow au b4 au w', Grow.refl _ _, fun _ _ h => cls hC0 a2 h, ?_⟩
 refine xe rfl rfl ?_
 intro b5 hC0
 replace ar := (ar.gr hC).gr a2
 replace ac := (ac.gr hC).gr a2
 replace hst := (hst.grow hC).grow a2
 have hC : Grow au b4 au b5 := .of_below hC0.below
 obtain ⟨a3, cq, hm⟩ := bS hm
 replace ar := ar.gr hC
 replace be := be.gr hC
 refine lc rfl rfl (r_call3 Tryz.call55 rfl rfl rfl) (c_frac_lowest N 8 9 (frC 7 (frC 5 au)) _ (!decide (ab.1.1 = aa.1.1)) cg ch bx co cp b3 ((ar.toSlF (Froz.int .u32)).froz 7) ((be.froz 5 (by decide)).toSlF (Froz.int .u32)) a3 cq) ?_
 rintro _ b6 ⟨cr, bj, bk, bl, bm, rfl, a4, a5, a6⟩
 refine ⟨_, rfl, ?_⟩
 replace a5 := a5.thaw (flat_int .u32) a4 (((Fz.refl (col := au)).froz 5).froz 7) (by decide)
 replace a6 := a6.thaw (flat_int .u32) a4 (((Fz.refl (col := au)).froz 5).froz 7) (by decide)
 replace a4 := a4.thawR (col := au)
 generalize colR b5.heap.size au cr = am at *
 refine lN ⟨fun w' => Grow am b6 am w', Grow.refl _ _, fun _ _ h => cls hC0 a4 h, ?_⟩
 refine xe rfl rfl ?_
 intro cs hC0
 replace ac := (ac.gr hC).gr a4
 replace hst := (hst.grow hC).grow a4
 have hC : Grow am b6 am cs := .of_below hC0.below
 replace ac := ac.gr hC
 refine l_bstore (v := (.agg #[(.bool a3.1.1), (.slice bj a3.1.2.length bk), (.slice bl a3.2.length bm)])) ac Tryz.sizeOf40 rfl rfl (by intro u hu; simp only [Value.cells, List.mem_cons, List.not_mem_nil, or_false] at hu; rcases hu with rfl | rfl | rfl <;> rfl) rfl rfl ?_
 intro bn bo ct bf
 clear ac
 replace bf : Box 40 3 am bn br #[(.bool a3.1.1), (.slice bj a3.1.2.length bk), (.slice bl a3.2.length bm)] := bf
 refine lN ⟨fun w' => Grow am bn am w', Grow.refl _ _, fun h => absurd h (by decide), ?_⟩
 refine xu (v := (.int .i64 0)) rfl rfl (fun _ => r_assign rfl) ?_
 refine xnil ?_
 replace a5 := (a5.gr hC).kp bo
 replace a6 := (a6.gr hC).kp bo
 replace hst := (hst.grow hC).kp bo ct
 intro cu hC
 replace hC : Grow am bn am cu := .of_below hC.below
 refine wret ?_
 cases hm
 replace a5 := a5.gr hC
 replace a6 := a6.gr hC
 replace bf := bf.gr hC
 replace hst := hst.grow hC
 exact ⟨rfl, _, res_at rfl rfl Tryz.isAgg40 Tryz.sizeOf40 rfl rfl bf.atN rfl rfl, colF w0.heap.size col am (fun n => bif Nat.beq n 8 then c1 else bif Nat.beq n 9 then c2 else 0), bj, bk, bl, bm, rfl, hst.fin (fun n => bif Nat.beq n 8 then c1 else bif Nat.beq n 9 then c2 else 0), hst.finOwn (g := (fun n => bif Nat.beq n 8 then c1 else bif Nat.beq n 9 then c2 else 0)) rfl a5 (by decide) (by decide) rfl, hst.finOwn (g := (fun n => bif Nat.beq n 8 then c1 else bif Nat.beq n 9 then c2 else 0)) rfl a6 (by decide) (by decide) rfl⟩
theorem el48_16 : ElemOk Tryz.prog 48 2 16 := ⟨Tryz.t48, _, rfl, rfl, rfl, rfl, rfl⟩
def m_joint_Ask (N : Nat) (aa : (ByteArray × (List ByteArray) × (List (List ByteArray)) × (List (List Int)) × (List (List ((Bool × (List Int)) × (List Int)))))) (ag : (List (Int × Int))) (ab : (List (Int × Int))) : Option (((Bool × (List Int)) × (List Int)) × Int) :=
  (m_slices_Clone_api_Fix_api_Fix ag).bind fun ac => chk ((ac.length + ab.length) * 16 ≤ 140737488355328 ∧ ac.length + ab.length ≤ maxLen) ((m_joint_check N (aa.1, aa.2.1, aa.2.2.1, aa.2.2.2.1, aa.2.2.2.2) (ac ++ ab) ([] : List Int)).bind fun ah => if (!decide (ah.2 = 0)) = true then none else ((m_joint_sum N (aa.1, aa.2.1, aa.2.2.1, aa.2.2.2.1, aa.2.2.2.2) (ac ++ ab)).bind fun ae => (m_joint_sum N (aa.1, aa.2.1, aa.2.2.1, aa.2.2.2.1, aa.2.2.2.2) ab).bind fun af => (m_frac_Div N ((ae.1.1, ae.1.2), ae.2) ((af.1.1, af.1.2), af.2)).bind fun ad => if (!decide (ad.2 = 0)) = true then none else (some (((ad.1.1.1, ad.1.1.2), ad.1.2), 0))))
theorem c_joint_Ask (N : Nat) (c1 : Nat) (c2 : Nat) (col : Col) (w0 : World) (aj : Option Addr) (ak : Nat) (al : Option Addr) (am : Nat) (an : Option Addr) (ao : Nat) (ap : Option Addr) (aq : Nat) (aa : (ByteArray × (List ByteArray) × (List (List ByteArray)) × (List (List Int)) × (List (List ((Bool × (List Int)) × (List Int)))))) (a1 : Option Addr) (cap1 : Nat) (bq : (List (Int × Int))) (a2 : Option Addr) (cap2 : Nat) (ag : (List (Int × Int))) (ar : Sl Rep.str col w0 aj ak aa.2.1) (au : Sl (Rep.slice Rep.str) col w0 al am aa.2.2.1) (av : Sl (Rep.slice (Rep.int .i64)) col w0 an ao aa.2.2.2.1) (aw : Sl (Rep.slice (Rep.pair (Rep.pair Rep.bool (Rep.slice (Rep.int .u32))) (Rep.slice (Rep.int .u32)))) col w0 ap aq aa.2.2.2.2) (h1 : Sl (Rep.pair (Rep.int .i64) (Rep.int .i64)) col w0 a1 cap1 bq) (h2 : Sl (Rep.pair (Rep.int .i64) (Rep.int .i64)) col w0 a2 cap2 ag) (r : (((Bool × (List Int)) × (List Int)) × Int)) (hm : m_joint_Ask N aa bq ag = some r) :
    Calls Tryz.prog 16 #[(.agg #[(.string aa.1), (.slice aj aa.2.1.length ak), (.slice al aa.2.2.1.length am), (.slice an aa.2.2.2.1.length ao), (.slice ap aa.2.2.2.2.length aq)]), (.slice a1 bq.length cap1), (.slice a2 ag.length cap2)] w0 (fun e w' => ∃ (col' : Col) (ra1 : Option Addr) (rc2 : Nat) (ra4 : Option Addr) (rc5 : Nat), e = .returned (.tuple #[(.agg #[(.bool r.1.1.1), (.slice ra1 r.1.1.2.length rc2), (.slice ra4 r.1.2.length rc5)]), (.int .i64 r.2)]) ∧ Grow col w0 col' w' ∧ Own (Rep.int .u32) 114 c1 col' w' ra1 rc2 r.1.1.2 ∧ Own (Rep.int .u32) 114 c2 col' w' ra4 rc5 r.1.2) := by
 refine calls_ofR (m := 41) (args := [(.agg #[(.string aa.1), (.slice aj aa.2.1.length ak), (.slice al aa.2.2.1.length am), (.slice an aa.2.2.2.1.length ao), (.slice ap aa.2.2.2.2.length aq)]), (.slice a1 bq.length cap1), (.slice a2 ag.length cap2)]) Tryz.func16 rfl rfl rfl ?_
 rw [m_joint_Ask.eq_1] at hm
 have hst := St.start col w0
 refine wS <| wR ?_
 refine l_box (col := (col0 col)) (v := (.agg #[(.string aa.1), (.slice aj aa.2.1.length ak), (.slice al aa.2.2.1.length am), (.slice an aa.2.2.2.1.length ao), (.slice ap aa.2.2.2.2.length aq)])) 1 rfl rfl ?_
 intro ci cj ca bk ax
 replace ax : Box 28 1 ca cj ci #[(.string aa.1), (.slice aj aa.2.1.length ak), (.slice al aa.2.2.1.length am), (.slice an aa.2.2.2.1.length ao), (.slice ap aa.2.2.2.2.length aq)] := ax
 refine l_alloc (col := ca) (v := (.agg #[(.bool false), (.slice none (([] : List Int).length) 0), (.slice none (([] : List Int).length) 0)])) 2 rfl Tryz.zeroValue40 ?_
 intro cb ck cc bd ae
 replace ae : Box 40 2 cc ck cb #[(.bool false), (.slice none (([] : List Int).length) 0), (.slice none (([] : List Int).length) 0)] := ae
 refine lA (.int .i64 0) <| lN <| wS <| wR <| lM (.slice a1 bq.length cap1) ?_
 obtain ⟨bl, cl, hm⟩ := bS hm
 replace h1 := ((h1.keep (Stay.start col w0)).gr bk).gr bd
 refine lc rfl rfl (r_call1 Tryz.call47 rfl) (c_slices_Clone_api_Fix_api_Fix 3 cc _ a1 cap1 bq h1 bl cl) ?_
 rintro _ cm ⟨cn, dc, dd, rfl, a6, cd⟩
 refine ⟨_, rfl, ?_⟩
 refine lM (.slice a2 ag.length cap2) ?_
 obtain ⟨ce, hm⟩ := cS hm
 replace h2 := (((h2.keep (Stay.start col w0)).gr bk).gr bd).gr a6
 refine l_appendM (col := cn) (w := cm) (r := (Rep.pair (Rep.int .i64) (Rep.int .i64))) (c := 3) (c2 := 3) (xs := bl) (ys := ag) cd h2.srcC rfl Tryz.underlying49 el48_16 rfl rfl rfl ce.1 ce.2 (by decide) ?_
 intro bs bt co b3 be br
 clear cd
 refine lA (.slice bs ((bl ++ ag).length) bt) <| lN <| wS <| wS <| wR ?_
 replace ax := ((ax.gr bd).gr a6).kpp be
 refine lV (.agg #[(.string aa.1), (.slice aj aa.2.1.length ak), (.slice al aa.2.2.1.length am), (.slice an aa.2.2.2.1.length ao), (.slice ap aa.2.2.2.2.length aq)]) (r_ldN Tryz.isAgg28 Tryz.sizeOf28 rfl rfl ax.atN) <| lM (.slice bs ((bl ++ ag).length) bt) ?_
 obtain ⟨ay, cp, hm⟩ := bS hm
 replace ar := ((((ar.keep (Stay.start col w0)).gr bk).gr bd).gr a6).kpp be
 replace au := ((((au.keep (Stay.start col w0)).gr bk).gr bd).gr a6).kpp be
 replace av := ((((av.keep (Stay.start col w0)).gr bk).gr bd).gr a6).kpp be
 replace aw := ((((aw.keep (Stay.start col w0)).gr bk).gr bd).gr a6).kpp be
 refine lc rfl rfl (r_call3 Tryz.call44 rfl rfl rfl) (c_joint_check N 4 (frC 3 b3) _ aj ak al am an ao ap aq (aa.1, aa.2.1, aa.2.2.1, aa.2.2.2.1, aa.2.2.2.2) bs bt (bl ++ ag) none 0 ([] : List Int) (ar.froz 3) (au.froz 3) (av.froz 3) (aw.froz 3) (br.toSlF (Froz.pair (Froz.int .i64) (Froz.int .i64))) Sl.nil ay cp) ?_
 rintro _ az ⟨cq, b4, b5, rfl, a0, de⟩
 refine ⟨_, rfl, ?_⟩
 replace a0 := a0.thawR (col := b3)
 generalize colR co.heap.size b3 cq = a3 at *
 refine lM (.tuple #[(.slice b4 ay.1.length b5), (.int .i64 ay.2)]) <| lV (.slice b4 ay.1.length b5) (r_extract rfl rfl) <| lV (.int .i64 ay.2) (r_extract rfl rfl) <| lA (.slice b4 ay.1.length b5) <| lA (.int .i64 ay.2) <| lN <| wS <| wR <| lM (.int .i64 ay.2) <| lV (.bool (!decide (ay.2 = 0))) (r_neq ay.2 0 rfl rfl) <| lN ?_
 replace hst := ((((hst.grow bk).grow bd).grow a6).kpp be).grow a0
 replace h1 := h1.gr a6
 replace ae := ((ae.gr a6).kpp be).gr a0
 replace h2 := (h2.kpp be).gr a0
 replace ar := ar.gr a0
 replace au := au.gr a0
 replace av := av.gr a0
 replace aw := aw.gr a0
 replace br := br.gr a0
 replace ax := ax.gr a0
 refine wcond (!decide (ay.2 = 0)) rfl (fun hb => ?_) (fun hb => ?_)
 ·rw [if_pos hb] at hm
  clear hb
  cases hm
 rw [if_neg (by rw [hb]; decide)] at hm
 clear hb
 refine wK <| wS ?_
 have a7 := KeepP.clip (fun _ => false) a3 az
 refine wmixF (col := a3) [(0, 0), (1, 1), (3, 0), (4, 1), (2, 3), (5, 3), (6, 3), (7, 1), (8, 1), (9, 1), (10, 4), (11, 2), (12, 1)] (by kernel_rfl) (by kernel_rfl) ⟨fun h => absurd h (by decide), fun h => absurd h (by decide), fun h => absurd h (by decide), fun h => absurd h (by decide), fun h => absurd h (by decide), fun h => absurd h (by decide), fun h => absurd h (by decide), fun h => absurd h (by decide), fun h => absurd h (by decide), fun h => absurd h (by decide), fun _ => ⟨_, _, _, rfl, free_alloc Tryz.zeroValue40⟩, fun h => absurd h (by decide), fun h => absurd h (by decide), trivial⟩ ?_
 replace ax := ax.kpp a7
 refine xvF (v := (.agg #[(.string aa.1), (.slice aj aa.2.1.length ak), (.slice al aa.2.2.1.length am), (.slice an aa.2.2.2.1.length ao), (.slice ap aa.2.2.2.2.length aq)])) rfl rfl (fun _ hC => r_ldN Tryz.isAgg28 Tryz.sizeOf28 rfl rfl (ax.atN.gr (Grow.of_below (col := (clipC az a3)) hC.below))) ?_
 refine xuF (v := (.slice bs ((bl ++ ag).length) bt)) rfl rfl (fun _ => r_move rfl) ?_
 refine xvF (v := (.agg #[(.string aa.1), (.slice aj aa.2.1.length ak), (.slice al aa.2.2.1.length am), (.slice an aa.2.2.2.1.length ao), (.slice ap aa.2.2.2.2.length aq)])) rfl rfl (fun _ hC => r_ldN Tryz.isAgg28 Tryz.sizeOf28 rfl rfl (ax.atN.gr (Grow.of_below (col := (clipC az a3)) hC.below))) ?_
 refine xuF (v := (.slice a2 ag.length cap2)) rfl rfl (fun _ => r_move rfl) ?_
 refine xeF rfl rfl ?_
 intro cf hC0
 have hC : Grow (clipC az a3) az (clipC az a3) cf := .of_below hC0.below
 obtain ⟨bw, cr, hm⟩ := bS hm
 replace ar := (ar.kpp a7).gr hC
 replace au := (au.kpp a7).gr hC
 replace av := (av.kpp a7).gr hC
 replace aw := (aw.kpp a7).gr hC
 replace br := (br.kpp a7).gr hC
 refine lc rfl rfl (r_call2 Tryz.call45 rfl rfl) (c_joint_sum N 5 6 (frC 3 (clipC az a3)) _ aj ak al am an ao ap aq (aa.1, aa.2.1, aa.2.2.1, aa.2.2.2.1, aa.2.2.2.2) bs bt (bl ++ ag) (ar.froz 3) (au.froz 3) (av.froz 3) (aw.froz 3) (br.toSlF (Froz.pair (Froz.int .i64) (Froz.int .i64))) bw cr) ?_
 rintro _ a8 ⟨cs, ct, cu, cv, cw, rfl, af, bm, bn⟩
 refine ⟨_, rfl, ?_⟩
 replace bm := bm.thaw (flat_int .u32) af ((Fz.refl (col := (clipC az a3))).froz 3) (by decide)
 replace bn := bn.thaw (flat_int .u32) af ((Fz.refl (col := (clipC az a3))).froz 3) (by decide)
 replace af := af.thawR (col := (clipC az a3))
 generalize colR cf.heap.size (clipC az a3) cs = bo at *
 replace h2 := ((h2.kpp a7).gr hC).gr af
 refine lN ⟨fun w' => Grow (clipC a8 bo) a8 (clipC a8 bo) w', fun g => (clipC a8 bo) g = 497, Grow.refl _ _, good_clip, fun _ => ⟨fun _ h => cls hC0 af h, fun b hb => af.below.block b hb, fun g h1 h2 => fcl af g h1 (by first | exact h2 | (simp only [frC, rcC, h2]; rfl))⟩, ?_⟩
 have a9 := KeepP.clip (fun _ => false) bo a8
 refine xeF rfl rfl ?_
 intro cx hC0
 replace ae := (((ae.kpp a7).gr hC).gr af).kpp a9
 replace hst := (((hst.kpp a7).grow hC).grow af).kpp a9
 have hC : Grow (clipC a8 bo) a8 (clipC a8 bo) cx := .of_below hC0.below
 obtain ⟨bx, cy, hm⟩ := bS hm
 replace ar := ((ar.gr af).kpp a9).gr hC
 replace au := ((au.gr af).kpp a9).gr hC
 replace av := ((av.gr af).kpp a9).gr hC
 replace aw := ((aw.gr af).kpp a9).gr hC
 replace h2 := (h2.kpp a9).gr hC
 refine lc rfl rfl (r_call2 Tryz.call45 rfl rfl) (c_joint_sum N 7 8 (clipC a8 bo) _ aj ak al am an ao ap aq (aa.1, aa.2.1, aa.2.2.1, aa.2.2.2.1, aa.2.2.2.2) a2 cap2 ag ar au av aw h2 bx cy) ?_
 rintro _ ah ⟨a4, cz, c0, c3, c4, rfl, bf, b6, b7⟩
 refine ⟨_, rfl, ?_⟩
 replace h2 := h2.gr bf
 refine lN ⟨fun w' => Grow (clipC ah a4) ah (clipC ah a4) w', fun g => (clipC ah a4) g = 497, Grow.refl _ _, good_clip, fun _ => ⟨fun _ h => cls hC0 bf h, fun b hb => bf.below.block b hb, fun g h1 h2 => fcl bf g h1 (by first | exact h2 | (simp only [frC, rcC, h2]; rfl))⟩, ?_⟩
 have bp := KeepP.clip (fun _ => false) a4 ah
 refine xeF rfl rfl ?_
 intro cg hC0
 replace bm := (((bm.kpp a9).gr hC).gr bf).kpp bp
 replace bn := (((bn.kpp a9).gr hC).gr bf).kpp bp
 replace ae := ((ae.gr hC).gr bf).kpp bp
 replace hst := ((hst.grow hC).grow bf).kpp bp
 have hC : Grow (clipC ah a4) ah (clipC ah a4) cg := .of_below hC0.below
 obtain ⟨ab, c5, hm⟩ := bS hm
 replace b6 := (b6.kpp bp).gr hC
 replace b7 := (b7.kpp bp).gr hC
 replace bm := bm.gr hC
 replace bn := bn.gr hC
 refine lc rfl rfl (r_call2 Tryz.call36 rfl rfl) (c_frac_Div N 9 10 (frC 8 (frC 7 (frC 6 (frC 5 (clipC ah a4))))) _ ct cu cv cw ((bw.1.1, bw.1.2), bw.2) cz c0 c3 c4 ((bx.1.1, bx.1.2), bx.2) ((((bm.toSlF (Froz.int .u32)).froz 6).froz 7).froz 8) ((((bn.froz 5 (by decide)).toSlF (Froz.int .u32)).froz 7).froz 8) ((((b6.froz 5 (by decide)).froz 6 (by decide)).toSlF (Froz.int .u32)).froz 8) ((((b7.froz 5 (by decide)).froz 6 (by decide)).froz 7 (by decide)).toSlF (Froz.int .u32)) ab c5) ?_
 rintro _ ac ⟨c6, bg, bh, bi, bj, rfl, ba, bb, bc⟩
 refine ⟨_, rfl, ?_⟩
 replace bb := bb.thaw (flat_int .u32) ba (((((Fz.refl (col := (clipC ah a4))).froz 5).froz 6).froz 7).froz 8) (by decide)
 replace bc := bc.thaw (flat_int .u32) ba (((((Fz.refl (col := (clipC ah a4))).froz 5).froz 6).froz 7).froz 8) (by decide)
 replace ba := ba.thawR (col := (clipC ah a4))
 generalize colR cg.heap.size (clipC ah a4) c6 = ad at *
 replace h2 := h2.kpp bp
 refine lN ⟨fun w' => Grow (clipC ac ad) ac (clipC ac ad) w', fun g => (clipC ac ad) g = 497, Grow.refl _ _, good_clip, fun _ => ⟨fun _ h => cls hC0 ba h, fun b hb => ba.below.block b hb, fun g h1 h2 => fcl ba g h1 (by first | exact h2 | (simp only [frC, rcC, h2]; rfl))⟩, ?_⟩
 have bz := KeepP.clip (fun _ => false) ad ac
 refine xuF (v := (.tuple #[(.agg #[(.bool ab.1.1.1), (.slice bg ab.1.1.2.length bh), (.slice bi ab.1.2.length bj)]), (.int .i64 ab.2)])) rfl rfl (fun _ => r_move rfl) ?_
 refine xuF (v := (.agg #[(.bool ab.1.1.1), (.slice bg ab.1.1.2.length bh), (.slice bi ab.1.2.length bj)])) rfl rfl (fun _ => r_extract rfl rfl) ?_
 refine xuF (v := (.int .i64 ab.2)) rfl rfl (fun _ => r_extract rfl rfl) ?_
 refine xaF rfl rfl (free_alloc Tryz.zeroValue40) ?_
 intro ai c7
 refine xeF rfl rfl ?_
 intro ch ⟨hC0, hZ0⟩
 replace ae := ((ae.gr hC).gr ba).kpp bz
 replace hst := ((hst.grow hC).grow ba).kpp bz
 have hC : Grow (clipC ac ad) ac (clipC ac ad) ch := .of_below hC0.below
 obtain ⟨b0, b1⟩ := box_float (col := (clipC ac ad)) 11 hZ0 c7
 replace b1 : Box 40 11 (setC ai 11 (clipC ac ad)) ch ai #[(.bool false), (.slice none (([] : List Int).length) 0), (.slice none (([] : List Int).length) 0)] := b1
 refine l_bstore (v := (.agg #[(.bool ab.1.1.1), (.slice bg ab.1.1.2.length bh), (.slice bi ab.1.2.length bj)])) b1 Tryz.sizeOf40 rfl rfl (by intro u hu; simp only [Value.cells, List.mem_cons, List.not_mem_nil, or_false] at hu; rcases hu with rfl | rfl | rfl <;> rfl) rfl rfl ?_
 intro a5 b2 c8 bu
 clear b1
 replace bu : Box 40 11 (setC ai 11 (clipC ac ad)) a5 ai #[(.bool ab.1.1.1), (.slice bg ab.1.1.2.length bh), (.slice bi ab.1.2.length bj)] := bu
 refine lN ⟨fun w' => Grow (clipC a5 (setC ai 11 (clipC ac ad))) a5 (clipC a5 (setC ai 11 (clipC ac ad))) w', fun g => (clipC a5 (setC ai 11 (clipC ac ad))) g = 497, Grow.refl _ _, good_clip, fun h => absurd h (by decide), ?_⟩
 have bv := KeepP.clip (fun _ => false) (setC ai 11 (clipC ac ad)) a5
 refine xuF (v := (.int .i64 ab.2)) rfl rfl (fun _ => r_assign rfl) ?_
 refine xnilF ?_
 replace bb := ((((bb.kpp bz).gr hC).kpp b0).kp b2).kpp bv
 replace bc := ((((bc.kpp bz).gr hC).kpp b0).kp b2).kpp bv
 replace ae := (((ae.gr hC).kpp b0).kp b2).kpp bv
 replace hst := (((hst.grow hC).kpp b0).kp b2 c8).kpp bv
 intro c9 hC
 replace hC : Grow (clipC a5 (setC ai 11 (clipC ac ad))) a5 (clipC a5 (setC ai 11 (clipC ac ad))) c9 := .of_below hC.below
 refine wS <| wS <| wR <| lM (.int .i64 ab.2) <| lV (.bool (!decide (ab.2 = 0))) (r_neq ab.2 0 rfl rfl) <| lN ?_
 replace bu := (bu.kpp bv).gr hC
 replace bb := bb.gr hC
 replace bc := bc.gr hC
 replace ae := ae.gr hC
 replace hst := hst.grow hC
 refine wcond (!decide (ab.2 = 0)) rfl (fun hb => ?_) (fun hb => ?_)
 ·rw [if_pos hb] at hm
  clear hb
  cases hm
 rw [if_neg (by rw [hb]; decide)] at hm
 clear hb
 refine wK <| wS <| wR <| lV (.agg #[(.bool ab.1.1.1), (.slice bg ab.1.1.2.length bh), (.slice bi ab.1.2.length bj)]) (r_ldN Tryz.isAgg40 Tryz.sizeOf40 rfl rfl bu.atN) ?_
 refine l_bstore (v := (.agg #[(.bool ab.1.1.1), (.slice bg ab.1.1.2.length bh), (.slice bi ab.1.2.length bj)])) ae Tryz.sizeOf40 rfl rfl (by intro u hu; simp only [Value.cells, List.mem_cons, List.not_mem_nil, or_false] at hu; rcases hu with rfl | rfl | rfl <;> rfl) rfl rfl ?_
 intro da b8 db b9
 clear ae
 replace b9 : Box 40 2 (clipC a5 (setC ai 11 (clipC ac ad))) da cb #[(.bool ab.1.1.1), (.slice bg ab.1.1.2.length bh), (.slice bi ab.1.2.length bj)] := b9
 refine lA (.int .i64 0) <| lN ?_
 refine wret ?_
 cases hm
 replace bb := bb.kp b8
 replace bc := bc.kp b8
 replace hst := hst.kp b8 db
 exact ⟨rfl, _, res_at rfl rfl Tryz.isAgg40 Tryz.sizeOf40 rfl rfl b9.atN rfl rfl, colF w0.heap.size col (clipC a5 (setC ai 11 (clipC ac ad))) (fun n => bif Nat.beq n 9 then c1 else bif Nat.beq n 10 then c2 else 0), bg, bh, bi, bj, rfl, hst.fin (fun n => bif Nat.beq n 9 then c1 else bif Nat.beq n 10 then c2 else 0), hst.finOwn (g := (fun n => bif Nat.beq n 9 then c1 else bif Nat.beq n 10 then c2 else 0)) rfl bb (by decide) (by decide) rfl, hst.finOwn (g := (fun n => bif Nat.beq n 9 then c1 else bif Nat.beq n 10 then c2 else 0)) rfl bc (by decide) (by decide) rfl⟩

end Go.Proofs.YtonkjfnjadofpaaGreat
