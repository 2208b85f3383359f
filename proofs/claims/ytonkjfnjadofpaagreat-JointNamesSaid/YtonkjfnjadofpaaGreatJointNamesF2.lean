/-
  What functions of the program compute, as plain Lean functions (m_..), and proofs that they compute it (c_..). Printed by a program of the author; no conditions.
-/
import Derived.Test.YtonkjfnjadofpaaGreatJointNamesBFloat
import Derived.Test.YtonkjfnjadofpaaGreatProg
import Derived.Test.YtonkjfnjadofpaaGreatJointNamesBThree
import Derived.Test.YtonkjfnjadofpaaGreatJointNamesF1
set_option linter.unusedVariables false
set_option maxRecDepth 100000
set_option maxHeartbeats 2000000
namespace Go.Proofs.YtonkjfnjadofpaaGreat
open Go Go.RowKit

theorem el114_130 : ElemOk Tryz.prog 114 1 4 := ⟨Tryz.t114, _, rfl, rfl, rfl, rfl, rfl⟩
def m_slices_Clone_api_Nat_uint32 (aa : (List Int)) : Option (List Int) :=
  chk ((([] : List Int).length + aa.length) * 4 ≤ 140737488355328 ∧ ([] : List Int).length + aa.length ≤ maxLen) (some (([] : List Int) ++ aa))
theorem c_slices_Clone_api_Nat_uint32 (c1 : Nat) (col : Col) (w0 : World) (a0 : Option Addr) (cap0 : Nat) (aa : (List Int)) (h0 : Sl (Rep.int .u32) col w0 a0 cap0 aa) (r : (List Int)) (hm : m_slices_Clone_api_Nat_uint32 aa = some r) :
    Calls Tryz.prog 130 #[(.slice a0 aa.length cap0)] w0 (fun e w' => ∃ (col' : Col) (ra1 : Option Addr) (rc2 : Nat), e = .returned ((.slice ra1 r.length rc2)) ∧ Grow col w0 col' w' ∧ Own (Rep.int .u32) 114 c1 col' w' ra1 rc2 r) := by
 refine calls_of1 2 (m := 8) (args := [(.slice a0 aa.length cap0)]) Tryz.func130 rfl rfl rfl rfl rfl ?_
 rw [m_slices_Clone_api_Nat_uint32.eq_1] at hm
 have hst := St.start col w0
 refine wS <| wR <| lA (.slice none (([] : List Int).length) 0) <| lN <| wS <| wS <| wR <| lM (.slice a0 aa.length cap0) ?_
 replace h0 := h0.keep (Stay.start col w0)
 rcases nil_or h0 with ab | ab
 ·replace hm : some ([] : List Int) = some r := by have h0 := ab.2; subst h0; simpa [chk, maxLen] using hm
  refine lv (v := .bool a0.isNone) rfl rfl (r_eqlNil Tryz.underlying36 rfl) ?_
  refine .ld (d := 4) (v := .bool true) (congrArg Value.bool ab.1) ?_
  refine lN ?_
  refine wcondT rfl ?_
  refine wS <| wR <| lA (.slice none (([] : List Int).length) 0) <| lN ?_
  refine wret ?_
  cases hm
  exact ⟨rfl, colF w0.heap.size col (col0 col) (fun n => 0), none, 0, rfl, hst.fin (fun n => 0), Own.nil⟩
 refine lv (v := .bool a0.isNone) rfl rfl (r_eqlNil Tryz.underlying36 rfl) ?_
 refine .ld (d := 4) (v := .bool false) (congrArg Value.bool ab) ?_
 refine lN ?_
 refine wcondF rfl ?_
 refine wK <| wS <| wR ?_
 refine l_lit0 (col := (col0 col)) (r := (Rep.int .u32)) 1 rfl Tryz.underlying36 el114_130 rfl ?_
 intro am ah ai ac ad
 refine lM (.slice a0 aa.length cap0) ?_
 obtain ⟨ae, hm⟩ := cS hm
 replace h0 := h0.gr ac
 refine l_appendM (col := ai) (w := ah) (r := (Rep.int .u32)) (c := 1) (c2 := 1) (xs := ([] : List Int)) (ys := aa) ad h0.srcC rfl Tryz.underlying36 el114_130 rfl rfl rfl ae.1 ae.2 (by decide) ?_
 intro af ag an aj ak al
 clear ad
 refine lA (.slice af ((([] : List Int) ++ aa).length) ag) <| lN ?_
 refine wret ?_
 cases hm
 replace hst := (hst.grow ac).kpp ak
 exact ⟨rfl, colF w0.heap.size col aj (fun n => bif Nat.beq n 1 then c1 else 0), af, ag, rfl, hst.fin (fun n => bif Nat.beq n 1 then c1 else 0), hst.finOwn (g := (fun n => bif Nat.beq n 1 then c1 else 0)) rfl al (by decide) (by decide) rfl⟩
def m_nat_own (N : Nat) (ab : (List Int)) : Option (List Int) :=
  (m_nat_trim N ab).bind fun aa => if (decide ((aa.length : Int) = 0)) = true then (some ([] : List Int)) else ((m_slices_Clone_api_Nat_uint32 aa).bind fun ac => some ac)
theorem c_nat_own (N : Nat) (c1 : Nat) (col : Col) (w0 : World) (a0 : Option Addr) (cap0 : Nat) (ab : (List Int)) (h0 : Sl (Rep.int .u32) col w0 a0 cap0 ab) (r : (List Int)) (hm : m_nat_own N ab = some r) :
    Calls Tryz.prog 89 #[(.slice a0 ab.length cap0)] w0 (fun e w' => ∃ (col' : Col) (ra1 : Option Addr) (rc2 : Nat), e = .returned ((.slice ra1 r.length rc2)) ∧ Grow col w0 col' w' ∧ Own (Rep.int .u32) 114 c1 col' w' ra1 rc2 r) := by
 refine calls_of1 2 (m := 10) (args := [(.slice a0 ab.length cap0)]) Tryz.func89 rfl rfl rfl rfl rfl ?_
 rw [m_nat_own.eq_1] at hm
 have hst := St.start col w0
 refine wS <| wR <| lA (.slice none (([] : List Int).length) 0) <| lN <| wS <| wR <| lM (.slice a0 ab.length cap0) ?_
 obtain ⟨aa, ai, hm⟩ := bS hm
 replace h0 := h0.keep (Stay.start col w0)
 refine lc rfl rfl (r_call1 Tryz.call88 rfl) (c_nat_trim N (col0 col) _ a0 cap0 ab h0 aa ai) ?_
 rintro _ ap ⟨ae, ac, ad, rfl, aj, ak⟩
 refine ⟨_, rfl, ?_⟩
 refine lA (.slice ac aa.length ad) <| lN <| wS <| wS <| wR <| lM (.slice ac aa.length ad) <| lV (.int .i64 (aa.length : Int)) (r_len Tryz.underlying36 rfl) <| lV (.bool (decide ((aa.length : Int) = 0))) (r_eql (aa.length : Int) 0 rfl rfl) <| lN ?_
 replace hst := hst.grow aj
 refine wcond (decide ((aa.length : Int) = 0)) rfl (fun hb => ?_) (fun hb => ?_)
 ·rw [if_pos hb] at hm
  clear hb
  refine wS <| wR <| lA (.slice none (([] : List Int).length) 0) <| lN ?_
  refine wret ?_
  cases hm
  exact ⟨rfl, colF w0.heap.size col ae (fun n => 0), none, 0, rfl, hst.fin (fun n => 0), Own.nil⟩
 rw [if_neg (by rw [hb]; decide)] at hm
 clear hb
 refine wK <| wS <| wR <| lM (.slice ac aa.length ad) ?_
 obtain ⟨af, al, hm⟩ := bS hm
 refine lc rfl rfl (r_call1 Tryz.call130 rfl) (c_slices_Clone_api_Nat_uint32 1 ae _ ac ad aa ak af al) ?_
 rintro _ aq ⟨am, ag, ah, rfl, an, ao⟩
 refine ⟨_, rfl, ?_⟩
 refine lA (.slice ag af.length ah) <| lN ?_
 refine wret ?_
 cases hm
 replace hst := hst.grow an
 exact ⟨rfl, colF w0.heap.size col am (fun n => bif Nat.beq n 1 then c1 else 0), ag, ah, rfl, hst.fin (fun n => bif Nat.beq n 1 then c1 else 0), hst.finOwn (g := (fun n => bif Nat.beq n 1 then c1 else 0)) rfl ao (by decide) (by decide) rfl⟩
def m_nat_Norm (N : Nat) (aa : (List Int)) : Option (List Int) :=
  (m_nat_own N aa).bind fun ab => some ab
theorem c_nat_Norm (N : Nat) (c1 : Nat) (col : Col) (w0 : World) (a0 : Option Addr) (cap0 : Nat) (aa : (List Int)) (h0 : Sl (Rep.int .u32) col w0 a0 cap0 aa) (r : (List Int)) (hm : m_nat_Norm N aa = some r) :
    Calls Tryz.prog 106 #[(.slice a0 aa.length cap0)] w0 (fun e w' => ∃ (col' : Col) (ra1 : Option Addr) (rc2 : Nat), e = .returned ((.slice ra1 r.length rc2)) ∧ Grow col w0 col' w' ∧ Own (Rep.int .u32) 114 c1 col' w' ra1 rc2 r) := by
 refine calls_of1 2 (m := 5) (args := [(.slice a0 aa.length cap0)]) Tryz.func106 rfl rfl rfl rfl rfl ?_
 rw [m_nat_Norm.eq_1] at hm
 have hst := St.start col w0
 refine wS <| wR <| lA (.slice none (([] : List Int).length) 0) <| lN <| wS <| wR <| lM (.slice a0 aa.length cap0) ?_
 obtain ⟨ab, ae, hm⟩ := bS hm
 replace h0 := h0.keep (Stay.start col w0)
 refine lc rfl rfl (r_call1 Tryz.call89 rfl) (c_nat_own N 1 (col0 col) _ a0 cap0 aa h0 ab ae) ?_
 rintro _ ai ⟨af, ac, ad, rfl, ag, ah⟩
 refine ⟨_, rfl, ?_⟩
 refine lA (.slice ac ab.length ad) <| lN ?_
 refine wret ?_
 cases hm
 replace hst := hst.grow ag
 exact ⟨rfl, colF w0.heap.size col af (fun n => bif Nat.beq n 1 then c1 else 0), ac, ad, rfl, hst.fin (fun n => bif Nat.beq n 1 then c1 else 0), hst.finOwn (g := (fun n => bif Nat.beq n 1 then c1 else 0)) rfl ah (by decide) (by decide) rfl⟩
def m_model_fitting_J1 (aa : Bool) (ab : List Int) (ac : List Int) : Option ((Bool × (List Int)) × (List Int)) :=
  some ((aa, ab), ac)
def m_model_fitting (N : Nat) (aa : ((Bool × (List Int)) × (List Int))) : Option ((Bool × (List Int)) × (List Int)) :=
  (m_nat_Norm N aa.2).bind fun ab => if (decide ((ab.length : Int) = 0)) = true then none else (m_model_fitting_J1 aa.1.1 aa.1.2 aa.2)
theorem c_model_fitting (N : Nat) (col : Col) (w0 : World) (am : Option Addr) (an : Nat) (ac : Option Addr) (ad : Nat) (aa : ((Bool × (List Int)) × (List Int))) (ar : Sl (Rep.int .u32) col w0 am an aa.1.2) (ao : Sl (Rep.int .u32) col w0 ac ad aa.2) (r : ((Bool × (List Int)) × (List Int))) (hm : m_model_fitting N aa = some r) :
    Calls Tryz.prog 142 #[(.agg #[(.bool aa.1.1), (.slice am aa.1.2.length an), (.slice ac aa.2.length ad)])] w0 (fun e w' => ∃ (col' : Col) (ra1 : Option Addr) (rc2 : Nat) (ra4 : Option Addr) (rc5 : Nat), e = .returned ((.agg #[(.bool r.1.1), (.slice ra1 r.1.2.length rc2), (.slice ra4 r.2.length rc5)])) ∧ Grow col w0 col' w' ∧ Sl (Rep.int .u32) col' w' ra1 rc2 r.1.2 ∧ Sl (Rep.int .u32) col' w' ra4 rc5 r.2) := by
 refine calls_ofR (m := 11) (args := [(.agg #[(.bool aa.1.1), (.slice am aa.1.2.length an), (.slice ac aa.2.length ad)])]) Tryz.func142 rfl rfl rfl ?_
 rw [m_model_fitting.eq_1] at hm
 have hst := St.start col w0
 refine wS <| wR ?_
 refine l_box (col := (col0 col)) (v := (.agg #[(.bool aa.1.1), (.slice am aa.1.2.length an), (.slice ac aa.2.length ad)])) 1 rfl rfl ?_
 intro aw a6 a4 az ab
 replace ab : Box 40 1 a4 a6 aw #[(.bool aa.1.1), (.slice am aa.1.2.length an), (.slice ac aa.2.length ad)] := ab
 refine l_alloc (col := a4) (v := (.agg #[(.bool false), (.slice none (([] : List Int).length) 0), (.slice none (([] : List Int).length) 0)])) 2 rfl Tryz.zeroValue40 ?_
 intro ax a7 a5 ay ae
 replace ae : Box 40 2 a5 a7 ax #[(.bool false), (.slice none (([] : List Int).length) 0), (.slice none (([] : List Int).length) 0)] := ae
 refine lN <| wS ?_
 replace ar := ((ar.keep (Stay.start col w0)).gr az).gr ay
 replace ao := ((ao.keep (Stay.start col w0)).gr az).gr ay
 replace hst := (hst.grow az).grow ay
 replace ab := ab.gr ay
 refine Wp.cut (fun f ap => ∃ (af : Col) (aq : Bool) (ag : Option Addr) (ah : Nat) (ai : List Int) (aj : Option Addr) (ak : Nat) (al : List Int), m_model_fitting_J1 aq ai al = some r ∧ St w0 (col0 col) af ap ∧ Sl (Rep.int .u32) af ap ag ah ai ∧ Sl (Rep.int .u32) af ap aj ak al ∧ Box 40 1 af ap aw #[(.bool aq), (.slice ag ai.length ah), (.slice aj al.length ak)] ∧ Box 40 2 af ap ax #[(.bool false), (.slice none (([] : List Int).length) 0), (.slice none (([] : List Int).length) 0)] ∧ f 1 = (.pointer (some ⟨aw, 0, none⟩)) ∧ f 2 = (.pointer (some ⟨ax, 0, none⟩)) ∧ f 1000000 = (enc [])) ?_ ?_
 ·intro f ap hJ
  obtain ⟨af, aq, ag, ah, ai, aj, ak, al, hm, hst, a0, a1, ab, ae, hs1, hs2, hs1000000⟩ := hJ
  rw [m_model_fitting_J1.eq_1] at hm
  refine .lD 1 hs1 <| .lD 2 hs2 <| .lD 1000000 hs1000000 ?_
  clear hs1 hs2 hs1000000
  refine wS <| wR <| lV (.agg #[(.bool aq), (.slice ag ai.length ah), (.slice aj al.length ak)]) (r_ldN Tryz.isAgg40 Tryz.sizeOf40 rfl rfl ab.atN) ?_
  refine l_bstore (v := (.agg #[(.bool aq), (.slice ag ai.length ah), (.slice aj al.length ak)])) ae Tryz.sizeOf40 rfl rfl (by intro u hu; simp only [Value.cells, List.mem_cons, List.not_mem_nil, or_false] at hu; rcases hu with rfl | rfl | rfl <;> rfl) rfl rfl ?_
  intro a8 a2 a9 a3
  clear ae
  replace a3 : Box 40 2 af a8 ax #[(.bool aq), (.slice ag ai.length ah), (.slice aj al.length ak)] := a3
  refine lN ?_
  refine wret ?_
  cases hm
  replace a0 := a0.kp a2
  replace a1 := a1.kp a2
  replace hst := hst.kp a2 a9
  exact ⟨rfl, _, res_a rfl rfl Tryz.isAgg40 Tryz.sizeOf40 rfl rfl a3.atN, colF w0.heap.size col af (fun n => 0), ag, ah, aj, ak, rfl, hst.fin (fun n => 0), hst.finSl (g := (fun n => 0)) rfl a0, hst.finSl (g := (fun n => 0)) rfl a1⟩
 refine wS <| wR <| lV (.pointer ((some (⟨aw, 0, none⟩ : Addr)).map (·.add 2))) (rF (sz := 1) (off := 2) Tryz.underlying40 rfl Tryz.sizeOf36 (by decide) rfl rfl ⟨_, _, rfl⟩) <| lV (.slice ac aa.2.length ad) (r_ld Tryz.isAgg36 rfl ((ab.atN).nth (q := 2) (v := (.slice ac aa.2.length ad)) rfl)) ?_
 obtain ⟨au, ba, hm⟩ := bS hm
 refine lc rfl rfl (r_call1 Tryz.call106 rfl) (c_nat_Norm N 3 a5 _ ac ad aa.2 ao au ba) ?_
 rintro _ bc ⟨bb, bd, be, rfl, av, bf⟩
 refine ⟨_, rfl, ?_⟩
 refine lV (.int .i64 (au.length : Int)) (r_len Tryz.underlying36 rfl) <| lV (.bool (decide ((au.length : Int) = 0))) (r_eql (au.length : Int) 0 rfl rfl) <| lN ?_
 replace ar := ar.gr av
 replace ao := ao.gr av
 replace ab := ab.gr av
 replace ae := ae.gr av
 replace hst := hst.grow av
 refine wcond (decide ((au.length : Int) = 0)) rfl (fun hb => ?_) (fun hb => ?_)
 ·rw [if_pos hb] at hm
  clear hb
  cases hm
 rw [if_neg (by rw [hb]; decide)] at hm
 clear hb
 refine wK ?_
 exact ⟨bb, aa.1.1, am, an, aa.1.2, ac, ad, aa.2, hm, hst, ar, ao, ab, ae, rfl, rfl, rfl⟩
theorem el40_118 : ElemOk Tryz.prog 40 3 56 := ⟨Tryz.t40, _, rfl, rfl, rfl, rfl, rfl⟩
def m_model_fittings_L1 (N : Nat) : List ((Bool × (List Int)) × (List Int)) → (List ((Bool × (List Int)) × (List Int))) → Option (List ((Bool × (List Int)) × (List Int)))
  | [], ab => some ab
  | ac :: ad, ab => (m_model_fitting N ((ac.1.1, ac.1.2), ac.2)).bind fun aa => chk ((ab.length + [((aa.1.1, aa.1.2), aa.2)].length) * 56 ≤ 140737488355328 ∧ ab.length + [((aa.1.1, aa.1.2), aa.2)].length ≤ maxLen) ((m_model_fittings_L1 N ad) (ab ++ [((aa.1.1, aa.1.2), aa.2)]))
termination_by structural x => x
def m_model_fittings (N : Nat) (aa : (List ((Bool × (List Int)) × (List Int)))) : Option (List ((Bool × (List Int)) × (List Int))) :=
  chk (aa.length * 56 ≤ 281474976710656 ∧ aa.length ≤ maxLen) (m_model_fittings_L1 N aa ([] : List ((Bool × (List Int)) × (List Int))))
theorem c_model_fittings (N : Nat) (c1 : Nat) (col : Col) (w0 : World) (a0 : Option Addr) (cap0 : Nat) (aa : (List ((Bool × (List Int)) × (List Int)))) (h0 : Sl (Rep.pair (Rep.pair Rep.bool (Rep.slice (Rep.int .u32))) (Rep.slice (Rep.int .u32))) col w0 a0 cap0 aa) (r : (List ((Bool × (List Int)) × (List Int)))) (hm : m_model_fittings N aa = some r) :
    Calls Tryz.prog 118 #[(.slice a0 aa.length cap0)] w0 (fun e w' => ∃ (col' : Col) (ra1 : Option Addr) (rc2 : Nat), e = .returned ((.slice ra1 r.length rc2)) ∧ Grow col w0 col' w' ∧ Own (Rep.pair (Rep.pair Rep.bool (Rep.slice (Rep.int .u32))) (Rep.slice (Rep.int .u32))) 40 c1 col' w' ra1 rc2 r) := by
 refine calls_of1 2 (m := 22) (args := [(.slice a0 aa.length cap0)]) Tryz.func118 rfl rfl rfl rfl rfl ?_
 rw [m_model_fittings.eq_1] at hm
 have hst := St.start col w0
 refine wS <| wR <| lA (.slice none (([] : List ((Bool × (List Int)) × (List Int))).length) 0) <| lN <| wS <| wR <| lM (.slice a0 aa.length cap0) <| lV (.int .i64 (aa.length : Int)) (r_len Tryz.underlying51 rfl) ?_
 obtain ⟨a1, hm⟩ := cS hm
 refine l_make0 (col := (col0 col)) (w := w0) (r := (Rep.pair (Rep.pair Rep.bool (Rep.slice (Rep.int .u32))) (Rep.slice (Rep.int .u32)))) (n := aa.length) 1 rfl Tryz.underlying51 el40_118 rfl rfl rfl a1.1 a1.2 ?_
 intro a2 bz be a3 bf
 refine lA (.slice a2 (([] : List ((Bool × (List Int)) × (List Int))).length) aa.length) <| lN <| wS <| wS <| wR <| lM (.slice a0 aa.length cap0) <| lV (.int .i64 (aa.length : Int)) (r_len Tryz.underlying51 rfl) <| lM (.int .i64 0) <| lN <| wB ?_
 replace h0 := (h0.keep (Stay.start col w0)).gr a3
 replace hst := hst.grow a3
 refine wloop (fun n f aq => ∃ (ah : Col) (ad : Nat) (af : Option Addr) (ag : Nat) (ae : List ((Bool × (List Int)) × (List Int))) (ai : List ((Bool × (List Int)) × (List Int))), n = ai.length ∧ aa.drop ad = ai ∧ m_model_fittings_L1 N ai ae = some r ∧ St w0 (col0 col) ah aq ∧ Own (Rep.pair (Rep.pair Rep.bool (Rep.slice (Rep.int .u32))) (Rep.slice (Rep.int .u32))) 40 1 ah aq af ag ae ∧ Sl (Rep.pair (Rep.pair Rep.bool (Rep.slice (Rep.int .u32))) (Rep.slice (Rep.int .u32))) ah aq a0 cap0 aa ∧ f 11 = (.int .i64 (ad : Int)) ∧ f 10 = (.int .i64 (aa.length : Int)) ∧ f 3 = (.slice af ae.length ag) ∧ f 9 = (.slice a0 aa.length cap0) ∧ f 1000000 = (enc [])) aa.length ⟨be, 0, a2, aa.length, ([] : List ((Bool × (List Int)) × (List Int))), aa, rfl, rfl, hm, hst, bf, h0, rfl, rfl, rfl, rfl, rfl⟩ ?_
 clear hm; intro n f aq hI
 obtain ⟨ah, ad, af, ag, ae, ai, hn, hl, hm, hst, aj, h0, hs11, hs10, hs3, hs9, hs1000000⟩ := hI
 subst hn
 refine .lD 11 hs11 <| .lD 10 hs10 <| .lD 3 hs3 <| .lD 9 hs9 <| .lD 1000000 hs1000000 ?_
 clear hs11 hs10 hs3 hs9 hs1000000
 cases ai with
 | nil =>
  have hk : ¬ ((ad : Int) < (aa.length : Int)) := by have := List.drop_eq_nil_iff.1 hl; omega
  have hkb := decide_eq_false hk
  rw [m_model_fittings_L1.eq_1] at hm
  refine wS <| wR <| lV (.bool (decide ((ad : Int) < (aa.length : Int)))) (r_lss (ad : Int) (aa.length : Int) rfl rfl) <| lN <| wS ?_
  refine wcondF (congrArg Value.bool hkb) ?_
  refine wexit (inB_hit ?_)
  refine wS <| wR <| lM (.slice af ae.length ag) <| lA (.slice af ae.length ag) <| lN ?_
  refine wret ?_
  cases hm
  exact ⟨rfl, colF w0.heap.size col ah (fun n => bif Nat.beq n 1 then c1 else 0), af, ag, rfl, hst.fin (fun n => bif Nat.beq n 1 then c1 else 0), hst.finOwn (g := (fun n => bif Nat.beq n 1 then c1 else 0)) rfl aj (by decide) (by decide) rfl⟩
 | cons ac a4 =>
  obtain ⟨hat, hl2_L1, hlt_L1⟩ := drop_get hl
  have hk : (ad : Int) < (aa.length : Int) := by omega
  have hkb := decide_eq_true hk
  rw [m_model_fittings_L1.eq_2] at hm
  refine wS <| wR <| lV (.bool (decide ((ad : Int) < (aa.length : Int)))) (r_lss (ad : Int) (aa.length : Int) rfl rfl) <| lN <| wS ?_
  refine wcondT (congrArg Value.bool hkb) ?_
  refine wK <| wS <| wB <| wS <| wR ?_
  refine lV (sptr a0 (Int.toNat (ad : Int) * 3)) (r_idx Tryz.underlying51 Tryz.sizeOf40 rfl rfl (at?_some hat).1 (at?_some hat).2.1 (h0.addr hat)) ?_
  obtain ⟨_, bg, bh⟩ := h0.atN hat
  obtain ⟨_, _, rfl, bi, bj⟩ := rd_pair bg
  obtain ⟨_, _, rfl, bk, bl⟩ := rd_pair bi
  obtain ⟨rfl, _⟩ := bk
  obtain ⟨⟨ak, al, rfl, au⟩, _⟩ := bl
  obtain ⟨⟨am, an, rfl, av⟩, _⟩ := bj
  refine lV (.agg #[(.bool ac.1.1), (.slice ak ac.1.2.length al), (.slice am ac.2.length an)]) (r_ldN Tryz.isAgg40 Tryz.sizeOf40 rfl rfl bh) ?_
  refine l_alloc (col := ah) (v := (.agg #[(.bool false), (.slice none (([] : List Int).length) 0), (.slice none (([] : List Int).length) 0)])) 2 rfl Tryz.zeroValue40 ?_
  intro a5 bm aw ao ar
  replace ar : Box 40 2 aw bm a5 #[(.bool false), (.slice none (([] : List Int).length) 0), (.slice none (([] : List Int).length) 0)] := ar
  refine l_bstore (v := (.agg #[(.bool ac.1.1), (.slice ak ac.1.2.length al), (.slice am ac.2.length an)])) ar Tryz.sizeOf40 rfl rfl (by intro u hu; simp only [Value.cells, List.mem_cons, List.not_mem_nil, or_false] at hu; rcases hu with rfl | rfl | rfl <;> rfl) rfl rfl ?_
  intro bn ap bo ax
  clear ar
  replace ax : Box 40 2 aw bn a5 #[(.bool ac.1.1), (.slice ak ac.1.2.length al), (.slice am ac.2.length an)] := ax
  refine lN <| wR <| lM (.slice af ae.length ag) <| lV (.agg #[(.bool ac.1.1), (.slice ak ac.1.2.length al), (.slice am ac.2.length an)]) (r_ldN Tryz.isAgg40 Tryz.sizeOf40 rfl rfl ax.atN) ?_
  obtain ⟨ab, bp, hm⟩ := bS hm
  replace au := (au.gr ao).kp ap
  replace av := (av.gr ao).kp ap
  refine lc rfl rfl (r_call1 Tryz.call142 rfl) (c_model_fitting N aw _ ak al am an ((ac.1.1, ac.1.2), ac.2) au av ab bp) ?_
  rintro _ b0 ⟨bq, a6, a7, a8, a9, rfl, ay, br, bs⟩
  refine ⟨_, rfl, ?_⟩
  refine l_lit (col := bq) (r := (Rep.pair (Rep.pair Rep.bool (Rep.slice (Rep.int .u32))) (Rep.slice (Rep.int .u32)))) (xs := [((ab.1.1, ab.1.2), ab.2)]) [(.agg #[(.bool ab.1.1), (.slice a6 ab.1.2.length a7), (.slice a8 ab.2.length a9)])] 3 rfl Tryz.underlying51 el40_118 rfl rfl rfl rfl rfl rfl (by intro v hv; simp only [List.mem_cons, List.not_mem_nil, or_false] at hv; subst hv; rfl) (RowsH.ofF (Rows.consF (r := (Rep.pair (Rep.pair Rep.bool (Rep.slice (Rep.int .u32))) (Rep.slice (Rep.int .u32)))) (x := ((ab.1.1, ab.1.2), ab.2)) (cs := [(.bool ab.1.1), (.slice a6 ab.1.2.length a7), (.slice a8 ab.2.length a9)]) (rd_pairI (rd_pairI (rd_bool ab.1.1) (rd_slI br)) (rd_slI bs)) Rows.nil0)) ?_
  intro b1 bt bu az bv
  obtain ⟨ba, hm⟩ := cS hm
  replace aj := (((aj.gr ao).kp ap).gr ay).gr az
  refine l_appendM (col := bu) (w := bt) (r := (Rep.pair (Rep.pair Rep.bool (Rep.slice (Rep.int .u32))) (Rep.slice (Rep.int .u32)))) (c := 1) (c2 := 1) (xs := ae) (ys := [((ab.1.1, ab.1.2), ab.2)]) aj (bv.srcN (NB.pair (NB.pair NB.bool NB.slice) NB.slice)) rfl Tryz.underlying51 el40_118 rfl rfl rfl ba.1 ba.2 (by decide) ?_
  intro bb bc b2 bw bd bx
  clear aj
  refine lA (.slice bb ((ae ++ [((ab.1.1, ab.1.2), ab.2)]).length) bc) <| lN <| wR <| lV (.int .i64 (IntKind.i64.wrap ((ad : Int) + 1))) (r_add (ad : Int) 1 rfl rfl) <| lM (.int .i64 (IntKind.i64.wrap ((ad : Int) + 1))) <| lN ?_
  replace h0 := ((((h0.gr ao).kp ap).gr ay).gr az).kpp bd
  replace hst := ((((hst.grow ao).kp ap bo).grow ay).grow az).kpp bd
  exact ⟨a4.length, by simp, ⟨bw, (ad + 1), bb, bc, (ae ++ [((ab.1.1, ab.1.2), ab.2)]), a4, rfl, hl2_L1, hm, hst, bx, h0, (congrArg (Value.int .i64) (wrap_succ (Nat.lt_of_lt_of_le hlt_L1 h0.1.1))), rfl, rfl, rfl, rfl⟩⟩
def m_slices_Chunk_api_Rat_api_Rat_1_L1 (N : Nat) (ab : List ((Bool × (List Int)) × (List Int))) (ac : Int) : Nat → Int → Option (List (List ((Bool × (List Int)) × (List Int))))
  | 0, _ => none
  | ad + 1, aa => if (decide (aa < (ab.length : Int))) = true then (chk ((0 : Int) ≤ aa ∧ aa ≤ (ab.length : Int)) (chk ((0 : Int) ≤ aa ∧ aa ≤ (IntKind.i64.wrap (aa + (if ((ab.drop (Int.toNat aa)).length : Int) < ac then ((ab.drop (Int.toNat aa)).length : Int) else ac))) ∧ (IntKind.i64.wrap (aa + (if ((ab.drop (Int.toNat aa)).length : Int) < ac then ((ab.drop (Int.toNat aa)).length : Int) else ac))) ≤ (IntKind.i64.wrap (aa + (if ((ab.drop (Int.toNat aa)).length : Int) < ac then ((ab.drop (Int.toNat aa)).length : Int) else ac))) ∧ (IntKind.i64.wrap (aa + (if ((ab.drop (Int.toNat aa)).length : Int) < ac then ((ab.drop (Int.toNat aa)).length : Int) else ac))) ≤ (ab.length : Int)) (((m_slices_Chunk_api_Rat_api_Rat_1_L1 N ab ac ad) (IntKind.i64.wrap (aa + ac))).bind fun ae => some ((ab.take (Int.toNat (IntKind.i64.wrap (aa + (if ((ab.drop (Int.toNat aa)).length : Int) < ac then ((ab.drop (Int.toNat aa)).length : Int) else ac))))).drop (Int.toNat aa) :: ae)))) else (some [])
termination_by structural x => x
def m_slices_Chunk_api_Rat_api_Rat_1 (N : Nat) (aa : List ((Bool × (List Int)) × (List Int))) (ab : Int) : Option (List (List ((Bool × (List Int)) × (List Int)))) :=
  m_slices_Chunk_api_Rat_api_Rat_1_L1 N aa ab N 0
theorem c_slices_Chunk_api_Rat_api_Rat_1 (N : Nat) (col : Col) (w0 : World) (g0 : Nat) (af0 : Option Addr) (capf0 : Nat) (ab : List ((Bool × (List Int)) × (List Int))) (hf0 : Sl (Rep.pair (Rep.pair Rep.bool (Rep.slice (Rep.int .u32))) (Rep.slice (Rep.int .u32))) col w0 af0 capf0 ab) (hb0 : Box 51 450 col w0 g0 #[(.slice af0 ab.length capf0)]) (g1 : Nat) (ac : Int) (hb1 : Box 3 450 col w0 g1 #[(.int .i64 ac)]) (r : List (List ((Bool × (List Int)) × (List Int)))) (hm : m_slices_Chunk_api_Rat_api_Rat_1 N ab ac = some r) :
    Goes Tryz.prog 1 175 [(.pointer (some ⟨g0, 0, none⟩)), (.pointer (some ⟨g1, 0, none⟩))] (fun (y : List ((Bool × (List Int)) × (List Int))) (col : Col) (w : World) (args : List Value) => ∃ (a0 : Option Addr) (cap0 : Nat), args = [.slice a0 y.length cap0] ∧ Sl (Rep.pair (Rep.pair Rep.bool (Rep.slice (Rep.int .u32))) (Rep.slice (Rep.int .u32))) col w a0 cap0 y) r col w0 := by
 intro l J X hjs hxs hy hst
 refine calls_of0 (m := 31) (args := [.func (.yield l) #[] #[], (.pointer (some ⟨g0, 0, none⟩)), (.pointer (some ⟨g1, 0, none⟩))]) Tryz.func175 rfl rfl rfl rfl ?_
 rw [m_slices_Chunk_api_Rat_api_Rat_1.eq_1] at hm
 refine wS <| wR <| lA (.int .i64 0) <| lN <| wB ?_
 refine wloop (fun n f af => ∃ (ad : Col) (r : List (List ((Bool × (List Int)) × (List Int)))) (aa : Int) (ae : Nat), ae = n ∧ m_slices_Chunk_api_Rat_api_Rat_1_L1 N ab ac ae aa = some r ∧ J r ad af ∧ Sl (Rep.pair (Rep.pair Rep.bool (Rep.slice (Rep.int .u32))) (Rep.slice (Rep.int .u32))) ad af af0 capf0 ab ∧ Box 51 450 ad af g0 #[(.slice af0 ab.length capf0)] ∧ Box 3 450 ad af g1 #[(.int .i64 ac)] ∧ f 0 = (.func (.yield l) #[] #[]) ∧ f 1 = (.pointer (some ⟨g0, 0, none⟩)) ∧ f 2 = (.pointer (some ⟨g1, 0, none⟩)) ∧ f 4 = (.int .i64 aa) ∧ f 1000000 = (enc [])) N ⟨col, r, 0, N, rfl, hm, hst, hf0, hb0, hb1, rfl, rfl, rfl, rfl, rfl⟩ ?_
 clear hm; intro n f af hI
 obtain ⟨ad, r, aa, ae, hn, hm, hst, hf0, hb0, hb1, hs0, hs1, hs2, hs4, hs1000000⟩ := hI
 subst hn
 refine .lD 0 hs0 <| .lD 1 hs1 <| .lD 2 hs2 <| .lD 4 hs4 <| .lD 1000000 hs1000000 ?_
 clear hs0 hs1 hs2 hs4 hs1000000
 cases ae with
 | zero => rw [m_slices_Chunk_api_Rat_api_Rat_1_L1.eq_1] at hm; cases hm
 | succ ae =>
  rw [m_slices_Chunk_api_Rat_api_Rat_1_L1.eq_2] at hm
  refine wS <| wS <| wR <| lM (.int .i64 aa) <| lV (.slice af0 ab.length capf0) (r_ld Tryz.isAgg51 rfl hb0.at1) <| lV (.int .i64 (ab.length : Int)) (r_len Tryz.underlying51 rfl) <| lV (.bool (decide (aa < (ab.length : Int)))) (r_lss aa (ab.length : Int) rfl rfl) <| lN ?_
  refine wcond (decide (aa < (ab.length : Int))) rfl (fun hb => ?_) (fun hb => ?_)
  ·rw [if_pos hb] at hm
   clear hb
   refine wK <| wS <| wB <| wS ?_
   refine wquiet (col := ad) (by kernel_rfl) (by kernel_rfl) ?_
   refine qv (v := (.int .i64 ac)) rfl (fun _ hC => r_ld Tryz.isAgg3 rfl (hb1.at1.gr (Grow.of_below (col := ad) hC.below))) ?_
   refine qv (v := (.slice af0 ab.length capf0)) rfl (fun _ hC => r_ld Tryz.isAgg51 rfl (hb0.at1.gr (Grow.of_below (col := ad) hC.below))) ?_
   refine qv (v := (.int .i64 aa)) rfl (fun _ hC => r_move rfl) ?_
   obtain ⟨aj, hm⟩ := cS hm
   have aq := hf0.drop (sz := 3) rfl (Int.toNat aa)
   refine qv (v := .slice (if capf0 = (Int.toNat aa) then af0 else af0.map (·.add ((Int.toNat aa) * 3))) (ab.length - (Int.toNat aa)) (capf0 - (Int.toNat aa))) rfl (fun _ hC => r_sliceL Tryz.underlying51 Tryz.sizeOf40 rfl rfl aj.1 aj.2) ?_
   generalize (if capf0 = (Int.toNat aa) then af0 else af0.map (·.add ((Int.toNat aa) * 3))) = ak at *
   refine .ld (d := 16) (v := (.slice ak ((ab.drop (Int.toNat aa)).length) (capf0 - (Int.toNat aa)))) (congrArg (fun n => Value.slice ak n (capf0 - (Int.toNat aa))) (List.length_drop (i := (Int.toNat aa)) (l := ab)).symm) ?_
   refine qv (v := (.int .i64 ((ab.drop (Int.toNat aa)).length : Int))) rfl (fun _ hC => r_len Tryz.underlying51 rfl) ?_
   refine qv (v := (.int .i64 (if ((ab.drop (Int.toNat aa)).length : Int) < ac then ((ab.drop (Int.toNat aa)).length : Int) else ac))) rfl (fun _ hC => r_min ac ((ab.drop (Int.toNat aa)).length : Int) rfl rfl) ?_
   refine qv (v := (.int .i64 (if ((ab.drop (Int.toNat aa)).length : Int) < ac then ((ab.drop (Int.toNat aa)).length : Int) else ac))) rfl (fun _ hC => r_assign rfl) ?_
   refine qnil ?_
   intro al hC
   replace hC : Grow ad af ad al := .of_below hC.below
   replace hf0 := hf0.gr hC
   replace hb0 := hb0.gr hC
   replace hb1 := hb1.gr hC
   replace hst := hjs _ _ _ _ _ hst hC.toP
   refine wS <| wR <| lM (.func (.yield l) #[] #[]) <| lV (.slice af0 ab.length capf0) (r_ld Tryz.isAgg51 rfl hb0.at1) <| lM (.int .i64 aa) <| lM (.int .i64 aa) <| lM (.int .i64 (if ((ab.drop (Int.toNat aa)).length : Int) < ac then ((ab.drop (Int.toNat aa)).length : Int) else ac)) <| lV (.int .i64 (IntKind.i64.wrap (aa + (if ((ab.drop (Int.toNat aa)).length : Int) < ac then ((ab.drop (Int.toNat aa)).length : Int) else ac)))) (r_add aa (if ((ab.drop (Int.toNat aa)).length : Int) < ac then ((ab.drop (Int.toNat aa)).length : Int) else ac) rfl rfl) <| lM (.int .i64 aa) <| lM (.int .i64 (if ((ab.drop (Int.toNat aa)).length : Int) < ac then ((ab.drop (Int.toNat aa)).length : Int) else ac)) <| lV (.int .i64 (IntKind.i64.wrap (aa + (if ((ab.drop (Int.toNat aa)).length : Int) < ac then ((ab.drop (Int.toNat aa)).length : Int) else ac)))) (r_add aa (if ((ab.drop (Int.toNat aa)).length : Int) < ac then ((ab.drop (Int.toNat aa)).length : Int) else ac) rfl rfl) ?_
   obtain ⟨ag, hm⟩ := cS hm
   have am := ((hf0.take (Int.toNat (IntKind.i64.wrap (aa + (if ((ab.drop (Int.toNat aa)).length : Int) < ac then ((ab.drop (Int.toNat aa)).length : Int) else ac))))).recap (show (ab.take (Int.toNat (IntKind.i64.wrap (aa + (if ((ab.drop (Int.toNat aa)).length : Int) < ac then ((ab.drop (Int.toNat aa)).length : Int) else ac))))).length ≤ (Int.toNat (IntKind.i64.wrap (aa + (if ((ab.drop (Int.toNat aa)).length : Int) < ac then ((ab.drop (Int.toNat aa)).length : Int) else ac)))) by rw [List.length_take (i := (Int.toNat (IntKind.i64.wrap (aa + (if ((ab.drop (Int.toNat aa)).length : Int) < ac then ((ab.drop (Int.toNat aa)).length : Int) else ac))))) (l := ab)]; have := ag.2; omega)).drop (sz := 3) rfl (Int.toNat aa)
   refine lv (v := .slice (if (Int.toNat (IntKind.i64.wrap (aa + (if ((ab.drop (Int.toNat aa)).length : Int) < ac then ((ab.drop (Int.toNat aa)).length : Int) else ac)))) = (Int.toNat aa) then af0 else af0.map (·.add ((Int.toNat aa) * 3))) ((Int.toNat (IntKind.i64.wrap (aa + (if ((ab.drop (Int.toNat aa)).length : Int) < ac then ((ab.drop (Int.toNat aa)).length : Int) else ac)))) - (Int.toNat aa)) ((Int.toNat (IntKind.i64.wrap (aa + (if ((ab.drop (Int.toNat aa)).length : Int) < ac then ((ab.drop (Int.toNat aa)).length : Int) else ac)))) - (Int.toNat aa))) rfl rfl (r_sliceLHM Tryz.underlying51 Tryz.sizeOf40 rfl rfl rfl rfl ag.1 ag.2.1 ag.2.2.1 (by have := hf0.1.2; have := ag.2.2.2; omega)) ?_
   generalize (if (Int.toNat (IntKind.i64.wrap (aa + (if ((ab.drop (Int.toNat aa)).length : Int) < ac then ((ab.drop (Int.toNat aa)).length : Int) else ac)))) = (Int.toNat aa) then af0 else af0.map (·.add ((Int.toNat aa) * 3))) = ah at *
   refine .ld (d := 28) (v := (.slice ah (((ab.take (Int.toNat (IntKind.i64.wrap (aa + (if ((ab.drop (Int.toNat aa)).length : Int) < ac then ((ab.drop (Int.toNat aa)).length : Int) else ac))))).drop (Int.toNat aa)).length) ((Int.toNat (IntKind.i64.wrap (aa + (if ((ab.drop (Int.toNat aa)).length : Int) < ac then ((ab.drop (Int.toNat aa)).length : Int) else ac)))) - (Int.toNat aa)))) (congrArg (fun n => Value.slice ah n ((Int.toNat (IntKind.i64.wrap (aa + (if ((ab.drop (Int.toNat aa)).length : Int) < ac then ((ab.drop (Int.toNat aa)).length : Int) else ac)))) - (Int.toNat aa))) (show (Int.toNat (IntKind.i64.wrap (aa + (if ((ab.drop (Int.toNat aa)).length : Int) < ac then ((ab.drop (Int.toNat aa)).length : Int) else ac)))) - (Int.toNat aa) = ((ab.take (Int.toNat (IntKind.i64.wrap (aa + (if ((ab.drop (Int.toNat aa)).length : Int) < ac then ((ab.drop (Int.toNat aa)).length : Int) else ac))))).drop (Int.toNat aa)).length by rw [List.length_drop (i := (Int.toNat aa)) (l := ab.take (Int.toNat (IntKind.i64.wrap (aa + (if ((ab.drop (Int.toNat aa)).length : Int) < ac then ((ab.drop (Int.toNat aa)).length : Int) else ac))))), List.length_take (i := (Int.toNat (IntKind.i64.wrap (aa + (if ((ab.drop (Int.toNat aa)).length : Int) < ac then ((ab.drop (Int.toNat aa)).length : Int) else ac))))) (l := ab)]; have := ag.2; omega)) ?_
   obtain ⟨an, hc_14m, ao⟩ := bS hm
   cases ao
   have hm := hc_14m
   clear hc_14m
   refine ly1 rfl rfl rfl (hy _ _ _ _ [(.slice ah (((ab.take (Int.toNat (IntKind.i64.wrap (aa + (if ((ab.drop (Int.toNat aa)).length : Int) < ac then ((ab.drop (Int.toNat aa)).length : Int) else ac))))).drop (Int.toNat aa)).length) ((Int.toNat (IntKind.i64.wrap (aa + (if ((ab.drop (Int.toNat aa)).length : Int) < ac then ((ab.drop (Int.toNat aa)).length : Int) else ac)))) - (Int.toNat aa)))] hst ⟨ah, ((Int.toNat (IntKind.i64.wrap (aa + (if ((ab.drop (Int.toNat aa)).length : Int) < ac then ((ab.drop (Int.toNat aa)).length : Int) else ac)))) - (Int.toNat aa)), rfl, am⟩) ?_
   rintro _ ar ⟨ap, ai, ⟨rfl, hJ⟩ | ⟨rfl, hX⟩⟩
   ·refine ⟨_, rfl, ?_⟩
    clear hst
    have hst := hJ
    clear hJ
    refine lV (.bool false) (r_not true rfl) <| lN ?_
    refine wcondF rfl ?_
    refine wK <| wR <| lM (.int .i64 aa) ?_
    replace hb1 := hb1.kpp ai
    refine lV (.int .i64 ac) (r_ld Tryz.isAgg3 rfl hb1.at1) <| lV (.int .i64 (IntKind.i64.wrap (aa + ac))) (r_add aa ac rfl rfl) <| lA (.int .i64 (IntKind.i64.wrap (aa + ac))) <| lN ?_
    replace hf0 := hf0.kpp ai
    replace hb0 := hb0.kpp ai
    exact ⟨ae, by omega, ⟨ap, an, (IntKind.i64.wrap (aa + ac)), ae, rfl, hm, hst, hf0, hb0, hb1, rfl, rfl, rfl, rfl, rfl⟩⟩
   clear hm
   refine ⟨_, rfl, ?_⟩
   clear hst
   have hst := hX
   clear hX
   refine lV (.bool true) (r_not false rfl) <| lN ?_
   refine wcondT rfl ?_
   refine wret ?_
   exact ⟨rfl, ⟨_, rfl⟩, _, .inr hst⟩
  rw [if_neg (by rw [hb]; decide)] at hm
  clear hb
  refine wexit (inB_hit ?_)
  cases hm
  exact ⟨rfl, ⟨_, rfl⟩, _, .inl hst⟩
def m_slices_Chunk_api_Rat_api_Rat_J1 (N : Nat) (aa : (List ((Bool × (List Int)) × (List Int)))) (ab : Int) : Option (List (List ((Bool × (List Int)) × (List Int)))) :=
  m_slices_Chunk_api_Rat_api_Rat_1 N aa ab
def m_slices_Chunk_api_Rat_api_Rat (N : Nat) (ab : (List ((Bool × (List Int)) × (List Int)))) (aa : Int) : Option (List (List ((Bool × (List Int)) × (List Int)))) :=
  if (decide (aa < 1)) = true then none else (m_slices_Chunk_api_Rat_api_Rat_J1 N ab aa)
theorem c_slices_Chunk_api_Rat_api_Rat (N : Nat) (col : Col) (w0 : World) (a0 : Option Addr) (cap0 : Nat) (ab : (List ((Bool × (List Int)) × (List Int)))) (aa : Int) (h0 : Sl (Rep.pair (Rep.pair Rep.bool (Rep.slice (Rep.int .u32))) (Rep.slice (Rep.int .u32))) col w0 a0 cap0 ab) (r : (List (List ((Bool × (List Int)) × (List Int))))) (hm : m_slices_Chunk_api_Rat_api_Rat N ab aa = some r) :
    Calls Tryz.prog 150 #[(.slice a0 ab.length cap0), (.int .i64 aa)] w0 (fun e w' => ∃ (col' : Col) (rv1 : Value), e = .returned (rv1) ∧ Grow col w0 col' w' ∧ It Tryz.prog 1 rv1 (fun (y : List ((Bool × (List Int)) × (List Int))) (col : Col) (w : World) (args : List Value) => ∃ (a0 : Option Addr) (cap0 : Nat), args = [.slice a0 y.length cap0] ∧ Sl (Rep.pair (Rep.pair Rep.bool (Rep.slice (Rep.int .u32))) (Rep.slice (Rep.int .u32))) col w a0 cap0 y) r q0 col' w') := by
 refine calls_of1 4 (m := 9) (args := [(.slice a0 ab.length cap0), (.int .i64 aa)]) Tryz.func150 rfl rfl rfl rfl rfl ?_
 rw [m_slices_Chunk_api_Rat_api_Rat.eq_1] at hm
 have hst := St.start col w0
 refine wS <| wR ?_
 refine l_box (col := (col0 col)) (v := (.slice a0 ab.length cap0)) 1 rfl rfl ?_
 intro ac ao al am ad
 replace ad : Box 51 1 al ao ac #[(.slice a0 ab.length cap0)] := ad
 refine l_box (col := al) (v := (.int .i64 aa)) 2 rfl rfl ?_
 intro ae ap an ai af
 replace af : Box 3 2 an ap ae #[(.int .i64 aa)] := af
 refine lv (v := _) rfl rfl (r_assign rfl) ?_
 refine lN <| wS ?_
 replace h0 := ((h0.keep (Stay.start col w0)).gr am).gr ai
 replace hst := (hst.grow am).grow ai
 replace ad := ad.gr ai
 refine Wp.cut (fun f ah => ∃ (ag : Col), m_slices_Chunk_api_Rat_api_Rat_J1 N ab aa  = some r ∧ St w0 (col0 col) ag ah ∧ Sl (Rep.pair (Rep.pair Rep.bool (Rep.slice (Rep.int .u32))) (Rep.slice (Rep.int .u32))) ag ah a0 cap0 ab ∧ Box 51 1 ag ah ac #[(.slice a0 ab.length cap0)] ∧ Box 3 2 ag ah ae #[(.int .i64 aa)] ∧ f 2 = (.pointer (some ⟨ac, 0, none⟩)) ∧ f 3 = (.pointer (some ⟨ae, 0, none⟩)) ∧ f 1000000 = (enc [])) ?_ ?_
 ·intro f ah hJ
  obtain ⟨ag, hm, hst, h0, ad, af, hs2, hs3, hs1000000⟩ := hJ
  rw [m_slices_Chunk_api_Rat_api_Rat_J1.eq_1] at hm
  refine .lD 2 hs2 <| .lD 3 hs3 <| .lD 1000000 hs1000000 ?_
  clear hs2 hs3 hs1000000
  refine wS <| wR <| lV (.func (.func 175) #[] #[(.pointer (some ⟨ac, 0, none⟩)), (.pointer (some ⟨ae, 0, none⟩))]) (r_func2 rfl rfl) <| lA (.func (.func 175) #[] #[(.pointer (some ⟨ac, 0, none⟩)), (.pointer (some ⟨ae, 0, none⟩))]) <| lN ?_
  refine wret ?_
  have aj := hst.finBox (G := (fun n => bif Nat.beq n 1 then 450 else bif Nat.beq n 2 then 450 else 0)) ad (by decide) (by decide) (show (fun n => bif Nat.beq n 1 then 450 else bif Nat.beq n 2 then 450 else 0) 1 = 450 from rfl)
  have h0f := hst.finSl (g := (fun n => bif Nat.beq n 1 then 450 else bif Nat.beq n 2 then 450 else 0)) rfl h0
  have ak := hst.finBox (G := (fun n => bif Nat.beq n 1 then 450 else bif Nat.beq n 2 then 450 else 0)) af (by decide) (by decide) (show (fun n => bif Nat.beq n 1 then 450 else bif Nat.beq n 2 then 450 else 0) 2 = 450 from rfl)
  refine ⟨rfl, colF w0.heap.size col ag (fun n => bif Nat.beq n 1 then 450 else bif Nat.beq n 2 then 450 else 0), _, rfl, hst.fin (fun n => bif Nat.beq n 1 then 450 else bif Nat.beq n 2 then 450 else 0), 175, [(.pointer (some ⟨ac, 0, none⟩)), (.pointer (some ⟨ae, 0, none⟩))], rfl, Tryz.call175, ?_⟩
  intro col9 w9 hs9 hk9
  replace aj := aj.itk hs9 hk9 rfl
  replace h0f := h0f.itk hs9 hk9 rfl
  replace ak := ak.itk hs9 hk9 rfl
  exact c_slices_Chunk_api_Rat_api_Rat_1 N col9 w9 ac a0 cap0 ab h0f aj ae aa ak r hm
 refine wS <| wR <| lV (.int .i64 aa) (r_ld Tryz.isAgg3 rfl af.at1) <| lV (.bool (decide (aa < 1))) (r_lss aa 1 rfl rfl) <| lN ?_
 refine wcond (decide (aa < 1)) rfl (fun hb => ?_) (fun hb => ?_)
 ·rw [if_pos hb] at hm
  clear hb
  cases hm
 rw [if_neg (by rw [hb]; decide)] at hm
 clear hb
 refine wK ?_
 exact ⟨an, hm, hst, h0, ad, af, rfl, rfl, rfl⟩
theorem el114_59 : ElemOk Tryz.prog 114 1 4 := ⟨Tryz.t114, _, rfl, rfl, rfl, rfl, rfl⟩
def m_nat_Of (N : Nat) (aa : Int) : Option (List Int) :=
  (m_nat_own N [IntKind.u32.wrap aa, IntKind.u32.wrap (ishr .u64 aa 32)]).bind fun ab => some ab
theorem c_nat_Of (N : Nat) (c1 : Nat) (col : Col) (w0 : World) (aa : Int) (r : (List Int)) (hm : m_nat_Of N aa = some r) :
    Calls Tryz.prog 59 #[(.int .u64 aa)] w0 (fun e w' => ∃ (col' : Col) (ra1 : Option Addr) (rc2 : Nat), e = .returned ((.slice ra1 r.length rc2)) ∧ Grow col w0 col' w' ∧ Own (Rep.int .u32) 114 c1 col' w' ra1 rc2 r) := by
 refine calls_of1 2 (m := 10) (args := [(.int .u64 aa)]) Tryz.func59 rfl rfl rfl rfl rfl ?_
 rw [m_nat_Of.eq_1] at hm
 have hst := St.start col w0
 refine wS <| wR <| lA (.slice none (([] : List Int).length) 0) <| lN <| wS <| wR <| lM (.int .u64 aa) <| lV (.int .u32 (IntKind.u32.wrap aa)) (r_conv aa ⟨_, Tryz.underlying108⟩ Tryz.underlying114 rfl) <| lM (.int .u64 aa) <| lV (.int .u64 (ishr .u64 aa 32)) (r_shr aa 32 rfl rfl (by decide)) <| lV (.int .u32 (IntKind.u32.wrap (ishr .u64 aa 32))) (r_conv (ishr .u64 aa 32) ⟨_, Tryz.underlying108⟩ Tryz.underlying114 rfl) ?_
 refine l_lit (col := (col0 col)) (r := (Rep.int .u32)) (xs := [IntKind.u32.wrap aa, IntKind.u32.wrap (ishr .u64 aa 32)]) [(.int .u32 (IntKind.u32.wrap aa)), (.int .u32 (IntKind.u32.wrap (ishr .u64 aa 32)))] 1 rfl Tryz.underlying36 el114_59 rfl rfl rfl rfl rfl rfl (by intro v hv; simp only [List.mem_cons, List.not_mem_nil, or_false] at hv; rcases hv with rfl | rfl <;> rfl) (RowsH.ofF (Rows.consF (r := (Rep.int .u32)) (x := IntKind.u32.wrap aa) (cs := [(.int .u32 (IntKind.u32.wrap aa))]) (rd_int .u32 (IntKind.u32.wrap aa)) (Rows.consF (r := (Rep.int .u32)) (x := IntKind.u32.wrap (ishr .u64 aa 32)) (cs := [(.int .u32 (IntKind.u32.wrap (ishr .u64 aa 32)))]) (rd_int .u32 (IntKind.u32.wrap (ishr .u64 aa 32))) Rows.nil0))) ?_
 intro ah ai ab aj ak
 obtain ⟨ae, al, hm⟩ := bS hm
 refine lc rfl rfl (r_call1 Tryz.call89 rfl) (c_nat_own N 2 (frC 1 ab) _ ah 2 [IntKind.u32.wrap aa, IntKind.u32.wrap (ishr .u64 aa 32)] (ak.toSlF (Froz.int .u32)) ae al) ?_
 rintro _ ao ⟨am, af, ag, rfl, ac, ad⟩
 refine ⟨_, rfl, ?_⟩
 replace ad := ad.thaw (flat_int .u32) ac ((Fz.refl (col := ab)).froz 1) (by decide)
 replace ac := ac.thawR (col := ab)
 generalize colR ai.heap.size ab am = an at *
 refine lA (.slice af ae.length ag) <| lN ?_
 refine wret ?_
 cases hm
 replace hst := (hst.grow aj).grow ac
 exact ⟨rfl, colF w0.heap.size col an (fun n => bif Nat.beq n 2 then c1 else 0), af, ag, rfl, hst.fin (fun n => bif Nat.beq n 2 then c1 else 0), hst.finOwn (g := (fun n => bif Nat.beq n 2 then c1 else 0)) rfl ad (by decide) (by decide) rfl⟩
def m_frac_under (N : Nat) (ab : ((Bool × (List Int)) × (List Int))) : Option (List Int) :=
  (m_nat_Norm N ab.2).bind fun aa => if (decide (0 < (aa.length : Int))) = true then (some aa) else ((m_nat_Of N 1).bind fun ac => some ac)
theorem c_frac_under (N : Nat) (c1 : Nat) (col : Col) (w0 : World) (ae : Option Addr) (af : Nat) (ac : Option Addr) (ad : Nat) (aa : ((Bool × (List Int)) × (List Int))) (a1 : Sl (Rep.int .u32) col w0 ae af aa.1.2) (ai : Sl (Rep.int .u32) col w0 ac ad aa.2) (r : (List Int)) (hm : m_frac_under N aa = some r) :
    Calls Tryz.prog 56 #[(.agg #[(.bool aa.1.1), (.slice ae aa.1.2.length af), (.slice ac aa.2.length ad)])] w0 (fun e w' => ∃ (col' : Col) (ra1 : Option Addr) (rc2 : Nat), e = .returned ((.slice ra1 r.length rc2)) ∧ Grow col w0 col' w' ∧ Own (Rep.int .u32) 114 c1 col' w' ra1 rc2 r) := by
 refine calls_of1 2 (m := 12) (args := [(.agg #[(.bool aa.1.1), (.slice ae aa.1.2.length af), (.slice ac aa.2.length ad)])]) Tryz.func56 rfl rfl rfl rfl rfl ?_
 rw [m_frac_under.eq_1] at hm
 have hst := St.start col w0
 refine wS <| wR ?_
 refine l_box (col := (col0 col)) (v := (.agg #[(.bool aa.1.1), (.slice ae aa.1.2.length af), (.slice ac aa.2.length ad)])) 1 rfl rfl ?_
 intro ak ar al am aj
 replace aj : Box 40 1 al ar ak #[(.bool aa.1.1), (.slice ae aa.1.2.length af), (.slice ac aa.2.length ad)] := aj
 refine lA (.slice none (([] : List Int).length) 0) <| lN <| wS <| wS <| wR <| lV (.pointer ((some (⟨ak, 0, none⟩ : Addr)).map (·.add 2))) (rF (sz := 1) (off := 2) Tryz.underlying40 rfl Tryz.sizeOf36 (by decide) rfl rfl ⟨_, _, rfl⟩) <| lV (.slice ac aa.2.length ad) (r_ld Tryz.isAgg36 rfl ((aj.atN).nth (q := 2) (v := (.slice ac aa.2.length ad)) rfl)) ?_
 obtain ⟨ab, au, hm⟩ := bS hm
 replace ai := (ai.keep (Stay.start col w0)).gr am
 refine lc rfl rfl (r_call1 Tryz.call106 rfl) (c_nat_Norm N 2 al _ ac ad aa.2 ai ab au) ?_
 rintro _ a2 ⟨an, ag, ah, rfl, av, aw⟩
 refine ⟨_, rfl, ?_⟩
 refine lA (.slice ag ab.length ah) <| lN <| wS <| wR <| lM (.slice ag ab.length ah) <| lV (.int .i64 (ab.length : Int)) (r_len Tryz.underlying36 rfl) <| lV (.bool (decide (0 < (ab.length : Int)))) (r_gtr (ab.length : Int) 0 rfl rfl) <| lN ?_
 replace hst := (hst.grow am).grow av
 refine wcond (decide (0 < (ab.length : Int))) rfl (fun hb => ?_) (fun hb => ?_)
 ·rw [if_pos hb] at hm
  clear hb
  refine wS <| wR <| lM (.slice ag ab.length ah) <| lA (.slice ag ab.length ah) <| lN ?_
  refine wret ?_
  cases hm
  exact ⟨rfl, colF w0.heap.size col an (fun n => bif Nat.beq n 2 then c1 else 0), ag, ah, rfl, hst.fin (fun n => bif Nat.beq n 2 then c1 else 0), hst.finOwn (g := (fun n => bif Nat.beq n 2 then c1 else 0)) rfl aw (by decide) (by decide) rfl⟩
 rw [if_neg (by rw [hb]; decide)] at hm
 clear hb
 refine wK <| wS <| wR ?_
 obtain ⟨ao, ax, hm⟩ := bS hm
 refine lc rfl rfl (r_call1 Tryz.call59 rfl) (c_nat_Of N 3 an _ 1 ao ax) ?_
 rintro _ a3 ⟨ay, ap, aq, rfl, az, a0⟩
 refine ⟨_, rfl, ?_⟩
 refine lA (.slice ap ao.length aq) <| lN ?_
 refine wret ?_
 cases hm
 replace hst := hst.grow az
 exact ⟨rfl, colF w0.heap.size col ay (fun n => bif Nat.beq n 3 then c1 else 0), ap, aq, rfl, hst.fin (fun n => bif Nat.beq n 3 then c1 else 0), hst.finOwn (g := (fun n => bif Nat.beq n 3 then c1 else 0)) rfl a0 (by decide) (by decide) rfl⟩
def m_nat_Mul_L2 (ae : (List Int)) (aa : Nat) (kk_L1 : (Nat → (List Int) → Option (List Int))) (af : Int) : List Int → Nat → (List Int) → Int → Option (List Int)
  | [], ac, ab, ad => (at? ab (IntKind.i64.wrap ((aa : Int) + (ae.length : Int)))).bind fun al => (some (ab.set (Int.toNat (IntKind.i64.wrap ((aa : Int) + (ae.length : Int)))) (IntKind.u32.wrap ad))).bind fun ai => kk_L1 (aa + 1) ai
  | ag :: aj, ac, ab, ad => (at? ab (IntKind.i64.wrap ((aa : Int) + (ac : Int)))).bind fun ah => (some (ab.set (Int.toNat (IntKind.i64.wrap ((aa : Int) + (ac : Int)))) (IntKind.u32.wrap (IntKind.u64.wrap (ad + (IntKind.u64.wrap ((IntKind.u64.wrap ((IntKind.u64.wrap af) * (IntKind.u64.wrap ag))) + (IntKind.u64.wrap ah)))))))).bind fun ak => (m_nat_Mul_L2 ae aa kk_L1 af aj) (ac + 1) ak (ishr .u64 (IntKind.u64.wrap (ad + (IntKind.u64.wrap ((IntKind.u64.wrap ((IntKind.u64.wrap af) * (IntKind.u64.wrap ag))) + (IntKind.u64.wrap ah))))) 32)
termination_by structural x => x
def m_nat_Mul_L1 (N : Nat) (aa : (List Int)) : List Int → Nat → (List Int) → Option (List Int)
  | [], ac, ab => (m_nat_own N ab).bind fun ad => some ad
  | ae :: af, ac, ab => m_nat_Mul_L2 aa ac (m_nat_Mul_L1 N aa af) ae aa 0 ab 0
termination_by structural x => x
def m_nat_Mul (N : Nat) (ac : (List Int)) (ad : (List Int)) : Option (List Int) :=
  (m_nat_trim N ac).bind fun aa => (m_nat_trim N ad).bind fun ab => chk ((Int.toNat (IntKind.i64.wrap ((aa.length : Int) + (ab.length : Int)))) * 4 ≤ 281474976710656 ∧ (Int.toNat (IntKind.i64.wrap ((aa.length : Int) + (ab.length : Int)))) ≤ maxLen ∧ 0 ≤ (IntKind.i64.wrap ((aa.length : Int) + (ab.length : Int)))) (m_nat_Mul_L1 N ab aa 0 (List.replicate (Int.toNat (IntKind.i64.wrap ((aa.length : Int) + (ab.length : Int)))) (0 : Int)))
theorem c_nat_Mul (N : Nat) (c1 : Nat) (col : Col) (w0 : World) (a0 : Option Addr) (cap0 : Nat) (ay : (List Int)) (a1 : Option Addr) (cap1 : Nat) (az : (List Int)) (h0 : Sl (Rep.int .u32) col w0 a0 cap0 ay) (h1 : Sl (Rep.int .u32) col w0 a1 cap1 az) (r : (List Int)) (hm : m_nat_Mul N ay az = some r) :
    Calls Tryz.prog 40 #[(.slice a0 ay.length cap0), (.slice a1 az.length cap1)] w0 (fun e w' => ∃ (col' : Col) (ra1 : Option Addr) (rc2 : Nat), e = .returned ((.slice ra1 r.length rc2)) ∧ Grow col w0 col' w' ∧ Own (Rep.int .u32) 114 c1 col' w' ra1 rc2 r) := by
 refine calls_of1 4 (m := 71) (args := [(.slice a0 ay.length cap0), (.slice a1 az.length cap1)]) Tryz.func40 rfl rfl rfl rfl rfl ?_
 rw [m_nat_Mul.eq_1] at hm
 have hst := St.start col w0
 refine wS <| wR <| lA (.slice none (([] : List Int).length) 0) <| lN <| wS <| wR <| lM (.slice a0 ay.length cap0) ?_
 obtain ⟨ac, bu, hm⟩ := bS hm
 replace h0 := h0.keep (Stay.start col w0)
 refine lc rfl rfl (r_call1 Tryz.call88 rfl) (c_nat_trim N (col0 col) _ a0 cap0 ay h0 ac bu) ?_
 rintro _ b7 ⟨bv, aq, av, rfl, bk, ai⟩
 refine ⟨_, rfl, ?_⟩
 refine lM (.slice a1 az.length cap1) ?_
 obtain ⟨aa, bw, hm⟩ := bS hm
 replace h1 := (h1.keep (Stay.start col w0)).gr bk
 refine lc rfl rfl (r_call1 Tryz.call88 rfl) (c_nat_trim N bv _ a1 cap1 az h1 aa bw) ?_
 rintro _ bx ⟨bz, an, ap, rfl, bl, aj⟩
 refine ⟨_, rfl, ?_⟩
 refine lA (.slice aq ac.length av) <| lA (.slice an aa.length ap) <| lN <| wS <| wR <| lM (.slice aq ac.length av) <| lV (.int .i64 (ac.length : Int)) (r_len Tryz.underlying36 rfl) <| lM (.slice an aa.length ap) <| lV (.int .i64 (aa.length : Int)) (r_len Tryz.underlying36 rfl) <| lV (.int .i64 (IntKind.i64.wrap ((ac.length : Int) + (aa.length : Int)))) (r_add (ac.length : Int) (aa.length : Int) rfl rfl) ?_
 obtain ⟨a8, hm⟩ := cS hm
 refine l_make (col := bz) (w := bx) (r := (Rep.int .u32)) (n := (Int.toNat (IntKind.i64.wrap ((ac.length : Int) + (aa.length : Int))))) (x0 := 0) 1 rfl Tryz.underlying36 Tryz.t114 rfl rfl rfl rfl rfl (congrArg (Value.int _) (Int.toNat_of_nonneg a8.2.2).symm) (congrArg (Value.int _) (Int.toNat_of_nonneg a8.2.2).symm) a8.1 a8.2.1 (rd_int .u32 0) ?_
 intro bm b8 b0 bf b1
 refine lA (.slice bm ((List.replicate (Int.toNat (IntKind.i64.wrap ((ac.length : Int) + (aa.length : Int)))) (0 : Int)).length) (Int.toNat (IntKind.i64.wrap ((ac.length : Int) + (aa.length : Int))))) <| lN <| wS <| wS <| wR <| lM (.slice aq ac.length av) <| lV (.int .i64 (ac.length : Int)) (r_len Tryz.underlying36 rfl) <| lM (.int .i64 0) <| lN <| wB ?_
 replace hst := ((hst.grow bk).grow bl).grow bf
 replace ai := (ai.gr bl).gr bf
 replace aj := aj.gr bf
 refine wloop (fun n f a2 => ∃ (ao : Col) (ab : Nat) (a3 : Option Addr) (a4 : Nat) (aw : List Int) (a5 : List Int), n = a5.length ∧ ac.drop ab = a5 ∧ m_nat_Mul_L1 N aa a5 ab aw = some r ∧ St w0 (col0 col) ao a2 ∧ Sl (Rep.int .u32) ao a2 an ap aa ∧ Sl (Rep.int .u32) ao a2 aq av ac ∧ Own (Rep.int .u32) 114 1 ao a2 a3 a4 aw ∧ f 23 = (.int .i64 (ab : Int)) ∧ f 1 = (.slice an aa.length ap) ∧ f 21 = (.slice aq ac.length av) ∧ f 22 = (.int .i64 (ac.length : Int)) ∧ f 5 = (.slice a3 aw.length a4) ∧ f 1000000 = (enc [])) ac.length ⟨b0, 0, bm, (Int.toNat (IntKind.i64.wrap ((ac.length : Int) + (aa.length : Int)))), (List.replicate (Int.toNat (IntKind.i64.wrap ((ac.length : Int) + (aa.length : Int)))) (0 : Int)), ac, rfl, rfl, hm, hst, aj, ai, b1, rfl, rfl, rfl, rfl, rfl, rfl⟩ ?_
 clear hm; intro n f a2 hI
 obtain ⟨ao, ab, a3, a4, aw, a5, hn, hl, hm, hst, aj, ai, bn, hs23, hs1, hs21, hs22, hs5, hs1000000⟩ := hI
 subst hn
 refine .lD 23 hs23 <| .lD 1 hs1 <| .lD 21 hs21 <| .lD 22 hs22 <| .lD 5 hs5 <| .lD 1000000 hs1000000 ?_
 clear hs23 hs1 hs21 hs22 hs5 hs1000000
 cases a5 with
 | nil =>
  have hk : ¬ ((ab : Int) < (ac.length : Int)) := by have := List.drop_eq_nil_iff.1 hl; omega
  have hkb := decide_eq_false hk
  rw [m_nat_Mul_L1.eq_1] at hm
  refine wS <| wR <| lV (.bool (decide ((ab : Int) < (ac.length : Int)))) (r_lss (ab : Int) (ac.length : Int) rfl rfl) <| lN <| wS ?_
  refine wcondF (congrArg Value.bool hkb) ?_
  refine wexit (inB_hit ?_)
  refine wS <| wR <| lM (.slice a3 aw.length a4) ?_
  obtain ⟨bo, b2, hm⟩ := bS hm
  refine lc rfl rfl (r_call1 Tryz.call89 rfl) (c_nat_own N 2 (frC 1 ao) _ a3 a4 aw (bn.toSlF (Froz.int .u32)) bo b2) ?_
  rintro _ b9 ⟨b3, bp, bq, rfl, a9, bg⟩
  refine ⟨_, rfl, ?_⟩
  replace bg := bg.thaw (flat_int .u32) a9 ((Fz.refl (col := ao)).froz 1) (by decide)
  replace a9 := a9.thawR (col := ao)
  generalize colR a2.heap.size ao b3 = b4 at *
  refine lA (.slice bp bo.length bq) <| lN ?_
  refine wret ?_
  cases hm
  replace hst := hst.grow a9
  exact ⟨rfl, colF w0.heap.size col b4 (fun n => bif Nat.beq n 2 then c1 else 0), bp, bq, rfl, hst.fin (fun n => bif Nat.beq n 2 then c1 else 0), hst.finOwn (g := (fun n => bif Nat.beq n 2 then c1 else 0)) rfl bg (by decide) (by decide) rfl⟩
 | cons ad bh =>
  obtain ⟨hat, hl2_L1, hlt_L1⟩ := drop_get hl
  have hk : (ab : Int) < (ac.length : Int) := by omega
  have hkb := decide_eq_true hk
  rw [m_nat_Mul_L1.eq_2] at hm
  refine wS <| wR <| lV (.bool (decide ((ab : Int) < (ac.length : Int)))) (r_lss (ab : Int) (ac.length : Int) rfl rfl) <| lN <| wS ?_
  refine wcondT (congrArg Value.bool hkb) ?_
  refine wK <| wS <| wB <| wS <| wR <| lM (.int .i64 (ab : Int)) ?_
  refine lV (sptr aq (Int.toNat (ab : Int) * 1)) (r_idx Tryz.underlying36 Tryz.sizeOf114 rfl rfl (at?_some hat).1 (at?_some hat).2.1 (ai.addr hat)) ?_
  refine lV (.int .u32 ad) (r_ld Tryz.isAgg114 rfl (ai.atInt hat)) <| lA (.int .i64 (ab : Int)) <| lA (.int .u32 ad) <| lN <| wS <| wR <| lA (.int .u64 0) <| lN <| wS <| wS <| wR <| lM (.slice an aa.length ap) <| lV (.int .i64 (aa.length : Int)) (r_len Tryz.underlying36 rfl) <| lM (.int .i64 0) <| lN <| wB ?_
  refine wloop (fun n f a6 => ∃ (ax : Col) (ae : Nat) (ak : Option Addr) (al : Nat) (am : List Int) (af : Int) (a7 : List Int), n = a7.length ∧ aa.drop ae = a7 ∧ m_nat_Mul_L2 aa ab (m_nat_Mul_L1 N aa bh) ad a7 ae am af = some r ∧ St w0 (col0 col) ax a6 ∧ Sl (Rep.int .u32) ax a6 an ap aa ∧ Sl (Rep.int .u32) ax a6 aq av ac ∧ Own (Rep.int .u32) 114 1 ax a6 ak al am ∧ f 30 = (.int .i64 (ae : Int)) ∧ f 1 = (.slice an aa.length ap) ∧ f 21 = (.slice aq ac.length av) ∧ f 22 = (.int .i64 (ac.length : Int)) ∧ f 23 = (.int .i64 (ab : Int)) ∧ f 28 = (.slice an aa.length ap) ∧ f 29 = (.int .i64 (aa.length : Int)) ∧ f 5 = (.slice ak am.length al) ∧ f 6 = (.int .i64 (ab : Int)) ∧ f 7 = (.int .u32 ad) ∧ f 8 = (.int .u64 af) ∧ f 1000000 = (enc [])) aa.length ⟨ao, 0, a3, a4, aw, 0, aa, rfl, rfl, hm, hst, aj, ai, bn, rfl, rfl, rfl, rfl, rfl, rfl, rfl, rfl, rfl, rfl, rfl, rfl⟩ ?_
  clear hm; intro n f a6 hI
  obtain ⟨ax, ae, ak, al, am, af, a7, hn, hl, hm, hst, aj, ai, ar, hs30, hs1, hs21, hs22, hs23, hs28, hs29, hs5, hs6, hs7, hs8, hs1000000⟩ := hI
  subst hn
  refine .lD 30 hs30 <| .lD 1 hs1 <| .lD 21 hs21 <| .lD 22 hs22 <| .lD 23 hs23 <| .lD 28 hs28 <| .lD 29 hs29 <| .lD 5 hs5 <| .lD 6 hs6 <| .lD 7 hs7 <| .lD 8 hs8 <| .lD 1000000 hs1000000 ?_
  clear hs30 hs1 hs21 hs22 hs23 hs28 hs29 hs5 hs6 hs7 hs8 hs1000000
  cases a7 with
  | nil =>
   have hk : ¬ ((ae : Int) < (aa.length : Int)) := by have := List.drop_eq_nil_iff.1 hl; omega
   have hkb := decide_eq_false hk
   rw [m_nat_Mul_L2.eq_1] at hm
   refine wS <| wR <| lV (.bool (decide ((ae : Int) < (aa.length : Int)))) (r_lss (ae : Int) (aa.length : Int) rfl rfl) <| lN <| wS ?_
   refine wcondF (congrArg Value.bool hkb) ?_
   refine wexit (inB_hit ?_)
   refine wR <| lM (.slice ak am.length al) <| lM (.int .i64 (ab : Int)) <| lM (.slice an aa.length ap) <| lV (.int .i64 (aa.length : Int)) (r_len Tryz.underlying36 rfl) <| lV (.int .i64 (IntKind.i64.wrap ((ab : Int) + (aa.length : Int)))) (r_add (ab : Int) (aa.length : Int) rfl rfl) <| lM (.int .u64 af) <| lV (.int .u32 (IntKind.u32.wrap af)) (r_conv af ⟨_, Tryz.underlying108⟩ Tryz.underlying114 rfl) ?_
   obtain ⟨ca, ba, hm⟩ := bS hm
   refine lV (sptr ak (Int.toNat (IntKind.i64.wrap ((ab : Int) + (aa.length : Int))) * 1)) (r_idx Tryz.underlying36 Tryz.sizeOf114 rfl rfl (at?_some ba).1 (at?_some ba).2.1 (ar.addr ba)) ?_
   obtain ⟨bb, bc, hm⟩ := bS hm
   have bc : bb = am.set (Int.toNat (IntKind.i64.wrap ((ab : Int) + (aa.length : Int)))) (IntKind.u32.wrap af) := (Option.some.inj bc).symm
   refine l_store (x1 := IntKind.u32.wrap af) (v := (.int .u32 (IntKind.u32.wrap af))) ar ba rfl Tryz.sizeOf114 (rd_int .u32 (IntKind.u32.wrap af)) rfl rfl (by decide) ?_
   intro cb bi b5 br
   rw [← bc] at br
   refine .ld (d := 5) (v := (.slice ak bb.length al)) (congrArg (fun n => Value.slice ak n al) (show am.length = bb.length by rw [bc, List.length_set])) ?_
   clear ar
   refine lN <| wR <| lV (.int .i64 (IntKind.i64.wrap ((ab : Int) + 1))) (r_add (ab : Int) 1 rfl rfl) <| lM (.int .i64 (IntKind.i64.wrap ((ab : Int) + 1))) <| lN ?_
   replace aj := aj.kp bi
   replace ai := ai.kp bi
   replace hst := hst.kp bi b5
   exact ⟨bh.length, by simp, ⟨ax, (ab + 1), ak, al, bb, bh, rfl, hl2_L1, hm, hst, aj, ai, br, (congrArg (Value.int .i64) (wrap_succ (Nat.lt_of_lt_of_le hlt_L1 ai.1.1))), rfl, rfl, rfl, rfl, rfl⟩⟩
  | cons ag bs =>
   obtain ⟨hat, hl2_L2, hlt_L2⟩ := drop_get hl
   have hk : (ae : Int) < (aa.length : Int) := by omega
   have hkb := decide_eq_true hk
   rw [m_nat_Mul_L2.eq_2] at hm
   refine wS <| wR <| lV (.bool (decide ((ae : Int) < (aa.length : Int)))) (r_lss (ae : Int) (aa.length : Int) rfl rfl) <| lN <| wS ?_
   refine wcondT (congrArg Value.bool hkb) ?_
   refine wK <| wS <| wB <| wS <| wR <| lM (.int .i64 (ae : Int)) ?_
   refine lV (sptr an (Int.toNat (ae : Int) * 1)) (r_idx Tryz.underlying36 Tryz.sizeOf114 rfl rfl (at?_some hat).1 (at?_some hat).2.1 (aj.addr hat)) ?_
   refine lV (.int .u32 ag) (r_ld Tryz.isAgg114 rfl (aj.atInt hat)) <| lA (.int .i64 (ae : Int)) <| lA (.int .u32 ag) <| lN <| wS <| wR <| lM (.int .u64 af) <| lM (.int .u32 ad) <| lV (.int .u64 (IntKind.u64.wrap ad)) (r_conv ad ⟨_, Tryz.underlying114⟩ Tryz.underlying108 rfl) <| lM (.int .u32 ag) <| lV (.int .u64 (IntKind.u64.wrap ag)) (r_conv ag ⟨_, Tryz.underlying114⟩ Tryz.underlying108 rfl) <| lV (.int .u64 (IntKind.u64.wrap ((IntKind.u64.wrap ad) * (IntKind.u64.wrap ag)))) (r_mul (IntKind.u64.wrap ad) (IntKind.u64.wrap ag) rfl rfl) <| lM (.slice ak am.length al) <| lM (.int .i64 (ab : Int)) <| lM (.int .i64 (ae : Int)) <| lV (.int .i64 (IntKind.i64.wrap ((ab : Int) + (ae : Int)))) (r_add (ab : Int) (ae : Int) rfl rfl) ?_
   obtain ⟨ah, au, hm⟩ := bS hm
   refine lV (sptr ak (Int.toNat (IntKind.i64.wrap ((ab : Int) + (ae : Int))) * 1)) (r_idx Tryz.underlying36 Tryz.sizeOf114 rfl rfl (at?_some au).1 (at?_some au).2.1 (ar.addr au)) ?_
   refine lV (.int .u32 ah) (r_ld Tryz.isAgg114 rfl (ar.atInt au)) <| lV (.int .u64 (IntKind.u64.wrap ah)) (r_conv ah ⟨_, Tryz.underlying114⟩ Tryz.underlying108 rfl) <| lV (.int .u64 (IntKind.u64.wrap ((IntKind.u64.wrap ((IntKind.u64.wrap ad) * (IntKind.u64.wrap ag))) + (IntKind.u64.wrap ah)))) (r_add (IntKind.u64.wrap ((IntKind.u64.wrap ad) * (IntKind.u64.wrap ag))) (IntKind.u64.wrap ah) rfl rfl) <| lV (.int .u64 (IntKind.u64.wrap (af + (IntKind.u64.wrap ((IntKind.u64.wrap ((IntKind.u64.wrap ad) * (IntKind.u64.wrap ag))) + (IntKind.u64.wrap ah)))))) (r_add af (IntKind.u64.wrap ((IntKind.u64.wrap ((IntKind.u64.wrap ad) * (IntKind.u64.wrap ag))) + (IntKind.u64.wrap ah))) rfl rfl) <| lA (.int .u64 (IntKind.u64.wrap (af + (IntKind.u64.wrap ((IntKind.u64.wrap ((IntKind.u64.wrap ad) * (IntKind.u64.wrap ag))) + (IntKind.u64.wrap ah)))))) <| lN <| wS <| wR <| lM (.slice ak am.length al) <| lM (.int .i64 (ab : Int)) <| lM (.int .i64 (ae : Int)) <| lV (.int .i64 (IntKind.i64.wrap ((ab : Int) + (ae : Int)))) (r_add (ab : Int) (ae : Int) rfl rfl) <| lM (.int .u64 (IntKind.u64.wrap (af + (IntKind.u64.wrap ((IntKind.u64.wrap ((IntKind.u64.wrap ad) * (IntKind.u64.wrap ag))) + (IntKind.u64.wrap ah)))))) <| lV (.int .u32 (IntKind.u32.wrap (IntKind.u64.wrap (af + (IntKind.u64.wrap ((IntKind.u64.wrap ((IntKind.u64.wrap ad) * (IntKind.u64.wrap ag))) + (IntKind.u64.wrap ah))))))) (r_conv (IntKind.u64.wrap (af + (IntKind.u64.wrap ((IntKind.u64.wrap ((IntKind.u64.wrap ad) * (IntKind.u64.wrap ag))) + (IntKind.u64.wrap ah))))) ⟨_, Tryz.underlying108⟩ Tryz.underlying114 rfl) ?_
   refine lV (sptr ak (Int.toNat (IntKind.i64.wrap ((ab : Int) + (ae : Int))) * 1)) (r_idx Tryz.underlying36 Tryz.sizeOf114 rfl rfl (at?_some au).1 (at?_some au).2.1 (ar.addr au)) ?_
   obtain ⟨bd, be, hm⟩ := bS hm
   have be : bd = am.set (Int.toNat (IntKind.i64.wrap ((ab : Int) + (ae : Int)))) (IntKind.u32.wrap (IntKind.u64.wrap (af + (IntKind.u64.wrap ((IntKind.u64.wrap ((IntKind.u64.wrap ad) * (IntKind.u64.wrap ag))) + (IntKind.u64.wrap ah)))))) := (Option.some.inj be).symm
   refine l_store (x1 := IntKind.u32.wrap (IntKind.u64.wrap (af + (IntKind.u64.wrap ((IntKind.u64.wrap ((IntKind.u64.wrap ad) * (IntKind.u64.wrap ag))) + (IntKind.u64.wrap ah)))))) (v := (.int .u32 (IntKind.u32.wrap (IntKind.u64.wrap (af + (IntKind.u64.wrap ((IntKind.u64.wrap ((IntKind.u64.wrap ad) * (IntKind.u64.wrap ag))) + (IntKind.u64.wrap ah)))))))) ar au rfl Tryz.sizeOf114 (rd_int .u32 (IntKind.u32.wrap (IntKind.u64.wrap (af + (IntKind.u64.wrap ((IntKind.u64.wrap ((IntKind.u64.wrap ad) * (IntKind.u64.wrap ag))) + (IntKind.u64.wrap ah))))))) rfl rfl (by decide) ?_
   intro cc bj b6 bt
   rw [← be] at bt
   refine .ld (d := 5) (v := (.slice ak bd.length al)) (congrArg (fun n => Value.slice ak n al) (show am.length = bd.length by rw [be, List.length_set])) ?_
   clear ar
   refine lN <| wR <| lM (.int .u64 (IntKind.u64.wrap (af + (IntKind.u64.wrap ((IntKind.u64.wrap ((IntKind.u64.wrap ad) * (IntKind.u64.wrap ag))) + (IntKind.u64.wrap ah)))))) <| lV (.int .u64 (ishr .u64 (IntKind.u64.wrap (af + (IntKind.u64.wrap ((IntKind.u64.wrap ((IntKind.u64.wrap ad) * (IntKind.u64.wrap ag))) + (IntKind.u64.wrap ah))))) 32)) (r_shr (IntKind.u64.wrap (af + (IntKind.u64.wrap ((IntKind.u64.wrap ((IntKind.u64.wrap ad) * (IntKind.u64.wrap ag))) + (IntKind.u64.wrap ah))))) 32 rfl rfl (by decide)) <| lA (.int .u64 (ishr .u64 (IntKind.u64.wrap (af + (IntKind.u64.wrap ((IntKind.u64.wrap ((IntKind.u64.wrap ad) * (IntKind.u64.wrap ag))) + (IntKind.u64.wrap ah))))) 32)) <| lN <| wR <| lV (.int .i64 (IntKind.i64.wrap ((ae : Int) + 1))) (r_add (ae : Int) 1 rfl rfl) <| lM (.int .i64 (IntKind.i64.wrap ((ae : Int) + 1))) <| lN ?_
   replace aj := aj.kp bj
   replace ai := ai.kp bj
   replace hst := hst.kp bj b6
   exact ⟨bs.length, by simp, ⟨ax, (ae + 1), ak, al, bd, (ishr .u64 (IntKind.u64.wrap (af + (IntKind.u64.wrap ((IntKind.u64.wrap ((IntKind.u64.wrap ad) * (IntKind.u64.wrap ag))) + (IntKind.u64.wrap ah))))) 32), bs, rfl, hl2_L2, hm, hst, aj, ai, bt, (congrArg (Value.int .i64) (wrap_succ (Nat.lt_of_lt_of_le hlt_L2 aj.1.1))), rfl, rfl, rfl, rfl, rfl, rfl, rfl, rfl, rfl, rfl, rfl⟩⟩
def m_whole_of_J1 (aa : Bool) (ab : List Int) : Option (Bool × (List Int)) :=
  some (aa, ab)
def m_whole_of (N : Nat) (ab : Bool) (ac : (List Int)) : Option (Bool × (List Int)) :=
  (m_nat_Norm N ac).bind fun aa => if ab = true then (m_whole_of_J1 (decide (0 < (aa.length : Int))) aa) else (m_whole_of_J1 false aa)
theorem c_whole_of (N : Nat) (c1 : Nat) (col : Col) (w0 : World) (ab : Bool) (a1 : Option Addr) (cap1 : Nat) (ah : (List Int)) (h1 : Sl (Rep.int .u32) col w0 a1 cap1 ah) (r : (Bool × (List Int))) (hm : m_whole_of N ab ah = some r) :
    Calls Tryz.prog 112 #[(.bool ab), (.slice a1 ah.length cap1)] w0 (fun e w' => ∃ (col' : Col) (ra1 : Option Addr) (rc2 : Nat), e = .returned ((.agg #[(.bool r.1), (.slice ra1 r.2.length rc2)])) ∧ Grow col w0 col' w' ∧ Own (Rep.int .u32) 114 c1 col' w' ra1 rc2 r.2) := by
 refine calls_ofR (m := 16) (args := [(.bool ab), (.slice a1 ah.length cap1)]) Tryz.func112 rfl rfl rfl ?_
 rw [m_whole_of.eq_1] at hm
 have hst := St.start col w0
 refine wS <| wR ?_
 refine l_alloc (col := (col0 col)) (v := (.agg #[(.bool false), (.slice none (([] : List Int).length) 0)])) 1 rfl Tryz.zeroValue38 ?_
 intro ai az au av af
 replace af : Box 38 1 au az ai #[(.bool false), (.slice none (([] : List Int).length) 0)] := af
 refine lN <| wS <| wR <| lM (.slice a1 ah.length cap1) ?_
 obtain ⟨aa, a0, hm⟩ := bS hm
 replace h1 := (h1.keep (Stay.start col w0)).gr av
 refine lc rfl rfl (r_call1 Tryz.call106 rfl) (c_nat_Norm N 2 au _ a1 cap1 ah h1 aa a0) ?_
 rintro _ a7 ⟨am, ac, ad, rfl, aw, ag⟩
 refine ⟨_, rfl, ?_⟩
 refine lA (.slice ac aa.length ad) <| lN <| wS ?_
 replace hst := (hst.grow av).grow aw
 replace af := af.gr aw
 refine Wp.cut (fun f an => ∃ (aj : Col) (ar : Bool) (ao : Option Addr) (ap : Nat) (aq : List Int), m_whole_of_J1 ar aq = some r ∧ St w0 (col0 col) aj an ∧ Own (Rep.int .u32) 114 3 aj an ao ap aq ∧ Box 38 1 aj an ai #[(.bool ar), (.slice ao aq.length ap)] ∧ f 4 = (.pointer (some ⟨ai, 0, none⟩)) ∧ f 1000000 = (enc [])) ?_ ?_
 ·intro f an hJ
  obtain ⟨aj, ar, ao, ap, aq, hm, hst, a2, af, hs4, hs1000000⟩ := hJ
  rw [m_whole_of_J1.eq_1] at hm
  refine .lD 4 hs4 <| .lD 1000000 hs1000000 ?_
  clear hs4 hs1000000
  refine wret ?_
  cases hm
  exact ⟨rfl, _, res_a rfl rfl Tryz.isAgg38 Tryz.sizeOf38 rfl rfl af.atN, colF w0.heap.size col aj (fun n => bif Nat.beq n 3 then c1 else 0), ao, ap, rfl, hst.fin (fun n => bif Nat.beq n 3 then c1 else 0), hst.finOwn (g := (fun n => bif Nat.beq n 3 then c1 else 0)) rfl a2 (by decide) (by decide) rfl⟩
 refine wR <| lM (.bool ab) <| lM (.bool ab) ?_
 by_cases ae : ab = true
 ·rw [if_pos ae] at hm
  refine lg (b := ab) 9 rfl rfl rfl (by rw [ae]; rfl) ?_
  refine lM (.slice ac aa.length ad) ?_
  refine lg (b := ab) 9 rfl rfl rfl (by rw [ae]; rfl) ?_
  refine lV (.int .i64 (aa.length : Int)) (r_len Tryz.underlying36 rfl) ?_
  refine lg (b := ab) 9 rfl rfl rfl (by rw [ae]; rfl) ?_
  refine lV (.bool (decide (0 < (aa.length : Int)))) (r_gtr (aa.length : Int) 0 rfl rfl) <| lV (.bool (decide (0 < (aa.length : Int)))) (r_pickT (congrArg Value.bool ae) rfl) <| lM (.slice ac aa.length ad) <| lV (.agg #[(.bool (decide (0 < (aa.length : Int)))), (.slice ac aa.length ad)]) (r_build (l := [_, _]) (qs := [(0, 1), (1, 1)]) Tryz.underlying38 Tryz.zeroValue38 ⟨rfl, Tryz.sizeOf4, rfl, Tryz.sizeOf36, trivial⟩ rfl) ?_
  refine l_bstore (v := (.agg #[(.bool (decide (0 < (aa.length : Int)))), (.slice ac aa.length ad)])) af Tryz.sizeOf38 rfl rfl (by intro u hu; simp only [Value.cells, List.mem_cons, List.not_mem_nil, or_false] at hu; rcases hu with rfl | rfl <;> rfl) rfl rfl ?_
  intro a3 ax a4 ak
  clear af
  replace ak : Box 38 1 am a3 ai #[(.bool (decide (0 < (aa.length : Int)))), (.slice ac aa.length ad)] := ak
  refine lN ?_
  replace ag := ag.kp ax
  replace ag := ag.recolSelf 3 (by decide)
  replace ak := ak.recol 2 3 (by decide)
  replace hst := hst.kp ax a4
  replace hst := hst.recol 2 3 (by decide) (by decide)
  exact ⟨(rcC 2 3 am), (decide (0 < (aa.length : Int))), ac, ad, aa, hm, hst, ag, ak, rfl, rfl⟩
 rw [if_neg ae] at hm
 replace ae := Bool.eq_false_iff.2 ae
 refine lp (b := ab) 9 rfl rfl rfl rfl (by rw [ae]; rfl) ?_
 refine lp (b := ab) 9 rfl rfl rfl rfl (by rw [ae]; rfl) ?_
 refine lp (b := ab) 9 rfl rfl rfl rfl (by rw [ae]; rfl) ?_
 refine lV (.bool false) (r_pickF (congrArg Value.bool ae) rfl) <| lM (.slice ac aa.length ad) <| lV (.agg #[(.bool false), (.slice ac aa.length ad)]) (r_build (l := [_, _]) (qs := [(0, 1), (1, 1)]) Tryz.underlying38 Tryz.zeroValue38 ⟨rfl, Tryz.sizeOf4, rfl, Tryz.sizeOf36, trivial⟩ rfl) ?_
 refine l_bstore (v := (.agg #[(.bool false), (.slice ac aa.length ad)])) af Tryz.sizeOf38 rfl rfl (by intro u hu; simp only [Value.cells, List.mem_cons, List.not_mem_nil, or_false] at hu; rcases hu with rfl | rfl <;> rfl) rfl rfl ?_
 intro a5 ay a6 al
 clear af
 replace al : Box 38 1 am a5 ai #[(.bool false), (.slice ac aa.length ad)] := al
 refine lN ?_
 replace ag := ag.kp ay
 replace ag := ag.recolSelf 3 (by decide)
 replace al := al.recol 2 3 (by decide)
 replace hst := hst.kp ay a6
 replace hst := hst.recol 2 3 (by decide) (by decide)
 exact ⟨(rcC 2 3 am), false, ac, ad, aa, hm, hst, ag, al, rfl, rfl⟩
def m_whole_Mul (N : Nat) (aa : (Bool × (List Int))) (ab : (Bool × (List Int))) : Option (Bool × (List Int)) :=
  (m_nat_Mul N aa.2 ab.2).bind fun ad => (m_whole_of N (!decide (aa.1 = ab.1)) ad).bind fun ac => some (ac.1, ac.2)
theorem c_whole_Mul (N : Nat) (c1 : Nat) (col : Col) (w0 : World) (af : Option Addr) (ag : Nat) (aa : (Bool × (List Int))) (ah : Option Addr) (ai : Nat) (ab : (Bool × (List Int))) (au : Sl (Rep.int .u32) col w0 af ag aa.2) (av : Sl (Rep.int .u32) col w0 ah ai ab.2) (r : (Bool × (List Int))) (hm : m_whole_Mul N aa ab = some r) :
    Calls Tryz.prog 127 #[(.agg #[(.bool aa.1), (.slice af aa.2.length ag)]), (.agg #[(.bool ab.1), (.slice ah ab.2.length ai)])] w0 (fun e w' => ∃ (col' : Col) (ra1 : Option Addr) (rc2 : Nat), e = .returned ((.agg #[(.bool r.1), (.slice ra1 r.2.length rc2)])) ∧ Grow col w0 col' w' ∧ Own (Rep.int .u32) 114 c1 col' w' ra1 rc2 r.2) := by
 refine calls_ofR (m := 16) (args := [(.agg #[(.bool aa.1), (.slice af aa.2.length ag)]), (.agg #[(.bool ab.1), (.slice ah ab.2.length ai)])]) Tryz.func127 rfl rfl rfl ?_
 rw [m_whole_Mul.eq_1] at hm
 have hst := St.start col w0
 refine wS <| wR ?_
 refine l_box (col := (col0 col)) (v := (.agg #[(.bool aa.1), (.slice af aa.2.length ag)])) 1 rfl rfl ?_
 intro aw bd a4 ax al
 replace al : Box 38 1 a4 bd aw #[(.bool aa.1), (.slice af aa.2.length ag)] := al
 refine l_box (col := a4) (v := (.agg #[(.bool ab.1), (.slice ah ab.2.length ai)])) 2 rfl rfl ?_
 intro ay be a5 ar am
 replace am : Box 38 2 a5 be ay #[(.bool ab.1), (.slice ah ab.2.length ai)] := am
 refine l_alloc (col := a5) (v := (.agg #[(.bool false), (.slice none (([] : List Int).length) 0)])) 3 rfl Tryz.zeroValue38 ?_
 intro a6 a7 ae ao ac
 replace ac : Box 38 3 ae a7 a6 #[(.bool false), (.slice none (([] : List Int).length) 0)] := ac
 refine lN <| wS ?_
 refine wmix (col := ae) [(0, 1), (1, 0), (2, 1), (3, 0), (4, 1), (5, 1), (6, 0), (7, 1), (8, 0), (9, 3), (10, 3), (11, 2)] (by kernel_rfl) (by kernel_rfl) ?_
 refine xu (v := (.pointer ((some (⟨aw, 0, none⟩ : Addr)).map (·.add 0)))) rfl rfl (fun _ => rF (sz := 1) (off := 0) Tryz.underlying38 rfl Tryz.sizeOf4 (by decide) rfl rfl ⟨_, _, rfl⟩) ?_
 replace al := (al.gr ar).gr ao
 refine xv (v := (.bool aa.1)) rfl rfl (fun _ hC => r_ld Tryz.isAgg4 rfl (((al.atN).nth (q := 0) (v := (.bool aa.1)) rfl).gr (Grow.of_below (col := ae) hC.below))) ?_
 refine xu (v := (.pointer ((some (⟨ay, 0, none⟩ : Addr)).map (·.add 0)))) rfl rfl (fun _ => rF (sz := 1) (off := 0) Tryz.underlying38 rfl Tryz.sizeOf4 (by decide) rfl rfl ⟨_, _, rfl⟩) ?_
 replace am := am.gr ao
 refine xv (v := (.bool ab.1)) rfl rfl (fun _ hC => r_ld Tryz.isAgg4 rfl (((am.atN).nth (q := 0) (v := (.bool ab.1)) rfl).gr (Grow.of_below (col := ae) hC.below))) ?_
 refine xu (v := (.bool (!decide (aa.1 = ab.1)))) rfl rfl (fun _ => r_neqB aa.1 ab.1 Tryz.underlying4 rfl rfl) ?_
 refine xu (v := (.pointer ((some (⟨aw, 0, none⟩ : Addr)).map (·.add 1)))) rfl rfl (fun _ => rF (sz := 1) (off := 1) Tryz.underlying38 rfl Tryz.sizeOf36 (by decide) rfl rfl ⟨_, _, rfl⟩) ?_
 refine xv (v := (.slice af aa.2.length ag)) rfl rfl (fun _ hC => r_ld Tryz.isAgg36 rfl (((al.atN).nth (q := 1) (v := (.slice af aa.2.length ag)) rfl).gr (Grow.of_below (col := ae) hC.below))) ?_
 refine xu (v := (.pointer ((some (⟨ay, 0, none⟩ : Addr)).map (·.add 1)))) rfl rfl (fun _ => rF (sz := 1) (off := 1) Tryz.underlying38 rfl Tryz.sizeOf36 (by decide) rfl rfl ⟨_, _, rfl⟩) ?_
 refine xv (v := (.slice ah ab.2.length ai)) rfl rfl (fun _ hC => r_ld Tryz.isAgg36 rfl (((am.atN).nth (q := 1) (v := (.slice ah ab.2.length ai)) rfl).gr (Grow.of_below (col := ae) hC.below))) ?_
 refine xe rfl rfl ?_
 intro bf hC0
 have hC : Grow ae a7 ae bf := .of_below hC0.below
 obtain ⟨a8, bg, hm⟩ := bS hm
 replace au := ((((au.keep (Stay.start col w0)).gr ax).gr ar).gr ao).gr hC
 replace av := ((((av.keep (Stay.start col w0)).gr ax).gr ar).gr ao).gr hC
 refine lc rfl rfl (r_call2 Tryz.call40 rfl rfl) (c_nat_Mul N 4 ae _ af ag aa.2 ah ai ab.2 au av a8 bg) ?_
 rintro _ a9 ⟨aj, bh, bi, rfl, az, a0⟩
 refine ⟨_, rfl, ?_⟩
 refine lN ⟨fun w' => Grow aj a9 aj w', Grow.refl _ _, fun _ _ h => cls hC0 az h, ?_⟩
 refine xe rfl rfl ?_
 intro ba hC0
 replace hst := ((((hst.grow ax).grow ar).grow ao).grow hC).grow az
 replace ac := (ac.gr hC).gr az
 have hC : Grow aj a9 aj ba := .of_below hC0.below
 obtain ⟨ap, bj, hm⟩ := bS hm
 replace a0 := a0.gr hC
 refine lc rfl rfl (r_call2 Tryz.call112 rfl rfl) (c_whole_of N 5 (frC 4 aj) _ (!decide (aa.1 = ab.1)) bh bi a8 (a0.toSlF (Froz.int .u32)) ap bj) ?_
 rintro _ bb ⟨bk, a1, a2, rfl, an, ak⟩
 refine ⟨_, rfl, ?_⟩
 replace ak := ak.thaw (flat_int .u32) an ((Fz.refl (col := aj)).froz 4) (by decide)
 replace an := an.thawR (col := aj)
 generalize colR ba.heap.size aj bk = ad at *
 refine lN ⟨fun w' => Grow ad bb ad w', Grow.refl _ _, fun _ _ h => cls hC0 an h, ?_⟩
 refine xe rfl rfl ?_
 intro bl hC0
 replace ac := (ac.gr hC).gr an
 replace hst := (hst.grow hC).grow an
 have hC : Grow ad bb ad bl := .of_below hC0.below
 replace ac := ac.gr hC
 refine l_bstore (v := (.agg #[(.bool ap.1), (.slice a1 ap.2.length a2)])) ac Tryz.sizeOf38 rfl rfl (by intro u hu; simp only [Value.cells, List.mem_cons, List.not_mem_nil, or_false] at hu; rcases hu with rfl | rfl <;> rfl) rfl rfl ?_
 intro a3 bc bm aq
 clear ac
 replace aq : Box 38 3 ad a3 a6 #[(.bool ap.1), (.slice a1 ap.2.length a2)] := aq
 refine lN ⟨fun w' => Grow ad a3 ad w', Grow.refl _ _, fun h => absurd h (by decide), ?_⟩
 refine xnil ?_
 replace ak := (ak.gr hC).kp bc
 replace hst := (hst.grow hC).kp bc bm
 intro bn hC
 replace hC : Grow ad a3 ad bn := .of_below hC.below
 refine wret ?_
 cases hm
 replace ak := ak.gr hC
 replace aq := aq.gr hC
 replace hst := hst.grow hC
 exact ⟨rfl, _, res_a rfl rfl Tryz.isAgg38 Tryz.sizeOf38 rfl rfl aq.atN, colF w0.heap.size col ad (fun n => bif Nat.beq n 5 then c1 else 0), a1, a2, rfl, hst.fin (fun n => bif Nat.beq n 5 then c1 else 0), hst.finOwn (g := (fun n => bif Nat.beq n 5 then c1 else 0)) rfl ak (by decide) (by decide) rfl⟩
def m_frac_over (N : Nat) (aa : (Bool × (List Int))) (ac : (List Int)) : Option (Bool × (List Int)) :=
  (m_whole_Mul N (aa.1, aa.2) (false, ac)).bind fun ab => some (ab.1, ab.2)
theorem c_frac_over (N : Nat) (c1 : Nat) (col : Col) (w0 : World) (ab : Option Addr) (ac : Nat) (aa : (Bool × (List Int))) (a1 : Option Addr) (cap1 : Nat) (ad : (List Int)) (ai : Sl (Rep.int .u32) col w0 ab ac aa.2) (h1 : Sl (Rep.int .u32) col w0 a1 cap1 ad) (r : (Bool × (List Int))) (hm : m_frac_over N aa ad = some r) :
    Calls Tryz.prog 81 #[(.agg #[(.bool aa.1), (.slice ab aa.2.length ac)]), (.slice a1 ad.length cap1)] w0 (fun e w' => ∃ (col' : Col) (ra1 : Option Addr) (rc2 : Nat), e = .returned ((.agg #[(.bool r.1), (.slice ra1 r.2.length rc2)])) ∧ Grow col w0 col' w' ∧ Own (Rep.int .u32) 114 c1 col' w' ra1 rc2 r.2) := by
 refine calls_ofR (m := 9) (args := [(.agg #[(.bool aa.1), (.slice ab aa.2.length ac)]), (.slice a1 ad.length cap1)]) Tryz.func81 rfl rfl rfl ?_
 rw [m_frac_over.eq_1] at hm
 have hst := St.start col w0
 refine wS <| wR ?_
 refine l_box (col := (col0 col)) (v := (.agg #[(.bool aa.1), (.slice ab aa.2.length ac)])) 1 rfl rfl ?_
 intro aw ax ao aj af
 replace af : Box 38 1 ao ax aw #[(.bool aa.1), (.slice ab aa.2.length ac)] := af
 refine l_alloc (col := ao) (v := (.agg #[(.bool false), (.slice none (([] : List Int).length) 0)])) 2 rfl Tryz.zeroValue38 ?_
 intro ap ay aq ah ae
 replace ae : Box 38 2 aq ay ap #[(.bool false), (.slice none (([] : List Int).length) 0)] := ae
 refine lN <| wS <| wR ?_
 replace af := af.gr ah
 refine lV (.agg #[(.bool aa.1), (.slice ab aa.2.length ac)]) (r_ldN Tryz.isAgg38 Tryz.sizeOf38 rfl rfl af.atN) <| lM (.slice a1 ad.length cap1) <| lV (.agg #[(.bool false), (.slice a1 ad.length cap1)]) (r_build (l := [_, _]) (qs := [(0, 1), (1, 1)]) Tryz.underlying38 Tryz.zeroValue38 ⟨rfl, Tryz.sizeOf4, rfl, Tryz.sizeOf36, trivial⟩ rfl) ?_
 obtain ⟨ag, az, hm⟩ := bS hm
 replace ai := ((ai.keep (Stay.start col w0)).gr aj).gr ah
 replace h1 := ((h1.keep (Stay.start col w0)).gr aj).gr ah
 refine lc rfl rfl (r_call2 Tryz.call127 rfl rfl) (c_whole_Mul N 3 aq _ ab ac (aa.1, aa.2) a1 cap1 (false, ad) ai h1 ag az) ?_
 rintro _ a3 ⟨ar, ak, al, rfl, au, am⟩
 refine ⟨_, rfl, ?_⟩
 replace ae := ae.gr au
 refine l_bstore (v := (.agg #[(.bool ag.1), (.slice ak ag.2.length al)])) ae Tryz.sizeOf38 rfl rfl (by intro u hu; simp only [Value.cells, List.mem_cons, List.not_mem_nil, or_false] at hu; rcases hu with rfl | rfl <;> rfl) rfl rfl ?_
 intro a0 av a2 an
 clear ae
 replace an : Box 38 2 ar a0 ap #[(.bool ag.1), (.slice ak ag.2.length al)] := an
 refine lN ?_
 refine wret ?_
 cases hm
 replace hst := (((hst.grow aj).grow ah).grow au).kp av a2
 replace am := am.kp av
 exact ⟨rfl, _, res_a rfl rfl Tryz.isAgg38 Tryz.sizeOf38 rfl rfl an.atN, colF w0.heap.size col ar (fun n => bif Nat.beq n 3 then c1 else 0), ak, al, rfl, hst.fin (fun n => bif Nat.beq n 3 then c1 else 0), hst.finOwn (g := (fun n => bif Nat.beq n 3 then c1 else 0)) rfl am (by decide) (by decide) rfl⟩
def m_nat_Add_J2 (aa : Nat) (kk_L1 : (Nat → (List Int) → Int → Option (List Int))) (ab : List Int) (ac : Int) : Option (List Int) :=
  kk_L1 (aa + 1) ab ac
def m_nat_Add_J3 (aa : Nat) (ab : List Int) (kk_L1 : (Nat → (List Int) → Int → Option (List Int))) (ac : Int) : Option (List Int) :=
  (at? ab (aa : Int)).bind fun ae => (some (ab.set (Int.toNat (aa : Int)) (IntKind.u32.wrap ac))).bind fun ad => m_nat_Add_J2 aa kk_L1 ad (ishr .u64 ac 32)
def m_nat_Add_L1 (N : Nat) (ac : List Int) (ad : List Int) : List Int → Nat → (List Int) → Int → Option (List Int)
  | [], aa, ab, ae => (at? ab (ac.length : Int)).bind fun ak => (some (ab.set (Int.toNat (ac.length : Int)) (IntKind.u32.wrap ae))).bind fun ah => (m_nat_own N ah).bind fun ai => some ai
  | af :: ag, aa, ab, ae => if (decide ((aa : Int) < (ad.length : Int))) = true then ((at? ad (aa : Int)).bind fun aj => m_nat_Add_J3 aa ab (m_nat_Add_L1 N ac ad ag) (IntKind.u64.wrap ((IntKind.u64.wrap (ae + (IntKind.u64.wrap af))) + (IntKind.u64.wrap aj)))) else (m_nat_Add_J3 aa ab (m_nat_Add_L1 N ac ad ag) (IntKind.u64.wrap (ae + (IntKind.u64.wrap af))))
termination_by structural x => x
def m_nat_Add_J1 (N : Nat) (aa : List Int) (ab : List Int) : Option (List Int) :=
  chk ((Int.toNat (IntKind.i64.wrap ((aa.length : Int) + 1))) * 4 ≤ 281474976710656 ∧ (Int.toNat (IntKind.i64.wrap ((aa.length : Int) + 1))) ≤ maxLen ∧ 0 ≤ (IntKind.i64.wrap ((aa.length : Int) + 1))) (m_nat_Add_L1 N aa ab aa 0 (List.replicate (Int.toNat (IntKind.i64.wrap ((aa.length : Int) + 1))) (0 : Int)) 0)
def m_nat_Add (N : Nat) (ac : (List Int)) (ad : (List Int)) : Option (List Int) :=
  (m_nat_trim N ac).bind fun aa => (m_nat_trim N ad).bind fun ab => if (decide ((aa.length : Int) < (ab.length : Int))) = true then (m_nat_Add_J1 N ab aa) else (m_nat_Add_J1 N aa ab)
theorem c_nat_Add (N : Nat) (c1 : Nat) (col : Col) (w0 : World) (a0 : Option Addr) (cap0 : Nat) (aw : (List Int)) (a1 : Option Addr) (cap1 : Nat) (ax : (List Int)) (h0 : Sl (Rep.int .u32) col w0 a0 cap0 aw) (h1 : Sl (Rep.int .u32) col w0 a1 cap1 ax) (r : (List Int)) (hm : m_nat_Add N aw ax = some r) :
    Calls Tryz.prog 125 #[(.slice a0 aw.length cap0), (.slice a1 ax.length cap1)] w0 (fun e w' => ∃ (col' : Col) (ra1 : Option Addr) (rc2 : Nat), e = .returned ((.slice ra1 r.length rc2)) ∧ Grow col w0 col' w' ∧ Own (Rep.int .u32) 114 c1 col' w' ra1 rc2 r) := by
 refine calls_of1 4 (m := 62) (args := [(.slice a0 aw.length cap0), (.slice a1 ax.length cap1)]) Tryz.func125 rfl rfl rfl rfl rfl ?_
 rw [m_nat_Add.eq_1] at hm
 have hst := St.start col w0
 refine wS <| wR <| lA (.slice none (([] : List Int).length) 0) <| lN <| wS <| wR <| lM (.slice a0 aw.length cap0) ?_
 obtain ⟨ao, b5, hm⟩ := bS hm
 replace h0 := h0.keep (Stay.start col w0)
 refine lc rfl rfl (r_call1 Tryz.call88 rfl) (c_nat_trim N (col0 col) _ a0 cap0 aw h0 ao b5) ?_
 rintro _ ci ⟨b6, ay, az, rfl, bu, be⟩
 refine ⟨_, rfl, ?_⟩
 refine lM (.slice a1 ax.length cap1) ?_
 obtain ⟨ap, b7, hm⟩ := bS hm
 replace h1 := (h1.keep (Stay.start col w0)).gr bu
 refine lc rfl rfl (r_call1 Tryz.call88 rfl) (c_nat_trim N b6 _ a1 cap1 ax h1 ap b7) ?_
 rintro _ cj ⟨bv, a2, a3, rfl, bw, bx⟩
 refine ⟨_, rfl, ?_⟩
 refine lA (.slice ay ao.length az) <| lA (.slice a2 ap.length a3) <| lN <| wS ?_
 replace hst := (hst.grow bu).grow bw
 replace be := be.gr bw
 refine Wp.cut (fun f a6 => ∃ (a7 : Col) (ae : Option Addr) (ag : Nat) (aa : List Int) (an : Option Addr) (aq : Nat) (ad : List Int), m_nat_Add_J1 N aa ad = some r ∧ St w0 (col0 col) a7 a6 ∧ Sl (Rep.int .u32) a7 a6 ae ag aa ∧ Sl (Rep.int .u32) a7 a6 an aq ad ∧ f 0 = (.slice ae aa.length ag) ∧ f 1 = (.slice an ad.length aq) ∧ f 1000000 = (enc [])) ?_ ?_
 ·intro f a6 hJ
  obtain ⟨a7, ae, ag, aa, an, aq, ad, hm, hst, ah, aj, hs0, hs1, hs1000000⟩ := hJ
  rw [m_nat_Add_J1.eq_1] at hm
  refine .lD 0 hs0 <| .lD 1 hs1 <| .lD 1000000 hs1000000 ?_
  clear hs0 hs1 hs1000000
  refine wS <| wR <| lM (.slice ae aa.length ag) <| lV (.int .i64 (aa.length : Int)) (r_len Tryz.underlying36 rfl) <| lV (.int .i64 (IntKind.i64.wrap ((aa.length : Int) + 1))) (r_add (aa.length : Int) 1 rfl rfl) ?_
  obtain ⟨bf, hm⟩ := cS hm
  refine l_make (col := a7) (w := a6) (r := (Rep.int .u32)) (n := (Int.toNat (IntKind.i64.wrap ((aa.length : Int) + 1)))) (x0 := 0) 1 rfl Tryz.underlying36 Tryz.t114 rfl rfl rfl rfl rfl (congrArg (Value.int _) (Int.toNat_of_nonneg bf.2.2).symm) (congrArg (Value.int _) (Int.toNat_of_nonneg bf.2.2).symm) bf.1 bf.2.1 (rd_int .u32 0) ?_
  intro bz ck b8 br b9
  refine lA (.slice bz ((List.replicate (Int.toNat (IntKind.i64.wrap ((aa.length : Int) + 1))) (0 : Int)).length) (Int.toNat (IntKind.i64.wrap ((aa.length : Int) + 1)))) <| lN <| wS <| wR <| lA (.int .u64 0) <| lN <| wS <| wS <| wR <| lM (.slice ae aa.length ag) <| lV (.int .i64 (aa.length : Int)) (r_len Tryz.underlying36 rfl) <| lM (.int .i64 0) <| lN <| wB ?_
  replace ah := ah.gr br
  replace aj := aj.gr br
  replace hst := hst.grow br
  refine wloop (fun n f a8 => ∃ (ar : Col) (ab : Nat) (af : Option Addr) (ak : Nat) (am : List Int) (ac : Int) (a9 : List Int), n = a9.length ∧ aa.drop ab = a9 ∧ m_nat_Add_L1 N aa ad a9 ab am ac = some r ∧ St w0 (col0 col) ar a8 ∧ Sl (Rep.int .u32) ar a8 ae ag aa ∧ Sl (Rep.int .u32) ar a8 an aq ad ∧ Own (Rep.int .u32) 114 1 ar a8 af ak am ∧ f 26 = (.int .i64 (ab : Int)) ∧ f 0 = (.slice ae aa.length ag) ∧ f 1 = (.slice an ad.length aq) ∧ f 24 = (.slice ae aa.length ag) ∧ f 25 = (.int .i64 (aa.length : Int)) ∧ f 5 = (.slice af am.length ak) ∧ f 6 = (.int .u64 ac) ∧ f 1000000 = (enc [])) aa.length ⟨b8, 0, bz, (Int.toNat (IntKind.i64.wrap ((aa.length : Int) + 1))), (List.replicate (Int.toNat (IntKind.i64.wrap ((aa.length : Int) + 1))) (0 : Int)), 0, aa, rfl, rfl, hm, hst, ah, aj, b9, rfl, rfl, rfl, rfl, rfl, rfl, rfl, rfl⟩ ?_
  clear hm; intro n f a8 hI
  obtain ⟨ar, ab, af, ak, am, ac, a9, hn, hl, hm, hst, ah, aj, au, hs26, hs0, hs1, hs24, hs25, hs5, hs6, hs1000000⟩ := hI
  subst hn
  refine .lD 26 hs26 <| .lD 0 hs0 <| .lD 1 hs1 <| .lD 24 hs24 <| .lD 25 hs25 <| .lD 5 hs5 <| .lD 6 hs6 <| .lD 1000000 hs1000000 ?_
  clear hs26 hs0 hs1 hs24 hs25 hs5 hs6 hs1000000
  cases a9 with
  | nil =>
   have hk : ¬ ((ab : Int) < (aa.length : Int)) := by have := List.drop_eq_nil_iff.1 hl; omega
   have hkb := decide_eq_false hk
   rw [m_nat_Add_L1.eq_1] at hm
   refine wS <| wR <| lV (.bool (decide ((ab : Int) < (aa.length : Int)))) (r_lss (ab : Int) (aa.length : Int) rfl rfl) <| lN <| wS ?_
   refine wcondF (congrArg Value.bool hkb) ?_
   refine wexit (inB_hit ?_)
   refine wS <| wR <| lM (.slice af am.length ak) <| lM (.slice ae aa.length ag) <| lV (.int .i64 (aa.length : Int)) (r_len Tryz.underlying36 rfl) <| lM (.int .u64 ac) <| lV (.int .u32 (IntKind.u32.wrap ac)) (r_conv ac ⟨_, Tryz.underlying108⟩ Tryz.underlying114 rfl) ?_
   obtain ⟨cl, bg, hm⟩ := bS hm
   refine lV (sptr af (Int.toNat (aa.length : Int) * 1)) (r_idx Tryz.underlying36 Tryz.sizeOf114 rfl rfl (at?_some bg).1 (at?_some bg).2.1 (au.addr bg)) ?_
   obtain ⟨ba, bh, hm⟩ := bS hm
   have bh : ba = am.set (Int.toNat (aa.length : Int)) (IntKind.u32.wrap ac) := (Option.some.inj bh).symm
   refine l_store (x1 := IntKind.u32.wrap ac) (v := (.int .u32 (IntKind.u32.wrap ac))) au bg rfl Tryz.sizeOf114 (rd_int .u32 (IntKind.u32.wrap ac)) rfl rfl (by decide) ?_
   intro ca cb cc b0
   rw [← bh] at b0
   refine .ld (d := 5) (v := (.slice af ba.length ak)) (congrArg (fun n => Value.slice af n ak) (show am.length = ba.length by rw [bh, List.length_set])) ?_
   clear au
   refine lN <| wS <| wR <| lM (.slice af ba.length ak) ?_
   obtain ⟨b1, cd, hm⟩ := bS hm
   refine lc rfl rfl (r_call1 Tryz.call89 rfl) (c_nat_own N 2 (frC 1 ar) _ af ak ba (b0.toSlF (Froz.int .u32)) b1 cd) ?_
   rintro _ cm ⟨ce, b2, b3, rfl, bi, bs⟩
   refine ⟨_, rfl, ?_⟩
   replace bs := bs.thaw (flat_int .u32) bi ((Fz.refl (col := ar)).froz 1) (by decide)
   replace bi := bi.thawR (col := ar)
   generalize colR ca.heap.size ar ce = cf at *
   refine lA (.slice b2 b1.length b3) <| lN ?_
   refine wret ?_
   cases hm
   replace hst := (hst.kp cb cc).grow bi
   exact ⟨rfl, colF w0.heap.size col cf (fun n => bif Nat.beq n 2 then c1 else 0), b2, b3, rfl, hst.fin (fun n => bif Nat.beq n 2 then c1 else 0), hst.finOwn (g := (fun n => bif Nat.beq n 2 then c1 else 0)) rfl bs (by decide) (by decide) rfl⟩
  | cons al bj =>
   obtain ⟨hat, hl2_L1, hlt_L1⟩ := drop_get hl
   have hk : (ab : Int) < (aa.length : Int) := by omega
   have hkb := decide_eq_true hk
   rw [m_nat_Add_L1.eq_2] at hm
   refine wS <| wR <| lV (.bool (decide ((ab : Int) < (aa.length : Int)))) (r_lss (ab : Int) (aa.length : Int) rfl rfl) <| lN <| wS ?_
   refine wcondT (congrArg Value.bool hkb) ?_
   refine wK <| wS ?_
   refine Wp.cut (fun f bb => ∃ (a4 : Col) (bk : Option Addr) (bl : Nat) (bc : List Int) (bm : Int), m_nat_Add_J2 ab (m_nat_Add_L1 N aa ad bj) bc bm = some r ∧ St w0 (col0 col) a4 bb ∧ Sl (Rep.int .u32) a4 bb ae ag aa ∧ Sl (Rep.int .u32) a4 bb an aq ad ∧ Own (Rep.int .u32) 114 1 a4 bb bk bl bc ∧ f 0 = (.slice ae aa.length ag) ∧ f 1 = (.slice an ad.length aq) ∧ f 24 = (.slice ae aa.length ag) ∧ f 25 = (.int .i64 (aa.length : Int)) ∧ f 26 = (.int .i64 (ab : Int)) ∧ f 5 = (.slice bk bc.length bl) ∧ f 6 = (.int .u64 bm) ∧ f 1000000 = (enc [])) ?_ ?_
   ·intro f bb hJ
    obtain ⟨a4, bk, bl, bc, bm, hm, hst, ah, aj, cg, hs0, hs1, hs24, hs25, hs26, hs5, hs6, hs1000000⟩ := hJ
    rw [m_nat_Add_J2.eq_1] at hm
    refine .lD 0 hs0 <| .lD 1 hs1 <| .lD 24 hs24 <| .lD 25 hs25 <| .lD 26 hs26 <| .lD 5 hs5 <| .lD 6 hs6 <| .lD 1000000 hs1000000 ?_
    clear hs0 hs1 hs24 hs25 hs26 hs5 hs6 hs1000000
    refine wR <| lV (.int .i64 (IntKind.i64.wrap ((ab : Int) + 1))) (r_add (ab : Int) 1 rfl rfl) <| lM (.int .i64 (IntKind.i64.wrap ((ab : Int) + 1))) <| lN ?_
    exact ⟨bj.length, by simp, ⟨a4, (ab + 1), bk, bl, bc, bm, bj, rfl, hl2_L1, hm, hst, ah, aj, cg, (congrArg (Value.int .i64) (wrap_succ (Nat.lt_of_lt_of_le hlt_L1 ah.1.1))), rfl, rfl, rfl, rfl, rfl, rfl, rfl⟩⟩
   refine wB <| wS <| wR <| lM (.int .i64 (ab : Int)) ?_
   refine lV (sptr ae (Int.toNat (ab : Int) * 1)) (r_idx Tryz.underlying36 Tryz.sizeOf114 rfl rfl (at?_some hat).1 (at?_some hat).2.1 (ah.addr hat)) ?_
   refine lV (.int .u32 al) (r_ld Tryz.isAgg114 rfl (ah.atInt hat)) <| lA (.int .i64 (ab : Int)) <| lA (.int .u32 al) <| lN <| wS <| wR <| lM (.int .u64 ac) <| lM (.int .u32 al) <| lV (.int .u64 (IntKind.u64.wrap al)) (r_conv al ⟨_, Tryz.underlying114⟩ Tryz.underlying108 rfl) <| lV (.int .u64 (IntKind.u64.wrap (ac + (IntKind.u64.wrap al)))) (r_add ac (IntKind.u64.wrap al) rfl rfl) <| lA (.int .u64 (IntKind.u64.wrap (ac + (IntKind.u64.wrap al)))) <| lN <| wS ?_
   refine Wp.cut (fun f bd => ∃ (a5 : Col) (ai : Int), m_nat_Add_J3 ab am (m_nat_Add_L1 N aa ad bj) ai = some r ∧ St w0 (col0 col) a5 bd ∧ Sl (Rep.int .u32) a5 bd ae ag aa ∧ Sl (Rep.int .u32) a5 bd an aq ad ∧ Own (Rep.int .u32) 114 1 a5 bd af ak am ∧ f 0 = (.slice ae aa.length ag) ∧ f 1 = (.slice an ad.length aq) ∧ f 24 = (.slice ae aa.length ag) ∧ f 25 = (.int .i64 (aa.length : Int)) ∧ f 26 = (.int .i64 (ab : Int)) ∧ f 5 = (.slice af am.length ak) ∧ f 6 = (.int .u64 ai) ∧ f 7 = (.int .i64 (ab : Int)) ∧ f 1000000 = (enc [])) ?_ ?_
   ·intro f bd hJ
    obtain ⟨a5, ai, hm, hst, ah, aj, au, hs0, hs1, hs24, hs25, hs26, hs5, hs6, hs7, hs1000000⟩ := hJ
    rw [m_nat_Add_J3.eq_1] at hm
    refine .lD 0 hs0 <| .lD 1 hs1 <| .lD 24 hs24 <| .lD 25 hs25 <| .lD 26 hs26 <| .lD 5 hs5 <| .lD 6 hs6 <| .lD 7 hs7 <| .lD 1000000 hs1000000 ?_
    clear hs0 hs1 hs24 hs25 hs26 hs5 hs6 hs7 hs1000000
    refine wS <| wR <| lM (.slice af am.length ak) <| lM (.int .i64 (ab : Int)) <| lM (.int .u64 ai) <| lV (.int .u32 (IntKind.u32.wrap ai)) (r_conv ai ⟨_, Tryz.underlying108⟩ Tryz.underlying114 rfl) ?_
    obtain ⟨cn, bn, hm⟩ := bS hm
    refine lV (sptr af (Int.toNat (ab : Int) * 1)) (r_idx Tryz.underlying36 Tryz.sizeOf114 rfl rfl (at?_some bn).1 (at?_some bn).2.1 (au.addr bn)) ?_
    obtain ⟨bo, bp, hm⟩ := bS hm
    have bp : bo = am.set (Int.toNat (ab : Int)) (IntKind.u32.wrap ai) := (Option.some.inj bp).symm
    refine l_store (x1 := IntKind.u32.wrap ai) (v := (.int .u32 (IntKind.u32.wrap ai))) au bn rfl Tryz.sizeOf114 (rd_int .u32 (IntKind.u32.wrap ai)) rfl rfl (by decide) ?_
    intro co bt ch b4
    rw [← bp] at b4
    refine .ld (d := 5) (v := (.slice af bo.length ak)) (congrArg (fun n => Value.slice af n ak) (show am.length = bo.length by rw [bp, List.length_set])) ?_
    clear au
    refine lN <| wR <| lM (.int .u64 ai) <| lV (.int .u64 (ishr .u64 ai 32)) (r_shr ai 32 rfl rfl (by decide)) <| lA (.int .u64 (ishr .u64 ai 32)) <| lN ?_
    replace ah := ah.kp bt
    replace aj := aj.kp bt
    replace hst := hst.kp bt ch
    exact ⟨a5, af, ak, bo, (ishr .u64 ai 32), hm, hst, ah, aj, b4, rfl, rfl, rfl, rfl, rfl, rfl, rfl, rfl⟩
   refine wS <| wR <| lM (.int .i64 (ab : Int)) <| lM (.slice an ad.length aq) <| lV (.int .i64 (ad.length : Int)) (r_len Tryz.underlying36 rfl) <| lV (.bool (decide ((ab : Int) < (ad.length : Int)))) (r_lss (ab : Int) (ad.length : Int) rfl rfl) <| lN ?_
   refine wcond (decide ((ab : Int) < (ad.length : Int))) rfl (fun hb => ?_) (fun hb => ?_)
   ·rw [if_pos hb] at hm
    clear hb
    refine wR <| lM (.int .u64 (IntKind.u64.wrap (ac + (IntKind.u64.wrap al)))) <| lM (.slice an ad.length aq) <| lM (.int .i64 (ab : Int)) ?_
    obtain ⟨av, bq, hm⟩ := bS hm
    refine lV (sptr an (Int.toNat (ab : Int) * 1)) (r_idx Tryz.underlying36 Tryz.sizeOf114 rfl rfl (at?_some bq).1 (at?_some bq).2.1 (aj.addr bq)) ?_
    refine lV (.int .u32 av) (r_ld Tryz.isAgg114 rfl (aj.atInt bq)) <| lV (.int .u64 (IntKind.u64.wrap av)) (r_conv av ⟨_, Tryz.underlying114⟩ Tryz.underlying108 rfl) <| lV (.int .u64 (IntKind.u64.wrap ((IntKind.u64.wrap (ac + (IntKind.u64.wrap al))) + (IntKind.u64.wrap av)))) (r_add (IntKind.u64.wrap (ac + (IntKind.u64.wrap al))) (IntKind.u64.wrap av) rfl rfl) <| lA (.int .u64 (IntKind.u64.wrap ((IntKind.u64.wrap (ac + (IntKind.u64.wrap al))) + (IntKind.u64.wrap av)))) <| lN ?_
    exact ⟨ar, (IntKind.u64.wrap ((IntKind.u64.wrap (ac + (IntKind.u64.wrap al))) + (IntKind.u64.wrap av))), hm, hst, ah, aj, au, rfl, rfl, rfl, rfl, rfl, rfl, rfl, rfl, rfl⟩
   rw [if_neg (by rw [hb]; decide)] at hm
   clear hb
   refine wK ?_
   exact ⟨ar, (IntKind.u64.wrap (ac + (IntKind.u64.wrap al))), hm, hst, ah, aj, au, rfl, rfl, rfl, rfl, rfl, rfl, rfl, rfl, rfl⟩
 refine wS <| wR <| lM (.slice ay ao.length az) <| lV (.int .i64 (ao.length : Int)) (r_len Tryz.underlying36 rfl) <| lM (.slice a2 ap.length a3) <| lV (.int .i64 (ap.length : Int)) (r_len Tryz.underlying36 rfl) <| lV (.bool (decide ((ao.length : Int) < (ap.length : Int)))) (r_lss (ao.length : Int) (ap.length : Int) rfl rfl) <| lN ?_
 refine wcond (decide ((ao.length : Int) < (ap.length : Int))) rfl (fun hb => ?_) (fun hb => ?_)
 ·rw [if_pos hb] at hm
  clear hb
  refine wR <| lM (.slice a2 ap.length a3) <| lM (.slice ay ao.length az) <| lA (.slice a2 ap.length a3) <| lA (.slice ay ao.length az) <| lN ?_
  exact ⟨bv, a2, a3, ap, ay, az, ao, hm, hst, bx, be, rfl, rfl, rfl⟩
 rw [if_neg (by rw [hb]; decide)] at hm
 clear hb
 refine wK ?_
 exact ⟨bv, ay, az, ao, a2, a3, ap, hm, hst, be, bx, rfl, rfl, rfl⟩
def m_whole_Add (N : Nat) (aa : (Bool × (List Int))) (ab : (Bool × (List Int))) : Option (Bool × (List Int)) :=
  if (decide (aa.1 = ab.1)) = true then ((m_nat_Add N aa.2 ab.2).bind fun ad => (m_whole_of N aa.1 ad).bind fun ac => some (ac.1, ac.2)) else none
theorem c_whole_Add (N : Nat) (c1 : Nat) (col : Col) (w0 : World) (ae : Option Addr) (af : Nat) (aa : (Bool × (List Int))) (ag : Option Addr) (ah : Nat) (ab : (Bool × (List Int))) (ao : Sl (Rep.int .u32) col w0 ae af aa.2) (ap : Sl (Rep.int .u32) col w0 ag ah ab.2) (r : (Bool × (List Int))) (hm : m_whole_Add N aa ab = some r) :
    Calls Tryz.prog 80 #[(.agg #[(.bool aa.1), (.slice ae aa.2.length af)]), (.agg #[(.bool ab.1), (.slice ag ab.2.length ah)])] w0 (fun e w' => ∃ (col' : Col) (ra1 : Option Addr) (rc2 : Nat), e = .returned ((.agg #[(.bool r.1), (.slice ra1 r.2.length rc2)])) ∧ Grow col w0 col' w' ∧ Own (Rep.int .u32) 114 c1 col' w' ra1 rc2 r.2) := by
 refine calls_ofR (m := 47) (args := [(.agg #[(.bool aa.1), (.slice ae aa.2.length af)]), (.agg #[(.bool ab.1), (.slice ag ab.2.length ah)])]) Tryz.func80 rfl rfl rfl ?_
 rw [m_whole_Add.eq_1] at hm
 have hst := St.start col w0
 refine wS <| wR ?_
 refine l_box (col := (col0 col)) (v := (.agg #[(.bool aa.1), (.slice ae aa.2.length af)])) 1 rfl rfl ?_
 intro av bd a4 ax ak
 replace ak : Box 38 1 a4 bd av #[(.bool aa.1), (.slice ae aa.2.length af)] := ak
 refine l_box (col := a4) (v := (.agg #[(.bool ab.1), (.slice ag ab.2.length ah)])) 2 rfl rfl ?_
 intro ay be a5 aw am
 replace am : Box 38 2 a5 be ay #[(.bool ab.1), (.slice ag ab.2.length ah)] := am
 refine l_alloc (col := a5) (v := (.agg #[(.bool false), (.slice none (([] : List Int).length) 0)])) 3 rfl Tryz.zeroValue38 ?_
 intro a6 a7 ai aq ac
 replace ac : Box 38 3 ai a7 a6 #[(.bool false), (.slice none (([] : List Int).length) 0)] := ac
 refine lN <| wS <| wS <| wR <| lV (.pointer ((some (⟨av, 0, none⟩ : Addr)).map (·.add 0))) (rF (sz := 1) (off := 0) Tryz.underlying38 rfl Tryz.sizeOf4 (by decide) rfl rfl ⟨_, _, rfl⟩) ?_
 replace ak := (ak.gr aw).gr aq
 refine lV (.bool aa.1) (r_ld Tryz.isAgg4 rfl ((ak.atN).nth (q := 0) (v := (.bool aa.1)) rfl)) <| lV (.pointer ((some (⟨ay, 0, none⟩ : Addr)).map (·.add 0))) (rF (sz := 1) (off := 0) Tryz.underlying38 rfl Tryz.sizeOf4 (by decide) rfl rfl ⟨_, _, rfl⟩) ?_
 replace am := am.gr aq
 refine lV (.bool ab.1) (r_ld Tryz.isAgg4 rfl ((am.atN).nth (q := 0) (v := (.bool ab.1)) rfl)) <| lV (.bool (decide (aa.1 = ab.1))) (r_eqlB aa.1 ab.1 Tryz.underlying4 rfl rfl) <| lN ?_
 replace ao := (((ao.keep (Stay.start col w0)).gr ax).gr aw).gr aq
 replace ap := (((ap.keep (Stay.start col w0)).gr ax).gr aw).gr aq
 replace hst := ((hst.grow ax).grow aw).grow aq
 refine wcond (decide (aa.1 = ab.1)) rfl (fun hb => ?_) (fun hb => ?_)
 ·rw [if_pos hb] at hm
  clear hb
  refine wS ?_
  refine wmix (col := ai) [(0, 1), (1, 0), (2, 1), (3, 0), (4, 1), (5, 0), (6, 3), (7, 3), (8, 2)] (by kernel_rfl) (by kernel_rfl) ?_
  refine xu (v := (.pointer ((some (⟨av, 0, none⟩ : Addr)).map (·.add 0)))) rfl rfl (fun _ => rF (sz := 1) (off := 0) Tryz.underlying38 rfl Tryz.sizeOf4 (by decide) rfl rfl ⟨_, _, rfl⟩) ?_
  refine xv (v := (.bool aa.1)) rfl rfl (fun _ hC => r_ld Tryz.isAgg4 rfl (((ak.atN).nth (q := 0) (v := (.bool aa.1)) rfl).gr (Grow.of_below (col := ai) hC.below))) ?_
  refine xu (v := (.pointer ((some (⟨av, 0, none⟩ : Addr)).map (·.add 1)))) rfl rfl (fun _ => rF (sz := 1) (off := 1) Tryz.underlying38 rfl Tryz.sizeOf36 (by decide) rfl rfl ⟨_, _, rfl⟩) ?_
  refine xv (v := (.slice ae aa.2.length af)) rfl rfl (fun _ hC => r_ld Tryz.isAgg36 rfl (((ak.atN).nth (q := 1) (v := (.slice ae aa.2.length af)) rfl).gr (Grow.of_below (col := ai) hC.below))) ?_
  refine xu (v := (.pointer ((some (⟨ay, 0, none⟩ : Addr)).map (·.add 1)))) rfl rfl (fun _ => rF (sz := 1) (off := 1) Tryz.underlying38 rfl Tryz.sizeOf36 (by decide) rfl rfl ⟨_, _, rfl⟩) ?_
  refine xv (v := (.slice ag ab.2.length ah)) rfl rfl (fun _ hC => r_ld Tryz.isAgg36 rfl (((am.atN).nth (q := 1) (v := (.slice ag ab.2.length ah)) rfl).gr (Grow.of_below (col := ai) hC.below))) ?_
  refine xe rfl rfl ?_
  intro bf hC0
  have hC : Grow ai a7 ai bf := .of_below hC0.below
  obtain ⟨a8, bg, hm⟩ := bS hm
  replace ao := ao.gr hC
  replace ap := ap.gr hC
  refine lc rfl rfl (r_call2 Tryz.call125 rfl rfl) (c_nat_Add N 4 ai _ ae af aa.2 ag ah ab.2 ao ap a8 bg) ?_
  rintro _ a9 ⟨aj, bh, bi, rfl, az, a0⟩
  refine ⟨_, rfl, ?_⟩
  refine lN ⟨fun w' => Grow aj a9 aj w', Grow.refl _ _, fun _ _ h => cls hC0 az h, ?_⟩
  refine xe rfl rfl ?_
  intro ba hC0
  replace ac := (ac.gr hC).gr az
  replace hst := (hst.grow hC).grow az
  have hC : Grow aj a9 aj ba := .of_below hC0.below
  obtain ⟨ar, bj, hm⟩ := bS hm
  replace a0 := a0.gr hC
  refine lc rfl rfl (r_call2 Tryz.call112 rfl rfl) (c_whole_of N 5 (frC 4 aj) _ aa.1 bh bi a8 (a0.toSlF (Froz.int .u32)) ar bj) ?_
  rintro _ bb ⟨bk, a1, a2, rfl, an, al⟩
  refine ⟨_, rfl, ?_⟩
  replace al := al.thaw (flat_int .u32) an ((Fz.refl (col := aj)).froz 4) (by decide)
  replace an := an.thawR (col := aj)
  generalize colR ba.heap.size aj bk = ad at *
  refine lN ⟨fun w' => Grow ad bb ad w', Grow.refl _ _, fun _ _ h => cls hC0 an h, ?_⟩
  refine xe rfl rfl ?_
  intro bl hC0
  replace ac := (ac.gr hC).gr an
  replace hst := (hst.grow hC).grow an
  have hC : Grow ad bb ad bl := .of_below hC0.below
  replace ac := ac.gr hC
  refine l_bstore (v := (.agg #[(.bool ar.1), (.slice a1 ar.2.length a2)])) ac Tryz.sizeOf38 rfl rfl (by intro u hu; simp only [Value.cells, List.mem_cons, List.not_mem_nil, or_false] at hu; rcases hu with rfl | rfl <;> rfl) rfl rfl ?_
  intro a3 bc bm au
  clear ac
  replace au : Box 38 3 ad a3 a6 #[(.bool ar.1), (.slice a1 ar.2.length a2)] := au
  refine lN ⟨fun w' => Grow ad a3 ad w', Grow.refl _ _, fun h => absurd h (by decide), ?_⟩
  refine xnil ?_
  replace al := (al.gr hC).kp bc
  replace hst := (hst.grow hC).kp bc bm
  intro bn hC
  replace hC : Grow ad a3 ad bn := .of_below hC.below
  refine wret ?_
  cases hm
  replace al := al.gr hC
  replace au := au.gr hC
  replace hst := hst.grow hC
  exact ⟨rfl, _, res_a rfl rfl Tryz.isAgg38 Tryz.sizeOf38 rfl rfl au.atN, colF w0.heap.size col ad (fun n => bif Nat.beq n 5 then c1 else 0), a1, a2, rfl, hst.fin (fun n => bif Nat.beq n 5 then c1 else 0), hst.finOwn (g := (fun n => bif Nat.beq n 5 then c1 else 0)) rfl al (by decide) (by decide) rfl⟩
 rw [if_neg (by rw [hb]; decide)] at hm
 clear hb
 cases hm
def m_nat_Cmp_L1 (N : Nat) (ab : (List Int)) (ac : (List Int)) : Nat → Int → Option Int
  | 0, _ => none
  | af + 1, aa => if (decide (0 ≤ aa)) = true then ((at? ab aa).bind fun ad => (at? ac aa).bind fun ae => if (decide (ad < ae)) = true then (some (-1)) else (if (decide (ae < ad)) = true then (some 1) else ((m_nat_Cmp_L1 N ab ac af) (IntKind.i64.wrap (aa - 1))))) else (some 0)
termination_by structural x => x
def m_nat_Cmp (N : Nat) (ac : (List Int)) (ad : (List Int)) : Option Int :=
  (m_nat_trim N ac).bind fun aa => (m_nat_trim N ad).bind fun ab => if (!decide ((aa.length : Int) = (ab.length : Int))) = true then none else (m_nat_Cmp_L1 N aa ab N (IntKind.i64.wrap ((aa.length : Int) - 1)))
theorem c_nat_Cmp (N : Nat) (col : Col) (w0 : World) (a0 : Option Addr) (cap0 : Nat) (ao : (List Int)) (a1 : Option Addr) (cap1 : Nat) (ap : (List Int)) (h0 : Sl (Rep.int .u32) col w0 a0 cap0 ao) (h1 : Sl (Rep.int .u32) col w0 a1 cap1 ap) (r : Int) (hm : m_nat_Cmp N ao ap = some r) :
    Calls Tryz.prog 58 #[(.slice a0 ao.length cap0), (.slice a1 ap.length cap1)] w0 (fun e w' => e = .returned ((.int .i64 r)) ∧ Below w0.heap.size w0 w') := by
 refine calls_of1 4 (m := 45) (args := [(.slice a0 ao.length cap0), (.slice a1 ap.length cap1)]) Tryz.func58 rfl rfl rfl rfl rfl ?_
 rw [m_nat_Cmp.eq_1] at hm
 have hst := St.start col w0
 refine wS <| wR <| lA (.int .i64 0) <| lN <| wS <| wR <| lM (.slice a0 ao.length cap0) ?_
 obtain ⟨ab, ax, hm⟩ := bS hm
 replace h0 := h0.keep (Stay.start col w0)
 refine lc rfl rfl (r_call1 Tryz.call88 rfl) (c_nat_trim N (col0 col) _ a0 cap0 ao h0 ab ax) ?_
 rintro _ a4 ⟨ay, ag, am, rfl, au, ad⟩
 refine ⟨_, rfl, ?_⟩
 refine lM (.slice a1 ap.length cap1) ?_
 obtain ⟨ae, az, hm⟩ := bS hm
 replace h1 := (h1.keep (Stay.start col w0)).gr au
 refine lc rfl rfl (r_call1 Tryz.call88 rfl) (c_nat_trim N ay _ a1 cap1 ap h1 ae az) ?_
 rintro _ a5 ⟨a2, ah, aq, rfl, av, af⟩
 refine ⟨_, rfl, ?_⟩
 refine lA (.slice ag ab.length am) <| lA (.slice ah ae.length aq) <| lN <| wS <| wS <| wR <| lM (.slice ag ab.length am) <| lV (.int .i64 (ab.length : Int)) (r_len Tryz.underlying36 rfl) <| lM (.slice ah ae.length aq) <| lV (.int .i64 (ae.length : Int)) (r_len Tryz.underlying36 rfl) <| lV (.bool (!decide ((ab.length : Int) = (ae.length : Int)))) (r_neq (ab.length : Int) (ae.length : Int) rfl rfl) <| lN ?_
 replace hst := (hst.grow au).grow av
 replace ad := ad.gr av
 refine wcond (!decide ((ab.length : Int) = (ae.length : Int))) rfl (fun hb => ?_) (fun hb => ?_)
 ·rw [if_pos hb] at hm
  clear hb
  cases hm
 rw [if_neg (by rw [hb]; decide)] at hm
 clear hb
 refine wK <| wS <| wS <| wR <| lM (.slice ag ab.length am) <| lV (.int .i64 (ab.length : Int)) (r_len Tryz.underlying36 rfl) <| lV (.int .i64 (IntKind.i64.wrap ((ab.length : Int) - 1))) (r_sub (ab.length : Int) 1 rfl rfl) <| lA (.int .i64 (IntKind.i64.wrap ((ab.length : Int) - 1))) <| lN <| wB ?_
 refine wloop (fun n f ar => ∃ (ac : Col) (aa : Int) (an : Nat), an = n ∧ m_nat_Cmp_L1 N ab ae an aa = some r ∧ St w0 (col0 col) ac ar ∧ Sl (Rep.int .u32) ac ar ag am ab ∧ Sl (Rep.int .u32) ac ar ah aq ae ∧ f 0 = (.slice ag ab.length am) ∧ f 1 = (.slice ah ae.length aq) ∧ f 5 = (.int .i64 aa) ∧ f 1000000 = (enc [])) N ⟨a2, (IntKind.i64.wrap ((ab.length : Int) - 1)), N, rfl, hm, hst, ad, af, rfl, rfl, rfl, rfl⟩ ?_
 clear hm; intro n f ar hI
 obtain ⟨ac, aa, an, hn, hm, hst, ad, af, hs0, hs1, hs5, hs1000000⟩ := hI
 subst hn
 refine .lD 0 hs0 <| .lD 1 hs1 <| .lD 5 hs5 <| .lD 1000000 hs1000000 ?_
 clear hs0 hs1 hs5 hs1000000
 cases an with
 | zero => rw [m_nat_Cmp_L1.eq_1] at hm; cases hm
 | succ an =>
  rw [m_nat_Cmp_L1.eq_2] at hm
  refine wS <| wS <| wR <| lM (.int .i64 aa) <| lV (.bool (decide (0 ≤ aa))) (r_geq aa 0 rfl rfl) <| lN ?_
  refine wcond (decide (0 ≤ aa)) rfl (fun hb => ?_) (fun hb => ?_)
  ·rw [if_pos hb] at hm
   clear hb
   refine wK <| wS <| wB <| wS <| wS ?_
   refine wquiet (col := ac) (by kernel_rfl) (by kernel_rfl) ?_
   refine qv (v := (.slice ag ab.length am)) rfl (fun _ hC => r_move rfl) ?_
   refine qv (v := (.int .i64 aa)) rfl (fun _ hC => r_move rfl) ?_
   obtain ⟨ai, aj, hm⟩ := bS hm
   refine qv (v := (sptr ag (Int.toNat aa * 1))) rfl (fun _ hC => r_idx Tryz.underlying36 Tryz.sizeOf114 rfl rfl (at?_some aj).1 (at?_some aj).2.1 (ad.addr aj)) ?_
   refine qv (v := (.int .u32 ai)) rfl (fun _ hC => r_ld Tryz.isAgg114 rfl ((ad.gr (Grow.of_below (col := ac) hC.below)).atInt aj)) ?_
   refine qv (v := (.slice ah ae.length aq)) rfl (fun _ hC => r_move rfl) ?_
   refine qv (v := (.int .i64 aa)) rfl (fun _ hC => r_move rfl) ?_
   obtain ⟨ak, al, hm⟩ := bS hm
   refine qv (v := (sptr ah (Int.toNat aa * 1))) rfl (fun _ hC => r_idx Tryz.underlying36 Tryz.sizeOf114 rfl rfl (at?_some al).1 (at?_some al).2.1 (af.addr al)) ?_
   refine qv (v := (.int .u32 ak)) rfl (fun _ hC => r_ld Tryz.isAgg114 rfl ((af.gr (Grow.of_below (col := ac) hC.below)).atInt al)) ?_
   refine qv (v := (.bool (decide (ai < ak)))) rfl (fun _ hC => r_lss ai ak rfl rfl) ?_
   refine qnil ?_
   intro aw hC
   replace hC : Grow ac ar ac aw := .of_below hC.below
   replace ad := ad.gr hC
   replace af := af.gr hC
   replace hst := hst.grow hC
   refine wcond (decide (ai < ak)) rfl (fun hb => ?_) (fun hb => ?_)
   ·rw [if_pos hb] at hm
    clear hb
    refine wS <| wR <| lA (.int .i64 (-1)) <| lN ?_
    refine wret ?_
    cases hm
    exact ⟨rfl, rfl, hst.below⟩
   rw [if_neg (by rw [hb]; decide)] at hm
   clear hb
   refine wK <| wS ?_
   refine wquiet (col := ac) (by kernel_rfl) (by kernel_rfl) ?_
   refine qv (v := (.slice ag ab.length am)) rfl (fun _ hC => r_move rfl) ?_
   refine qv (v := (.int .i64 aa)) rfl (fun _ hC => r_move rfl) ?_
   refine qv (v := (sptr ag (Int.toNat aa * 1))) rfl (fun _ hC => r_idx Tryz.underlying36 Tryz.sizeOf114 rfl rfl (at?_some aj).1 (at?_some aj).2.1 (ad.addr aj)) ?_
   refine qv (v := (.int .u32 ai)) rfl (fun _ hC => r_ld Tryz.isAgg114 rfl ((ad.gr (Grow.of_below (col := ac) hC.below)).atInt aj)) ?_
   refine qv (v := (.slice ah ae.length aq)) rfl (fun _ hC => r_move rfl) ?_
   refine qv (v := (.int .i64 aa)) rfl (fun _ hC => r_move rfl) ?_
   refine qv (v := (sptr ah (Int.toNat aa * 1))) rfl (fun _ hC => r_idx Tryz.underlying36 Tryz.sizeOf114 rfl rfl (at?_some al).1 (at?_some al).2.1 (af.addr al)) ?_
   refine qv (v := (.int .u32 ak)) rfl (fun _ hC => r_ld Tryz.isAgg114 rfl ((af.gr (Grow.of_below (col := ac) hC.below)).atInt al)) ?_
   refine qv (v := (.bool (decide (ak < ai)))) rfl (fun _ hC => r_gtr ai ak rfl rfl) ?_
   refine qnil ?_
   intro a3 hC
   replace hC : Grow ac aw ac a3 := .of_below hC.below
   replace ad := ad.gr hC
   replace af := af.gr hC
   replace hst := hst.grow hC
   refine wcond (decide (ak < ai)) rfl (fun hb => ?_) (fun hb => ?_)
   ·rw [if_pos hb] at hm
    clear hb
    refine wS <| wR <| lA (.int .i64 1) <| lN ?_
    refine wret ?_
    cases hm
    exact ⟨rfl, rfl, hst.below⟩
   rw [if_neg (by rw [hb]; decide)] at hm
   clear hb
   refine wK <| wR <| lM (.int .i64 aa) <| lV (.int .i64 (IntKind.i64.wrap (aa - 1))) (r_sub aa 1 rfl rfl) <| lA (.int .i64 (IntKind.i64.wrap (aa - 1))) <| lN ?_
   exact ⟨an, by omega, ⟨ac, (IntKind.i64.wrap (aa - 1)), an, rfl, hm, hst, ad, af, rfl, rfl, rfl, rfl⟩⟩
  rw [if_neg (by rw [hb]; decide)] at hm
  clear hb
  refine wexit (inB_hit ?_)
  refine wS <| wR <| lA (.int .i64 0) <| lN ?_
  refine wret ?_
  cases hm
  exact ⟨rfl, rfl, hst.below⟩
def m_nat_small_L1 (N : Nat) (aa : Int) : Nat → (List Int) → Int → Int → Option (Int × (List Int))
  | 0, _, _, _ => none
  | af + 1, ac, ad, ab => if (decide (0 ≤ ab)) = true then ((at? ac ab).bind fun ae => chk ((IntKind.u64.wrap aa) ≠ 0) ((some (ac.set (Int.toNat ab) (IntKind.u32.wrap (IntKind.u64.wrap (Int.tdiv (ior .u64 (ishl .u64 ad 32) (IntKind.u64.wrap ae)) (IntKind.u64.wrap aa)))))).bind fun ag => chk ((IntKind.u64.wrap aa) ≠ 0) ((m_nat_small_L1 N aa af) ag (Int.tmod (ior .u64 (ishl .u64 ad 32) (IntKind.u64.wrap ae)) (IntKind.u64.wrap aa)) (IntKind.i64.wrap (ab - 1))))) else (some (IntKind.u32.wrap ad, ac))
termination_by structural x => x
def m_nat_small (N : Nat) (aa : (List Int)) (ab : Int) : Option (Int × (List Int)) :=
  m_nat_small_L1 N ab N aa 0 (IntKind.i64.wrap ((aa.length : Int) - 1))
theorem c_nat_small (N : Nat) (col : Col) (w0 : World) (qc0 : Nat) (hd : dstB [qc0] = true) (a0 : Option Addr) (cap0 : Nat) (ae : (List Int)) (ab : Int) (h0 : Own (Rep.int .u32) 114 qc0 col w0 a0 cap0 ae) (r : (Int × (List Int))) (hm : m_nat_small N ae ab = some r) :
    Calls Tryz.prog 107 #[(.slice a0 ae.length cap0), (.int .u32 ab)] w0 (fun e w' => ∃ (col' : Col), e = .returned ((.int .u32 r.1)) ∧ KeepP (pS [qc0]) col w0 col' w' ∧ Own (Rep.int .u32) 114 qc0 col' w' a0 cap0 r.2 ∧ r.2.length = ae.length) := by
 refine calls_of1 4 (m := 36) (args := [(.slice a0 ae.length cap0), (.int .u32 ab)]) Tryz.func107 rfl rfl rfl rfl rfl ?_
 rw [m_nat_small.eq_1] at hm
 have hst := St.startL (l := [qc0]) rfl col w0
 replace h0 := h0.startL (dst_nz hd 0 rfl) (dst_ix hd 0 rfl)
 refine wS <| wR <| lA (.int .u32 0) <| lN <| wS <| wR <| lA (.int .u64 0) <| lN <| wS <| wS <| wR <| lM (.slice a0 ae.length cap0) <| lV (.int .i64 (ae.length : Int)) (r_len Tryz.underlying36 rfl) <| lV (.int .i64 (IntKind.i64.wrap ((ae.length : Int) - 1))) (r_sub (ae.length : Int) 1 rfl rfl) <| lA (.int .i64 (IntKind.i64.wrap ((ae.length : Int) - 1))) <| lN <| wB ?_
 refine wloop (fun n f am => ∃ (ak : Col) (af : List Int) (aa : Int) (ad : Int) (ah : Nat), ah = n ∧ m_nat_small_L1 N ab ah af aa ad = some r ∧ St w0 (colL [qc0] col) ak am ∧ Own (Rep.int .u32) 114 440 ak am a0 cap0 af ∧ af.length = ae.length ∧ af.length = ae.length ∧ f 0 = (.slice a0 af.length cap0) ∧ f 1 = (.int .u32 ab) ∧ f 5 = (.int .u64 aa) ∧ f 6 = (.int .i64 ad) ∧ f 1000000 = (enc [])) N ⟨(colL [qc0] col), ae, 0, (IntKind.i64.wrap ((ae.length : Int) - 1)), N, rfl, hm, hst, h0, rfl, rfl, rfl, rfl, rfl, rfl, rfl⟩ ?_
 clear hm; intro n f am hI
 obtain ⟨ak, af, aa, ad, ah, hn, hm, hst, ai, ap, aq, hs0, hs1, hs5, hs6, hs1000000⟩ := hI
 subst hn
 refine .lD 0 hs0 <| .lD 1 hs1 <| .lD 5 hs5 <| .lD 6 hs6 <| .lD 1000000 hs1000000 ?_
 clear hs0 hs1 hs5 hs6 hs1000000
 cases ah with
 | zero => rw [m_nat_small_L1.eq_1] at hm; cases hm
 | succ ah =>
  rw [m_nat_small_L1.eq_2] at hm
  refine wS <| wS <| wR <| lM (.int .i64 ad) <| lV (.bool (decide (0 ≤ ad))) (r_geq ad 0 rfl rfl) <| lN ?_
  refine wcond (decide (0 ≤ ad)) rfl (fun hb => ?_) (fun hb => ?_)
  ·rw [if_pos hb] at hm
   clear hb
   refine wK <| wS <| wB <| wS <| wR <| lM (.int .u64 aa) <| lV (.int .u64 (ishl .u64 aa 32)) (r_shl aa 32 rfl rfl (by decide)) <| lM (.slice a0 af.length cap0) <| lM (.int .i64 ad) ?_
   obtain ⟨ac, ag, hm⟩ := bS hm
   refine lV (sptr a0 (Int.toNat ad * 1)) (r_idx Tryz.underlying36 Tryz.sizeOf114 rfl rfl (at?_some ag).1 (at?_some ag).2.1 (ai.addr ag)) ?_
   refine lV (.int .u32 ac) (r_ld Tryz.isAgg114 rfl (ai.atInt ag)) <| lV (.int .u64 (IntKind.u64.wrap ac)) (r_conv ac ⟨_, Tryz.underlying114⟩ Tryz.underlying108 rfl) <| lV (.int .u64 (ior .u64 (ishl .u64 aa 32) (IntKind.u64.wrap ac))) (r_or (ishl .u64 aa 32) (IntKind.u64.wrap ac) rfl rfl) <| lA (.int .u64 (ior .u64 (ishl .u64 aa 32) (IntKind.u64.wrap ac))) <| lN <| wS <| wR <| lM (.slice a0 af.length cap0) <| lM (.int .i64 ad) <| lM (.int .u64 (ior .u64 (ishl .u64 aa 32) (IntKind.u64.wrap ac))) <| lM (.int .u32 ab) <| lV (.int .u64 (IntKind.u64.wrap ab)) (r_conv ab ⟨_, Tryz.underlying114⟩ Tryz.underlying108 rfl) ?_
   obtain ⟨ar, hm⟩ := cS hm
   refine lV (.int .u64 (IntKind.u64.wrap (Int.tdiv (ior .u64 (ishl .u64 aa 32) (IntKind.u64.wrap ac)) (IntKind.u64.wrap ab)))) (r_quo (ior .u64 (ishl .u64 aa 32) (IntKind.u64.wrap ac)) (IntKind.u64.wrap ab) rfl rfl ar) <| lV (.int .u32 (IntKind.u32.wrap (IntKind.u64.wrap (Int.tdiv (ior .u64 (ishl .u64 aa 32) (IntKind.u64.wrap ac)) (IntKind.u64.wrap ab))))) (r_conv (IntKind.u64.wrap (Int.tdiv (ior .u64 (ishl .u64 aa 32) (IntKind.u64.wrap ac)) (IntKind.u64.wrap ab))) ⟨_, Tryz.underlying108⟩ Tryz.underlying114 rfl) ?_
   refine lV (sptr a0 (Int.toNat ad * 1)) (r_idx Tryz.underlying36 Tryz.sizeOf114 rfl rfl (at?_some ag).1 (at?_some ag).2.1 (ai.addr ag)) ?_
   obtain ⟨aj, al, hm⟩ := bS hm
   have al : aj = af.set (Int.toNat ad) (IntKind.u32.wrap (IntKind.u64.wrap (Int.tdiv (ior .u64 (ishl .u64 aa 32) (IntKind.u64.wrap ac)) (IntKind.u64.wrap ab)))) := (Option.some.inj al).symm
   refine l_store (x1 := IntKind.u32.wrap (IntKind.u64.wrap (Int.tdiv (ior .u64 (ishl .u64 aa 32) (IntKind.u64.wrap ac)) (IntKind.u64.wrap ab)))) (v := (.int .u32 (IntKind.u32.wrap (IntKind.u64.wrap (Int.tdiv (ior .u64 (ishl .u64 aa 32) (IntKind.u64.wrap ac)) (IntKind.u64.wrap ab)))))) ai ag rfl Tryz.sizeOf114 (rd_int .u32 (IntKind.u32.wrap (IntKind.u64.wrap (Int.tdiv (ior .u64 (ishl .u64 aa 32) (IntKind.u64.wrap ac)) (IntKind.u64.wrap ab))))) rfl rfl (by decide) ?_
   intro ax au av an
   rw [← al] at an
   have ao : aj.length = ae.length := (show af.length = aj.length by rw [al, List.length_set]).symm.trans ap
   refine .ld (d := 0) (v := (.slice a0 aj.length cap0)) (congrArg (fun n => Value.slice a0 n cap0) (show af.length = aj.length by rw [al, List.length_set])) ?_
   clear ai
   refine lN <| wR <| lM (.int .u64 (ior .u64 (ishl .u64 aa 32) (IntKind.u64.wrap ac))) <| lM (.int .u32 ab) <| lV (.int .u64 (IntKind.u64.wrap ab)) (r_conv ab ⟨_, Tryz.underlying114⟩ Tryz.underlying108 rfl) ?_
   obtain ⟨aw, hm⟩ := cS hm
   refine lV (.int .u64 (Int.tmod (ior .u64 (ishl .u64 aa 32) (IntKind.u64.wrap ac)) (IntKind.u64.wrap ab))) (r_rem (ior .u64 (ishl .u64 aa 32) (IntKind.u64.wrap ac)) (IntKind.u64.wrap ab) rfl rfl aw) <| lA (.int .u64 (Int.tmod (ior .u64 (ishl .u64 aa 32) (IntKind.u64.wrap ac)) (IntKind.u64.wrap ab))) <| lN <| wR <| lM (.int .i64 ad) <| lV (.int .i64 (IntKind.i64.wrap (ad - 1))) (r_sub ad 1 rfl rfl) <| lA (.int .i64 (IntKind.i64.wrap (ad - 1))) <| lN ?_
   replace hst := hst.kp au av
   exact ⟨ah, by omega, ⟨ak, aj, (Int.tmod (ior .u64 (ishl .u64 aa 32) (IntKind.u64.wrap ac)) (IntKind.u64.wrap ab)), (IntKind.i64.wrap (ad - 1)), ah, rfl, hm, hst, an, ao, ao, rfl, rfl, rfl, rfl, rfl⟩⟩
  rw [if_neg (by rw [hb]; decide)] at hm
  clear hb
  refine wexit (inB_hit ?_)
  refine wS <| wR <| lM (.int .u64 aa) <| lV (.int .u32 (IntKind.u32.wrap aa)) (r_conv aa ⟨_, Tryz.underlying108⟩ Tryz.underlying114 rfl) <| lA (.int .u32 (IntKind.u32.wrap aa)) <| lN ?_
  refine wret ?_
  cases hm
  exact ⟨rfl, colFL w0.heap.size [qc0] col ak (fun n => bif Nat.beq n 440 then qc0 else 0), rfl, hst.finL rfl (fun n => bif Nat.beq n 440 then qc0 else 0), hst.finOwnL (g := (fun n => bif Nat.beq n 440 then qc0 else 0)) rfl ai (by decide) (by decide) rfl, aq⟩
theorem el114_104 : ElemOk Tryz.prog 114 1 4 := ⟨Tryz.t114, _, rfl, rfl, rfl, rfl, rfl⟩
def m_nat_DivMod (N : Nat) (ad : (List Int)) (ae : (List Int)) : Option ((List Int) × (List Int) × Int) :=
  (m_nat_trim N ad).bind fun ab => (m_nat_trim N ae).bind fun aa => if (decide ((aa.length : Int) = 0)) = true then none else ((m_nat_Cmp N ab aa).bind fun af => if (decide (af < 0)) = true then ((m_nat_own N ab).bind fun ag => some (([] : List Int), ag, 0)) else (if (decide ((aa.length : Int) = 1)) = true then ((m_slices_Clone_api_Nat_uint32 ab).bind fun ah => (at? aa 0).bind fun ai => (m_nat_small N ah ai).bind fun ac => (m_nat_own N ac.2).bind fun aj => (m_nat_own N [ac.1]).bind fun ak => some (aj, ak, 0)) else none))
theorem c_nat_DivMod (N : Nat) (c1 : Nat) (c2 : Nat) (col : Col) (w0 : World) (a0 : Option Addr) (cap0 : Nat) (ak : (List Int)) (a1 : Option Addr) (cap1 : Nat) (al : (List Int)) (h0 : Sl (Rep.int .u32) col w0 a0 cap0 ak) (h1 : Sl (Rep.int .u32) col w0 a1 cap1 al) (r : ((List Int) × (List Int) × Int)) (hm : m_nat_DivMod N ak al = some r) :
    Calls Tryz.prog 104 #[(.slice a0 ak.length cap0), (.slice a1 al.length cap1)] w0 (fun e w' => ∃ (col' : Col) (ra1 : Option Addr) (rc2 : Nat) (ra4 : Option Addr) (rc5 : Nat), e = .returned (.tuple #[(.slice ra1 r.1.length rc2), (.slice ra4 r.2.1.length rc5), (.int .i64 r.2.2)]) ∧ Grow col w0 col' w' ∧ Own (Rep.int .u32) 114 c1 col' w' ra1 rc2 r.1 ∧ Own (Rep.int .u32) 114 c2 col' w' ra4 rc5 r.2.1) := by
 refine calls_of3 4 5 6 (m := 122) (args := [(.slice a0 ak.length cap0), (.slice a1 al.length cap1)]) Tryz.func104 rfl rfl rfl rfl rfl ?_
 rw [m_nat_DivMod.eq_1] at hm
 have hst := St.start col w0
 refine wS <| wR <| lA (.slice none (([] : List Int).length) 0) <| lA (.slice none (([] : List Int).length) 0) <| lA (.int .i64 0) <| lN <| wS <| wR <| lM (.slice a0 ak.length cap0) ?_
 obtain ⟨ae, bi, hm⟩ := bS hm
 replace h0 := h0.keep (Stay.start col w0)
 refine lc rfl rfl (r_call1 Tryz.call88 rfl) (c_nat_trim N (col0 col) _ a0 cap0 ak h0 ae bi) ?_
 rintro _ b8 ⟨bj, af, ag, rfl, a2, ah⟩
 refine ⟨_, rfl, ?_⟩
 refine lM (.slice a1 al.length cap1) ?_
 obtain ⟨aa, bk, hm⟩ := bS hm
 replace h1 := (h1.keep (Stay.start col w0)).gr a2
 refine lc rfl rfl (r_call1 Tryz.call88 rfl) (c_nat_trim N bj _ a1 cap1 al h1 aa bk) ?_
 rintro _ bl ⟨ao, ai, am, rfl, a3, aj⟩
 refine ⟨_, rfl, ?_⟩
 refine lA (.slice af ae.length ag) <| lA (.slice ai aa.length am) <| lN <| wS <| wS <| wR <| lM (.slice ai aa.length am) <| lV (.int .i64 (aa.length : Int)) (r_len Tryz.underlying36 rfl) <| lV (.bool (decide ((aa.length : Int) = 0))) (r_eql (aa.length : Int) 0 rfl rfl) <| lN ?_
 replace hst := (hst.grow a2).grow a3
 replace ah := ah.gr a3
 refine wcond (decide ((aa.length : Int) = 0)) rfl (fun hb => ?_) (fun hb => ?_)
 ·rw [if_pos hb] at hm
  clear hb
  cases hm
 rw [if_neg (by rw [hb]; decide)] at hm
 clear hb
 refine wK <| wS <| wS <| wR <| lM (.slice af ae.length ag) <| lM (.slice ai aa.length am) ?_
 obtain ⟨au, bm, hm⟩ := bS hm
 refine lc rfl rfl (r_call2 Tryz.call58 rfl rfl) (c_nat_Cmp N ao _ af ag ae ai am aa ah aj au bm) ?_
 rintro _ bn ⟨rfl, ap⟩
 refine ⟨_, rfl, ?_⟩
 replace ap : Grow ao bl ao bn := .of_below ap
 refine lV (.bool (decide (au < 0))) (r_lss au 0 rfl rfl) <| lN ?_
 replace ah := ah.gr ap
 replace aj := aj.gr ap
 replace hst := hst.grow ap
 refine wcond (decide (au < 0)) rfl (fun hb => ?_) (fun hb => ?_)
 ·rw [if_pos hb] at hm
  clear hb
  refine wS <| wR <| lM (.slice af ae.length ag) ?_
  obtain ⟨a4, bo, hm⟩ := bS hm
  refine lc rfl rfl (r_call1 Tryz.call89 rfl) (c_nat_own N 1 ao _ af ag ae ah a4 bo) ?_
  rintro _ b9 ⟨bp, a5, a6, rfl, bq, br⟩
  refine ⟨_, rfl, ?_⟩
  refine lA (.slice none (([] : List Int).length) 0) <| lA (.slice a5 a4.length a6) <| lA (.int .i64 0) <| lN ?_
  refine wret ?_
  cases hm
  replace hst := hst.grow bq
  exact ⟨rfl, colF w0.heap.size col bp (fun n => bif Nat.beq n 1 then c2 else 0), none, 0, a5, a6, rfl, hst.fin (fun n => bif Nat.beq n 1 then c2 else 0), Own.nil, hst.finOwn (g := (fun n => bif Nat.beq n 1 then c2 else 0)) rfl br (by decide) (by decide) rfl⟩
 rw [if_neg (by rw [hb]; decide)] at hm
 clear hb
 refine wK <| wS <| wS <| wR <| lM (.slice ai aa.length am) <| lV (.int .i64 (aa.length : Int)) (r_len Tryz.underlying36 rfl) <| lV (.bool (decide ((aa.length : Int) = 1))) (r_eql (aa.length : Int) 1 rfl rfl) <| lN ?_
 refine wcond (decide ((aa.length : Int) = 1)) rfl (fun hb => ?_) (fun hb => ?_)
 ·rw [if_pos hb] at hm
  clear hb
  refine wS <| wR <| lM (.slice af ae.length ag) ?_
  obtain ⟨an, bs, hm⟩ := bS hm
  refine lc rfl rfl (r_call1 Tryz.call130 rfl) (c_slices_Clone_api_Nat_uint32 2 ao _ af ag ae ah an bs) ?_
  rintro _ ca ⟨bt, ac, ad, rfl, a7, a8⟩
  refine ⟨_, rfl, ?_⟩
  refine lA (.slice ac an.length ad) <| lN <| wS <| wR <| lM (.slice ac an.length ad) <| lM (.slice ai aa.length am) ?_
  obtain ⟨a9, av, hm⟩ := bS hm
  replace aj := aj.gr a7
  refine lV (sptr ai (Int.toNat 0 * 1)) (r_idx Tryz.underlying36 Tryz.sizeOf114 rfl rfl (at?_some av).1 (at?_some av).2.1 (aj.addr av)) ?_
  refine lV (.int .u32 a9) (r_ld Tryz.isAgg114 rfl (aj.atInt av)) ?_
  obtain ⟨ab, bu, hm⟩ := bS hm
  refine lc rfl rfl (r_call2 Tryz.call107 rfl rfl) (c_nat_small N bt _ 2 rfl ac ad an a9 a8 ab bu) ?_
  rintro _ bv ⟨aw, rfl, bw, bx, ba⟩
  refine ⟨_, rfl, ?_⟩
  clear a8
  refine .ld (d := 7) (v := (.slice ac ab.2.length ad)) (congrArg (fun n => Value.slice ac n ad) (show an.length = ab.2.length from ba.symm)) ?_
  refine .ld (d := 34) (v := (.slice ac ab.2.length ad)) (congrArg (fun n => Value.slice ac n ad) (show an.length = ab.2.length from ba.symm)) ?_
  refine lA (.int .u32 ab.1) <| lN <| wS <| wR <| lM (.slice ac ab.2.length ad) ?_
  obtain ⟨bb, bz, hm⟩ := bS hm
  refine lc rfl rfl (r_call1 Tryz.call89 rfl) (c_nat_own N 3 (frC 2 aw) _ ac ad ab.2 (bx.toSlF (Froz.int .u32)) bb bz) ?_
  rintro _ cb ⟨b0, bc, bd, rfl, ax, aq⟩
  refine ⟨_, rfl, ?_⟩
  replace aq := aq.thaw (flat_int .u32) ax ((Fz.refl (col := aw)).froz 2) (by decide)
  replace ax := ax.thawR (col := aw)
  generalize colR bv.heap.size aw b0 = b1 at *
  refine lM (.int .u32 ab.1) ?_
  refine l_lit (col := b1) (r := (Rep.int .u32)) (xs := [ab.1]) [(.int .u32 ab.1)] 4 rfl Tryz.underlying36 el114_104 rfl rfl rfl rfl rfl rfl (by intro v hv; simp only [List.mem_cons, List.not_mem_nil, or_false] at hv; subst hv; rfl) (RowsH.ofF (Rows.consF (r := (Rep.int .u32)) (x := ab.1) (cs := [(.int .u32 ab.1)]) (rd_int .u32 ab.1) Rows.nil0)) ?_
  intro b2 b3 ay be b4
  obtain ⟨bf, b5, hm⟩ := bS hm
  refine lc rfl rfl (r_call1 Tryz.call89 rfl) (c_nat_own N 5 (frC 4 ay) _ b2 1 [ab.1] (b4.toSlF (Froz.int .u32)) bf b5) ?_
  rintro _ cc ⟨b6, bg, bh, rfl, ar, az⟩
  refine ⟨_, rfl, ?_⟩
  replace az := az.thaw (flat_int .u32) ar ((Fz.refl (col := ay)).froz 4) (by decide)
  replace ar := ar.thawR (col := ay)
  generalize colR b3.heap.size ay b6 = b7 at *
  refine lA (.slice bc bb.length bd) <| lA (.slice bg bf.length bh) <| lA (.int .i64 0) <| lN ?_
  refine wret ?_
  cases hm
  replace hst := ((((hst.grow a7).kpp bw).grow ax).grow be).grow ar
  replace aq := (aq.gr be).gr ar
  exact ⟨rfl, colF w0.heap.size col b7 (fun n => bif Nat.beq n 3 then c1 else bif Nat.beq n 5 then c2 else 0), bc, bd, bg, bh, rfl, hst.fin (fun n => bif Nat.beq n 3 then c1 else bif Nat.beq n 5 then c2 else 0), hst.finOwn (g := (fun n => bif Nat.beq n 3 then c1 else bif Nat.beq n 5 then c2 else 0)) rfl aq (by decide) (by decide) rfl, hst.finOwn (g := (fun n => bif Nat.beq n 3 then c1 else bif Nat.beq n 5 then c2 else 0)) rfl az (by decide) (by decide) rfl⟩
 rw [if_neg (by rw [hb]; decide)] at hm
 clear hb
 cases hm
def m_nat_Gcd_L1 (N : Nat)  : Nat → (List Int) → (List Int) → Option (List Int)
  | 0, _, _ => none
  | ac + 1, ab, aa => if (decide (0 < (aa.length : Int))) = true then ((m_nat_DivMod N ab aa).bind fun ad => (m_nat_Gcd_L1 N ac) aa ad.2.1) else (some ab)
termination_by structural x => x
def m_nat_Gcd (N : Nat) (aa : (List Int)) (ab : (List Int)) : Option (List Int) :=
  (m_nat_own N aa).bind fun ac => (m_nat_own N ab).bind fun ad => m_nat_Gcd_L1 N N ac ad
theorem c_nat_Gcd (N : Nat) (c1 : Nat) (col : Col) (w0 : World) (a0 : Option Addr) (cap0 : Nat) (al : (List Int)) (a1 : Option Addr) (cap1 : Nat) (am : (List Int)) (h0 : Sl (Rep.int .u32) col w0 a0 cap0 al) (h1 : Sl (Rep.int .u32) col w0 a1 cap1 am) (r : (List Int)) (hm : m_nat_Gcd N al am = some r) :
    Calls Tryz.prog 103 #[(.slice a0 al.length cap0), (.slice a1 am.length cap1)] w0 (fun e w' => ∃ (col' : Col) (ra1 : Option Addr) (rc2 : Nat), e = .returned ((.slice ra1 r.length rc2)) ∧ Grow col w0 col' w' ∧ Own (Rep.int .u32) 114 c1 col' w' ra1 rc2 r) := by
 refine calls_of1 4 (m := 25) (args := [(.slice a0 al.length cap0), (.slice a1 am.length cap1)]) Tryz.func103 rfl rfl rfl rfl rfl ?_
 rw [m_nat_Gcd.eq_1] at hm
 have hst := St.start col w0
 refine wS <| wR <| lA (.slice none (([] : List Int).length) 0) <| lN <| wS <| wR <| lM (.slice a0 al.length cap0) ?_
 obtain ⟨ar, a7, hm⟩ := bS hm
 replace h0 := h0.keep (Stay.start col w0)
 refine lc rfl rfl (r_call1 Tryz.call89 rfl) (c_nat_own N 1 (col0 col) _ a0 cap0 al h0 ar a7) ?_
 rintro _ bf ⟨a8, ay, az, rfl, a2, au⟩
 refine ⟨_, rfl, ?_⟩
 refine lM (.slice a1 am.length cap1) ?_
 obtain ⟨av, a9, hm⟩ := bS hm
 replace h1 := (h1.keep (Stay.start col w0)).gr a2
 refine lc rfl rfl (r_call1 Tryz.call89 rfl) (c_nat_own N 2 a8 _ a1 cap1 am h1 av a9) ?_
 rintro _ bg ⟨ba, a3, a4, rfl, a5, bb⟩
 refine ⟨_, rfl, ?_⟩
 refine lA (.slice ay ar.length az) <| lA (.slice a3 av.length a4) <| lN <| wS <| wB ?_
 replace hst := (hst.grow a2).grow a5
 replace au := au.gr a5
 refine wloop (fun n f ap => ∃ (ac : Col) (af : Option Addr) (ag : Nat) (ah : List Int) (ad : Option Addr) (ae : Nat) (aa : List Int) (aj : Nat), aj = n ∧ m_nat_Gcd_L1 N aj ah aa = some r ∧ St w0 (col0 col) ac ap ∧ Own (Rep.int .u32) 114 1 ac ap af ag ah ∧ Own (Rep.int .u32) 114 2 ac ap ad ae aa ∧ f 0 = (.slice af ah.length ag) ∧ f 1 = (.slice ad aa.length ae) ∧ f 1000000 = (enc [])) N ⟨ba, ay, az, ar, a3, a4, av, N, rfl, hm, hst, au, bb, rfl, rfl, rfl⟩ ?_
 clear hm; intro n f ap hI
 obtain ⟨ac, af, ag, ah, ad, ae, aa, aj, hn, hm, hst, a6, ai, hs0, hs1, hs1000000⟩ := hI
 subst hn
 refine .lD 0 hs0 <| .lD 1 hs1 <| .lD 1000000 hs1000000 ?_
 clear hs0 hs1 hs1000000
 cases aj with
 | zero => rw [m_nat_Gcd_L1.eq_1] at hm; cases hm
 | succ aj =>
  rw [m_nat_Gcd_L1.eq_2] at hm
  refine wS <| wS <| wR <| lM (.slice ad aa.length ae) <| lV (.int .i64 (aa.length : Int)) (r_len Tryz.underlying36 rfl) <| lV (.bool (decide (0 < (aa.length : Int)))) (r_gtr (aa.length : Int) 0 rfl rfl) <| lN ?_
  refine wcond (decide (0 < (aa.length : Int))) rfl (fun hb => ?_) (fun hb => ?_)
  ·rw [if_pos hb] at hm
   clear hb
   refine wK <| wB <| wS <| wR <| lM (.slice af ah.length ag) <| lM (.slice ad aa.length ae) ?_
   obtain ⟨ab, bc, hm⟩ := bS hm
   refine lc rfl rfl (r_call2 Tryz.call104 rfl rfl) (c_nat_DivMod N 3 4 (frC 2 (frC 1 ac)) _ af ag ah ad ae aa ((a6.toSlF (Froz.int .u32)).froz 2) ((ai.froz 1 (by decide)).toSlF (Froz.int .u32)) ab bc) ?_
   rintro _ bh ⟨bd, aw, ax, an, ao, rfl, aq, bi, ak⟩
   refine ⟨_, rfl, ?_⟩
   replace ak := ak.thaw (flat_int .u32) aq (((Fz.refl (col := ac)).froz 1).froz 2) (by decide)
   replace aq := aq.thawR (col := ac)
   generalize colR ap.heap.size ac bd = be at *
   refine lM (.tuple #[(.slice aw ab.1.length ax), (.slice an ab.2.1.length ao), (.int .i64 ab.2.2)]) <| lV (.slice aw ab.1.length ax) (r_extract rfl rfl) <| lV (.slice an ab.2.1.length ao) (r_extract rfl rfl) <| lV (.int .i64 ab.2.2) (r_extract rfl rfl) <| lA (.slice aw ab.1.length ax) <| lA (.slice an ab.2.1.length ao) <| lA (.int .i64 ab.2.2) <| lN <| wR <| lM (.slice ad aa.length ae) <| lM (.slice an ab.2.1.length ao) <| lA (.slice ad aa.length ae) <| lA (.slice an ab.2.1.length ao) <| lN ?_
   replace ai := ai.gr aq
   replace ai := ai.recolSelf 1 (by decide)
   replace ak := ak.recol 2 1 (by decide)
   replace hst := hst.grow aq
   replace hst := hst.recol 2 1 (by decide) (by decide)
   replace ai := ai.recol 4 2 (by decide)
   replace ak := ak.recolSelf 2 (by decide)
   replace hst := hst.recol 4 2 (by decide) (by decide)
   exact ⟨aj, by omega, ⟨(rcC 4 2 (rcC 2 1 be)), ad, ae, aa, an, ao, ab.2.1, aj, rfl, hm, hst, ai, ak, rfl, rfl, rfl⟩⟩
  rw [if_neg (by rw [hb]; decide)] at hm
  clear hb
  refine wexit (inB_hit ?_)
  refine wS <| wR <| lM (.slice af ah.length ag) <| lA (.slice af ah.length ag) <| lN ?_
  refine wret ?_
  cases hm
  exact ⟨rfl, colF w0.heap.size col ac (fun n => bif Nat.beq n 1 then c1 else 0), af, ag, rfl, hst.fin (fun n => bif Nat.beq n 1 then c1 else 0), hst.finOwn (g := (fun n => bif Nat.beq n 1 then c1 else 0)) rfl a6 (by decide) (by decide) rfl⟩
def m_whole_Norm (N : Nat) (aa : (Bool × (List Int))) : Option (Bool × (List Int)) :=
  (m_whole_of N aa.1 aa.2).bind fun ab => some (ab.1, ab.2)
theorem c_whole_Norm (N : Nat) (c1 : Nat) (col : Col) (w0 : World) (ab : Option Addr) (ac : Nat) (aa : (Bool × (List Int))) (ag : Sl (Rep.int .u32) col w0 ab ac aa.2) (r : (Bool × (List Int))) (hm : m_whole_Norm N aa = some r) :
    Calls Tryz.prog 105 #[(.agg #[(.bool aa.1), (.slice ab aa.2.length ac)])] w0 (fun e w' => ∃ (col' : Col) (ra1 : Option Addr) (rc2 : Nat), e = .returned ((.agg #[(.bool r.1), (.slice ra1 r.2.length rc2)])) ∧ Grow col w0 col' w' ∧ Own (Rep.int .u32) 114 c1 col' w' ra1 rc2 r.2) := by
 refine calls_ofR (m := 8) (args := [(.agg #[(.bool aa.1), (.slice ab aa.2.length ac)])]) Tryz.func105 rfl rfl rfl ?_
 rw [m_whole_Norm.eq_1] at hm
 have hst := St.start col w0
 refine wS <| wR ?_
 refine l_box (col := (col0 col)) (v := (.agg #[(.bool aa.1), (.slice ab aa.2.length ac)])) 1 rfl rfl ?_
 intro ah aw an ao ad
 replace ad : Box 38 1 an aw ah #[(.bool aa.1), (.slice ab aa.2.length ac)] := ad
 refine l_alloc (col := an) (v := (.agg #[(.bool false), (.slice none (([] : List Int).length) 0)])) 2 rfl Tryz.zeroValue38 ?_
 intro ap ax aq ai ae
 replace ae : Box 38 2 aq ax ap #[(.bool false), (.slice none (([] : List Int).length) 0)] := ae
 refine lN <| wS <| wR <| lV (.pointer ((some (⟨ah, 0, none⟩ : Addr)).map (·.add 0))) (rF (sz := 1) (off := 0) Tryz.underlying38 rfl Tryz.sizeOf4 (by decide) rfl rfl ⟨_, _, rfl⟩) ?_
 replace ad := ad.gr ai
 refine lV (.bool aa.1) (r_ld Tryz.isAgg4 rfl ((ad.atN).nth (q := 0) (v := (.bool aa.1)) rfl)) <| lV (.pointer ((some (⟨ah, 0, none⟩ : Addr)).map (·.add 1))) (rF (sz := 1) (off := 1) Tryz.underlying38 rfl Tryz.sizeOf36 (by decide) rfl rfl ⟨_, _, rfl⟩) <| lV (.slice ab aa.2.length ac) (r_ld Tryz.isAgg36 rfl ((ad.atN).nth (q := 1) (v := (.slice ab aa.2.length ac)) rfl)) ?_
 obtain ⟨af, ay, hm⟩ := bS hm
 replace ag := ((ag.keep (Stay.start col w0)).gr ao).gr ai
 refine lc rfl rfl (r_call2 Tryz.call112 rfl rfl) (c_whole_of N 3 aq _ aa.1 ab ac aa.2 ag af ay) ?_
 rintro _ a1 ⟨ar, aj, ak, rfl, au, al⟩
 refine ⟨_, rfl, ?_⟩
 replace ae := ae.gr au
 refine l_bstore (v := (.agg #[(.bool af.1), (.slice aj af.2.length ak)])) ae Tryz.sizeOf38 rfl rfl (by intro u hu; simp only [Value.cells, List.mem_cons, List.not_mem_nil, or_false] at hu; rcases hu with rfl | rfl <;> rfl) rfl rfl ?_
 intro az av a0 am
 clear ae
 replace am : Box 38 2 ar az ap #[(.bool af.1), (.slice aj af.2.length ak)] := am
 refine lN ?_
 refine wret ?_
 cases hm
 replace hst := (((hst.grow ao).grow ai).grow au).kp av a0
 replace al := al.kp av
 exact ⟨rfl, _, res_a rfl rfl Tryz.isAgg38 Tryz.sizeOf38 rfl rfl am.atN, colF w0.heap.size col ar (fun n => bif Nat.beq n 3 then c1 else 0), aj, ak, rfl, hst.fin (fun n => bif Nat.beq n 3 then c1 else 0), hst.finOwn (g := (fun n => bif Nat.beq n 3 then c1 else 0)) rfl al (by decide) (by decide) rfl⟩
def m_frac_lowest (N : Nat) (ae : Bool) (aa : (List Int)) (ab : (List Int)) : Option ((Bool × (List Int)) × (List Int)) :=
  (m_nat_Gcd N aa ab).bind fun ac => (m_nat_DivMod N aa ac).bind fun af => (m_nat_DivMod N ab ac).bind fun ag => (m_whole_Norm N (ae, af.1)).bind fun ad => some ((ad.1, ad.2), ag.1)
theorem c_frac_lowest (N : Nat) (c1 : Nat) (c2 : Nat) (col : Col) (w0 : World) (ai : Bool) (a1 : Option Addr) (cap1 : Nat) (ac : (List Int)) (a2 : Option Addr) (cap2 : Nat) (ad : (List Int)) (h1 : Sl (Rep.int .u32) col w0 a1 cap1 ac) (h2 : Sl (Rep.int .u32) col w0 a2 cap2 ad) (r : ((Bool × (List Int)) × (List Int))) (hm : m_frac_lowest N ai ac ad = some r) :
    Calls Tryz.prog 55 #[(.bool ai), (.slice a1 ac.length cap1), (.slice a2 ad.length cap2)] w0 (fun e w' => ∃ (col' : Col) (ra1 : Option Addr) (rc2 : Nat) (ra4 : Option Addr) (rc5 : Nat), e = .returned ((.agg #[(.bool r.1.1), (.slice ra1 r.1.2.length rc2), (.slice ra4 r.2.length rc5)])) ∧ Grow col w0 col' w' ∧ Own (Rep.int .u32) 114 c1 col' w' ra1 rc2 r.1.2 ∧ Own (Rep.int .u32) 114 c2 col' w' ra4 rc5 r.2) := by
 refine calls_ofR (m := 37) (args := [(.bool ai), (.slice a1 ac.length cap1), (.slice a2 ad.length cap2)]) Tryz.func55 rfl rfl rfl ?_
 rw [m_frac_lowest.eq_1] at hm
 have hst := St.start col w0
 refine wS <| wR ?_
 refine l_alloc (col := (col0 col)) (v := (.agg #[(.bool false), (.slice none (([] : List Int).length) 0), (.slice none (([] : List Int).length) 0)])) 1 rfl Tryz.zeroValue40 ?_
 intro bc bf bd a5 aj
 replace aj : Box 40 1 bd bf bc #[(.bool false), (.slice none (([] : List Int).length) 0), (.slice none (([] : List Int).length) 0)] := aj
 refine lN <| wS <| wR <| lM (.slice a1 ac.length cap1) <| lM (.slice a2 ad.length cap2) ?_
 obtain ⟨ak, bg, hm⟩ := bS hm
 replace h1 := (h1.keep (Stay.start col w0)).gr a5
 replace h2 := (h2.keep (Stay.start col w0)).gr a5
 refine lc rfl rfl (r_call2 Tryz.call103 rfl rfl) (c_nat_Gcd N 2 bd _ a1 cap1 ac a2 cap2 ad h1 h2 ak bg) ?_
 rintro _ bh ⟨aw, ap, aq, rfl, ax, ay⟩
 refine ⟨_, rfl, ?_⟩
 refine lA (.slice ap ak.length aq) <| lN <| wS <| wR <| lM (.slice a1 ac.length cap1) <| lM (.slice ap ak.length aq) ?_
 obtain ⟨ab, bi, hm⟩ := bS hm
 replace h1 := h1.gr ax
 refine lc rfl rfl (r_call2 Tryz.call104 rfl rfl) (c_nat_DivMod N 3 4 (frC 2 aw) _ a1 cap1 ac ap aq ak (h1.froz 2) (ay.toSlF (Froz.int .u32)) ab bi) ?_
 rintro _ bj ⟨bk, al, am, a6, a7, rfl, ag, ar, bs⟩
 refine ⟨_, rfl, ?_⟩
 replace ar := ar.thaw (flat_int .u32) ag ((Fz.refl (col := aw)).froz 2) (by decide)
 replace ag := ag.thawR (col := aw)
 generalize colR bh.heap.size aw bk = az at *
 refine lM (.tuple #[(.slice al ab.1.length am), (.slice a6 ab.2.1.length a7), (.int .i64 ab.2.2)]) <| lV (.slice al ab.1.length am) (r_extract rfl rfl) <| lV (.slice a6 ab.2.1.length a7) (r_extract rfl rfl) <| lV (.int .i64 ab.2.2) (r_extract rfl rfl) <| lA (.slice al ab.1.length am) <| lA (.slice a6 ab.2.1.length a7) <| lA (.int .i64 ab.2.2) <| lN <| wS <| wR <| lM (.slice a2 ad.length cap2) <| lM (.slice ap ak.length aq) ?_
 obtain ⟨aa, bl, hm⟩ := bS hm
 replace h2 := (h2.gr ax).gr ag
 replace ay := ay.gr ag
 refine lc rfl rfl (r_call2 Tryz.call104 rfl rfl) (c_nat_DivMod N 5 6 (frC 2 az) _ a2 cap2 ad ap aq ak (h2.froz 2) (ay.toSlF (Froz.int .u32)) aa bl) ?_
 rintro _ bm ⟨bn, ae, af, a8, a9, rfl, an, au, bt⟩
 refine ⟨_, rfl, ?_⟩
 replace au := au.thaw (flat_int .u32) an ((Fz.refl (col := az)).froz 2) (by decide)
 replace an := an.thawR (col := az)
 generalize colR bj.heap.size az bn = a0 at *
 refine lM (.tuple #[(.slice ae aa.1.length af), (.slice a8 aa.2.1.length a9), (.int .i64 aa.2.2)]) <| lV (.slice ae aa.1.length af) (r_extract rfl rfl) <| lV (.slice a8 aa.2.1.length a9) (r_extract rfl rfl) <| lV (.int .i64 aa.2.2) (r_extract rfl rfl) <| lA (.slice ae aa.1.length af) <| lA (.slice a8 aa.2.1.length a9) <| lA (.int .i64 aa.2.2) <| lN <| wS <| wR <| lM (.bool ai) <| lM (.slice al ab.1.length am) <| lV (.agg #[(.bool ai), (.slice al ab.1.length am)]) (r_build (l := [_, _]) (qs := [(0, 1), (1, 1)]) Tryz.underlying38 Tryz.zeroValue38 ⟨rfl, Tryz.sizeOf4, rfl, Tryz.sizeOf36, trivial⟩ rfl) ?_
 obtain ⟨ah, bo, hm⟩ := bS hm
 replace ar := ar.gr an
 refine lc rfl rfl (r_call1 Tryz.call105 rfl) (c_whole_Norm N 7 (frC 3 a0) _ al am (ai, ab.1) (ar.toSlF (Froz.int .u32)) ah bo) ?_
 rintro _ bu ⟨bp, a3, a4, rfl, ao, av⟩
 refine ⟨_, rfl, ?_⟩
 replace av := av.thaw (flat_int .u32) ao ((Fz.refl (col := a0)).froz 3) (by decide)
 replace ao := ao.thawR (col := a0)
 generalize colR bm.heap.size a0 bp = be at *
 refine lM (.slice ae aa.1.length af) <| lV (.agg #[(.bool ah.1), (.slice a3 ah.2.length a4), (.slice ae aa.1.length af)]) (r_build (l := [_, _]) (qs := [(0, 2), (2, 1)]) Tryz.underlying40 Tryz.zeroValue40 ⟨rfl, Tryz.sizeOf38, rfl, Tryz.sizeOf36, trivial⟩ rfl) ?_
 replace aj := (((aj.gr ax).gr ag).gr an).gr ao
 refine l_bstore (v := (.agg #[(.bool ah.1), (.slice a3 ah.2.length a4), (.slice ae aa.1.length af)])) aj Tryz.sizeOf40 rfl rfl (by intro u hu; simp only [Value.cells, List.mem_cons, List.not_mem_nil, or_false] at hu; rcases hu with rfl | rfl | rfl <;> rfl) rfl rfl ?_
 intro bq ba br bb
 clear aj
 replace bb : Box 40 1 be bq bc #[(.bool ah.1), (.slice a3 ah.2.length a4), (.slice ae aa.1.length af)] := bb
 refine lN ?_
 refine wret ?_
 cases hm
 replace hst := (((((hst.grow a5).grow ax).grow ag).grow an).grow ao).kp ba br
 replace au := (au.gr ao).kp ba
 replace av := av.kp ba
 exact ⟨rfl, _, res_a rfl rfl Tryz.isAgg40 Tryz.sizeOf40 rfl rfl bb.atN, colF w0.heap.size col be (fun n => bif Nat.beq n 7 then c1 else bif Nat.beq n 5 then c2 else 0), a3, a4, ae, af, rfl, hst.fin (fun n => bif Nat.beq n 7 then c1 else bif Nat.beq n 5 then c2 else 0), hst.finOwn (g := (fun n => bif Nat.beq n 7 then c1 else bif Nat.beq n 5 then c2 else 0)) rfl av (by decide) (by decide) rfl, hst.finOwn (g := (fun n => bif Nat.beq n 7 then c1 else bif Nat.beq n 5 then c2 else 0)) rfl au (by decide) (by decide) rfl⟩
def m_frac_Add (N : Nat) (aa : ((Bool × (List Int)) × (List Int))) (ab : ((Bool × (List Int)) × (List Int))) : Option ((Bool × (List Int)) × (List Int)) :=
  (m_frac_under N ((ab.1.1, ab.1.2), ab.2)).bind fun ag => (m_frac_over N (aa.1.1, aa.1.2) ag).bind fun ad => (m_frac_under N ((aa.1.1, aa.1.2), aa.2)).bind fun ah => (m_frac_over N (ab.1.1, ab.1.2) ah).bind fun ae => (m_whole_Add N (ad.1, ad.2) (ae.1, ae.2)).bind fun af => (m_frac_under N ((aa.1.1, aa.1.2), aa.2)).bind fun ai => (m_frac_under N ((ab.1.1, ab.1.2), ab.2)).bind fun aj => (m_nat_Mul N ai aj).bind fun ak => (m_frac_lowest N af.1 af.2 ak).bind fun ac => some ((ac.1.1, ac.1.2), ac.2)
theorem c_frac_Add (N : Nat) (c1 : Nat) (c2 : Nat) (col : Col) (w0 : World) (ax : Option Addr) (ay : Nat) (bc : Option Addr) (bd : Nat) (aa : ((Bool × (List Int)) × (List Int))) (az : Option Addr) (a0 : Nat) (be : Option Addr) (bf : Nat) (ab : ((Bool × (List Int)) × (List Int))) (ak : Sl (Rep.int .u32) col w0 ax ay aa.1.2) (al : Sl (Rep.int .u32) col w0 bc bd aa.2) (af : Sl (Rep.int .u32) col w0 az a0 ab.1.2) (ai : Sl (Rep.int .u32) col w0 be bf ab.2) (r : ((Bool × (List Int)) × (List Int))) (hm : m_frac_Add N aa ab = some r) :
    Calls Tryz.prog 27 #[(.agg #[(.bool aa.1.1), (.slice ax aa.1.2.length ay), (.slice bc aa.2.length bd)]), (.agg #[(.bool ab.1.1), (.slice az ab.1.2.length a0), (.slice be ab.2.length bf)])] w0 (fun e w' => ∃ (col' : Col) (ra1 : Option Addr) (rc2 : Nat) (ra4 : Option Addr) (rc5 : Nat), e = .returned ((.agg #[(.bool r.1.1), (.slice ra1 r.1.2.length rc2), (.slice ra4 r.2.length rc5)])) ∧ Grow col w0 col' w' ∧ Own (Rep.int .u32) 114 c1 col' w' ra1 rc2 r.1.2 ∧ Own (Rep.int .u32) 114 c2 col' w' ra4 rc5 r.2) := by
 refine calls_ofR (m := 27) (args := [(.agg #[(.bool aa.1.1), (.slice ax aa.1.2.length ay), (.slice bc aa.2.length bd)]), (.agg #[(.bool ab.1.1), (.slice az ab.1.2.length a0), (.slice be ab.2.length bf)])]) Tryz.func27 rfl rfl rfl ?_
 rw [m_frac_Add.eq_1] at hm
 have hst := St.start col w0
 refine wS <| wR ?_
 refine l_box (col := (col0 col)) (v := (.agg #[(.bool aa.1.1), (.slice ax aa.1.2.length ay), (.slice bc aa.2.length bd)])) 1 rfl rfl ?_
 intro cm c9 cn b1 ag
 replace ag : Box 40 1 cn c9 cm #[(.bool aa.1.1), (.slice ax aa.1.2.length ay), (.slice bc aa.2.length bd)] := ag
 refine l_box (col := cn) (v := (.agg #[(.bool ab.1.1), (.slice az ab.1.2.length a0), (.slice be ab.2.length bf)])) 2 rfl rfl ?_
 intro co da cp bx ah
 replace ah : Box 40 2 cp da co #[(.bool ab.1.1), (.slice az ab.1.2.length a0), (.slice be ab.2.length bf)] := ah
 refine l_alloc (col := cp) (v := (.agg #[(.bool false), (.slice none (([] : List Int).length) 0), (.slice none (([] : List Int).length) 0)])) 3 rfl Tryz.zeroValue40 ?_
 intro cq a3 a4 bq ac
 replace ac : Box 40 3 a4 a3 cq #[(.bool false), (.slice none (([] : List Int).length) 0), (.slice none (([] : List Int).length) 0)] := ac
 refine lN <| wS ?_
 have bo := KeepP.clip (fun _ => false) a4 a3
 refine wmixF (col := a4) [(0, 1), (1, 0), (2, 0), (5, 1), (6, 0), (7, 0), (3, 3), (4, 3), (8, 3), (9, 3), (10, 3), (11, 4), (12, 2)] (by kernel_rfl) (by kernel_rfl) ⟨fun h => absurd h (by decide), fun h => absurd h (by decide), fun h => absurd h (by decide), fun h => absurd h (by decide), fun h => absurd h (by decide), fun h => absurd h (by decide), fun h => absurd h (by decide), fun h => absurd h (by decide), fun h => absurd h (by decide), fun h => absurd h (by decide), fun h => absurd h (by decide), fun _ => ⟨_, _, _, rfl, free_alloc Tryz.zeroValue38⟩, fun h => absurd h (by decide), trivial⟩ ?_
 refine xuF (v := (.pointer ((some (⟨cm, 0, none⟩ : Addr)).map (·.add 0)))) rfl rfl (fun _ => rF (sz := 2) (off := 0) Tryz.underlying40 rfl Tryz.sizeOf38 (by decide) rfl rfl ⟨_, _, rfl⟩) ?_
 replace ag := ((ag.gr bx).gr bq).kpp bo
 refine xvF (v := (.agg #[(.bool aa.1.1), (.slice ax aa.1.2.length ay)])) rfl rfl (fun _ hC => r_ldN Tryz.isAgg38 Tryz.sizeOf38 rfl rfl (((ag.atN).part 0 2 _ rfl).gr (Grow.of_below (col := (clipC a3 a4)) hC.below))) ?_
 replace ah := (ah.gr bq).kpp bo
 refine xvF (v := (.agg #[(.bool ab.1.1), (.slice az ab.1.2.length a0), (.slice be ab.2.length bf)])) rfl rfl (fun _ hC => r_ldN Tryz.isAgg40 Tryz.sizeOf40 rfl rfl (ah.atN.gr (Grow.of_below (col := (clipC a3 a4)) hC.below))) ?_
 refine xuF (v := (.pointer ((some (⟨co, 0, none⟩ : Addr)).map (·.add 0)))) rfl rfl (fun _ => rF (sz := 2) (off := 0) Tryz.underlying40 rfl Tryz.sizeOf38 (by decide) rfl rfl ⟨_, _, rfl⟩) ?_
 refine xvF (v := (.agg #[(.bool ab.1.1), (.slice az ab.1.2.length a0)])) rfl rfl (fun _ hC => r_ldN Tryz.isAgg38 Tryz.sizeOf38 rfl rfl (((ah.atN).part 0 2 _ rfl).gr (Grow.of_below (col := (clipC a3 a4)) hC.below))) ?_
 refine xvF (v := (.agg #[(.bool aa.1.1), (.slice ax aa.1.2.length ay), (.slice bc aa.2.length bd)])) rfl rfl (fun _ hC => r_ldN Tryz.isAgg40 Tryz.sizeOf40 rfl rfl (ag.atN.gr (Grow.of_below (col := (clipC a3 a4)) hC.below))) ?_
 refine xeF rfl rfl ?_
 intro db hC0
 have hC : Grow (clipC a3 a4) a3 (clipC a3 a4) db := .of_below hC0.below
 obtain ⟨cr, dc, hm⟩ := bS hm
 replace af := (((((af.keep (Stay.start col w0)).gr b1).gr bx).gr bq).kpp bo).gr hC
 replace ai := (((((ai.keep (Stay.start col w0)).gr b1).gr bx).gr bq).kpp bo).gr hC
 refine lc rfl rfl (r_call1 Tryz.call56 rfl) (c_frac_under N 4 (clipC a3 a4) _ az a0 be bf ((ab.1.1, ab.1.2), ab.2) af ai cr dc) ?_
 rintro _ ar ⟨a5, dd, de, rfl, a1, cb⟩
 refine ⟨_, rfl, ?_⟩
 refine lN ⟨fun w' => Grow (clipC ar a5) ar (clipC ar a5) w', fun g => (clipC ar a5) g = 497, Grow.refl _ _, good_clip, fun _ => ⟨fun _ h => cls hC0 a1 h, fun b hb => a1.below.block b hb, fun g h1 h2 => fcl a1 g h1 (by first | exact h2 | (simp only [frC, rcC, h2]; rfl))⟩, ?_⟩
 have bg := KeepP.clip (fun _ => false) a5 ar
 refine xeF rfl rfl ?_
 intro cs hC0
 replace ak := (((((((ak.keep (Stay.start col w0)).gr b1).gr bx).gr bq).kpp bo).gr hC).gr a1).kpp bg
 replace al := (((((((al.keep (Stay.start col w0)).gr b1).gr bx).gr bq).kpp bo).gr hC).gr a1).kpp bg
 replace hst := ((((((hst.grow b1).grow bx).grow bq).kpp bo).grow hC).grow a1).kpp bg
 replace ac := (((ac.kpp bo).gr hC).gr a1).kpp bg
 replace ag := ((ag.gr hC).gr a1).kpp bg
 replace ah := ((ah.gr hC).gr a1).kpp bg
 have hC : Grow (clipC ar a5) ar (clipC ar a5) cs := .of_below hC0.below
 obtain ⟨cc, df, hm⟩ := bS hm
 replace cb := (cb.kpp bg).gr hC
 replace ak := ak.gr hC
 refine lc rfl rfl (r_call2 Tryz.call81 rfl rfl) (c_frac_over N 5 (frC 4 (clipC ar a5)) _ ax ay (aa.1.1, aa.1.2) dd de cr (ak.froz 4) (cb.toSlF (Froz.int .u32)) cc df) ?_
 rintro _ bh ⟨dg, dh, di, rfl, ap, bi⟩
 refine ⟨_, rfl, ?_⟩
 replace bi := bi.thaw (flat_int .u32) ap ((Fz.refl (col := (clipC ar a5))).froz 4) (by decide)
 replace ap := ap.thawR (col := (clipC ar a5))
 generalize colR cs.heap.size (clipC ar a5) dg = br at *
 refine lN ⟨fun w' => Grow (clipC bh br) bh (clipC bh br) w', fun g => (clipC bh br) g = 497, Grow.refl _ _, good_clip, fun _ => ⟨fun _ h => cls hC0 ap h, fun b hb => ap.below.block b hb, fun g h1 h2 => fcl ap g h1 (by first | exact h2 | (simp only [frC, rcC, h2]; rfl))⟩, ?_⟩
 have bj := KeepP.clip (fun _ => false) br bh
 refine xeF rfl rfl ?_
 intro dj hC0
 replace af := ((((af.gr a1).kpp bg).gr hC).gr ap).kpp bj
 replace ai := ((((ai.gr a1).kpp bg).gr hC).gr ap).kpp bj
 replace al := ((al.gr hC).gr ap).kpp bj
 replace ag := ((ag.gr hC).gr ap).kpp bj
 replace ah := ((ah.gr hC).gr ap).kpp bj
 replace ac := ((ac.gr hC).gr ap).kpp bj
 replace hst := ((hst.grow hC).grow ap).kpp bj
 have hC : Grow (clipC bh br) bh (clipC bh br) dj := .of_below hC0.below
 obtain ⟨ct, dk, hm⟩ := bS hm
 replace ak := ((ak.gr ap).kpp bj).gr hC
 replace al := al.gr hC
 refine lc rfl rfl (r_call1 Tryz.call56 rfl) (c_frac_under N 6 (clipC bh br) _ ax ay bc bd ((aa.1.1, aa.1.2), aa.2) ak al ct dk) ?_
 rintro _ au ⟨a6, dl, dm, rfl, av, cd⟩
 refine ⟨_, rfl, ?_⟩
 refine lN ⟨fun w' => Grow (clipC au a6) au (clipC au a6) w', fun g => (clipC au a6) g = 497, Grow.refl _ _, good_clip, fun _ => ⟨fun _ h => cls hC0 av h, fun b hb => av.below.block b hb, fun g h1 h2 => fcl av g h1 (by first | exact h2 | (simp only [frC, rcC, h2]; rfl))⟩, ?_⟩
 have a7 := KeepP.clip (fun _ => false) a6 au
 refine xeF rfl rfl ?_
 intro cu hC0
 replace bi := (((bi.kpp bj).gr hC).gr av).kpp a7
 replace af := ((af.gr hC).gr av).kpp a7
 replace ai := ((ai.gr hC).gr av).kpp a7
 replace ag := ((ag.gr hC).gr av).kpp a7
 replace ah := ((ah.gr hC).gr av).kpp a7
 replace ac := ((ac.gr hC).gr av).kpp a7
 replace hst := ((hst.grow hC).grow av).kpp a7
 have hC : Grow (clipC au a6) au (clipC au a6) cu := .of_below hC0.below
 obtain ⟨ce, dn, hm⟩ := bS hm
 replace cd := (cd.kpp a7).gr hC
 replace af := af.gr hC
 refine lc rfl rfl (r_call2 Tryz.call81 rfl rfl) (c_frac_over N 7 (frC 6 (clipC au a6)) _ az a0 (ab.1.1, ab.1.2) dl dm ct (af.froz 6) (cd.toSlF (Froz.int .u32)) ce dn) ?_
 rintro _ aw ⟨dp, dq, dr, rfl, an, b2⟩
 refine ⟨_, rfl, ?_⟩
 replace b2 := b2.thaw (flat_int .u32) an ((Fz.refl (col := (clipC au a6))).froz 6) (by decide)
 replace an := an.thawR (col := (clipC au a6))
 generalize colR cu.heap.size (clipC au a6) dp = a8 at *
 refine lN ⟨fun w' => Grow (clipC aw a8) aw (clipC aw a8) w', fun g => (clipC aw a8) g = 497, Grow.refl _ _, good_clip, fun _ => ⟨fun _ h => cls hC0 an h, fun b hb => an.below.block b hb, fun g h1 h2 => fcl an g h1 (by first | exact h2 | (simp only [frC, rcC, h2]; rfl))⟩, ?_⟩
 have a9 := KeepP.clip (fun _ => false) a8 aw
 refine xeF rfl rfl ?_
 intro cv hC0
 replace ak := ((((ak.gr av).kpp a7).gr hC).gr an).kpp a9
 replace al := ((((al.gr av).kpp a7).gr hC).gr an).kpp a9
 replace ai := ((ai.gr hC).gr an).kpp a9
 replace bi := ((bi.gr hC).gr an).kpp a9
 replace ag := ((ag.gr hC).gr an).kpp a9
 replace ah := ((ah.gr hC).gr an).kpp a9
 replace ac := ((ac.gr hC).gr an).kpp a9
 replace hst := ((hst.grow hC).grow an).kpp a9
 have hC : Grow (clipC aw a8) aw (clipC aw a8) cv := .of_below hC0.below
 obtain ⟨a2, ds, hm⟩ := bS hm
 replace b2 := (b2.kpp a9).gr hC
 replace bi := bi.gr hC
 refine lc rfl rfl (r_call2 Tryz.call80 rfl rfl) (c_whole_Add N 8 (frC 7 (frC 5 (clipC aw a8))) _ dh di (cc.1, cc.2) dq dr (ce.1, ce.2) ((bi.toSlF (Froz.int .u32)).froz 7) ((b2.froz 5 (by decide)).toSlF (Froz.int .u32)) a2 ds) ?_
 rintro _ ad ⟨dt, b3, b4, rfl, aq, ao⟩
 refine ⟨_, rfl, ?_⟩
 replace ao := ao.thaw (flat_int .u32) aq (((Fz.refl (col := (clipC aw a8))).froz 5).froz 7) (by decide)
 replace aq := aq.thawR (col := (clipC aw a8))
 generalize colR cv.heap.size (clipC aw a8) dt = ae at *
 refine lN ⟨fun w' => Grow (clipC ad ae) ad (clipC ad ae) w', fun g => (clipC ad ae) g = 497, Grow.refl _ _, good_clip, fun _ => ⟨fun _ h => cls hC0 aq h, fun b hb => aq.below.block b hb, fun g h1 h2 => fcl aq g h1 (by first | exact h2 | (simp only [frC, rcC, h2]; rfl))⟩, ?_⟩
 have bk := KeepP.clip (fun _ => false) ae ad
 refine xaF rfl rfl (free_alloc Tryz.zeroValue38) ?_
 intro aj du
 refine xeF rfl rfl ?_
 intro cw ⟨hC0, hZ0⟩
 replace af := ((((af.gr an).kpp a9).gr hC).gr aq).kpp bk
 replace ak := ((ak.gr hC).gr aq).kpp bk
 replace al := ((al.gr hC).gr aq).kpp bk
 replace ai := ((ai.gr hC).gr aq).kpp bk
 replace ag := ((ag.gr hC).gr aq).kpp bk
 replace ah := ((ah.gr hC).gr aq).kpp bk
 replace ac := ((ac.gr hC).gr aq).kpp bk
 replace hst := ((hst.grow hC).grow aq).kpp bk
 have hC : Grow (clipC ad ae) ad (clipC ad ae) cw := .of_below hC0.below
 obtain ⟨bl, ca⟩ := box_float (col := (clipC ad ae)) 9 hZ0 du
 replace ca : Box 38 9 (setC aj 9 (clipC ad ae)) cw aj #[(.bool false), (.slice none (([] : List Int).length) 0)] := ca
 refine l_bstore (v := (.agg #[(.bool a2.1), (.slice b3 a2.2.length b4)])) ca Tryz.sizeOf38 rfl rfl (by intro u hu; simp only [Value.cells, List.mem_cons, List.not_mem_nil, or_false] at hu; rcases hu with rfl | rfl <;> rfl) rfl rfl ?_
 intro am bm dv bz
 clear ca
 replace bz : Box 38 9 (setC aj 9 (clipC ad ae)) am aj #[(.bool a2.1), (.slice b3 a2.2.length b4)] := bz
 refine lN ⟨fun w' => Grow (clipC am (setC aj 9 (clipC ad ae))) am (clipC am (setC aj 9 (clipC ad ae))) w', fun g => (clipC am (setC aj 9 (clipC ad ae))) g = 497, Grow.refl _ _, good_clip, fun h => absurd h (by decide), ?_⟩
 have ba := KeepP.clip (fun _ => false) (setC aj 9 (clipC ad ae)) am
 refine xnilF ?_
 replace ao := ((((ao.kpp bk).gr hC).kpp bl).kp bm).kpp ba
 replace ak := (((ak.gr hC).kpp bl).kp bm).kpp ba
 replace al := (((al.gr hC).kpp bl).kp bm).kpp ba
 replace af := (((af.gr hC).kpp bl).kp bm).kpp ba
 replace ai := (((ai.gr hC).kpp bl).kp bm).kpp ba
 replace ag := (((ag.gr hC).kpp bl).kp bm).kpp ba
 replace ah := (((ah.gr hC).kpp bl).kp bm).kpp ba
 replace ac := (((ac.gr hC).kpp bl).kp bm).kpp ba
 replace hst := (((hst.grow hC).kpp bl).kp bm dv).kpp ba
 intro cx hC
 replace hC : Grow (clipC am (setC aj 9 (clipC ad ae))) am (clipC am (setC aj 9 (clipC ad ae))) cx := .of_below hC.below
 refine wS ?_
 refine wmix (col := (clipC am (setC aj 9 (clipC ad ae)))) [(0, 1), (1, 0), (2, 1), (3, 0), (4, 0), (6, 0), (5, 3), (7, 3), (8, 3), (9, 3), (10, 2)] (by kernel_rfl) (by kernel_rfl) ?_
 refine xu (v := (.pointer ((some (⟨aj, 0, none⟩ : Addr)).map (·.add 0)))) rfl rfl (fun _ => rF (sz := 1) (off := 0) Tryz.underlying38 rfl Tryz.sizeOf4 (by decide) rfl rfl ⟨_, _, rfl⟩) ?_
 replace bz := (bz.kpp ba).gr hC
 refine xv (v := (.bool a2.1)) rfl rfl (fun _ hC => r_ld Tryz.isAgg4 rfl (((bz.atN).nth (q := 0) (v := (.bool a2.1)) rfl).gr (Grow.of_below (col := (clipC am (setC aj 9 (clipC ad ae)))) hC.below))) ?_
 refine xu (v := (.pointer ((some (⟨aj, 0, none⟩ : Addr)).map (·.add 1)))) rfl rfl (fun _ => rF (sz := 1) (off := 1) Tryz.underlying38 rfl Tryz.sizeOf36 (by decide) rfl rfl ⟨_, _, rfl⟩) ?_
 refine xv (v := (.slice b3 a2.2.length b4)) rfl rfl (fun _ hC => r_ld Tryz.isAgg36 rfl (((bz.atN).nth (q := 1) (v := (.slice b3 a2.2.length b4)) rfl).gr (Grow.of_below (col := (clipC am (setC aj 9 (clipC ad ae)))) hC.below))) ?_
 replace ag := ag.gr hC
 refine xv (v := (.agg #[(.bool aa.1.1), (.slice ax aa.1.2.length ay), (.slice bc aa.2.length bd)])) rfl rfl (fun _ hC => r_ldN Tryz.isAgg40 Tryz.sizeOf40 rfl rfl (ag.atN.gr (Grow.of_below (col := (clipC am (setC aj 9 (clipC ad ae)))) hC.below))) ?_
 replace ah := ah.gr hC
 refine xv (v := (.agg #[(.bool ab.1.1), (.slice az ab.1.2.length a0), (.slice be ab.2.length bf)])) rfl rfl (fun _ hC => r_ldN Tryz.isAgg40 Tryz.sizeOf40 rfl rfl (ah.atN.gr (Grow.of_below (col := (clipC am (setC aj 9 (clipC ad ae)))) hC.below))) ?_
 refine xe rfl rfl ?_
 intro dw hC0
 replace ak := ak.gr hC
 replace al := al.gr hC
 replace af := af.gr hC
 replace ai := ai.gr hC
 replace ao := ao.gr hC
 replace ac := ac.gr hC
 replace hst := hst.grow hC
 have hC : Grow (clipC am (setC aj 9 (clipC ad ae))) cx (clipC am (setC aj 9 (clipC ad ae))) dw := .of_below hC0.below
 obtain ⟨cy, dx, hm⟩ := bS hm
 replace ak := ak.gr hC
 replace al := al.gr hC
 refine lc rfl rfl (r_call1 Tryz.call56 rfl) (c_frac_under N 10 (clipC am (setC aj 9 (clipC ad ae))) _ ax ay bc bd ((aa.1.1, aa.1.2), aa.2) ak al cy dx) ?_
 rintro _ cz ⟨b5, dy, dz, rfl, b0, b6⟩
 refine ⟨_, rfl, ?_⟩
 refine lN ⟨fun w' => Grow b5 cz b5 w', Grow.refl _ _, fun _ _ h => cls hC0 b0 h, ?_⟩
 refine xe rfl rfl ?_
 intro d0 hC0
 replace ao := (ao.gr hC).gr b0
 replace af := (af.gr hC).gr b0
 replace ai := (ai.gr hC).gr b0
 replace ac := (ac.gr hC).gr b0
 replace hst := (hst.grow hC).grow b0
 have hC : Grow b5 cz b5 d0 := .of_below hC0.below
 obtain ⟨c0, d1, hm⟩ := bS hm
 replace af := af.gr hC
 replace ai := ai.gr hC
 refine lc rfl rfl (r_call1 Tryz.call56 rfl) (c_frac_under N 11 b5 _ az a0 be bf ((ab.1.1, ab.1.2), ab.2) af ai c0 d1) ?_
 rintro _ c3 ⟨bp, d2, d3, rfl, b7, cf⟩
 refine ⟨_, rfl, ?_⟩
 refine lN ⟨fun w' => Grow bp c3 bp w', Grow.refl _ _, fun _ _ h => cls hC0 b7 h, ?_⟩
 refine xe rfl rfl ?_
 intro c4 hC0
 replace ao := (ao.gr hC).gr b7
 replace b6 := (b6.gr hC).gr b7
 replace ac := (ac.gr hC).gr b7
 replace hst := (hst.grow hC).grow b7
 have hC : Grow bp c3 bp c4 := .of_below hC0.below
 obtain ⟨c5, d4, hm⟩ := bS hm
 replace b6 := b6.gr hC
 replace cf := cf.gr hC
 refine lc rfl rfl (r_call2 Tryz.call40 rfl rfl) (c_nat_Mul N 12 (frC 11 (frC 10 bp)) _ dy dz cy d2 d3 c0 ((b6.toSlF (Froz.int .u32)).froz 11) ((cf.froz 10 (by decide)).toSlF (Froz.int .u32)) c5 d4) ?_
 rintro _ c6 ⟨d5, d6, d7, rfl, bs, b8⟩
 refine ⟨_, rfl, ?_⟩
 replace b8 := b8.thaw (flat_int .u32) bs (((Fz.refl (col := bp)).froz 10).froz 11) (by decide)
 replace bs := bs.thawR (col := bp)
 generalize colR c4.heap.size bp d5 = bn at *
 refine lN ⟨fun w' => Grow bn c6 bn w', Grow.refl _ _, fun _ _ h => cls hC0 bs h, ?_⟩
 refine xe rfl rfl ?_
 intro c7 hC0
 replace ao := (ao.gr hC).gr bs
 replace ac := (ac.gr hC).gr bs
 replace hst := (hst.grow hC).grow bs
 have hC : Grow bn c6 bn c7 := .of_below hC0.below
 obtain ⟨bt, d8, hm⟩ := bS hm
 replace ao := ao.gr hC
 replace b8 := b8.gr hC
 refine lc rfl rfl (r_call3 Tryz.call55 rfl rfl rfl) (c_frac_lowest N 13 14 (frC 12 (frC 8 bn)) _ a2.1 b3 b4 a2.2 d6 d7 c5 ((ao.toSlF (Froz.int .u32)).froz 12) ((b8.froz 8 (by decide)).toSlF (Froz.int .u32)) bt d8) ?_
 rintro _ c8 ⟨d9, cg, ch, ci, cj, rfl, bu, bv, bw⟩
 refine ⟨_, rfl, ?_⟩
 replace bv := bv.thaw (flat_int .u32) bu (((Fz.refl (col := bn)).froz 8).froz 12) (by decide)
 replace bw := bw.thaw (flat_int .u32) bu (((Fz.refl (col := bn)).froz 8).froz 12) (by decide)
 replace bu := bu.thawR (col := bn)
 generalize colR c7.heap.size bn d9 = bb at *
 refine lN ⟨fun w' => Grow bb c8 bb w', Grow.refl _ _, fun _ _ h => cls hC0 bu h, ?_⟩
 refine xe rfl rfl ?_
 intro ea hC0
 replace ac := (ac.gr hC).gr bu
 replace hst := (hst.grow hC).grow bu
 have hC : Grow bb c8 bb ea := .of_below hC0.below
 replace ac := ac.gr hC
 refine l_bstore (v := (.agg #[(.bool bt.1.1), (.slice cg bt.1.2.length ch), (.slice ci bt.2.length cj)])) ac Tryz.sizeOf40 rfl rfl (by intro u hu; simp only [Value.cells, List.mem_cons, List.not_mem_nil, or_false] at hu; rcases hu with rfl | rfl | rfl <;> rfl) rfl rfl ?_
 intro ck cl eb b9
 clear ac
 replace b9 : Box 40 3 bb ck cq #[(.bool bt.1.1), (.slice cg bt.1.2.length ch), (.slice ci bt.2.length cj)] := b9
 refine lN ⟨fun w' => Grow bb ck bb w', Grow.refl _ _, fun h => absurd h (by decide), ?_⟩
 refine xnil ?_
 replace bv := (bv.gr hC).kp cl
 replace bw := (bw.gr hC).kp cl
 replace hst := (hst.grow hC).kp cl eb
 intro ec hC
 replace hC : Grow bb ck bb ec := .of_below hC.below
 refine wret ?_
 cases hm
 replace bv := bv.gr hC
 replace bw := bw.gr hC
 replace b9 := b9.gr hC
 replace hst := hst.grow hC
 exact ⟨rfl, _, res_a rfl rfl Tryz.isAgg40 Tryz.sizeOf40 rfl rfl b9.atN, colF w0.heap.size col bb (fun n => bif Nat.beq n 13 then c1 else bif Nat.beq n 14 then c2 else 0), cg, ch, ci, cj, rfl, hst.fin (fun n => bif Nat.beq n 13 then c1 else bif Nat.beq n 14 then c2 else 0), hst.finOwn (g := (fun n => bif Nat.beq n 13 then c1 else bif Nat.beq n 14 then c2 else 0)) rfl bv (by decide) (by decide) rfl, hst.finOwn (g := (fun n => bif Nat.beq n 13 then c1 else bif Nat.beq n 14 then c2 else 0)) rfl bw (by decide) (by decide) rfl⟩
def m_frac_Sum_L1 (N : Nat) : List ((Bool × (List Int)) × (List Int)) → Bool → (List Int) → (List Int) → Option ((Bool × (List Int)) × (List Int))
  | [], aa, ab, ac => some ((aa, ab), ac)
  | ad :: af, aa, ab, ac => (m_frac_Add N ((aa, ab), ac) ((ad.1.1, ad.1.2), ad.2)).bind fun ae => (m_frac_Sum_L1 N af) ae.1.1 ae.1.2 ae.2
termination_by structural x => x
def m_frac_Sum (N : Nat) (aa : (List ((Bool × (List Int)) × (List Int)))) : Option ((Bool × (List Int)) × (List Int)) :=
  (m_nat_Of N 1).bind fun ab => m_frac_Sum_L1 N aa false ([] : List Int) ab
theorem c_frac_Sum (N : Nat) (c1 : Nat) (c2 : Nat) (col : Col) (w0 : World) (a0 : Option Addr) (cap0 : Nat) (aa : (List ((Bool × (List Int)) × (List Int)))) (h0 : Sl (Rep.pair (Rep.pair Rep.bool (Rep.slice (Rep.int .u32))) (Rep.slice (Rep.int .u32))) col w0 a0 cap0 aa) (r : ((Bool × (List Int)) × (List Int))) (hm : m_frac_Sum N aa = some r) :
    Calls Tryz.prog 51 #[(.slice a0 aa.length cap0)] w0 (fun e w' => ∃ (col' : Col) (ra1 : Option Addr) (rc2 : Nat) (ra4 : Option Addr) (rc5 : Nat), e = .returned ((.agg #[(.bool r.1.1), (.slice ra1 r.1.2.length rc2), (.slice ra4 r.2.length rc5)])) ∧ Grow col w0 col' w' ∧ Own (Rep.int .u32) 114 c1 col' w' ra1 rc2 r.1.2 ∧ Own (Rep.int .u32) 114 c2 col' w' ra4 rc5 r.2) := by
 refine calls_ofR (m := 19) (args := [(.slice a0 aa.length cap0)]) Tryz.func51 rfl rfl rfl ?_
 rw [m_frac_Sum.eq_1] at hm
 have hst := St.start col w0
 refine wS <| wR ?_
 refine l_alloc (col := (col0 col)) (v := (.agg #[(.bool false), (.slice none (([] : List Int).length) 0), (.slice none (([] : List Int).length) 0)])) 1 rfl Tryz.zeroValue40 ?_
 intro a9 bz bs bt ab
 replace ab : Box 40 1 bs bz a9 #[(.bool false), (.slice none (([] : List Int).length) 0), (.slice none (([] : List Int).length) 0)] := ab
 refine lN <| wS <| wR ?_
 obtain ⟨a1, b0, hm⟩ := bS hm
 refine lc rfl rfl (r_call1 Tryz.call59 rfl) (c_nat_Of N 2 bs _ 1 a1 b0) ?_
 rintro _ cj ⟨b1, ba, bb, rfl, bg, bh⟩
 refine ⟨_, rfl, ?_⟩
 refine lV (.agg #[(.bool false), (.slice none (([] : List Int).length) 0), (.slice ba a1.length bb)]) (r_build (l := [_, _]) (qs := [(0, 2), (2, 1)]) Tryz.underlying40 Tryz.zeroValue40 ⟨rfl, Tryz.sizeOf38, rfl, Tryz.sizeOf36, trivial⟩ rfl) ?_
 refine l_alloc (col := b1) (v := (.agg #[(.bool false), (.slice none (([] : List Int).length) 0), (.slice none (([] : List Int).length) 0)])) 3 rfl Tryz.zeroValue40 ?_
 intro a2 b2 bi bc bd
 replace bd : Box 40 3 bi b2 a2 #[(.bool false), (.slice none (([] : List Int).length) 0), (.slice none (([] : List Int).length) 0)] := bd
 refine l_bstore (v := (.agg #[(.bool false), (.slice none (([] : List Int).length) 0), (.slice ba a1.length bb)])) bd Tryz.sizeOf40 rfl rfl (by intro u hu; simp only [Value.cells, List.mem_cons, List.not_mem_nil, or_false] at hu; rcases hu with rfl | rfl | rfl <;> rfl) rfl rfl ?_
 intro b3 be b4 ae
 clear bd
 replace ae : Box 40 3 bi b3 a2 #[(.bool false), (.slice none (([] : List Int).length) 0), (.slice ba a1.length bb)] := ae
 refine lN <| wS <| wS <| wR <| lM (.slice a0 aa.length cap0) <| lV (.int .i64 (aa.length : Int)) (r_len Tryz.underlying51 rfl) <| lM (.int .i64 0) <| lN <| wB ?_
 replace h0 := ((((h0.keep (Stay.start col w0)).gr bt).gr bg).gr bc).kp be
 replace hst := (((hst.grow bt).grow bg).grow bc).kp be b4
 replace ab := ((ab.gr bg).gr bc).kp be
 replace bh := (bh.gr bc).kp be
 refine wloop (fun n f av => ∃ (af : Col) (ad : Nat) (ap : Bool) (ah : Option Addr) (ai : Nat) (aj : List Int) (ak : Option Addr) (al : Nat) (am : List Int) (a3 : List ((Bool × (List Int)) × (List Int))), n = a3.length ∧ aa.drop ad = a3 ∧ m_frac_Sum_L1 N a3 ap aj am = some r ∧ St w0 (col0 col) af av ∧ Box 40 1 af av a9 #[(.bool false), (.slice none (([] : List Int).length) 0), (.slice none (([] : List Int).length) 0)] ∧ Own (Rep.int .u32) 114 4 af av ah ai aj ∧ Own (Rep.int .u32) 114 2 af av ak al am ∧ Box 40 3 af av a2 #[(.bool ap), (.slice ah aj.length ai), (.slice ak am.length al)] ∧ Sl (Rep.pair (Rep.pair Rep.bool (Rep.slice (Rep.int .u32))) (Rep.slice (Rep.int .u32))) af av a0 cap0 aa ∧ f 10 = (.int .i64 (ad : Int)) ∧ f 2 = (.pointer (some ⟨a9, 0, none⟩)) ∧ f 3 = (.pointer (some ⟨a2, 0, none⟩)) ∧ f 8 = (.slice a0 aa.length cap0) ∧ f 9 = (.int .i64 (aa.length : Int)) ∧ f 1000000 = (enc [])) aa.length ⟨bi, 0, false, none, 0, ([] : List Int), ba, bb, a1, aa, rfl, rfl, hm, hst, ab, Own.nil, bh, ae, h0, rfl, rfl, rfl, rfl, rfl, rfl⟩ ?_
 clear hm; intro n f av hI
 obtain ⟨af, ad, ap, ah, ai, aj, ak, al, am, a3, hn, hl, hm, hst, ab, ay, az, ae, h0, hs10, hs2, hs3, hs8, hs9, hs1000000⟩ := hI
 subst hn
 refine .lD 10 hs10 <| .lD 2 hs2 <| .lD 3 hs3 <| .lD 8 hs8 <| .lD 9 hs9 <| .lD 1000000 hs1000000 ?_
 clear hs10 hs2 hs3 hs8 hs9 hs1000000
 cases a3 with
 | nil =>
  have hk : ¬ ((ad : Int) < (aa.length : Int)) := by have := List.drop_eq_nil_iff.1 hl; omega
  have hkb := decide_eq_false hk
  rw [m_frac_Sum_L1.eq_1] at hm
  refine wS <| wR <| lV (.bool (decide ((ad : Int) < (aa.length : Int)))) (r_lss (ad : Int) (aa.length : Int) rfl rfl) <| lN <| wS ?_
  refine wcondF (congrArg Value.bool hkb) ?_
  refine wexit (inB_hit ?_)
  refine wS <| wR <| lV (.agg #[(.bool ap), (.slice ah aj.length ai), (.slice ak am.length al)]) (r_ldN Tryz.isAgg40 Tryz.sizeOf40 rfl rfl ae.atN) ?_
  refine l_bstore (v := (.agg #[(.bool ap), (.slice ah aj.length ai), (.slice ak am.length al)])) ab Tryz.sizeOf40 rfl rfl (by intro u hu; simp only [Value.cells, List.mem_cons, List.not_mem_nil, or_false] at hu; rcases hu with rfl | rfl | rfl <;> rfl) rfl rfl ?_
  intro b5 bj b6 bk
  clear ab
  replace bk : Box 40 1 af b5 a9 #[(.bool ap), (.slice ah aj.length ai), (.slice ak am.length al)] := bk
  refine lN ?_
  refine wret ?_
  cases hm
  replace ay := ay.kp bj
  replace az := az.kp bj
  replace hst := hst.kp bj b6
  exact ⟨rfl, _, res_a rfl rfl Tryz.isAgg40 Tryz.sizeOf40 rfl rfl bk.atN, colF w0.heap.size col af (fun n => bif Nat.beq n 4 then c1 else bif Nat.beq n 2 then c2 else 0), ah, ai, ak, al, rfl, hst.fin (fun n => bif Nat.beq n 4 then c1 else bif Nat.beq n 2 then c2 else 0), hst.finOwn (g := (fun n => bif Nat.beq n 4 then c1 else bif Nat.beq n 2 then c2 else 0)) rfl ay (by decide) (by decide) rfl, hst.finOwn (g := (fun n => bif Nat.beq n 4 then c1 else bif Nat.beq n 2 then c2 else 0)) rfl az (by decide) (by decide) rfl⟩
 | cons ac bu =>
  obtain ⟨hat, hl2_L1, hlt_L1⟩ := drop_get hl
  have hk : (ad : Int) < (aa.length : Int) := by omega
  have hkb := decide_eq_true hk
  rw [m_frac_Sum_L1.eq_2] at hm
  refine wS <| wR <| lV (.bool (decide ((ad : Int) < (aa.length : Int)))) (r_lss (ad : Int) (aa.length : Int) rfl rfl) <| lN <| wS ?_
  refine wcondT (congrArg Value.bool hkb) ?_
  refine wK <| wS <| wB <| wS <| wR ?_
  refine lV (sptr a0 (Int.toNat (ad : Int) * 3)) (r_idx Tryz.underlying51 Tryz.sizeOf40 rfl rfl (at?_some hat).1 (at?_some hat).2.1 (h0.addr hat)) ?_
  obtain ⟨_, b7, b8⟩ := h0.atN hat
  obtain ⟨_, _, rfl, b9, ca⟩ := rd_pair b7
  obtain ⟨_, _, rfl, cb, cc⟩ := rd_pair b9
  obtain ⟨rfl, _⟩ := cb
  obtain ⟨⟨a4, a5, rfl, bl⟩, _⟩ := cc
  obtain ⟨⟨a6, a7, rfl, bm⟩, _⟩ := ca
  refine lV (.agg #[(.bool ac.1.1), (.slice a4 ac.1.2.length a5), (.slice a6 ac.2.length a7)]) (r_ldN Tryz.isAgg40 Tryz.sizeOf40 rfl rfl b8) ?_
  refine l_alloc (col := af) (v := (.agg #[(.bool false), (.slice none (([] : List Int).length) 0), (.slice none (([] : List Int).length) 0)])) 5 rfl Tryz.zeroValue40 ?_
  intro bv cd aw aq bf
  replace bf : Box 40 5 aw cd bv #[(.bool false), (.slice none (([] : List Int).length) 0), (.slice none (([] : List Int).length) 0)] := bf
  refine l_bstore (v := (.agg #[(.bool ac.1.1), (.slice a4 ac.1.2.length a5), (.slice a6 ac.2.length a7)])) bf Tryz.sizeOf40 rfl rfl (by intro u hu; simp only [Value.cells, List.mem_cons, List.not_mem_nil, or_false] at hu; rcases hu with rfl | rfl | rfl <;> rfl) rfl rfl ?_
  intro bw ar ce bn
  clear bf
  replace bn : Box 40 5 aw bw bv #[(.bool ac.1.1), (.slice a4 ac.1.2.length a5), (.slice a6 ac.2.length a7)] := bn
  refine lN <| wR ?_
  replace ae := (ae.gr aq).kp ar
  refine lV (.agg #[(.bool ap), (.slice ah aj.length ai), (.slice ak am.length al)]) (r_ldN Tryz.isAgg40 Tryz.sizeOf40 rfl rfl ae.atN) <| lV (.agg #[(.bool ac.1.1), (.slice a4 ac.1.2.length a5), (.slice a6 ac.2.length a7)]) (r_ldN Tryz.isAgg40 Tryz.sizeOf40 rfl rfl bn.atN) ?_
  obtain ⟨ag, cf, hm⟩ := bS hm
  replace ay := (ay.gr aq).kp ar
  replace az := (az.gr aq).kp ar
  replace bl := (bl.gr aq).kp ar
  replace bm := (bm.gr aq).kp ar
  refine lc rfl rfl (r_call2 Tryz.call27 rfl rfl) (c_frac_Add N 6 7 (frC 2 (frC 4 aw)) _ ah ai ak al ((ap, aj), am) a4 a5 a6 a7 ((ac.1.1, ac.1.2), ac.2) ((ay.toSlF (Froz.int .u32)).froz 2) ((az.froz 4 (by decide)).toSlF (Froz.int .u32)) ((bl.froz 4).froz 2) ((bm.froz 4).froz 2) ag cf) ?_
  rintro _ ck ⟨cg, bo, bp, bq, br, rfl, au, an, ao⟩
  refine ⟨_, rfl, ?_⟩
  replace an := an.thaw (flat_int .u32) au (((Fz.refl (col := aw)).froz 4).froz 2) (by decide)
  replace ao := ao.thaw (flat_int .u32) au (((Fz.refl (col := aw)).froz 4).froz 2) (by decide)
  replace au := au.thawR (col := aw)
  generalize colR bw.heap.size aw cg = bx at *
  replace ae := ae.gr au
  refine l_bstore (v := (.agg #[(.bool ag.1.1), (.slice bo ag.1.2.length bp), (.slice bq ag.2.length br)])) ae Tryz.sizeOf40 rfl rfl (by intro u hu; simp only [Value.cells, List.mem_cons, List.not_mem_nil, or_false] at hu; rcases hu with rfl | rfl | rfl <;> rfl) rfl rfl ?_
  intro ch a8 ci ax
  clear ae
  replace ax : Box 40 3 bx ch a2 #[(.bool ag.1.1), (.slice bo ag.1.2.length bp), (.slice bq ag.2.length br)] := ax
  refine lN <| wR <| lV (.int .i64 (IntKind.i64.wrap ((ad : Int) + 1))) (r_add (ad : Int) 1 rfl rfl) <| lM (.int .i64 (IntKind.i64.wrap ((ad : Int) + 1))) <| lN ?_
  replace an := an.kp a8
  replace an := an.recolSelf 4 (by decide)
  replace ao := ao.kp a8
  replace ao := ao.recol 6 4 (by decide)
  replace h0 := (((h0.gr aq).kp ar).gr au).kp a8
  replace h0 := h0.recol 6 4 (by decide)
  replace ab := (((ab.gr aq).kp ar).gr au).kp a8
  replace ab := ab.recol 6 4 (by decide)
  replace ax := ax.recol 6 4 (by decide)
  replace hst := (((hst.grow aq).kp ar ce).grow au).kp a8 ci
  replace hst := hst.recol 6 4 (by decide) (by decide)
  replace an := an.recol 7 2 (by decide)
  replace ao := ao.recolSelf 2 (by decide)
  replace h0 := h0.recol 7 2 (by decide)
  replace ab := ab.recol 7 2 (by decide)
  replace ax := ax.recol 7 2 (by decide)
  replace hst := hst.recol 7 2 (by decide) (by decide)
  exact ⟨bu.length, by simp, ⟨(rcC 7 2 (rcC 6 4 bx)), (ad + 1), ag.1.1, bo, bp, ag.1.2, bq, br, ag.2, bu, rfl, hl2_L1, hm, hst, ab, an, ao, ax, h0, (congrArg (Value.int .i64) (wrap_succ (Nat.lt_of_lt_of_le hlt_L1 h0.1.1))), rfl, rfl, rfl, rfl, rfl⟩⟩
def m_whole_Of (N : Nat) (aa : Int) : Option (Bool × (List Int)) :=
  if (decide (aa < 0)) = true then none else ((m_nat_Of N (IntKind.u64.wrap aa)).bind fun ac => (m_whole_of N false ac).bind fun ab => some (ab.1, ab.2))
theorem c_whole_Of (N : Nat) (c1 : Nat) (col : Col) (w0 : World) (aa : Int) (r : (Bool × (List Int))) (hm : m_whole_Of N aa = some r) :
    Calls Tryz.prog 82 #[(.int .i64 aa)] w0 (fun e w' => ∃ (col' : Col) (ra1 : Option Addr) (rc2 : Nat), e = .returned ((.agg #[(.bool r.1), (.slice ra1 r.2.length rc2)])) ∧ Grow col w0 col' w' ∧ Own (Rep.int .u32) 114 c1 col' w' ra1 rc2 r.2) := by
 refine calls_ofR (m := 14) (args := [(.int .i64 aa)]) Tryz.func82 rfl rfl rfl ?_
 rw [m_whole_Of.eq_1] at hm
 have hst := St.start col w0
 refine wS <| wR ?_
 refine l_alloc (col := (col0 col)) (v := (.agg #[(.bool false), (.slice none (([] : List Int).length) 0)])) 1 rfl Tryz.zeroValue38 ?_
 intro aj ap ak aq ab
 replace ab : Box 38 1 ak ap aj #[(.bool false), (.slice none (([] : List Int).length) 0)] := ab
 refine lN <| wS <| wS <| wR <| lM (.int .i64 aa) <| lV (.bool (decide (aa < 0))) (r_lss aa 0 rfl rfl) <| lN ?_
 replace hst := hst.grow aq
 refine wcond (decide (aa < 0)) rfl (fun hb => ?_) (fun hb => ?_)
 ·rw [if_pos hb] at hm
  clear hb
  cases hm
 rw [if_neg (by rw [hb]; decide)] at hm
 clear hb
 refine wK <| wS <| wR <| lM (.int .i64 aa) <| lV (.int .u64 (IntKind.u64.wrap aa)) (r_conv aa ⟨_, Tryz.underlying3⟩ Tryz.underlying108 rfl) ?_
 obtain ⟨al, ar, hm⟩ := bS hm
 refine lc rfl rfl (r_call1 Tryz.call59 rfl) (c_nat_Of N 2 ak _ (IntKind.u64.wrap aa) al ar) ?_
 rintro _ au ⟨af, av, aw, rfl, am, ax⟩
 refine ⟨_, rfl, ?_⟩
 obtain ⟨ac, ay, hm⟩ := bS hm
 refine lc rfl rfl (r_call2 Tryz.call112 rfl rfl) (c_whole_of N 3 (frC 2 af) _ false av aw al (ax.toSlF (Froz.int .u32)) ac ay) ?_
 rintro _ a2 ⟨az, ag, ah, rfl, ad, ae⟩
 refine ⟨_, rfl, ?_⟩
 replace ae := ae.thaw (flat_int .u32) ad ((Fz.refl (col := af)).froz 2) (by decide)
 replace ad := ad.thawR (col := af)
 generalize colR au.heap.size af az = an at *
 replace ab := (ab.gr am).gr ad
 refine l_bstore (v := (.agg #[(.bool ac.1), (.slice ag ac.2.length ah)])) ab Tryz.sizeOf38 rfl rfl (by intro u hu; simp only [Value.cells, List.mem_cons, List.not_mem_nil, or_false] at hu; rcases hu with rfl | rfl <;> rfl) rfl rfl ?_
 intro a0 ao a1 ai
 clear ab
 replace ai : Box 38 1 an a0 aj #[(.bool ac.1), (.slice ag ac.2.length ah)] := ai
 refine lN ?_
 refine wret ?_
 cases hm
 replace hst := ((hst.grow am).grow ad).kp ao a1
 replace ae := ae.kp ao
 exact ⟨rfl, _, res_a rfl rfl Tryz.isAgg38 Tryz.sizeOf38 rfl rfl ai.atN, colF w0.heap.size col an (fun n => bif Nat.beq n 3 then c1 else 0), ag, ah, rfl, hst.fin (fun n => bif Nat.beq n 3 then c1 else 0), hst.finOwn (g := (fun n => bif Nat.beq n 3 then c1 else 0)) rfl ae (by decide) (by decide) rfl⟩
def m_math_bits_Len32_J2 (aa : Int) (ab : Int) : Option Int :=
  (bat? (⟨#[0, 1, 2, 2, 3, 3, 3, 3, 4, 4, 4, 4, 4, 4, 4, 4, 5, 5, 5, 5, 5, 5, 5, 5, 5, 5, 5, 5, 5, 5, 5, 5, 6, 6, 6, 6, 6, 6, 6, 6, 6, 6, 6, 6, 6, 6, 6, 6, 6, 6, 6, 6, 6, 6, 6, 6, 6, 6, 6, 6, 6, 6, 6, 6, 7, 7, 7, 7, 7, 7, 7, 7, 7, 7, 7, 7, 7, 7, 7, 7, 7, 7, 7, 7, 7, 7, 7, 7, 7, 7, 7, 7, 7, 7, 7, 7, 7, 7, 7, 7, 7, 7, 7, 7, 7, 7, 7, 7, 7, 7, 7, 7, 7, 7, 7, 7, 7, 7, 7, 7, 7, 7, 7, 7, 7, 7, 7, 7, 8, 8, 8, 8, 8, 8, 8, 8, 8, 8, 8, 8, 8, 8, 8, 8, 8, 8, 8, 8, 8, 8, 8, 8, 8, 8, 8, 8, 8, 8, 8, 8, 8, 8, 8, 8, 8, 8, 8, 8, 8, 8, 8, 8, 8, 8, 8, 8, 8, 8, 8, 8, 8, 8, 8, 8, 8, 8, 8, 8, 8, 8, 8, 8, 8, 8, 8, 8, 8, 8, 8, 8, 8, 8, 8, 8, 8, 8, 8, 8, 8, 8, 8, 8, 8, 8, 8, 8, 8, 8, 8, 8, 8, 8, 8, 8, 8, 8, 8, 8, 8, 8, 8, 8, 8, 8, 8, 8, 8, 8, 8, 8, 8, 8, 8, 8, 8, 8, 8, 8, 8, 8, 8, 8, 8, 8, 8, 8]⟩) (IntKind.u8.wrap aa)).bind fun ac => some (IntKind.i64.wrap (ab + (IntKind.i64.wrap ac)))
def m_math_bits_Len32_J1 (aa : Int) (ab : Int) : Option Int :=
  if (decide (256 ≤ aa)) = true then none else (m_math_bits_Len32_J2 aa ab)
def m_math_bits_Len32 (aa : Int) : Option Int :=
  if (decide (65536 ≤ aa)) = true then none else (m_math_bits_Len32_J1 aa 0)
theorem c_math_bits_Len32 (col : Col) (w0 : World) (aa : Int) (r : Int) (hm : m_math_bits_Len32 aa = some r) :
    Calls Tryz.prog 110 #[(.int .u32 aa)] w0 (fun e w' => e = .returned ((.int .i64 r)) ∧ Below w0.heap.size w0 w') := by
 refine calls_of1 2 (m := 19) (args := [(.int .u32 aa)]) Tryz.func110 rfl rfl rfl rfl rfl ?_
 rw [m_math_bits_Len32.eq_1] at hm
 have hst := St.start col w0
 refine wS <| wR <| lA (.int .i64 0) <| lN <| wS ?_
 refine Wp.cut (fun f ah => ∃ (ag : Col) (ab : Int) (af : Int), m_math_bits_Len32_J1 ab af = some r ∧ St w0 (col0 col) ag ah ∧ f 0 = (.int .u32 ab) ∧ f 2 = (.int .i64 af) ∧ f 1000000 = (enc [])) ?_ ?_
 ·intro f ah hJ
  obtain ⟨ag, ab, af, hm, hst, hs0, hs2, hs1000000⟩ := hJ
  rw [m_math_bits_Len32_J1.eq_1] at hm
  refine .lD 0 hs0 <| .lD 2 hs2 <| .lD 1000000 hs1000000 ?_
  clear hs0 hs2 hs1000000
  refine wS ?_
  refine Wp.cut (fun f ai => ∃ (aj : Col) (ad : Int) (ac : Int), m_math_bits_Len32_J2 ad ac = some r ∧ St w0 (col0 col) aj ai ∧ f 0 = (.int .u32 ad) ∧ f 2 = (.int .i64 ac) ∧ f 1000000 = (enc [])) ?_ ?_
  ·intro f ai hJ
   obtain ⟨aj, ad, ac, hm, hst, hs0, hs2, hs1000000⟩ := hJ
   rw [m_math_bits_Len32_J2.eq_1] at hm
   refine .lD 0 hs0 <| .lD 2 hs2 <| .lD 1000000 hs1000000 ?_
   clear hs0 hs2 hs1000000
   refine wS <| wR <| lM (.int .i64 ac) <| lM (.int .u32 ad) <| lV (.int .u8 (IntKind.u8.wrap ad)) (r_conv ad ⟨_, Tryz.underlying114⟩ Tryz.underlying5 rfl) ?_
   obtain ⟨ae, ak, hm⟩ := bS hm
   refine lV (.int .u8 ae) (r_indexS (s := (⟨#[0, 1, 2, 2, 3, 3, 3, 3, 4, 4, 4, 4, 4, 4, 4, 4, 5, 5, 5, 5, 5, 5, 5, 5, 5, 5, 5, 5, 5, 5, 5, 5, 6, 6, 6, 6, 6, 6, 6, 6, 6, 6, 6, 6, 6, 6, 6, 6, 6, 6, 6, 6, 6, 6, 6, 6, 6, 6, 6, 6, 6, 6, 6, 6, 7, 7, 7, 7, 7, 7, 7, 7, 7, 7, 7, 7, 7, 7, 7, 7, 7, 7, 7, 7, 7, 7, 7, 7, 7, 7, 7, 7, 7, 7, 7, 7, 7, 7, 7, 7, 7, 7, 7, 7, 7, 7, 7, 7, 7, 7, 7, 7, 7, 7, 7, 7, 7, 7, 7, 7, 7, 7, 7, 7, 7, 7, 7, 7, 8, 8, 8, 8, 8, 8, 8, 8, 8, 8, 8, 8, 8, 8, 8, 8, 8, 8, 8, 8, 8, 8, 8, 8, 8, 8, 8, 8, 8, 8, 8, 8, 8, 8, 8, 8, 8, 8, 8, 8, 8, 8, 8, 8, 8, 8, 8, 8, 8, 8, 8, 8, 8, 8, 8, 8, 8, 8, 8, 8, 8, 8, 8, 8, 8, 8, 8, 8, 8, 8, 8, 8, 8, 8, 8, 8, 8, 8, 8, 8, 8, 8, 8, 8, 8, 8, 8, 8, 8, 8, 8, 8, 8, 8, 8, 8, 8, 8, 8, 8, 8, 8, 8, 8, 8, 8, 8, 8, 8, 8, 8, 8, 8, 8, 8, 8, 8, 8, 8, 8, 8, 8, 8, 8, 8, 8, 8, 8]⟩)) Tryz.underlying9 rfl rfl ak) <| lV (.int .i64 (IntKind.i64.wrap ae)) (r_conv ae ⟨_, Tryz.underlying5⟩ Tryz.underlying3 rfl) <| lV (.int .i64 (IntKind.i64.wrap (ac + (IntKind.i64.wrap ae)))) (r_add ac (IntKind.i64.wrap ae) rfl rfl) <| lA (.int .i64 (IntKind.i64.wrap (ac + (IntKind.i64.wrap ae)))) <| lN ?_
   refine wret ?_
   cases hm
   exact ⟨rfl, rfl, hst.below⟩
  refine wS <| wR <| lM (.int .u32 ab) <| lV (.bool (decide (256 ≤ ab))) (r_geq ab 256 rfl rfl) <| lN ?_
  refine wcond (decide (256 ≤ ab)) rfl (fun hb => ?_) (fun hb => ?_)
  ·rw [if_pos hb] at hm
   clear hb
   cases hm
  rw [if_neg (by rw [hb]; decide)] at hm
  clear hb
  refine wK ?_
  exact ⟨ag, ab, af, hm, hst, rfl, rfl, rfl⟩
 refine wS <| wR <| lM (.int .u32 aa) <| lV (.bool (decide (65536 ≤ aa))) (r_geq aa 65536 rfl rfl) <| lN ?_
 refine wcond (decide (65536 ≤ aa)) rfl (fun hb => ?_) (fun hb => ?_)
 ·rw [if_pos hb] at hm
  clear hb
  cases hm
 rw [if_neg (by rw [hb]; decide)] at hm
 clear hb
 refine wK ?_
 exact ⟨(col0 col), aa, 0, hm, hst, rfl, rfl, rfl⟩
def m_nat_Bits (N : Nat) (ab : (List Int)) : Option Int :=
  (m_nat_trim N ab).bind fun aa => if (decide ((aa.length : Int) = 0)) = true then none else ((at? aa (IntKind.i64.wrap ((aa.length : Int) - 1))).bind fun ac => (m_math_bits_Len32 ac).bind fun ad => some (IntKind.i64.wrap ((IntKind.i64.wrap (32 * (IntKind.i64.wrap ((aa.length : Int) - 1)))) + ad)))
theorem c_nat_Bits (N : Nat) (col : Col) (w0 : World) (a0 : Option Addr) (cap0 : Nat) (ab : (List Int)) (h0 : Sl (Rep.int .u32) col w0 a0 cap0 ab) (r : Int) (hm : m_nat_Bits N ab = some r) :
    Calls Tryz.prog 62 #[(.slice a0 ab.length cap0)] w0 (fun e w' => e = .returned ((.int .i64 r)) ∧ Below w0.heap.size w0 w') := by
 refine calls_of1 2 (m := 20) (args := [(.slice a0 ab.length cap0)]) Tryz.func62 rfl rfl rfl rfl rfl ?_
 rw [m_nat_Bits.eq_1] at hm
 have hst := St.start col w0
 refine wS <| wR <| lA (.int .i64 0) <| lN <| wS <| wR <| lM (.slice a0 ab.length cap0) ?_
 obtain ⟨aa, ak, hm⟩ := bS hm
 replace h0 := h0.keep (Stay.start col w0)
 refine lc rfl rfl (r_call1 Tryz.call88 rfl) (c_nat_trim N (col0 col) _ a0 cap0 ab h0 aa ak) ?_
 rintro _ al ⟨ag, ac, ad, rfl, am, ai⟩
 refine ⟨_, rfl, ?_⟩
 refine lA (.slice ac aa.length ad) <| lN <| wS <| wS <| wR <| lM (.slice ac aa.length ad) <| lV (.int .i64 (aa.length : Int)) (r_len Tryz.underlying36 rfl) <| lV (.bool (decide ((aa.length : Int) = 0))) (r_eql (aa.length : Int) 0 rfl rfl) <| lN ?_
 replace hst := hst.grow am
 refine wcond (decide ((aa.length : Int) = 0)) rfl (fun hb => ?_) (fun hb => ?_)
 ·rw [if_pos hb] at hm
  clear hb
  cases hm
 rw [if_neg (by rw [hb]; decide)] at hm
 clear hb
 refine wK <| wS <| wR <| lM (.slice ac aa.length ad) <| lV (.int .i64 (aa.length : Int)) (r_len Tryz.underlying36 rfl) <| lV (.int .i64 (IntKind.i64.wrap ((aa.length : Int) - 1))) (r_sub (aa.length : Int) 1 rfl rfl) <| lV (.int .i64 (IntKind.i64.wrap (32 * (IntKind.i64.wrap ((aa.length : Int) - 1))))) (r_mul 32 (IntKind.i64.wrap ((aa.length : Int) - 1)) rfl rfl) <| lM (.slice ac aa.length ad) <| lM (.slice ac aa.length ad) <| lV (.int .i64 (aa.length : Int)) (r_len Tryz.underlying36 rfl) <| lV (.int .i64 (IntKind.i64.wrap ((aa.length : Int) - 1))) (r_sub (aa.length : Int) 1 rfl rfl) ?_
 obtain ⟨aj, ae, hm⟩ := bS hm
 refine lV (sptr ac (Int.toNat (IntKind.i64.wrap ((aa.length : Int) - 1)) * 1)) (r_idx Tryz.underlying36 Tryz.sizeOf114 rfl rfl (at?_some ae).1 (at?_some ae).2.1 (ai.addr ae)) ?_
 refine lV (.int .u32 aj) (r_ld Tryz.isAgg114 rfl (ai.atInt ae)) ?_
 obtain ⟨af, an, hm⟩ := bS hm
 refine lc rfl rfl (r_call1 Tryz.call110 rfl) (c_math_bits_Len32 ag _ aj af an) ?_
 rintro _ ao ⟨rfl, ah⟩
 refine ⟨_, rfl, ?_⟩
 replace ah : Grow ag al ag ao := .of_below ah
 refine lV (.int .i64 (IntKind.i64.wrap ((IntKind.i64.wrap (32 * (IntKind.i64.wrap ((aa.length : Int) - 1)))) + af))) (r_add (IntKind.i64.wrap (32 * (IntKind.i64.wrap ((aa.length : Int) - 1)))) af rfl rfl) <| lA (.int .i64 (IntKind.i64.wrap ((IntKind.i64.wrap (32 * (IntKind.i64.wrap ((aa.length : Int) - 1)))) + af))) <| lN ?_
 refine wret ?_
 cases hm
 replace hst := hst.grow ah
 exact ⟨rfl, rfl, hst.below⟩
def m_whole_Sign (N : Nat) (aa : (Bool × (List Int))) : Option Int :=
  (m_nat_Bits N aa.2).bind fun ab => if (decide (ab = 0)) = true then none else (if aa.1 = true then none else (some 1))
theorem c_whole_Sign (N : Nat) (col : Col) (w0 : World) (ab : Option Addr) (ac : Nat) (aa : (Bool × (List Int))) (ah : Sl (Rep.int .u32) col w0 ab ac aa.2) (r : Int) (hm : m_whole_Sign N aa = some r) :
    Calls Tryz.prog 76 #[(.agg #[(.bool aa.1), (.slice ab aa.2.length ac)])] w0 (fun e w' => e = .returned ((.int .i64 r)) ∧ Below w0.heap.size w0 w') := by
 refine calls_of1 2 (m := 11) (args := [(.agg #[(.bool aa.1), (.slice ab aa.2.length ac)])]) Tryz.func76 rfl rfl rfl rfl rfl ?_
 rw [m_whole_Sign.eq_1] at hm
 have hst := St.start col w0
 refine wS <| wR ?_
 refine l_box (col := (col0 col)) (v := (.agg #[(.bool aa.1), (.slice ab aa.2.length ac)])) 1 rfl rfl ?_
 intro ai aj af ak ad
 replace ad : Box 38 1 af aj ai #[(.bool aa.1), (.slice ab aa.2.length ac)] := ad
 refine lA (.int .i64 0) <| lN <| wS <| wB <| wS <| wR <| lV (.pointer ((some (⟨ai, 0, none⟩ : Addr)).map (·.add 1))) (rF (sz := 1) (off := 1) Tryz.underlying38 rfl Tryz.sizeOf36 (by decide) rfl rfl ⟨_, _, rfl⟩) <| lV (.slice ab aa.2.length ac) (r_ld Tryz.isAgg36 rfl ((ad.atN).nth (q := 1) (v := (.slice ab aa.2.length ac)) rfl)) ?_
 obtain ⟨ae, al, hm⟩ := bS hm
 replace ah := (ah.keep (Stay.start col w0)).gr ak
 refine lc rfl rfl (r_call1 Tryz.call62 rfl) (c_nat_Bits N af _ ab ac aa.2 ah ae al) ?_
 rintro _ am ⟨rfl, ag⟩
 refine ⟨_, rfl, ?_⟩
 replace ag : Grow af aj af am := .of_below ag
 refine lV (.bool (decide (ae = 0))) (r_eql ae 0 rfl rfl) <| lA (.bool (decide (ae = 0))) <| lN ?_
 replace hst := (hst.grow ak).grow ag
 replace ad := ad.gr ag
 refine wcond (decide (ae = 0)) rfl (fun hb => ?_) (fun hb => ?_)
 ·rw [if_pos hb] at hm
  clear hb
  cases hm
 rw [if_neg (by rw [hb]; decide)] at hm
 clear hb
 refine wS <| wR <| lV (.pointer ((some (⟨ai, 0, none⟩ : Addr)).map (·.add 0))) (rF (sz := 1) (off := 0) Tryz.underlying38 rfl Tryz.sizeOf4 (by decide) rfl rfl ⟨_, _, rfl⟩) <| lV (.bool aa.1) (r_ld Tryz.isAgg4 rfl ((ad.atN).nth (q := 0) (v := (.bool aa.1)) rfl)) <| lA (.bool aa.1) <| lN ?_
 refine wcond (aa.1) rfl (fun hb => ?_) (fun hb => ?_)
 ·rw [if_pos hb] at hm
  clear hb
  cases hm
 rw [if_neg (by rw [hb]; decide)] at hm
 clear hb
 refine wK <| wS <| wR <| lA (.int .i64 1) <| lN ?_
 refine wret ?_
 cases hm
 exact ⟨rfl, rfl, hst.below⟩
def m_frac_New (N : Nat) (ac : (Bool × (List Int))) (aa : (Bool × (List Int))) : Option (((Bool × (List Int)) × (List Int)) × Int) :=
  (m_whole_Sign N (aa.1, aa.2)).bind fun ad => if (decide (ad = 0)) = true then none else ((m_frac_lowest N (!decide (ac.1 = aa.1)) ac.2 aa.2).bind fun ab => some (((ab.1.1, ab.1.2), ab.2), 0))
theorem c_frac_New (N : Nat) (c1 : Nat) (c2 : Nat) (col : Col) (w0 : World) (af : Option Addr) (ag : Nat) (ab : (Bool × (List Int))) (ac : Option Addr) (ad : Nat) (aa : (Bool × (List Int))) (aq : Sl (Rep.int .u32) col w0 af ag ab.2) (ak : Sl (Rep.int .u32) col w0 ac ad aa.2) (r : (((Bool × (List Int)) × (List Int)) × Int)) (hm : m_frac_New N ab aa = some r) :
    Calls Tryz.prog 41 #[(.agg #[(.bool ab.1), (.slice af ab.2.length ag)]), (.agg #[(.bool aa.1), (.slice ac aa.2.length ad)])] w0 (fun e w' => ∃ (col' : Col) (ra1 : Option Addr) (rc2 : Nat) (ra4 : Option Addr) (rc5 : Nat), e = .returned (.tuple #[(.agg #[(.bool r.1.1.1), (.slice ra1 r.1.1.2.length rc2), (.slice ra4 r.1.2.length rc5)]), (.int .i64 r.2)]) ∧ Grow col w0 col' w' ∧ Own (Rep.int .u32) 114 c1 col' w' ra1 rc2 r.1.1.2 ∧ Own (Rep.int .u32) 114 c2 col' w' ra4 rc5 r.1.2) := by
 refine calls_ofR (m := 20) (args := [(.agg #[(.bool ab.1), (.slice af ab.2.length ag)]), (.agg #[(.bool aa.1), (.slice ac aa.2.length ad)])]) Tryz.func41 rfl rfl rfl ?_
 rw [m_frac_New.eq_1] at hm
 have hst := St.start col w0
 refine wS <| wR ?_
 refine l_box (col := (col0 col)) (v := (.agg #[(.bool ab.1), (.slice af ab.2.length ag)])) 1 rfl rfl ?_
 intro ar ba a4 au al
 replace al : Box 38 1 a4 ba ar #[(.bool ab.1), (.slice af ab.2.length ag)] := al
 refine l_box (col := a4) (v := (.agg #[(.bool aa.1), (.slice ac aa.2.length ad)])) 2 rfl rfl ?_
 intro av bb a5 ao ae
 replace ae : Box 38 2 a5 bb av #[(.bool aa.1), (.slice ac aa.2.length ad)] := ae
 refine l_alloc (col := a5) (v := (.agg #[(.bool false), (.slice none (([] : List Int).length) 0), (.slice none (([] : List Int).length) 0)])) 3 rfl Tryz.zeroValue40 ?_
 intro a6 a7 am an ah
 replace ah : Box 40 3 am a7 a6 #[(.bool false), (.slice none (([] : List Int).length) 0), (.slice none (([] : List Int).length) 0)] := ah
 refine lA (.int .i64 0) <| lN <| wS <| wS <| wR ?_
 replace ae := ae.gr an
 refine lV (.agg #[(.bool aa.1), (.slice ac aa.2.length ad)]) (r_ldN Tryz.isAgg38 Tryz.sizeOf38 rfl rfl ae.atN) ?_
 obtain ⟨ap, bc, hm⟩ := bS hm
 replace ak := (((ak.keep (Stay.start col w0)).gr au).gr ao).gr an
 refine lc rfl rfl (r_call1 Tryz.call76 rfl) (c_whole_Sign N am _ ac ad (aa.1, aa.2) ak ap bc) ?_
 rintro _ bd ⟨rfl, ai⟩
 refine ⟨_, rfl, ?_⟩
 replace ai : Grow am a7 am bd := .of_below ai
 refine lV (.bool (decide (ap = 0))) (r_eql ap 0 rfl rfl) <| lN ?_
 replace aq := ((((aq.keep (Stay.start col w0)).gr au).gr ao).gr an).gr ai
 replace hst := (((hst.grow au).grow ao).grow an).grow ai
 replace al := ((al.gr ao).gr an).gr ai
 replace ak := ak.gr ai
 replace ae := ae.gr ai
 replace ah := ah.gr ai
 refine wcond (decide (ap = 0)) rfl (fun hb => ?_) (fun hb => ?_)
 ·rw [if_pos hb] at hm
  clear hb
  cases hm
 rw [if_neg (by rw [hb]; decide)] at hm
 clear hb
 refine wK <| wS <| wR <| lV (.pointer ((some (⟨ar, 0, none⟩ : Addr)).map (·.add 0))) (rF (sz := 1) (off := 0) Tryz.underlying38 rfl Tryz.sizeOf4 (by decide) rfl rfl ⟨_, _, rfl⟩) <| lV (.bool ab.1) (r_ld Tryz.isAgg4 rfl ((al.atN).nth (q := 0) (v := (.bool ab.1)) rfl)) <| lV (.pointer ((some (⟨av, 0, none⟩ : Addr)).map (·.add 0))) (rF (sz := 1) (off := 0) Tryz.underlying38 rfl Tryz.sizeOf4 (by decide) rfl rfl ⟨_, _, rfl⟩) <| lV (.bool aa.1) (r_ld Tryz.isAgg4 rfl ((ae.atN).nth (q := 0) (v := (.bool aa.1)) rfl)) <| lV (.bool (!decide (ab.1 = aa.1))) (r_neqB ab.1 aa.1 Tryz.underlying4 rfl rfl) <| lV (.pointer ((some (⟨ar, 0, none⟩ : Addr)).map (·.add 1))) (rF (sz := 1) (off := 1) Tryz.underlying38 rfl Tryz.sizeOf36 (by decide) rfl rfl ⟨_, _, rfl⟩) <| lV (.slice af ab.2.length ag) (r_ld Tryz.isAgg36 rfl ((al.atN).nth (q := 1) (v := (.slice af ab.2.length ag)) rfl)) <| lV (.pointer ((some (⟨av, 0, none⟩ : Addr)).map (·.add 1))) (rF (sz := 1) (off := 1) Tryz.underlying38 rfl Tryz.sizeOf36 (by decide) rfl rfl ⟨_, _, rfl⟩) <| lV (.slice ac aa.2.length ad) (r_ld Tryz.isAgg36 rfl ((ae.atN).nth (q := 1) (v := (.slice ac aa.2.length ad)) rfl)) ?_
 obtain ⟨aj, be, hm⟩ := bS hm
 refine lc rfl rfl (r_call3 Tryz.call55 rfl rfl rfl) (c_frac_lowest N 4 5 am _ (!decide (ab.1 = aa.1)) af ag ab.2 ac ad aa.2 aq ak aj be) ?_
 rintro _ bh ⟨a8, aw, ax, ay, az, rfl, a9, a0, a1⟩
 refine ⟨_, rfl, ?_⟩
 replace ah := ah.gr a9
 refine l_bstore (v := (.agg #[(.bool aj.1.1), (.slice aw aj.1.2.length ax), (.slice ay aj.2.length az)])) ah Tryz.sizeOf40 rfl rfl (by intro u hu; simp only [Value.cells, List.mem_cons, List.not_mem_nil, or_false] at hu; rcases hu with rfl | rfl | rfl <;> rfl) rfl rfl ?_
 intro bf a2 bg a3
 clear ah
 replace a3 : Box 40 3 a8 bf a6 #[(.bool aj.1.1), (.slice aw aj.1.2.length ax), (.slice ay aj.2.length az)] := a3
 refine lA (.int .i64 0) <| lN ?_
 refine wret ?_
 cases hm
 replace hst := (hst.grow a9).kp a2 bg
 replace a0 := a0.kp a2
 replace a1 := a1.kp a2
 exact ⟨rfl, _, res_at rfl rfl Tryz.isAgg40 Tryz.sizeOf40 rfl rfl a3.atN rfl rfl, colF w0.heap.size col a8 (fun n => bif Nat.beq n 4 then c1 else bif Nat.beq n 5 then c2 else 0), aw, ax, ay, az, rfl, hst.fin (fun n => bif Nat.beq n 4 then c1 else bif Nat.beq n 5 then c2 else 0), hst.finOwn (g := (fun n => bif Nat.beq n 4 then c1 else bif Nat.beq n 5 then c2 else 0)) rfl a0 (by decide) (by decide) rfl, hst.finOwn (g := (fun n => bif Nat.beq n 4 then c1 else bif Nat.beq n 5 then c2 else 0)) rfl a1 (by decide) (by decide) rfl⟩
def m_frac_Of (N : Nat) (ad : Int) (ae : Int) : Option (((Bool × (List Int)) × (List Int)) × Int) :=
  (m_whole_Of N ad).bind fun ab => (m_whole_Of N ae).bind fun ac => (m_frac_New N (ab.1, ab.2) (ac.1, ac.2)).bind fun aa => some (((aa.1.1.1, aa.1.1.2), aa.1.2), aa.2)
theorem c_frac_Of (N : Nat) (c1 : Nat) (c2 : Nat) (col : Col) (w0 : World) (ad : Int) (ae : Int) (r : (((Bool × (List Int)) × (List Int)) × Int)) (hm : m_frac_Of N ad ae = some r) :
    Calls Tryz.prog 30 #[(.int .i64 ad), (.int .i64 ae)] w0 (fun e w' => ∃ (col' : Col) (ra1 : Option Addr) (rc2 : Nat) (ra4 : Option Addr) (rc5 : Nat), e = .returned (.tuple #[(.agg #[(.bool r.1.1.1), (.slice ra1 r.1.1.2.length rc2), (.slice ra4 r.1.2.length rc5)]), (.int .i64 r.2)]) ∧ Grow col w0 col' w' ∧ Own (Rep.int .u32) 114 c1 col' w' ra1 rc2 r.1.1.2 ∧ Own (Rep.int .u32) 114 c2 col' w' ra4 rc5 r.1.2) := by
 refine calls_ofR (m := 13) (args := [(.int .i64 ad), (.int .i64 ae)]) Tryz.func30 rfl rfl rfl ?_
 rw [m_frac_Of.eq_1] at hm
 have hst := St.start col w0
 refine wS <| wR ?_
 refine l_alloc (col := (col0 col)) (v := (.agg #[(.bool false), (.slice none (([] : List Int).length) 0), (.slice none (([] : List Int).length) 0)])) 1 rfl Tryz.zeroValue40 ?_
 intro au ay av az ab
 replace ab : Box 40 1 av ay au #[(.bool false), (.slice none (([] : List Int).length) 0), (.slice none (([] : List Int).length) 0)] := ab
 refine lA (.int .i64 0) <| lN <| wS <| wR <| lM (.int .i64 ad) ?_
 obtain ⟨am, a0, hm⟩ := bS hm
 refine lc rfl rfl (r_call1 Tryz.call82 rfl) (c_whole_Of N 2 av _ ad am a0) ?_
 rintro _ bd ⟨a1, a2, a3, rfl, aw, an⟩
 refine ⟨_, rfl, ?_⟩
 refine lM (.int .i64 ae) ?_
 obtain ⟨ao, a4, hm⟩ := bS hm
 refine lc rfl rfl (r_call1 Tryz.call82 rfl) (c_whole_Of N 3 a1 _ ae ao a4) ?_
 rintro _ a5 ⟨af, a6, a7, rfl, ap, a8⟩
 refine ⟨_, rfl, ?_⟩
 obtain ⟨aa, a9, hm⟩ := bS hm
 replace an := an.gr ap
 refine lc rfl rfl (r_call2 Tryz.call41 rfl rfl) (c_frac_New N 4 5 (frC 3 (frC 2 af)) _ a2 a3 (am.1, am.2) a6 a7 (ao.1, ao.2) ((an.toSlF (Froz.int .u32)).froz 3) ((a8.froz 2 (by decide)).toSlF (Froz.int .u32)) aa a9) ?_
 rintro _ be ⟨ba, ai, aj, ak, al, rfl, ac, ag, ah⟩
 refine ⟨_, rfl, ?_⟩
 replace ag := ag.thaw (flat_int .u32) ac (((Fz.refl (col := af)).froz 2).froz 3) (by decide)
 replace ah := ah.thaw (flat_int .u32) ac (((Fz.refl (col := af)).froz 2).froz 3) (by decide)
 replace ac := ac.thawR (col := af)
 generalize colR a5.heap.size af ba = ax at *
 refine lV (.agg #[(.bool aa.1.1.1), (.slice ai aa.1.1.2.length aj), (.slice ak aa.1.2.length al)]) (r_extract rfl rfl) <| lV (.int .i64 aa.2) (r_extract rfl rfl) ?_
 replace ab := ((ab.gr aw).gr ap).gr ac
 refine l_bstore (v := (.agg #[(.bool aa.1.1.1), (.slice ai aa.1.1.2.length aj), (.slice ak aa.1.2.length al)])) ab Tryz.sizeOf40 rfl rfl (by intro u hu; simp only [Value.cells, List.mem_cons, List.not_mem_nil, or_false] at hu; rcases hu with rfl | rfl | rfl <;> rfl) rfl rfl ?_
 intro bb aq bc ar
 clear ab
 replace ar : Box 40 1 ax bb au #[(.bool aa.1.1.1), (.slice ai aa.1.1.2.length aj), (.slice ak aa.1.2.length al)] := ar
 refine lA (.int .i64 aa.2) <| lN ?_
 refine wret ?_
 cases hm
 replace hst := ((((hst.grow az).grow aw).grow ap).grow ac).kp aq bc
 replace ag := ag.kp aq
 replace ah := ah.kp aq
 exact ⟨rfl, _, res_at rfl rfl Tryz.isAgg40 Tryz.sizeOf40 rfl rfl ar.atN rfl rfl, colF w0.heap.size col ax (fun n => bif Nat.beq n 4 then c1 else bif Nat.beq n 5 then c2 else 0), ai, aj, ak, al, rfl, hst.fin (fun n => bif Nat.beq n 4 then c1 else bif Nat.beq n 5 then c2 else 0), hst.finOwn (g := (fun n => bif Nat.beq n 4 then c1 else bif Nat.beq n 5 then c2 else 0)) rfl ag (by decide) (by decide) rfl, hst.finOwn (g := (fun n => bif Nat.beq n 4 then c1 else bif Nat.beq n 5 then c2 else 0)) rfl ah (by decide) (by decide) rfl⟩
def m_model_one (N : Nat)  : Option ((Bool × (List Int)) × (List Int)) :=
  (m_frac_Of N 1 1).bind fun aa => some ((aa.1.1.1, aa.1.1.2), aa.1.2)
theorem c_model_one (N : Nat) (c1 : Nat) (c2 : Nat) (col : Col) (w0 : World)  (r : ((Bool × (List Int)) × (List Int))) (hm : m_model_one N = some r) :
    Calls Tryz.prog 141 #[] w0 (fun e w' => ∃ (col' : Col) (ra1 : Option Addr) (rc2 : Nat) (ra4 : Option Addr) (rc5 : Nat), e = .returned ((.agg #[(.bool r.1.1), (.slice ra1 r.1.2.length rc2), (.slice ra4 r.2.length rc5)])) ∧ Grow col w0 col' w' ∧ Own (Rep.int .u32) 114 c1 col' w' ra1 rc2 r.1.2 ∧ Own (Rep.int .u32) 114 c2 col' w' ra4 rc5 r.2) := by
 refine calls_ofR (m := 8) (args := []) Tryz.func141 rfl rfl rfl ?_
 rw [m_model_one.eq_1] at hm
 have hst := St.start col w0
 refine wS <| wR ?_
 refine l_alloc (col := (col0 col)) (v := (.agg #[(.bool false), (.slice none (([] : List Int).length) 0), (.slice none (([] : List Int).length) 0)])) 1 rfl Tryz.zeroValue40 ?_
 intro ap av aq aw af
 replace af : Box 40 1 aq av ap #[(.bool false), (.slice none (([] : List Int).length) 0), (.slice none (([] : List Int).length) 0)] := af
 refine lN <| wS <| wR ?_
 obtain ⟨aa, ax, hm⟩ := bS hm
 refine lc rfl rfl (r_call2 Tryz.call30 rfl rfl) (c_frac_Of N 2 3 aq _ 1 1 aa ax) ?_
 rintro _ a4 ⟨ay, ab, ac, ad, ae, rfl, ar, ak, al⟩
 refine ⟨_, rfl, ?_⟩
 refine lM (.tuple #[(.agg #[(.bool aa.1.1.1), (.slice ab aa.1.1.2.length ac), (.slice ad aa.1.2.length ae)]), (.int .i64 aa.2)]) <| lV (.agg #[(.bool aa.1.1.1), (.slice ab aa.1.1.2.length ac), (.slice ad aa.1.2.length ae)]) (r_extract rfl rfl) <| lV (.int .i64 aa.2) (r_extract rfl rfl) ?_
 refine l_alloc (col := ay) (v := (.agg #[(.bool false), (.slice none (([] : List Int).length) 0), (.slice none (([] : List Int).length) 0)])) 4 rfl Tryz.zeroValue40 ?_
 intro au az ag ah ai
 replace ai : Box 40 4 ag az au #[(.bool false), (.slice none (([] : List Int).length) 0), (.slice none (([] : List Int).length) 0)] := ai
 refine l_bstore (v := (.agg #[(.bool aa.1.1.1), (.slice ab aa.1.1.2.length ac), (.slice ad aa.1.2.length ae)])) ai Tryz.sizeOf40 rfl rfl (by intro u hu; simp only [Value.cells, List.mem_cons, List.not_mem_nil, or_false] at hu; rcases hu with rfl | rfl | rfl <;> rfl) rfl rfl ?_
 intro a0 aj a1 am
 clear ai
 replace am : Box 40 4 ag a0 au #[(.bool aa.1.1.1), (.slice ab aa.1.1.2.length ac), (.slice ad aa.1.2.length ae)] := am
 refine lA (.int .i64 aa.2) <| lN <| wS <| wR <| lV (.agg #[(.bool aa.1.1.1), (.slice ab aa.1.1.2.length ac), (.slice ad aa.1.2.length ae)]) (r_ldN Tryz.isAgg40 Tryz.sizeOf40 rfl rfl am.atN) ?_
 replace af := ((af.gr ar).gr ah).kp aj
 refine l_bstore (v := (.agg #[(.bool aa.1.1.1), (.slice ab aa.1.1.2.length ac), (.slice ad aa.1.2.length ae)])) af Tryz.sizeOf40 rfl rfl (by intro u hu; simp only [Value.cells, List.mem_cons, List.not_mem_nil, or_false] at hu; rcases hu with rfl | rfl | rfl <;> rfl) rfl rfl ?_
 intro a2 an a3 ao
 clear af
 replace ao : Box 40 1 ag a2 ap #[(.bool aa.1.1.1), (.slice ab aa.1.1.2.length ac), (.slice ad aa.1.2.length ae)] := ao
 refine lN ?_
 refine wret ?_
 cases hm
 replace hst := ((((hst.grow aw).grow ar).grow ah).kp aj a1).kp an a3
 replace ak := ((ak.gr ah).kp aj).kp an
 replace al := ((al.gr ah).kp aj).kp an
 exact ⟨rfl, _, res_a rfl rfl Tryz.isAgg40 Tryz.sizeOf40 rfl rfl ao.atN, colF w0.heap.size col ag (fun n => bif Nat.beq n 2 then c1 else bif Nat.beq n 3 then c2 else 0), ab, ac, ad, ae, rfl, hst.fin (fun n => bif Nat.beq n 2 then c1 else bif Nat.beq n 3 then c2 else 0), hst.finOwn (g := (fun n => bif Nat.beq n 2 then c1 else bif Nat.beq n 3 then c2 else 0)) rfl ak (by decide) (by decide) rfl, hst.finOwn (g := (fun n => bif Nat.beq n 2 then c1 else bif Nat.beq n 3 then c2 else 0)) rfl al (by decide) (by decide) rfl⟩
def m_whole_Cmp (N : Nat) (aa : (Bool × (List Int))) (ab : (Bool × (List Int))) : Option Int :=
  (m_whole_Sign N (aa.1, aa.2)).bind fun ac => (m_whole_Sign N (ab.1, ab.2)).bind fun ad => if (decide (ac < ad)) = true then none else (if (decide (ad < ac)) = true then none else ((m_nat_Cmp N aa.2 ab.2).bind fun ae => some (IntKind.i64.wrap (ac * ae))))
theorem c_whole_Cmp (N : Nat) (col : Col) (w0 : World) (af : Option Addr) (ag : Nat) (aa : (Bool × (List Int))) (ah : Option Addr) (ai : Nat) (ab : (Bool × (List Int))) (ak : Sl (Rep.int .u32) col w0 af ag aa.2) (al : Sl (Rep.int .u32) col w0 ah ai ab.2) (r : Int) (hm : m_whole_Cmp N aa ab = some r) :
    Calls Tryz.prog 93 #[(.agg #[(.bool aa.1), (.slice af aa.2.length ag)]), (.agg #[(.bool ab.1), (.slice ah ab.2.length ai)])] w0 (fun e w' => e = .returned ((.int .i64 r)) ∧ Below w0.heap.size w0 w') := by
 refine calls_of1 4 (m := 26) (args := [(.agg #[(.bool aa.1), (.slice af aa.2.length ag)]), (.agg #[(.bool ab.1), (.slice ah ab.2.length ai)])]) Tryz.func93 rfl rfl rfl rfl rfl ?_
 rw [m_whole_Cmp.eq_1] at hm
 have hst := St.start col w0
 refine wS <| wR ?_
 refine l_box (col := (col0 col)) (v := (.agg #[(.bool aa.1), (.slice af aa.2.length ag)])) 1 rfl rfl ?_
 intro ar ay au ap aj
 replace aj : Box 38 1 au ay ar #[(.bool aa.1), (.slice af aa.2.length ag)] := aj
 refine l_box (col := au) (v := (.agg #[(.bool ab.1), (.slice ah ab.2.length ai)])) 2 rfl rfl ?_
 intro av aw ad an am
 replace am : Box 38 2 ad aw av #[(.bool ab.1), (.slice ah ab.2.length ai)] := am
 refine lA (.int .i64 0) <| lN <| wS ?_
 refine wquiet (col := ad) (by kernel_rfl) (by kernel_rfl) ?_
 replace aj := aj.gr an
 refine qv (v := (.agg #[(.bool aa.1), (.slice af aa.2.length ag)])) rfl (fun _ hC => r_ldN Tryz.isAgg38 Tryz.sizeOf38 rfl rfl (aj.atN.gr (Grow.of_below (col := ad) hC.below))) ?_
 obtain ⟨ac, az, hm⟩ := bS hm
 replace ak := ((ak.keep (Stay.start col w0)).gr ap).gr an
 refine qc (v := (.int .i64 ac)) rfl (fun _ hC => ⟨_, _, r_call1 Tryz.call76 rfl, (c_whole_Sign N ad _ af ag (aa.1, aa.2) (ak.gr (Grow.of_below (col := ad) hC.below)) ac az).mono fun _ _ h => ⟨h.1, hC.trans (.of_below h.2)⟩⟩) ?_
 refine qv (v := (.agg #[(.bool ab.1), (.slice ah ab.2.length ai)])) rfl (fun _ hC => r_ldN Tryz.isAgg38 Tryz.sizeOf38 rfl rfl (am.atN.gr (Grow.of_below (col := ad) hC.below))) ?_
 obtain ⟨ae, a0, hm⟩ := bS hm
 replace al := ((al.keep (Stay.start col w0)).gr ap).gr an
 refine qc (v := (.int .i64 ae)) rfl (fun _ hC => ⟨_, _, r_call1 Tryz.call76 rfl, (c_whole_Sign N ad _ ah ai (ab.1, ab.2) (al.gr (Grow.of_below (col := ad) hC.below)) ae a0).mono fun _ _ h => ⟨h.1, hC.trans (.of_below h.2)⟩⟩) ?_
 refine qv (v := (.int .i64 ac)) rfl (fun _ hC => r_assign rfl) ?_
 refine qv (v := (.int .i64 ae)) rfl (fun _ hC => r_assign rfl) ?_
 refine qnil ?_
 intro ax hC
 replace hC : Grow ad aw ad ax := .of_below hC.below
 refine wS <| wB <| wS <| wR <| lM (.int .i64 ac) <| lM (.int .i64 ae) <| lV (.bool (decide (ac < ae))) (r_lss ac ae rfl rfl) <| lA (.bool (decide (ac < ae))) <| lN ?_
 replace hst := ((hst.grow ap).grow an).grow hC
 replace ak := ak.gr hC
 replace al := al.gr hC
 replace aj := aj.gr hC
 replace am := am.gr hC
 refine wcond (decide (ac < ae)) rfl (fun hb => ?_) (fun hb => ?_)
 ·rw [if_pos hb] at hm
  clear hb
  cases hm
 rw [if_neg (by rw [hb]; decide)] at hm
 clear hb
 refine wS <| wR <| lM (.int .i64 ac) <| lM (.int .i64 ae) <| lV (.bool (decide (ae < ac))) (r_gtr ac ae rfl rfl) <| lA (.bool (decide (ae < ac))) <| lN ?_
 refine wcond (decide (ae < ac)) rfl (fun hb => ?_) (fun hb => ?_)
 ·rw [if_pos hb] at hm
  clear hb
  cases hm
 rw [if_neg (by rw [hb]; decide)] at hm
 clear hb
 refine wK <| wS <| wR <| lM (.int .i64 ac) <| lV (.pointer ((some (⟨ar, 0, none⟩ : Addr)).map (·.add 1))) (rF (sz := 1) (off := 1) Tryz.underlying38 rfl Tryz.sizeOf36 (by decide) rfl rfl ⟨_, _, rfl⟩) <| lV (.slice af aa.2.length ag) (r_ld Tryz.isAgg36 rfl ((aj.atN).nth (q := 1) (v := (.slice af aa.2.length ag)) rfl)) <| lV (.pointer ((some (⟨av, 0, none⟩ : Addr)).map (·.add 1))) (rF (sz := 1) (off := 1) Tryz.underlying38 rfl Tryz.sizeOf36 (by decide) rfl rfl ⟨_, _, rfl⟩) <| lV (.slice ah ab.2.length ai) (r_ld Tryz.isAgg36 rfl ((am.atN).nth (q := 1) (v := (.slice ah ab.2.length ai)) rfl)) ?_
 obtain ⟨ao, a1, hm⟩ := bS hm
 refine lc rfl rfl (r_call2 Tryz.call58 rfl rfl) (c_nat_Cmp N ad _ af ag aa.2 ah ai ab.2 ak al ao a1) ?_
 rintro _ a2 ⟨rfl, aq⟩
 refine ⟨_, rfl, ?_⟩
 replace aq : Grow ad ax ad a2 := .of_below aq
 refine lV (.int .i64 (IntKind.i64.wrap (ac * ao))) (r_mul ac ao rfl rfl) <| lA (.int .i64 (IntKind.i64.wrap (ac * ao))) <| lN ?_
 refine wret ?_
 cases hm
 replace hst := hst.grow aq
 exact ⟨rfl, rfl, hst.below⟩
def m_frac_Cmp (N : Nat) (aa : ((Bool × (List Int)) × (List Int))) (ab : ((Bool × (List Int)) × (List Int))) : Option Int :=
  (m_frac_under N ((ab.1.1, ab.1.2), ab.2)).bind fun ae => (m_frac_over N (aa.1.1, aa.1.2) ae).bind fun ac => (m_frac_under N ((aa.1.1, aa.1.2), aa.2)).bind fun af => (m_frac_over N (ab.1.1, ab.1.2) af).bind fun ad => (m_whole_Cmp N (ac.1, ac.2) (ad.1, ad.2)).bind fun ag => some ag
theorem c_frac_Cmp (N : Nat) (col : Col) (w0 : World) (ae : Option Addr) (af : Nat) (ao : Option Addr) (ap : Nat) (aa : ((Bool × (List Int)) × (List Int))) (ag : Option Addr) (ah : Nat) (aq : Option Addr) (ar : Nat) (ab : ((Bool × (List Int)) × (List Int))) (ak : Sl (Rep.int .u32) col w0 ae af aa.1.2) (au : Sl (Rep.int .u32) col w0 ao ap aa.2) (ad : Sl (Rep.int .u32) col w0 ag ah ab.1.2) (a5 : Sl (Rep.int .u32) col w0 aq ar ab.2) (r : Int) (hm : m_frac_Cmp N aa ab = some r) :
    Calls Tryz.prog 43 #[(.agg #[(.bool aa.1.1), (.slice ae aa.1.2.length af), (.slice ao aa.2.length ap)]), (.agg #[(.bool ab.1.1), (.slice ag ab.1.2.length ah), (.slice aq ab.2.length ar)])] w0 (fun e w' => e = .returned ((.int .i64 r)) ∧ Below w0.heap.size w0 w') := by
 refine calls_of1 4 (m := 16) (args := [(.agg #[(.bool aa.1.1), (.slice ae aa.1.2.length af), (.slice ao aa.2.length ap)]), (.agg #[(.bool ab.1.1), (.slice ag ab.1.2.length ah), (.slice aq ab.2.length ar)])]) Tryz.func43 rfl rfl rfl rfl rfl ?_
 rw [m_frac_Cmp.eq_1] at hm
 have hst := St.start col w0
 refine wS <| wR ?_
 refine l_box (col := (col0 col)) (v := (.agg #[(.bool aa.1.1), (.slice ae aa.1.2.length af), (.slice ao aa.2.length ap)])) 1 rfl rfl ?_
 intro bb bp bc ay av
 replace av : Box 40 1 bc bp bb #[(.bool aa.1.1), (.slice ae aa.1.2.length af), (.slice ao aa.2.length ap)] := av
 refine l_box (col := bc) (v := (.agg #[(.bool ab.1.1), (.slice ag ab.1.2.length ah), (.slice aq ab.2.length ar)])) 2 rfl rfl ?_
 intro bd be ai aw a2
 replace a2 : Box 40 2 ai be bd #[(.bool ab.1.1), (.slice ag ab.1.2.length ah), (.slice aq ab.2.length ar)] := a2
 refine lA (.int .i64 0) <| lN <| wS ?_
 refine wmix (col := ai) [(0, 1), (1, 0), (2, 0), (5, 1), (6, 0), (7, 0), (3, 3), (4, 3), (8, 3), (9, 3), (10, 3), (11, 1)] (by kernel_rfl) (by kernel_rfl) ?_
 refine xu (v := (.pointer ((some (⟨bb, 0, none⟩ : Addr)).map (·.add 0)))) rfl rfl (fun _ => rF (sz := 2) (off := 0) Tryz.underlying40 rfl Tryz.sizeOf38 (by decide) rfl rfl ⟨_, _, rfl⟩) ?_
 replace av := av.gr aw
 refine xv (v := (.agg #[(.bool aa.1.1), (.slice ae aa.1.2.length af)])) rfl rfl (fun _ hC => r_ldN Tryz.isAgg38 Tryz.sizeOf38 rfl rfl (((av.atN).part 0 2 _ rfl).gr (Grow.of_below (col := ai) hC.below))) ?_
 refine xv (v := (.agg #[(.bool ab.1.1), (.slice ag ab.1.2.length ah), (.slice aq ab.2.length ar)])) rfl rfl (fun _ hC => r_ldN Tryz.isAgg40 Tryz.sizeOf40 rfl rfl (a2.atN.gr (Grow.of_below (col := ai) hC.below))) ?_
 refine xu (v := (.pointer ((some (⟨bd, 0, none⟩ : Addr)).map (·.add 0)))) rfl rfl (fun _ => rF (sz := 2) (off := 0) Tryz.underlying40 rfl Tryz.sizeOf38 (by decide) rfl rfl ⟨_, _, rfl⟩) ?_
 refine xv (v := (.agg #[(.bool ab.1.1), (.slice ag ab.1.2.length ah)])) rfl rfl (fun _ hC => r_ldN Tryz.isAgg38 Tryz.sizeOf38 rfl rfl (((a2.atN).part 0 2 _ rfl).gr (Grow.of_below (col := ai) hC.below))) ?_
 refine xv (v := (.agg #[(.bool aa.1.1), (.slice ae aa.1.2.length af), (.slice ao aa.2.length ap)])) rfl rfl (fun _ hC => r_ldN Tryz.isAgg40 Tryz.sizeOf40 rfl rfl (av.atN.gr (Grow.of_below (col := ai) hC.below))) ?_
 refine xe rfl rfl ?_
 intro bq hC0
 have hC : Grow ai be ai bq := .of_below hC0.below
 obtain ⟨bf, br, hm⟩ := bS hm
 replace ad := (((ad.keep (Stay.start col w0)).gr ay).gr aw).gr hC
 replace a5 := (((a5.keep (Stay.start col w0)).gr ay).gr aw).gr hC
 refine lc rfl rfl (r_call1 Tryz.call56 rfl) (c_frac_under N 3 ai _ ag ah aq ar ((ab.1.1, ab.1.2), ab.2) ad a5 bf br) ?_
 rintro _ bg ⟨al, bs, bt, rfl, az, a6⟩
 refine ⟨_, rfl, ?_⟩
 refine lN ⟨fun w' => Grow al bg al w', Grow.refl _ _, fun _ _ h => cls hC0 az h, ?_⟩
 refine xe rfl rfl ?_
 intro bh hC0
 replace ak := ((((ak.keep (Stay.start col w0)).gr ay).gr aw).gr hC).gr az
 replace au := ((((au.keep (Stay.start col w0)).gr ay).gr aw).gr hC).gr az
 replace hst := (((hst.grow ay).grow aw).grow hC).grow az
 have hC : Grow al bg al bh := .of_below hC0.below
 obtain ⟨a7, bu, hm⟩ := bS hm
 replace ak := ak.gr hC
 replace a6 := a6.gr hC
 refine lc rfl rfl (r_call2 Tryz.call81 rfl rfl) (c_frac_over N 4 (frC 3 al) _ ae af (aa.1.1, aa.1.2) bs bt bf (ak.froz 3) (a6.toSlF (Froz.int .u32)) a7 bu) ?_
 rintro _ bi ⟨bv, bw, bx, rfl, am, aj⟩
 refine ⟨_, rfl, ?_⟩
 replace aj := aj.thaw (flat_int .u32) am ((Fz.refl (col := al)).froz 3) (by decide)
 replace am := am.thawR (col := al)
 generalize colR bh.heap.size al bv = a0 at *
 refine lN ⟨fun w' => Grow a0 bi a0 w', Grow.refl _ _, fun _ _ h => cls hC0 am h, ?_⟩
 refine xe rfl rfl ?_
 intro bz hC0
 replace ad := ((ad.gr az).gr hC).gr am
 replace au := (au.gr hC).gr am
 replace hst := (hst.grow hC).grow am
 have hC : Grow a0 bi a0 bz := .of_below hC0.below
 obtain ⟨bj, b0, hm⟩ := bS hm
 replace ak := (ak.gr am).gr hC
 replace au := au.gr hC
 refine lc rfl rfl (r_call1 Tryz.call56 rfl) (c_frac_under N 5 a0 _ ae af ao ap ((aa.1.1, aa.1.2), aa.2) ak au bj b0) ?_
 rintro _ bk ⟨an, b1, b2, rfl, a3, a8⟩
 refine ⟨_, rfl, ?_⟩
 refine lN ⟨fun w' => Grow an bk an w', Grow.refl _ _, fun _ _ h => cls hC0 a3 h, ?_⟩
 refine xe rfl rfl ?_
 intro bl hC0
 replace ad := (ad.gr hC).gr a3
 replace aj := (aj.gr hC).gr a3
 replace hst := (hst.grow hC).grow a3
 have hC : Grow an bk an bl := .of_below hC0.below
 obtain ⟨a9, b3, hm⟩ := bS hm
 replace ad := ad.gr hC
 replace a8 := a8.gr hC
 refine lc rfl rfl (r_call2 Tryz.call81 rfl rfl) (c_frac_over N 6 (frC 5 an) _ ag ah (ab.1.1, ab.1.2) b1 b2 bj (ad.froz 5) (a8.toSlF (Froz.int .u32)) a9 b3) ?_
 rintro _ bm ⟨b4, b5, b6, rfl, ax, a1⟩
 refine ⟨_, rfl, ?_⟩
 replace a1 := a1.thaw (flat_int .u32) ax ((Fz.refl (col := an)).froz 5) (by decide)
 replace ax := ax.thawR (col := an)
 generalize colR bl.heap.size an b4 = ac at *
 refine lN ⟨fun w' => Grow ac bm ac w', Grow.refl _ _, fun _ _ h => cls hC0 ax h, ?_⟩
 refine xe rfl rfl ?_
 intro bn hC0
 replace aj := (aj.gr hC).gr ax
 replace hst := (hst.grow hC).grow ax
 have hC : Grow ac bm ac bn := .of_below hC0.below
 obtain ⟨bo, b7, hm⟩ := bS hm
 replace aj := aj.gr hC
 replace a1 := a1.gr hC
 refine lc rfl rfl (r_call2 Tryz.call93 rfl rfl) (c_whole_Cmp N (frC 6 (frC 4 ac)) _ bw bx (a7.1, a7.2) b5 b6 (a9.1, a9.2) ((aj.toSlF (Froz.int .u32)).froz 6) ((a1.froz 4 (by decide)).toSlF (Froz.int .u32)) bo b7) ?_
 rintro _ ba ⟨rfl, a4⟩
 refine ⟨_, rfl, ?_⟩
 replace a4 : Grow ac bn ac ba := .of_below a4
 refine lN ⟨fun w' => Grow ac ba ac w', Grow.refl _ _, fun _ _ h => cls hC0 a4 h, ?_⟩
 refine xu (v := (.int .i64 bo)) rfl rfl (fun _ => r_assign rfl) ?_
 refine xnil ?_
 replace hst := (hst.grow hC).grow a4
 intro b8 hC
 replace hC : Grow ac ba ac b8 := .of_below hC.below
 refine wret ?_
 cases hm
 replace hst := hst.grow hC
 exact ⟨rfl, rfl, hst.below⟩
def m_model_whole_L1_Xret (aa : Bool) : Option Bool :=
  some aa
def m_model_whole_L1 (N : Nat) : List (List ((Bool × (List Int)) × (List Int))) → Bool → Option Bool
  | [], ac => some true
  | ad :: ae, ac => (m_frac_Sum N ad).bind fun aa => (m_model_one N).bind fun ab => (m_frac_Cmp N ((aa.1.1, aa.1.2), aa.2) ((ab.1.1, ab.1.2), ab.2)).bind fun af => if (!decide (af = 0)) = true then none else ((m_model_whole_L1 N ae) ac)
termination_by structural x => x
def m_model_whole (N : Nat) (aa : (List ((Bool × (List Int)) × (List Int)))) (ab : Int) : Option Bool :=
  (m_slices_Chunk_api_Rat_api_Rat N aa ab).bind fun ac => m_model_whole_L1 N ac false
theorem c_model_whole (N : Nat) (col : Col) (w0 : World) (a0 : Option Addr) (cap0 : Nat) (ag : (List ((Bool × (List Int)) × (List Int)))) (ah : Int) (h0 : Sl (Rep.pair (Rep.pair Rep.bool (Rep.slice (Rep.int .u32))) (Rep.slice (Rep.int .u32))) col w0 a0 cap0 ag) (r : Bool) (hm : m_model_whole N ag ah = some r) :
    Calls Tryz.prog 120 #[(.slice a0 ag.length cap0), (.int .i64 ah)] w0 (fun e w' => e = .returned ((.bool r)) ∧ Below w0.heap.size w0 w') := by
 refine calls_ofMR (m := 15) (args := [(.slice a0 ag.length cap0), (.int .i64 ah)]) Tryz.func120 rfl rfl rfl ?_
 rw [m_model_whole.eq_1] at hm
 have hst := St.start col w0
 replace h0 := h0.keep (Stay.start col w0)
 have hmk : Marks 499 (col0 col) w0 [] := .nil
 refine wS <| wR ?_
 refine l_alloc (col := (col0 col)) (v := (.bool false)) 1 rfl Tryz.zeroValue4 ?_
 intro al a7 a1 ap aa
 replace aa : Box 4 1 a1 a7 al #[(.bool false)] := aa
 refine lN <| wS <| wS <| wR <| lM (.slice a0 ag.length cap0) <| lM (.int .i64 ah) ?_
 obtain ⟨a2, a8, hm⟩ := bS hm
 replace h0 := h0.gr ap
 refine lc rfl rfl (r_call2 Tryz.call150 rfl rfl) (c_slices_Chunk_api_Rat_api_Rat N a1 _ a0 cap0 ag ah h0 a2 a8) ?_
 rintro _ bx ⟨a9, bz, rfl, aq, ba⟩
 refine ⟨_, rfl, ?_⟩
 refine lN <| wB ?_
 replace hmk := (hmk.gr ap).gr aq
 replace hst := (hst.grow ap).grow aq
 replace aa := aa.gr aq
 refine wrange (psl := [9]) (arr := (fun (y : List ((Bool × (List Int)) × (List Int))) (col : Col) (w : World) (args : List Value) => ∃ (a0 : Option Addr) (cap0 : Nat), args = [.slice a0 y.length cap0] ∧ Sl (Rep.pair (Rep.pair Rep.bool (Rep.slice (Rep.int .u32))) (Rep.slice (Rep.int .u32))) col w a0 cap0 y)) (ys := a2) (col := a9) 498 rfl ba rfl hmk rfl rfl (by rintro _ _ _ _ ⟨_, _, rfl, _⟩; rfl) (fun ys_ ab ad => ∃ (ac : Bool), m_model_whole_L1 N ys_ ac = some r ∧ St w0 (col0 col) ab ad ∧ Box 4 1 ab ad al #[(.bool ac)]) (fun c_ ab ad => (c_ = .ret ∧ ∃ (ac : Bool), m_model_whole_L1_Xret  ac = some r ∧ St w0 (col0 col) ab ad ∧ Box 4 1 ab ad al #[(.bool ac)])) ?_ ?_ ⟨false, hm, hst, aa⟩ ?_ ?_ ?_
 ·intro ys_ ab ad col2_ w2_ hJ hk
  obtain ⟨ac, hm, hst, aa⟩ := hJ
  exact ⟨ac, hm, hst.kpp hk rfl rfl, aa.kpp hk rfl⟩
 ·intro c_ ab ad col2_ w2_ hX hk
  obtain ⟨rfl, hX⟩ := hX
  obtain ⟨ac, hm, hst, aa⟩ := hX
  exact ⟨rfl, ⟨ac, hm, hst.kpp hk rfl rfl, aa.kpp hk rfl⟩⟩
 ·intro b0 b1 b2 ar b3 ab ad args hJ hrec hmk harr
  obtain ⟨ac, hm, hst, aa⟩ := hJ
  rw [m_model_whole_L1.eq_2] at hm
  have hki := KeepP.refl (pC 1) ab ad
  obtain ⟨au, av, rfl, aw⟩ := harr
  refine wR <| lA (.slice au ar.length av) <| lN ?_
  refine ⟨_, hrec, ?_⟩
  intro b4 b5 ai a3 hrec2
  clear hrec
  have hrec := hrec2
  clear hrec2
  refine wB <| wS <| wR <| lM (.slice au ar.length av) ?_
  obtain ⟨am, bb, hm⟩ := bS hm
  replace aw := aw.kp ai
  refine lc rfl rfl (r_call1 Tryz.call51 rfl) (c_frac_Sum N 2 3 ab _ au av ar aw am bb) ?_
  rintro _ b6 ⟨bc, bd, be, bf, bg, rfl, aj, ax, ay⟩
  refine ⟨_, rfl, ?_⟩
  obtain ⟨an, bh, hm⟩ := bS hm
  refine lc rfl rfl (r_call0 Tryz.call141 ) (c_model_one N 4 5 bc _ an bh) ?_
  rintro _ bi ⟨az, bj, bk, bl, bm, rfl, ae, bn, bo⟩
  refine ⟨_, rfl, ?_⟩
  obtain ⟨ao, bp, hm⟩ := bS hm
  replace ax := ax.gr ae
  replace ay := ay.gr ae
  refine lc rfl rfl (r_call2 Tryz.call43 rfl rfl) (c_frac_Cmp N (frC 5 (frC 4 (frC 3 (frC 2 az)))) _ bd be bf bg ((am.1.1, am.1.2), am.2) bj bk bl bm ((an.1.1, an.1.2), an.2) ((((ax.toSlF (Froz.int .u32)).froz 3).froz 4).froz 5) ((((ay.froz 2 (by decide)).toSlF (Froz.int .u32)).froz 4).froz 5) ((((bn.froz 2 (by decide)).froz 3 (by decide)).toSlF (Froz.int .u32)).froz 5) ((((bo.froz 2 (by decide)).froz 3 (by decide)).froz 4 (by decide)).toSlF (Froz.int .u32)) ao bp) ?_
  rintro _ bq ⟨rfl, af⟩
  refine ⟨_, rfl, ?_⟩
  replace af : Grow az bi az bq := .of_below af
  refine lV (.bool (!decide (ao = 0))) (r_neq ao 0 rfl rfl) <| lN ?_
  replace aa := (((aa.kp ai).gr aj).gr ae).gr af
  replace hmk := (((hmk.kp ai).gr aj).gr ae).gr af
  replace hki := (((hki.kp ai a3 rfl).gr aj).gr ae).gr af
  replace hst := (((hst.kp ai a3).grow aj).grow ae).grow af
  replace hrec := ((hrec.gr aj).gr ae).gr af
  refine wcond (!decide (ao = 0)) rfl (fun hb => ?_) (fun hb => ?_)
  ·rw [if_pos hb] at hm
   clear hb
   cases hm
  rw [if_neg (by rw [hb]; decide)] at hm
  clear hb
  refine wK ?_
  exact ⟨_, hki, ⟨ac, hm, hst, aa⟩, hrec, hmk⟩
 ·clear hmk
  intro br ab ad hJ hmk
  obtain ⟨ac, hm, hst, aa⟩ := hJ
  rw [m_model_whole_L1.eq_1] at hm
  refine wS <| wR ?_
  refine l_bstore (v := (.bool true)) aa Tryz.sizeOf4 rfl rfl (by intro u hu; simp only [Value.cells, List.mem_cons, List.not_mem_nil, or_false] at hu; subst hu; rfl) rfl rfl ?_
  intro bs a4 bt ak
  clear aa
  replace ak : Box 4 1 ab bs al #[(.bool true)] := ak
  refine lN ?_
  refine wret ?_
  cases hm
  replace hmk := hmk.kp a4
  refine ⟨_, (br :: []), rfl, hmk, ?_⟩
  intro b7 a5 bu
  clear hmk
  replace hst := (hst.kp a4 bt).kp a5 bu
  replace ak := ak.kp a5
  exact ⟨_, res_cell1 rfl rfl Tryz.isAgg4 rfl ak.at1, rfl, hst.below⟩
 clear hmk
 intro c_ bv ab ad hX hmk
 obtain ⟨rfl, hX⟩ := hX
 obtain ⟨ac, hm, hst, aa⟩ := hX
 rw [m_model_whole_L1_Xret.eq_1] at hm
 refine wret ?_
 cases hm
 refine ⟨_, (bv :: []), rfl, hmk, ?_⟩
 intro b8 a6 bw
 clear hmk
 replace aa := aa.kp a6
 replace hst := hst.kp a6 bw
 exact ⟨_, res_cell1 rfl rfl Tryz.isAgg4 rfl aa.at1, rfl, hst.below⟩
def m_frac_Sign (N : Nat) (aa : ((Bool × (List Int)) × (List Int))) : Option Int :=
  (m_whole_Sign N (aa.1.1, aa.1.2)).bind fun ab => some ab
theorem c_frac_Sign (N : Nat) (col : Col) (w0 : World) (ab : Option Addr) (ac : Nat) (ad : Option Addr) (ae : Nat) (aa : ((Bool × (List Int)) × (List Int))) (ag : Sl (Rep.int .u32) col w0 ab ac aa.1.2) (ap : Sl (Rep.int .u32) col w0 ad ae aa.2) (r : Int) (hm : m_frac_Sign N aa = some r) :
    Calls Tryz.prog 24 #[(.agg #[(.bool aa.1.1), (.slice ab aa.1.2.length ac), (.slice ad aa.2.length ae)])] w0 (fun e w' => e = .returned ((.int .i64 r)) ∧ Below w0.heap.size w0 w') := by
 refine calls_of1 2 (m := 6) (args := [(.agg #[(.bool aa.1.1), (.slice ab aa.1.2.length ac), (.slice ad aa.2.length ae)])]) Tryz.func24 rfl rfl rfl rfl rfl ?_
 rw [m_frac_Sign.eq_1] at hm
 have hst := St.start col w0
 refine wS <| wR ?_
 refine l_box (col := (col0 col)) (v := (.agg #[(.bool aa.1.1), (.slice ab aa.1.2.length ac), (.slice ad aa.2.length ae)])) 1 rfl rfl ?_
 intro aj ak af al ah
 replace ah : Box 40 1 af ak aj #[(.bool aa.1.1), (.slice ab aa.1.2.length ac), (.slice ad aa.2.length ae)] := ah
 refine lA (.int .i64 0) <| lN <| wS <| wR <| lV (.pointer ((some (⟨aj, 0, none⟩ : Addr)).map (·.add 0))) (rF (sz := 2) (off := 0) Tryz.underlying40 rfl Tryz.sizeOf38 (by decide) rfl rfl ⟨_, _, rfl⟩) <| lV (.agg #[(.bool aa.1.1), (.slice ab aa.1.2.length ac)]) (r_ldN Tryz.isAgg38 Tryz.sizeOf38 rfl rfl ((ah.atN).part 0 2 _ rfl)) ?_
 obtain ⟨am, an, hm⟩ := bS hm
 replace ag := (ag.keep (Stay.start col w0)).gr al
 refine lc rfl rfl (r_call1 Tryz.call76 rfl) (c_whole_Sign N af _ ab ac (aa.1.1, aa.1.2) ag am an) ?_
 rintro _ ao ⟨rfl, ai⟩
 refine ⟨_, rfl, ?_⟩
 replace ai : Grow af ak af ao := .of_below ai
 refine lA (.int .i64 am) <| lN ?_
 refine wret ?_
 cases hm
 replace hst := (hst.grow al).grow ai
 exact ⟨rfl, rfl, hst.below⟩
def m_model_outside_J1 (aa : Bool) : Option Bool :=
  some aa
def m_model_outside (N : Nat) (aa : ((Bool × (List Int)) × (List Int))) : Option Bool :=
  (m_frac_Sign N ((aa.1.1, aa.1.2), aa.2)).bind fun ac => if (decide (ac < 0)) = true then (m_model_outside_J1 true) else ((m_model_one N).bind fun ab => (m_frac_Cmp N ((aa.1.1, aa.1.2), aa.2) ((ab.1.1, ab.1.2), ab.2)).bind fun ad => m_model_outside_J1 (decide (0 < ad)))
theorem c_model_outside (N : Nat) (col : Col) (w0 : World) (ah : Option Addr) (ai : Nat) (aj : Option Addr) (ak : Nat) (aa : ((Bool × (List Int)) × (List Int))) (ae : Sl (Rep.int .u32) col w0 ah ai aa.1.2) (af : Sl (Rep.int .u32) col w0 aj ak aa.2) (r : Bool) (hm : m_model_outside N aa = some r) :
    Calls Tryz.prog 119 #[(.agg #[(.bool aa.1.1), (.slice ah aa.1.2.length ai), (.slice aj aa.2.length ak)])] w0 (fun e w' => e = .returned ((.bool r)) ∧ Below w0.heap.size w0 w') := by
 refine calls_of1 2 (m := 12) (args := [(.agg #[(.bool aa.1.1), (.slice ah aa.1.2.length ai), (.slice aj aa.2.length ak)])]) Tryz.func119 rfl rfl rfl rfl rfl ?_
 rw [m_model_outside.eq_1] at hm
 have hst := St.start col w0
 refine wS <| wR ?_
 refine l_box (col := (col0 col)) (v := (.agg #[(.bool aa.1.1), (.slice ah aa.1.2.length ai), (.slice aj aa.2.length ak)])) 1 rfl rfl ?_
 intro a5 az ab au am
 replace am : Box 40 1 ab az a5 #[(.bool aa.1.1), (.slice ah aa.1.2.length ai), (.slice aj aa.2.length ak)] := am
 refine lA (.bool false) <| lN <| wS ?_
 replace ae := (ae.keep (Stay.start col w0)).gr au
 replace af := (af.keep (Stay.start col w0)).gr au
 replace hst := hst.grow au
 refine Wp.cut (fun f a0 => ∃ (a1 : Col) (av : Bool), m_model_outside_J1 av = some r ∧ St w0 (col0 col) a1 a0 ∧ f 2 = (.bool av) ∧ f 1000000 = (enc [])) ?_ ?_
 ·intro f a0 hJ
  obtain ⟨a1, av, hm, hst, hs2, hs1000000⟩ := hJ
  rw [m_model_outside_J1.eq_1] at hm
  refine .lD 2 hs2 <| .lD 1000000 hs1000000 ?_
  clear hs2 hs1000000
  refine wret ?_
  cases hm
  exact ⟨rfl, rfl, hst.below⟩
 refine wmix (col := ab) [(0, 0), (1, 3), (2, 1), (3, 1), (4, 0), (5, 3), (6, 3), (7, 1), (8, 1), (9, 1)] (by kernel_rfl) (by kernel_rfl) ?_
 refine xv (v := (.agg #[(.bool aa.1.1), (.slice ah aa.1.2.length ai), (.slice aj aa.2.length ak)])) rfl rfl (fun _ hC => r_ldN Tryz.isAgg40 Tryz.sizeOf40 rfl rfl (am.atN.gr (Grow.of_below (col := ab) hC.below))) ?_
 refine xe rfl rfl ?_
 intro a2 hC0
 have hC : Grow ab az ab a2 := .of_below hC0.below
 obtain ⟨ad, a6, hm⟩ := bS hm
 replace ae := ae.gr hC
 replace af := af.gr hC
 refine lc rfl rfl (r_call1 Tryz.call24 rfl) (c_frac_Sign N ab _ ah ai aj ak ((aa.1.1, aa.1.2), aa.2) ae af ad a6) ?_
 rintro _ ao ⟨rfl, al⟩
 refine ⟨_, rfl, ?_⟩
 replace al : Grow ab a2 ab ao := .of_below al
 refine lN ⟨fun w' => Grow ab ao ab w', Grow.refl _ _, fun _ _ h => cls hC0 al h, ?_⟩
 refine xu (v := (.bool (decide (ad < 0)))) rfl rfl (fun _ => r_lss ad 0 rfl rfl) ?_
 refine xu (v := (.bool (decide (ad < 0)))) rfl rfl (fun _ => r_move rfl) ?_
 replace am := (am.gr hC).gr al
 replace hst := (hst.grow hC).grow al
 replace ae := ae.gr al
 replace af := af.gr al
 by_cases ac : (decide (ad < 0)) = true
 ·rw [if_pos ac] at hm
  refine xpass (b := decide (ad < 0)) 6 rfl rfl rfl rfl rfl (by rw [ac]; rfl) ?_
  refine xpass (b := decide (ad < 0)) 6 rfl rfl rfl rfl rfl (by rw [ac]; rfl) ?_
  refine xpass (b := decide (ad < 0)) 6 rfl rfl rfl rfl rfl (by rw [ac]; rfl) ?_
  refine xpass (b := decide (ad < 0)) 6 rfl rfl rfl rfl rfl (by rw [ac]; rfl) ?_
  refine xu (v := (.bool true)) rfl rfl (fun _ => r_pickT (congrArg Value.bool ac) rfl) ?_
  refine xu (v := (.bool true)) rfl rfl (fun _ => r_assign rfl) ?_
  refine xnil ?_
  intro a7 hC
  replace hC : Grow ab ao ab a7 := .of_below hC.below
  replace hst := hst.grow hC
  exact ⟨ab, true, hm, hst, rfl, rfl⟩
 rw [if_neg ac] at hm
 replace ac := Bool.eq_false_iff.2 ac
 refine xv_g (v := (.agg #[(.bool aa.1.1), (.slice ah aa.1.2.length ai), (.slice aj aa.2.length ak)])) (b := decide (ad < 0)) 6 rfl rfl rfl rfl rfl (by rw [ac]; rfl) (fun _ hC => r_ldN Tryz.isAgg40 Tryz.sizeOf40 rfl rfl (am.atN.gr (Grow.of_below (col := ab) hC.below))) ?_
 refine xe rfl rfl ?_
 intro a8 hC0
 have hC : Grow ab ao ab a8 := .of_below hC0.below
 refine lg (b := decide (ad < 0)) 6 rfl rfl rfl (by rw [ac]; rfl) ?_
 obtain ⟨ap, a9, hm⟩ := bS hm
 refine lc rfl rfl (r_call0 Tryz.call141 ) (c_model_one N 6 7 ab _ ap a9) ?_
 rintro _ a3 ⟨ag, ba, bb, bc, bd, rfl, aq, aw, ax⟩
 refine ⟨_, rfl, ?_⟩
 refine lN ⟨fun w' => Grow ag a3 ag w', Grow.refl _ _, fun _ _ h => cls hC0 aq h, ?_⟩
 refine xe rfl rfl ?_
 intro a4 hC0
 replace ae := (ae.gr hC).gr aq
 replace af := (af.gr hC).gr aq
 replace hst := (hst.grow hC).grow aq
 have hC : Grow ag a3 ag a4 := .of_below hC0.below
 refine lg (b := decide (ad < 0)) 6 rfl rfl rfl (by rw [ac]; rfl) ?_
 obtain ⟨an, be, hm⟩ := bS hm
 replace ae := ae.gr hC
 replace af := af.gr hC
 replace aw := aw.gr hC
 replace ax := ax.gr hC
 refine lc rfl rfl (r_call2 Tryz.call43 rfl rfl) (c_frac_Cmp N (frC 7 (frC 6 ag)) _ ah ai aj ak ((aa.1.1, aa.1.2), aa.2) ba bb bc bd ((ap.1.1, ap.1.2), ap.2) ((ae.froz 6).froz 7) ((af.froz 6).froz 7) ((aw.toSlF (Froz.int .u32)).froz 7) ((ax.froz 6 (by decide)).toSlF (Froz.int .u32)) an be) ?_
 rintro _ ay ⟨rfl, ar⟩
 refine ⟨_, rfl, ?_⟩
 replace ar : Grow ag a4 ag ay := .of_below ar
 refine lN ⟨fun w' => Grow ag ay ag w', Grow.refl _ _, fun _ _ h => cls hC0 ar h, ?_⟩
 refine xu_g (v := (.bool (decide (0 < an)))) (b := decide (ad < 0)) 6 rfl rfl rfl rfl rfl (by rw [ac]; rfl) (fun _ => r_gtr an 0 rfl rfl) ?_
 refine xu (v := (.bool (decide (0 < an)))) rfl rfl (fun _ => r_pickF (congrArg Value.bool ac) rfl) ?_
 refine xu (v := (.bool (decide (0 < an)))) rfl rfl (fun _ => r_assign rfl) ?_
 refine xnil ?_
 replace hst := (hst.grow hC).grow ar
 intro bf hC
 replace hC : Grow ag ay ag bf := .of_below hC.below
 replace hst := hst.grow hC
 exact ⟨ag, (decide (0 < an)), hm, hst, rfl, rfl⟩
def m_slices_IndexFunc_api_Rat_api_Rat_v1f119_L1 (N : Nat) : List ((Bool × (List Int)) × (List Int)) → Nat → Option Int
  | [], ab => some (-1)
  | aa :: ac, ab => (m_model_outside N ((aa.1.1, aa.1.2), aa.2)).bind fun ad => if ad = true then none else ((m_slices_IndexFunc_api_Rat_api_Rat_v1f119_L1 N ac) (ab + 1))
termination_by structural x => x
def m_slices_IndexFunc_api_Rat_api_Rat_v1f119 (N : Nat) (aa : (List ((Bool × (List Int)) × (List Int)))) : Option Int :=
  m_slices_IndexFunc_api_Rat_api_Rat_v1f119_L1 N aa 0
theorem c_slices_IndexFunc_api_Rat_api_Rat_v1f119 (N : Nat) (col : Col) (w0 : World) (a0 : Option Addr) (cap0 : Nat) (aa : (List ((Bool × (List Int)) × (List Int)))) (h0 : Sl (Rep.pair (Rep.pair Rep.bool (Rep.slice (Rep.int .u32))) (Rep.slice (Rep.int .u32))) col w0 a0 cap0 aa) (r : Int) (hm : m_slices_IndexFunc_api_Rat_api_Rat_v1f119 N aa = some r) :
    Calls Tryz.prog 149 #[(.slice a0 aa.length cap0), (.func (.func 119) #[] #[])] w0 (fun e w' => e = .returned ((.int .i64 r)) ∧ Below w0.heap.size w0 w') := by
 refine calls_of1 4 (m := 19) (args := [(.slice a0 aa.length cap0), (.func (.func 119) #[] #[])]) Tryz.func149 rfl rfl rfl rfl rfl ?_
 rw [m_slices_IndexFunc_api_Rat_api_Rat_v1f119.eq_1] at hm
 have hst := St.start col w0
 refine wS <| wR <| lA (.int .i64 0) <| lN <| wS <| wS <| wR <| lM (.slice a0 aa.length cap0) <| lV (.int .i64 (aa.length : Int)) (r_len Tryz.underlying51 rfl) <| lM (.int .i64 0) <| lN <| wB ?_
 replace h0 := h0.keep (Stay.start col w0)
 refine wloop (fun n f af => ∃ (ac : Col) (ab : Nat) (ae : List ((Bool × (List Int)) × (List Int))), n = ae.length ∧ aa.drop ab = ae ∧ m_slices_IndexFunc_api_Rat_api_Rat_v1f119_L1 N ae ab = some r ∧ St w0 (col0 col) ac af ∧ Sl (Rep.pair (Rep.pair Rep.bool (Rep.slice (Rep.int .u32))) (Rep.slice (Rep.int .u32))) ac af a0 cap0 aa ∧ f 8 = (.int .i64 (ab : Int)) ∧ f 0 = (.slice a0 aa.length cap0) ∧ f 1 = (.func (.func 119) #[] #[]) ∧ f 7 = (.int .i64 (aa.length : Int)) ∧ f 1000000 = (enc [])) aa.length ⟨(col0 col), 0, aa, rfl, rfl, hm, hst, h0, rfl, rfl, rfl, rfl, rfl⟩ ?_
 clear hm; intro n f af hI
 obtain ⟨ac, ab, ae, hn, hl, hm, hst, h0, hs8, hs0, hs1, hs7, hs1000000⟩ := hI
 subst hn
 refine .lD 8 hs8 <| .lD 0 hs0 <| .lD 1 hs1 <| .lD 7 hs7 <| .lD 1000000 hs1000000 ?_
 clear hs8 hs0 hs1 hs7 hs1000000
 cases ae with
 | nil =>
  have hk : ¬ ((ab : Int) < (aa.length : Int)) := by have := List.drop_eq_nil_iff.1 hl; omega
  have hkb := decide_eq_false hk
  rw [m_slices_IndexFunc_api_Rat_api_Rat_v1f119_L1.eq_1] at hm
  refine wS <| wR <| lV (.bool (decide ((ab : Int) < (aa.length : Int)))) (r_lss (ab : Int) (aa.length : Int) rfl rfl) <| lN <| wS ?_
  refine wcondF (congrArg Value.bool hkb) ?_
  refine wexit (inB_hit ?_)
  refine wS <| wR <| lA (.int .i64 (-1)) <| lN ?_
  refine wret ?_
  cases hm
  exact ⟨rfl, rfl, hst.below⟩
 | cons ad ah =>
  obtain ⟨hat, hl2_L1, hlt_L1⟩ := drop_get hl
  have hk : (ab : Int) < (aa.length : Int) := by omega
  have hkb := decide_eq_true hk
  rw [m_slices_IndexFunc_api_Rat_api_Rat_v1f119_L1.eq_2] at hm
  refine wS <| wR <| lV (.bool (decide ((ab : Int) < (aa.length : Int)))) (r_lss (ab : Int) (aa.length : Int) rfl rfl) <| lN <| wS ?_
  refine wcondT (congrArg Value.bool hkb) ?_
  refine wK <| wS <| wB <| wS <| wR <| lM (.int .i64 (ab : Int)) <| lA (.int .i64 (ab : Int)) <| lN <| wS <| wR <| lM (.func (.func 119) #[] #[]) <| lM (.slice a0 aa.length cap0) <| lM (.int .i64 (ab : Int)) ?_
  refine lV (sptr a0 (Int.toNat (ab : Int) * 3)) (r_idx Tryz.underlying51 Tryz.sizeOf40 rfl rfl (at?_some hat).1 (at?_some hat).2.1 (h0.addr hat)) ?_
  obtain ⟨_, an, ao⟩ := h0.atN hat
  obtain ⟨_, _, rfl, ap, aq⟩ := rd_pair an
  obtain ⟨_, _, rfl, ar, au⟩ := rd_pair ap
  obtain ⟨rfl, _⟩ := ar
  obtain ⟨⟨ai, aj, rfl, av⟩, _⟩ := au
  obtain ⟨⟨ak, al, rfl, aw⟩, _⟩ := aq
  refine lV (.agg #[(.bool ad.1.1), (.slice ai ad.1.2.length aj), (.slice ak ad.2.length al)]) (r_ldN Tryz.isAgg40 Tryz.sizeOf40 rfl rfl ao) ?_
  obtain ⟨am, ax, hm⟩ := bS hm
  refine lc rfl rfl (r_callv1 Tryz.call119 rfl rfl) (c_model_outside N ac _ ai aj ak al ((ad.1.1, ad.1.2), ad.2) av aw am ax) ?_
  rintro _ ay ⟨rfl, ag⟩
  refine ⟨_, rfl, ?_⟩
  replace ag : Grow ac af ac ay := .of_below ag
  refine lN ?_
  replace h0 := h0.gr ag
  replace hst := hst.grow ag
  refine wcond (am) rfl (fun hb => ?_) (fun hb => ?_)
  ·rw [if_pos hb] at hm
   clear hb
   cases hm
  rw [if_neg (by rw [hb]; decide)] at hm
  clear hb
  refine wK <| wR <| lV (.int .i64 (IntKind.i64.wrap ((ab : Int) + 1))) (r_add (ab : Int) 1 rfl rfl) <| lM (.int .i64 (IntKind.i64.wrap ((ab : Int) + 1))) <| lN ?_
  exact ⟨ah.length, by simp, ⟨ac, (ab + 1), ah, rfl, hl2_L1, hm, hst, h0, (congrArg (Value.int .i64) (wrap_succ (Nat.lt_of_lt_of_le hlt_L1 h0.1.1))), rfl, rfl, rfl, rfl⟩⟩
def m_slices_ContainsFunc_api_Rat_api_Rat_v1f119 (N : Nat) (aa : (List ((Bool × (List Int)) × (List Int)))) : Option Bool :=
  (m_slices_IndexFunc_api_Rat_api_Rat_v1f119 N aa).bind fun ab => some (decide (0 ≤ ab))
theorem c_slices_ContainsFunc_api_Rat_api_Rat_v1f119 (N : Nat) (col : Col) (w0 : World) (a0 : Option Addr) (cap0 : Nat) (aa : (List ((Bool × (List Int)) × (List Int)))) (h0 : Sl (Rep.pair (Rep.pair Rep.bool (Rep.slice (Rep.int .u32))) (Rep.slice (Rep.int .u32))) col w0 a0 cap0 aa) (r : Bool) (hm : m_slices_ContainsFunc_api_Rat_api_Rat_v1f119 N aa = some r) :
    Calls Tryz.prog 117 #[(.slice a0 aa.length cap0), (.func (.func 119) #[] #[])] w0 (fun e w' => e = .returned ((.bool r)) ∧ Below w0.heap.size w0 w') := by
 refine calls_of1 4 (m := 9) (args := [(.slice a0 aa.length cap0), (.func (.func 119) #[] #[])]) Tryz.func117 rfl rfl rfl rfl rfl ?_
 rw [m_slices_ContainsFunc_api_Rat_api_Rat_v1f119.eq_1] at hm
 have hst := St.start col w0
 refine wS <| wR <| lA (.bool false) <| lN <| wS <| wR <| lM (.slice a0 aa.length cap0) <| lM (.func (.func 119) #[] #[]) ?_
 obtain ⟨ab, ad, hm⟩ := bS hm
 replace h0 := h0.keep (Stay.start col w0)
 refine lc rfl rfl (r_call2 Tryz.call149 rfl rfl) (c_slices_IndexFunc_api_Rat_api_Rat_v1f119 N (col0 col) _ a0 cap0 aa h0 ab ad) ?_
 rintro _ ae ⟨rfl, ac⟩
 refine ⟨_, rfl, ?_⟩
 replace ac : Grow (col0 col) w0 (col0 col) ae := .of_below ac
 refine lV (.bool (decide (0 ≤ ab))) (r_geq ab 0 rfl rfl) <| lA (.bool (decide (0 ≤ ab))) <| lN ?_
 refine wret ?_
 cases hm
 replace hst := hst.grow ac
 exact ⟨rfl, rfl, hst.below⟩
def m_model_rows_L1 (ab : (ByteArray × (List ByteArray) × (List (List ByteArray)) × (List (List Int)) × (List (List ((Bool × (List Int)) × (List Int)))))) : List Int → Int → Option Int
  | [], aa => some aa
  | ad :: ae, aa => (at? ab.2.2.1 ad).bind fun ac => (m_model_rows_L1 ab ae) (if 1099511627776 < (IntKind.i64.wrap (aa * (ac.length : Int))) then 1099511627776 else (IntKind.i64.wrap (aa * (ac.length : Int))))
termination_by structural x => x
def m_model_rows (aa : (ByteArray × (List ByteArray) × (List (List ByteArray)) × (List (List Int)) × (List (List ((Bool × (List Int)) × (List Int)))))) (ab : Int) : Option Int :=
  (at? aa.2.2.2.1 ab).bind fun ac => m_model_rows_L1 aa ac 1
theorem c_model_rows (col : Col) (w0 : World) (al : Option Addr) (am : Nat) (af : Option Addr) (ah : Nat) (ag : Option Addr) (ai : Nat) (an : Option Addr) (ao : Nat) (aa : (ByteArray × (List ByteArray) × (List (List ByteArray)) × (List (List Int)) × (List (List ((Bool × (List Int)) × (List Int)))))) (av : Int) (aw : Sl Rep.str col w0 al am aa.2.1) (ap : Sl (Rep.slice Rep.str) col w0 af ah aa.2.2.1) (aq : Sl (Rep.slice (Rep.int .i64)) col w0 ag ai aa.2.2.2.1) (ax : Sl (Rep.slice (Rep.pair (Rep.pair Rep.bool (Rep.slice (Rep.int .u32))) (Rep.slice (Rep.int .u32)))) col w0 an ao aa.2.2.2.2) (r : Int) (hm : m_model_rows aa av = some r) :
    Calls Tryz.prog 116 #[(.agg #[(.string aa.1), (.slice al aa.2.1.length am), (.slice af aa.2.2.1.length ah), (.slice ag aa.2.2.2.1.length ai), (.slice an aa.2.2.2.2.length ao)]), (.int .i64 av)] w0 (fun e w' => e = .returned ((.int .i64 r)) ∧ Below w0.heap.size w0 w') := by
 refine calls_of1 4 (m := 29) (args := [(.agg #[(.string aa.1), (.slice al aa.2.1.length am), (.slice af aa.2.2.1.length ah), (.slice ag aa.2.2.2.1.length ai), (.slice an aa.2.2.2.2.length ao)]), (.int .i64 av)]) Tryz.func116 rfl rfl rfl rfl rfl ?_
 rw [m_model_rows.eq_1] at hm
 have hst := St.start col w0
 refine wS <| wR ?_
 refine l_box (col := (col0 col)) (v := (.agg #[(.string aa.1), (.slice al aa.2.1.length am), (.slice af aa.2.2.1.length ah), (.slice ag aa.2.2.2.1.length ai), (.slice an aa.2.2.2.2.length ao)])) 1 rfl rfl ?_
 intro ay a8 a6 az ar
 replace ar : Box 28 1 a6 a8 ay #[(.string aa.1), (.slice al aa.2.1.length am), (.slice af aa.2.2.1.length ah), (.slice ag aa.2.2.2.1.length ai), (.slice an aa.2.2.2.2.length ao)] := ar
 refine lA (.int .i64 0) <| lN <| wS <| wR <| lA (.int .i64 1) <| lN <| wS <| wS <| wR <| lV (.pointer ((some (⟨ay, 0, none⟩ : Addr)).map (·.add 3))) (rF (sz := 1) (off := 3) Tryz.underlying28 rfl Tryz.sizeOf25 (by decide) rfl rfl ⟨_, _, rfl⟩) <| lV (.slice ag aa.2.2.2.1.length ai) (r_ld Tryz.isAgg25 rfl ((ar.atN).nth (q := 3) (v := (.slice ag aa.2.2.2.1.length ai)) rfl)) <| lM (.int .i64 av) ?_
 obtain ⟨ac, a1, hm⟩ := bS hm
 replace aq := (aq.keep (Stay.start col w0)).gr az
 refine lV (sptr ag (Int.toNat av * 1)) (r_idx Tryz.underlying25 Tryz.sizeOf33 rfl rfl (at?_some a1).1 (at?_some a1).2.1 (aq.addr a1)) ?_
 obtain ⟨_, a9, ba⟩ := aq.atN a1
 obtain ⟨⟨a2, a5, rfl, au⟩, _⟩ := a9
 refine lV (.slice a2 ac.length a5) (r_ld Tryz.isAgg33 rfl ba.one) <| lV (.int .i64 (ac.length : Int)) (r_len Tryz.underlying33 rfl) <| lM (.int .i64 0) <| lN <| wB ?_
 replace aw := (aw.keep (Stay.start col w0)).gr az
 replace ap := (ap.keep (Stay.start col w0)).gr az
 replace ax := (ax.keep (Stay.start col w0)).gr az
 replace hst := hst.grow az
 refine wloop (fun n f ak => ∃ (aj : Col) (ad : Nat) (ab : Int) (a0 : List Int), n = a0.length ∧ ac.drop ad = a0 ∧ m_model_rows_L1 aa a0 ab = some r ∧ St w0 (col0 col) aj ak ∧ Sl (Rep.int .i64) aj ak a2 a5 ac ∧ Sl Rep.str aj ak al am aa.2.1 ∧ Sl (Rep.slice Rep.str) aj ak af ah aa.2.2.1 ∧ Sl (Rep.slice (Rep.int .i64)) aj ak ag ai aa.2.2.2.1 ∧ Sl (Rep.slice (Rep.pair (Rep.pair Rep.bool (Rep.slice (Rep.int .u32))) (Rep.slice (Rep.int .u32)))) aj ak an ao aa.2.2.2.2 ∧ Box 28 1 aj ak ay #[(.string aa.1), (.slice al aa.2.1.length am), (.slice af aa.2.2.1.length ah), (.slice ag aa.2.2.2.1.length ai), (.slice an aa.2.2.2.2.length ao)] ∧ f 14 = (.int .i64 (ad : Int)) ∧ f 12 = (.slice a2 ac.length a5) ∧ f 13 = (.int .i64 (ac.length : Int)) ∧ f 2 = (.pointer (some ⟨ay, 0, none⟩)) ∧ f 5 = (.int .i64 ab) ∧ f 1000000 = (enc [])) ac.length ⟨a6, 0, 1, ac, rfl, rfl, hm, hst, au, aw, ap, aq, ax, ar, rfl, rfl, rfl, rfl, rfl, rfl⟩ ?_
 clear hm; intro n f ak hI
 obtain ⟨aj, ad, ab, a0, hn, hl, hm, hst, au, aw, ap, aq, ax, ar, hs14, hs12, hs13, hs2, hs5, hs1000000⟩ := hI
 subst hn
 refine .lD 14 hs14 <| .lD 12 hs12 <| .lD 13 hs13 <| .lD 2 hs2 <| .lD 5 hs5 <| .lD 1000000 hs1000000 ?_
 clear hs14 hs12 hs13 hs2 hs5 hs1000000
 cases a0 with
 | nil =>
  have hk : ¬ ((ad : Int) < (ac.length : Int)) := by have := List.drop_eq_nil_iff.1 hl; omega
  have hkb := decide_eq_false hk
  rw [m_model_rows_L1.eq_1] at hm
  refine wS <| wR <| lV (.bool (decide ((ad : Int) < (ac.length : Int)))) (r_lss (ad : Int) (ac.length : Int) rfl rfl) <| lN <| wS ?_
  refine wcondF (congrArg Value.bool hkb) ?_
  refine wexit (inB_hit ?_)
  refine wS <| wR <| lM (.int .i64 ab) <| lA (.int .i64 ab) <| lN ?_
  refine wret ?_
  cases hm
  exact ⟨rfl, rfl, hst.below⟩
 | cons a3 a7 =>
  obtain ⟨hat, hl2_L1, hlt_L1⟩ := drop_get hl
  have hk : (ad : Int) < (ac.length : Int) := by omega
  have hkb := decide_eq_true hk
  rw [m_model_rows_L1.eq_2] at hm
  refine wS <| wR <| lV (.bool (decide ((ad : Int) < (ac.length : Int)))) (r_lss (ad : Int) (ac.length : Int) rfl rfl) <| lN <| wS ?_
  refine wcondT (congrArg Value.bool hkb) ?_
  refine wK <| wS <| wB <| wS <| wR ?_
  refine lV (sptr a2 (Int.toNat (ad : Int) * 1)) (r_idx Tryz.underlying33 Tryz.sizeOf3 rfl rfl (at?_some hat).1 (at?_some hat).2.1 (au.addr hat)) ?_
  refine lV (.int .i64 a3) (r_ld Tryz.isAgg3 rfl (au.atInt hat)) <| lA (.int .i64 a3) <| lN <| wR <| lM (.int .i64 ab) <| lV (.pointer ((some (⟨ay, 0, none⟩ : Addr)).map (·.add 2))) (rF (sz := 1) (off := 2) Tryz.underlying28 rfl Tryz.sizeOf24 (by decide) rfl rfl ⟨_, _, rfl⟩) <| lV (.slice af aa.2.2.1.length ah) (r_ld Tryz.isAgg24 rfl ((ar.atN).nth (q := 2) (v := (.slice af aa.2.2.1.length ah)) rfl)) <| lM (.int .i64 a3) ?_
  obtain ⟨ae, a4, hm⟩ := bS hm
  refine lV (sptr af (Int.toNat a3 * 1)) (r_idx Tryz.underlying24 Tryz.sizeOf23 rfl rfl (at?_some a4).1 (at?_some a4).2.1 (ap.addr a4)) ?_
  obtain ⟨_, bb, bc⟩ := ap.atN a4
  obtain ⟨⟨bd, be, rfl, bf⟩, _⟩ := bb
  refine lV (.slice bd ae.length be) (r_ld Tryz.isAgg23 rfl bc.one) <| lV (.int .i64 (ae.length : Int)) (r_len Tryz.underlying23 rfl) <| lV (.int .i64 (IntKind.i64.wrap (ab * (ae.length : Int)))) (r_mul ab (ae.length : Int) rfl rfl) <| lV (.int .i64 (if 1099511627776 < (IntKind.i64.wrap (ab * (ae.length : Int))) then 1099511627776 else (IntKind.i64.wrap (ab * (ae.length : Int))))) (r_min (IntKind.i64.wrap (ab * (ae.length : Int))) 1099511627776 rfl rfl) <| lA (.int .i64 (if 1099511627776 < (IntKind.i64.wrap (ab * (ae.length : Int))) then 1099511627776 else (IntKind.i64.wrap (ab * (ae.length : Int))))) <| lN <| wR <| lV (.int .i64 (IntKind.i64.wrap ((ad : Int) + 1))) (r_add (ad : Int) 1 rfl rfl) <| lM (.int .i64 (IntKind.i64.wrap ((ad : Int) + 1))) <| lN ?_
  exact ⟨a7.length, by simp, ⟨aj, (ad + 1), (if 1099511627776 < (IntKind.i64.wrap (ab * (ae.length : Int))) then 1099511627776 else (IntKind.i64.wrap (ab * (ae.length : Int)))), a7, rfl, hl2_L1, hm, hst, au, aw, ap, aq, ax, ar, (congrArg (Value.int .i64) (wrap_succ (Nat.lt_of_lt_of_le hlt_L1 au.1.1))), rfl, rfl, rfl, rfl, rfl⟩⟩
def m_model_Check_L3 (N : Nat) (ab : (ByteArray × (List ByteArray) × (List (List ByteArray)) × (List (List Int)) × (List (List ((Bool × (List Int)) × (List Int)))))) : List (List ((Bool × (List Int)) × (List Int))) → Nat → Option Int
  | [], aa => some 0
  | ac :: ad, aa => (at? ab.2.2.1 (aa : Int)).bind fun ae => (m_model_fittings N ac).bind fun af => (m_model_whole N af (ae.length : Int)).bind fun ag => if (!ag) = true then none else ((m_model_Check_L3 N ab ad) (aa + 1))
termination_by structural x => x
def m_model_Check_L2 (N : Nat) (aa : (ByteArray × (List ByteArray) × (List (List ByteArray)) × (List (List Int)) × (List (List ((Bool × (List Int)) × (List Int)))))) : List (List ((Bool × (List Int)) × (List Int))) → Option Int
  | [] => m_model_Check_L3 N aa aa.2.2.2.2 0
  | ab :: ac => (m_model_fittings N ab).bind fun ad => (m_slices_ContainsFunc_api_Rat_api_Rat_v1f119 N ad).bind fun ae => if ae = true then none else (m_model_Check_L2 N aa ac)
termination_by structural x => x
def m_model_Check_L1 (N : Nat) (aa : (ByteArray × (List ByteArray) × (List (List ByteArray)) × (List (List Int)) × (List (List ((Bool × (List Int)) × (List Int)))))) : List (List ((Bool × (List Int)) × (List Int))) → Nat → Option Int
  | [], ab => m_model_Check_L2 N aa aa.2.2.2.2 
  | ae :: af, ab => (m_model_rows (aa.1, aa.2.1, aa.2.2.1, aa.2.2.2.1, aa.2.2.2.2) (ab : Int)).bind fun ac => (at? aa.2.2.1 (ab : Int)).bind fun ad => if (decide (65536 < (IntKind.i64.wrap (ac * (ad.length : Int))))) = true then none else (if (!decide ((IntKind.i64.wrap (ac * (ad.length : Int))) = (ae.length : Int))) = true then none else ((m_model_Check_L1 N aa af) (ab + 1)))
termination_by structural x => x
def m_model_Check_J1 (N : Nat) (aa : (ByteArray × (List ByteArray) × (List (List ByteArray)) × (List (List Int)) × (List (List ((Bool × (List Int)) × (List Int)))))) (ab : Bool) : Option Int :=
  if ab = true then none else (if (decide (1024 < (aa.2.1.length : Int))) = true then none else ((m_model_named (aa.1, aa.2.1, aa.2.2.1, aa.2.2.2.1, aa.2.2.2.2)).bind fun ac => if (!decide (ac = 0)) = true then none else ((m_dag_Check N aa.2.2.2.1).bind fun ad => if (!decide (ad = 0)) = true then none else (m_model_Check_L1 N aa aa.2.2.2.2 0))))
def m_model_Check (N : Nat) (aa : (ByteArray × (List ByteArray) × (List (List ByteArray)) × (List (List Int)) × (List (List ((Bool × (List Int)) × (List Int)))))) : Option Int :=
  if (!decide ((aa.2.2.1.length : Int) = (aa.2.1.length : Int))) = true then (m_model_Check_J1 N aa true) else (if (!decide ((aa.2.2.2.1.length : Int) = (aa.2.1.length : Int))) = true then (m_model_Check_J1 N aa true) else (m_model_Check_J1 N aa (!decide ((aa.2.2.2.2.length : Int) = (aa.2.1.length : Int)))))
theorem c_model_Check (N : Nat) (col : Col) (w0 : World) (ao : Option Addr) (ap : Nat) (ai : Option Addr) (aj : Nat) (ak : Option Addr) (al : Nat) (af : Option Addr) (ah : Nat) (aa : (ByteArray × (List ByteArray) × (List (List ByteArray)) × (List (List Int)) × (List (List ((Bool × (List Int)) × (List Int)))))) (ag : Sl Rep.str col w0 ao ap aa.2.1) (ad : Sl (Rep.slice Rep.str) col w0 ai aj aa.2.2.1) (ae : Sl (Rep.slice (Rep.int .i64)) col w0 ak al aa.2.2.2.1) (ac : Sl (Rep.slice (Rep.pair (Rep.pair Rep.bool (Rep.slice (Rep.int .u32))) (Rep.slice (Rep.int .u32)))) col w0 af ah aa.2.2.2.2) (r : Int) (hm : m_model_Check N aa = some r) :
    Calls Tryz.prog 69 #[(.agg #[(.string aa.1), (.slice ao aa.2.1.length ap), (.slice ai aa.2.2.1.length aj), (.slice ak aa.2.2.2.1.length al), (.slice af aa.2.2.2.2.length ah)])] w0 (fun e w' => e = .returned ((.int .i64 r)) ∧ Below w0.heap.size w0 w') := by
 refine calls_of1 2 (m := 103) (args := [(.agg #[(.string aa.1), (.slice ao aa.2.1.length ap), (.slice ai aa.2.2.1.length aj), (.slice ak aa.2.2.2.1.length al), (.slice af aa.2.2.2.2.length ah)])]) Tryz.func69 rfl rfl rfl rfl rfl ?_
 rw [m_model_Check.eq_1] at hm
 have hst := St.start col w0
 refine wS <| wR ?_
 refine l_box (col := (col0 col)) (v := (.agg #[(.string aa.1), (.slice ao aa.2.1.length ap), (.slice ai aa.2.2.1.length aj), (.slice ak aa.2.2.2.1.length al), (.slice af aa.2.2.2.2.length ah)])) 1 rfl rfl ?_
 intro aq cc bk bg ab
 replace ab : Box 28 1 bk cc aq #[(.string aa.1), (.slice ao aa.2.1.length ap), (.slice ai aa.2.2.1.length aj), (.slice ak aa.2.2.2.1.length al), (.slice af aa.2.2.2.2.length ah)] := ab
 refine lA (.int .i64 0) <| lN <| wS <| wR <| lV (.pointer ((some (⟨aq, 0, none⟩ : Addr)).map (·.add 1))) (rF (sz := 1) (off := 1) Tryz.underlying28 rfl Tryz.sizeOf23 (by decide) rfl rfl ⟨_, _, rfl⟩) <| lV (.slice ao aa.2.1.length ap) (r_ld Tryz.isAgg23 rfl ((ab.atN).nth (q := 1) (v := (.slice ao aa.2.1.length ap)) rfl)) <| lV (.int .i64 (aa.2.1.length : Int)) (r_len Tryz.underlying23 rfl) <| lA (.int .i64 (aa.2.1.length : Int)) <| lN <| wS <| wS ?_
 replace ag := (ag.keep (Stay.start col w0)).gr bg
 replace ad := (ad.keep (Stay.start col w0)).gr bg
 replace ae := (ae.keep (Stay.start col w0)).gr bg
 replace ac := (ac.keep (Stay.start col w0)).gr bg
 replace hst := hst.grow bg
 refine Wp.cut (fun f a4 => ∃ (aw : Col) (bl : Bool), m_model_Check_J1 N aa bl = some r ∧ St w0 (col0 col) aw a4 ∧ Sl Rep.str aw a4 ao ap aa.2.1 ∧ Sl (Rep.slice Rep.str) aw a4 ai aj aa.2.2.1 ∧ Sl (Rep.slice (Rep.int .i64)) aw a4 ak al aa.2.2.2.1 ∧ Sl (Rep.slice (Rep.pair (Rep.pair Rep.bool (Rep.slice (Rep.int .u32))) (Rep.slice (Rep.int .u32)))) aw a4 af ah aa.2.2.2.2 ∧ Box 28 1 aw a4 aq #[(.string aa.1), (.slice ao aa.2.1.length ap), (.slice ai aa.2.2.1.length aj), (.slice ak aa.2.2.2.1.length al), (.slice af aa.2.2.2.2.length ah)] ∧ f 1 = (.pointer (some ⟨aq, 0, none⟩)) ∧ f 3 = (.int .i64 (aa.2.1.length : Int)) ∧ f 34 = (.bool bl) ∧ f 1000000 = (enc [])) ?_ ?_
 ·intro f a4 hJ
  obtain ⟨aw, bl, hm, hst, ag, ad, ae, ac, ab, hs1, hs3, hs34, hs1000000⟩ := hJ
  rw [m_model_Check_J1.eq_1] at hm
  refine .lD 1 hs1 <| .lD 3 hs3 <| .lD 34 hs34 <| .lD 1000000 hs1000000 ?_
  clear hs1 hs3 hs34 hs1000000
  refine wcond (bl) rfl (fun hb => ?_) (fun hb => ?_)
  ·rw [if_pos hb] at hm
   clear hb
   cases hm
  rw [if_neg (by rw [hb]; decide)] at hm
  clear hb
  refine wK <| wS <| wS <| wR <| lM (.int .i64 (aa.2.1.length : Int)) <| lV (.bool (decide (1024 < (aa.2.1.length : Int)))) (r_gtr (aa.2.1.length : Int) 1024 rfl rfl) <| lN ?_
  refine wcond (decide (1024 < (aa.2.1.length : Int))) rfl (fun hb => ?_) (fun hb => ?_)
  ·rw [if_pos hb] at hm
   clear hb
   cases hm
  rw [if_neg (by rw [hb]; decide)] at hm
  clear hb
  refine wK <| wS <| wS <| wR <| lV (.agg #[(.string aa.1), (.slice ao aa.2.1.length ap), (.slice ai aa.2.2.1.length aj), (.slice ak aa.2.2.2.1.length al), (.slice af aa.2.2.2.2.length ah)]) (r_ldN Tryz.isAgg28 Tryz.sizeOf28 rfl rfl ab.atN) ?_
  obtain ⟨bd, cd, hm⟩ := bS hm
  refine lc rfl rfl (r_call1 Tryz.call114 rfl) (c_model_named aw _ ao ap ai aj ak al af ah (aa.1, aa.2.1, aa.2.2.1, aa.2.2.2.1, aa.2.2.2.2) ag ad ae ac bd cd) ?_
  rintro _ b3 ⟨rfl, a5⟩
  refine ⟨_, rfl, ?_⟩
  replace a5 : Grow aw a4 aw b3 := .of_below a5
  refine lA (.int .i64 bd) <| lN <| wS <| wR <| lM (.int .i64 bd) <| lV (.bool (!decide (bd = 0))) (r_neq bd 0 rfl rfl) <| lN ?_
  replace ag := ag.gr a5
  replace ad := ad.gr a5
  replace ae := ae.gr a5
  replace ac := ac.gr a5
  replace ab := ab.gr a5
  replace hst := hst.grow a5
  refine wcond (!decide (bd = 0)) rfl (fun hb => ?_) (fun hb => ?_)
  ·rw [if_pos hb] at hm
   clear hb
   cases hm
  rw [if_neg (by rw [hb]; decide)] at hm
  clear hb
  refine wK <| wS <| wS <| wR <| lV (.pointer ((some (⟨aq, 0, none⟩ : Addr)).map (·.add 3))) (rF (sz := 1) (off := 3) Tryz.underlying28 rfl Tryz.sizeOf25 (by decide) rfl rfl ⟨_, _, rfl⟩) <| lV (.slice ak aa.2.2.2.1.length al) (r_ld Tryz.isAgg25 rfl ((ab.atN).nth (q := 3) (v := (.slice ak aa.2.2.2.1.length al)) rfl)) ?_
  obtain ⟨be, ce, hm⟩ := bS hm
  refine lc rfl rfl (r_call1 Tryz.call115 rfl) (c_dag_Check N aw _ ak al aa.2.2.2.1 ae be ce) ?_
  rintro _ cf ⟨rfl, a6⟩
  refine ⟨_, rfl, ?_⟩
  replace a6 : Grow aw b3 aw cf := .of_below a6
  refine lA (.int .i64 be) <| lN <| wS <| wR <| lM (.int .i64 be) <| lV (.bool (!decide (be = 0))) (r_neq be 0 rfl rfl) <| lN ?_
  replace ag := ag.gr a6
  replace ad := ad.gr a6
  replace ae := ae.gr a6
  replace ac := ac.gr a6
  replace ab := ab.gr a6
  replace hst := hst.grow a6
  refine wcond (!decide (be = 0)) rfl (fun hb => ?_) (fun hb => ?_)
  ·rw [if_pos hb] at hm
   clear hb
   cases hm
  rw [if_neg (by rw [hb]; decide)] at hm
  clear hb
  refine wK <| wS <| wS <| wR <| lV (.pointer ((some (⟨aq, 0, none⟩ : Addr)).map (·.add 4))) (rF (sz := 1) (off := 4) Tryz.underlying28 rfl Tryz.sizeOf26 (by decide) rfl rfl ⟨_, _, rfl⟩) <| lV (.slice af aa.2.2.2.2.length ah) (r_ld Tryz.isAgg26 rfl ((ab.atN).nth (q := 4) (v := (.slice af aa.2.2.2.2.length ah)) rfl)) <| lV (.int .i64 (aa.2.2.2.2.length : Int)) (r_len Tryz.underlying26 rfl) <| lM (.int .i64 0) <| lN <| wB ?_
  refine wloop (fun n f a7 => ∃ (an : Col) (am : Nat) (bh : List (List ((Bool × (List Int)) × (List Int)))), n = bh.length ∧ aa.2.2.2.2.drop am = bh ∧ m_model_Check_L1 N aa bh am = some r ∧ St w0 (col0 col) an a7 ∧ Sl Rep.str an a7 ao ap aa.2.1 ∧ Sl (Rep.slice Rep.str) an a7 ai aj aa.2.2.1 ∧ Sl (Rep.slice (Rep.int .i64)) an a7 ak al aa.2.2.2.1 ∧ Sl (Rep.slice (Rep.pair (Rep.pair Rep.bool (Rep.slice (Rep.int .u32))) (Rep.slice (Rep.int .u32)))) an a7 af ah aa.2.2.2.2 ∧ Box 28 1 an a7 aq #[(.string aa.1), (.slice ao aa.2.1.length ap), (.slice ai aa.2.2.1.length aj), (.slice ak aa.2.2.2.1.length al), (.slice af aa.2.2.2.2.length ah)] ∧ f 51 = (.int .i64 (am : Int)) ∧ f 1 = (.pointer (some ⟨aq, 0, none⟩)) ∧ f 49 = (.slice af aa.2.2.2.2.length ah) ∧ f 50 = (.int .i64 (aa.2.2.2.2.length : Int)) ∧ f 1000000 = (enc [])) aa.2.2.2.2.length ⟨aw, 0, aa.2.2.2.2, rfl, rfl, hm, hst, ag, ad, ae, ac, ab, rfl, rfl, rfl, rfl, rfl⟩ ?_
  clear hm; intro n f a7 hI
  obtain ⟨an, am, bh, hn, hl, hm, hst, ag, ad, ae, ac, ab, hs51, hs1, hs49, hs50, hs1000000⟩ := hI
  subst hn
  refine .lD 51 hs51 <| .lD 1 hs1 <| .lD 49 hs49 <| .lD 50 hs50 <| .lD 1000000 hs1000000 ?_
  clear hs51 hs1 hs49 hs50 hs1000000
  cases bh with
  | nil =>
   have hk : ¬ ((am : Int) < (aa.2.2.2.2.length : Int)) := by have := List.drop_eq_nil_iff.1 hl; omega
   have hkb := decide_eq_false hk
   rw [m_model_Check_L1.eq_1] at hm
   refine wS <| wR <| lV (.bool (decide ((am : Int) < (aa.2.2.2.2.length : Int)))) (r_lss (am : Int) (aa.2.2.2.2.length : Int) rfl rfl) <| lN <| wS ?_
   refine wcondF (congrArg Value.bool hkb) ?_
   refine wexit (inB_hit ?_)
   refine wS <| wS <| wR <| lV (.pointer ((some (⟨aq, 0, none⟩ : Addr)).map (·.add 4))) (rF (sz := 1) (off := 4) Tryz.underlying28 rfl Tryz.sizeOf26 (by decide) rfl rfl ⟨_, _, rfl⟩) <| lV (.slice af aa.2.2.2.2.length ah) (r_ld Tryz.isAgg26 rfl ((ab.atN).nth (q := 4) (v := (.slice af aa.2.2.2.2.length ah)) rfl)) <| lV (.int .i64 (aa.2.2.2.2.length : Int)) (r_len Tryz.underlying26 rfl) <| lM (.int .i64 0) <| lN <| wB ?_
   refine wloop (fun n f ba => ∃ (a2 : Col) (ax : Nat) (bi : List (List ((Bool × (List Int)) × (List Int)))), n = bi.length ∧ aa.2.2.2.2.drop ax = bi ∧ m_model_Check_L2 N aa bi  = some r ∧ St w0 (col0 col) a2 ba ∧ Sl Rep.str a2 ba ao ap aa.2.1 ∧ Sl (Rep.slice Rep.str) a2 ba ai aj aa.2.2.1 ∧ Sl (Rep.slice (Rep.int .i64)) a2 ba ak al aa.2.2.2.1 ∧ Sl (Rep.slice (Rep.pair (Rep.pair Rep.bool (Rep.slice (Rep.int .u32))) (Rep.slice (Rep.int .u32)))) a2 ba af ah aa.2.2.2.2 ∧ Box 28 1 a2 ba aq #[(.string aa.1), (.slice ao aa.2.1.length ap), (.slice ai aa.2.2.1.length aj), (.slice ak aa.2.2.2.1.length al), (.slice af aa.2.2.2.2.length ah)] ∧ f 76 = (.int .i64 (ax : Int)) ∧ f 1 = (.pointer (some ⟨aq, 0, none⟩)) ∧ f 74 = (.slice af aa.2.2.2.2.length ah) ∧ f 75 = (.int .i64 (aa.2.2.2.2.length : Int)) ∧ f 1000000 = (enc [])) aa.2.2.2.2.length ⟨an, 0, aa.2.2.2.2, rfl, rfl, hm, hst, ag, ad, ae, ac, ab, rfl, rfl, rfl, rfl, rfl⟩ ?_
   clear hm; intro n f ba hI
   obtain ⟨a2, ax, bi, hn, hl, hm, hst, ag, ad, ae, ac, ab, hs76, hs1, hs74, hs75, hs1000000⟩ := hI
   subst hn
   refine .lD 76 hs76 <| .lD 1 hs1 <| .lD 74 hs74 <| .lD 75 hs75 <| .lD 1000000 hs1000000 ?_
   clear hs76 hs1 hs74 hs75 hs1000000
   cases bi with
   | nil =>
    have hk : ¬ ((ax : Int) < (aa.2.2.2.2.length : Int)) := by have := List.drop_eq_nil_iff.1 hl; omega
    have hkb := decide_eq_false hk
    rw [m_model_Check_L2.eq_1] at hm
    refine wS <| wR <| lV (.bool (decide ((ax : Int) < (aa.2.2.2.2.length : Int)))) (r_lss (ax : Int) (aa.2.2.2.2.length : Int) rfl rfl) <| lN <| wS ?_
    refine wcondF (congrArg Value.bool hkb) ?_
    refine wexit (inB_hit ?_)
    refine wS <| wS <| wR <| lV (.pointer ((some (⟨aq, 0, none⟩ : Addr)).map (·.add 4))) (rF (sz := 1) (off := 4) Tryz.underlying28 rfl Tryz.sizeOf26 (by decide) rfl rfl ⟨_, _, rfl⟩) <| lV (.slice af aa.2.2.2.2.length ah) (r_ld Tryz.isAgg26 rfl ((ab.atN).nth (q := 4) (v := (.slice af aa.2.2.2.2.length ah)) rfl)) <| lV (.int .i64 (aa.2.2.2.2.length : Int)) (r_len Tryz.underlying26 rfl) <| lM (.int .i64 0) <| lN <| wB ?_
    refine wloop (fun n f a8 => ∃ (ay : Col) (ar : Nat) (bj : List (List ((Bool × (List Int)) × (List Int)))), n = bj.length ∧ aa.2.2.2.2.drop ar = bj ∧ m_model_Check_L3 N aa bj ar = some r ∧ St w0 (col0 col) ay a8 ∧ Sl Rep.str ay a8 ao ap aa.2.1 ∧ Sl (Rep.slice Rep.str) ay a8 ai aj aa.2.2.1 ∧ Sl (Rep.slice (Rep.int .i64)) ay a8 ak al aa.2.2.2.1 ∧ Sl (Rep.slice (Rep.pair (Rep.pair Rep.bool (Rep.slice (Rep.int .u32))) (Rep.slice (Rep.int .u32)))) ay a8 af ah aa.2.2.2.2 ∧ Box 28 1 ay a8 aq #[(.string aa.1), (.slice ao aa.2.1.length ap), (.slice ai aa.2.2.1.length aj), (.slice ak aa.2.2.2.1.length al), (.slice af aa.2.2.2.2.length ah)] ∧ f 87 = (.int .i64 (ar : Int)) ∧ f 1 = (.pointer (some ⟨aq, 0, none⟩)) ∧ f 85 = (.slice af aa.2.2.2.2.length ah) ∧ f 86 = (.int .i64 (aa.2.2.2.2.length : Int)) ∧ f 1000000 = (enc [])) aa.2.2.2.2.length ⟨a2, 0, aa.2.2.2.2, rfl, rfl, hm, hst, ag, ad, ae, ac, ab, rfl, rfl, rfl, rfl, rfl⟩ ?_
    clear hm; intro n f a8 hI
    obtain ⟨ay, ar, bj, hn, hl, hm, hst, ag, ad, ae, ac, ab, hs87, hs1, hs85, hs86, hs1000000⟩ := hI
    subst hn
    refine .lD 87 hs87 <| .lD 1 hs1 <| .lD 85 hs85 <| .lD 86 hs86 <| .lD 1000000 hs1000000 ?_
    clear hs87 hs1 hs85 hs86 hs1000000
    cases bj with
    | nil =>
     have hk : ¬ ((ar : Int) < (aa.2.2.2.2.length : Int)) := by have := List.drop_eq_nil_iff.1 hl; omega
     have hkb := decide_eq_false hk
     rw [m_model_Check_L3.eq_1] at hm
     refine wS <| wR <| lV (.bool (decide ((ar : Int) < (aa.2.2.2.2.length : Int)))) (r_lss (ar : Int) (aa.2.2.2.2.length : Int) rfl rfl) <| lN <| wS ?_
     refine wcondF (congrArg Value.bool hkb) ?_
     refine wexit (inB_hit ?_)
     refine wS <| wR <| lA (.int .i64 0) <| lN ?_
     refine wret ?_
     cases hm
     exact ⟨rfl, rfl, hst.below⟩
    | cons bm b4 =>
     obtain ⟨hat, hl2_L3, hlt_L3⟩ := drop_get hl
     have hk : (ar : Int) < (aa.2.2.2.2.length : Int) := by omega
     have hkb := decide_eq_true hk
     rw [m_model_Check_L3.eq_2] at hm
     refine wS <| wR <| lV (.bool (decide ((ar : Int) < (aa.2.2.2.2.length : Int)))) (r_lss (ar : Int) (aa.2.2.2.2.length : Int) rfl rfl) <| lN <| wS ?_
     refine wcondT (congrArg Value.bool hkb) ?_
     refine wK <| wS <| wB <| wS <| wR <| lM (.int .i64 (ar : Int)) ?_
     refine lV (sptr af (Int.toNat (ar : Int) * 1)) (r_idx Tryz.underlying26 Tryz.sizeOf51 rfl rfl (at?_some hat).1 (at?_some hat).2.1 (ac.addr hat)) ?_
     obtain ⟨_, cg, ch⟩ := ac.atN hat
     obtain ⟨⟨bn, bo, rfl, bw⟩, _⟩ := cg
     refine lV (.slice bn bm.length bo) (r_ld Tryz.isAgg51 rfl ch.one) <| lA (.int .i64 (ar : Int)) <| lA (.slice bn bm.length bo) <| lN <| wS ?_
     refine wmix (col := ay) [(0, 1), (2, 1), (3, 0), (4, 1), (5, 1), (6, 0), (7, 1), (1, 3), (8, 3), (9, 1)] (by kernel_rfl) (by kernel_rfl) ?_
     refine xu (v := (.slice bn bm.length bo)) rfl rfl (fun _ => r_move rfl) ?_
     refine xu (v := (.pointer ((some (⟨aq, 0, none⟩ : Addr)).map (·.add 2)))) rfl rfl (fun _ => rF (sz := 1) (off := 2) Tryz.underlying28 rfl Tryz.sizeOf24 (by decide) rfl rfl ⟨_, _, rfl⟩) ?_
     refine xv (v := (.slice ai aa.2.2.1.length aj)) rfl rfl (fun _ hC => r_ld Tryz.isAgg24 rfl (((ab.atN).nth (q := 2) (v := (.slice ai aa.2.2.1.length aj)) rfl).gr (Grow.of_below (col := ay) hC.below))) ?_
     refine xu (v := (.int .i64 (ar : Int))) rfl rfl (fun _ => r_move rfl) ?_
     obtain ⟨bx, bp, hm⟩ := bS hm
     refine xu (v := (sptr ai (Int.toNat (ar : Int) * 1))) rfl rfl (fun _ => r_idx Tryz.underlying24 Tryz.sizeOf23 rfl rfl (at?_some bp).1 (at?_some bp).2.1 (ad.addr bp)) ?_
     obtain ⟨_, ci, cj⟩ := ad.atN bp
     obtain ⟨⟨ck, cl, rfl, da⟩, _⟩ := ci
     refine xv (v := (.slice ck bx.length cl)) rfl rfl (fun _ hC => r_ld Tryz.isAgg23 rfl (cj.one.gr (Grow.of_below (col := ay) hC.below))) ?_
     refine xu (v := (.int .i64 (bx.length : Int))) rfl rfl (fun _ => r_len Tryz.underlying23 rfl) ?_
     refine xe rfl rfl ?_
     intro cm hC0
     have hC : Grow ay a8 ay cm := .of_below hC0.below
     obtain ⟨b5, cn, hm⟩ := bS hm
     replace bw := bw.gr hC
     refine lc rfl rfl (r_call1 Tryz.call118 rfl) (c_model_fittings N 2 ay _ bn bo bm bw b5 cn) ?_
     rintro _ b6 ⟨a1, co, cp, rfl, bb, bz⟩
     refine ⟨_, rfl, ?_⟩
     refine lN ⟨fun w' => Grow a1 b6 a1 w', Grow.refl _ _, fun _ _ h => cls hC0 bb h, ?_⟩
     refine xe rfl rfl ?_
     intro b7 hC0
     replace ag := (ag.gr hC).gr bb
     replace ad := (ad.gr hC).gr bb
     replace ae := (ae.gr hC).gr bb
     replace ac := (ac.gr hC).gr bb
     replace ab := (ab.gr hC).gr bb
     replace hst := (hst.grow hC).grow bb
     have hC : Grow a1 b6 a1 b7 := .of_below hC0.below
     obtain ⟨bq, cq, hm⟩ := bS hm
     replace bz := bz.gr hC
     refine lc rfl rfl (r_call2 Tryz.call120 rfl rfl) (c_model_whole N (frC 2 a1) _ co cp b5 (bx.length : Int) (bz.toSlF (Froz.pair (Froz.pair Froz.bool Froz.slice) Froz.slice)) bq cq) ?_
     rintro _ b0 ⟨rfl, a3⟩
     refine ⟨_, rfl, ?_⟩
     replace a3 : Grow a1 b7 a1 b0 := .of_below a3
     refine lN ⟨fun w' => Grow a1 b0 a1 w', Grow.refl _ _, fun _ _ h => cls hC0 a3 h, ?_⟩
     refine xu (v := (.bool (!bq))) rfl rfl (fun _ => r_not bq rfl) ?_
     refine xnil ?_
     replace ag := (ag.gr hC).gr a3
     replace ad := (ad.gr hC).gr a3
     replace ae := (ae.gr hC).gr a3
     replace ac := (ac.gr hC).gr a3
     replace ab := (ab.gr hC).gr a3
     replace hst := (hst.grow hC).grow a3
     intro cr hC
     replace hC : Grow a1 b0 a1 cr := .of_below hC.below
     replace ag := ag.gr hC
     replace ad := ad.gr hC
     replace ae := ae.gr hC
     replace ac := ac.gr hC
     replace ab := ab.gr hC
     replace hst := hst.grow hC
     refine wcond (!bq) rfl (fun hb => ?_) (fun hb => ?_)
     ·rw [if_pos hb] at hm
      clear hb
      cases hm
     rw [if_neg (by rw [hb]; decide)] at hm
     clear hb
     refine wK <| wR <| lV (.int .i64 (IntKind.i64.wrap ((ar : Int) + 1))) (r_add (ar : Int) 1 rfl rfl) <| lM (.int .i64 (IntKind.i64.wrap ((ar : Int) + 1))) <| lN ?_
     exact ⟨b4.length, by simp, ⟨a1, (ar + 1), b4, rfl, hl2_L3, hm, hst, ag, ad, ae, ac, ab, (congrArg (Value.int .i64) (wrap_succ (Nat.lt_of_lt_of_le hlt_L3 ac.1.1))), rfl, rfl, rfl, rfl⟩⟩
   | cons br b8 =>
    obtain ⟨hat, hl2_L2, hlt_L2⟩ := drop_get hl
    have hk : (ax : Int) < (aa.2.2.2.2.length : Int) := by omega
    have hkb := decide_eq_true hk
    rw [m_model_Check_L2.eq_2] at hm
    refine wS <| wR <| lV (.bool (decide ((ax : Int) < (aa.2.2.2.2.length : Int)))) (r_lss (ax : Int) (aa.2.2.2.2.length : Int) rfl rfl) <| lN <| wS ?_
    refine wcondT (congrArg Value.bool hkb) ?_
    refine wK <| wS <| wB <| wS <| wR ?_
    refine lV (sptr af (Int.toNat (ax : Int) * 1)) (r_idx Tryz.underlying26 Tryz.sizeOf51 rfl rfl (at?_some hat).1 (at?_some hat).2.1 (ac.addr hat)) ?_
    obtain ⟨_, cs, ct⟩ := ac.atN hat
    obtain ⟨⟨bs, bt, rfl, cu⟩, _⟩ := cs
    refine lV (.slice bs br.length bt) (r_ld Tryz.isAgg51 rfl ct.one) <| lA (.slice bs br.length bt) <| lN <| wS <| wR <| lM (.slice bs br.length bt) ?_
    obtain ⟨b9, cv, hm⟩ := bS hm
    refine lc rfl rfl (r_call1 Tryz.call118 rfl) (c_model_fittings N 3 a2 _ bs bt br cu b9 cv) ?_
    rintro _ cw ⟨bu, cx, cy, rfl, bf, cz⟩
    refine ⟨_, rfl, ?_⟩
    obtain ⟨ca, c0, hm⟩ := bS hm
    refine lc rfl rfl (r_call2 Tryz.call117 rfl rfl) (c_slices_ContainsFunc_api_Rat_api_Rat_v1f119 N (frC 3 bu) _ cx cy b9 (cz.toSlF (Froz.pair (Froz.pair Froz.bool Froz.slice) Froz.slice)) ca c0) ?_
    rintro _ c1 ⟨rfl, a9⟩
    refine ⟨_, rfl, ?_⟩
    replace a9 : Grow bu cw bu c1 := .of_below a9
    refine lN ?_
    replace ag := (ag.gr bf).gr a9
    replace ad := (ad.gr bf).gr a9
    replace ae := (ae.gr bf).gr a9
    replace ac := (ac.gr bf).gr a9
    replace ab := (ab.gr bf).gr a9
    replace hst := (hst.grow bf).grow a9
    refine wcond (ca) rfl (fun hb => ?_) (fun hb => ?_)
    ·rw [if_pos hb] at hm
     clear hb
     cases hm
    rw [if_neg (by rw [hb]; decide)] at hm
    clear hb
    refine wK <| wR <| lV (.int .i64 (IntKind.i64.wrap ((ax : Int) + 1))) (r_add (ax : Int) 1 rfl rfl) <| lM (.int .i64 (IntKind.i64.wrap ((ax : Int) + 1))) <| lN ?_
    exact ⟨b8.length, by simp, ⟨bu, (ax + 1), b8, rfl, hl2_L2, hm, hst, ag, ad, ae, ac, ab, (congrArg (Value.int .i64) (wrap_succ (Nat.lt_of_lt_of_le hlt_L2 ac.1.1))), rfl, rfl, rfl, rfl⟩⟩
  | cons bc cb =>
   obtain ⟨hat, hl2_L1, hlt_L1⟩ := drop_get hl
   have hk : (am : Int) < (aa.2.2.2.2.length : Int) := by omega
   have hkb := decide_eq_true hk
   rw [m_model_Check_L1.eq_2] at hm
   refine wS <| wR <| lV (.bool (decide ((am : Int) < (aa.2.2.2.2.length : Int)))) (r_lss (am : Int) (aa.2.2.2.2.length : Int) rfl rfl) <| lN <| wS ?_
   refine wcondT (congrArg Value.bool hkb) ?_
   refine wK <| wS <| wB <| wS <| wR <| lM (.int .i64 (am : Int)) ?_
   refine lV (sptr af (Int.toNat (am : Int) * 1)) (r_idx Tryz.underlying26 Tryz.sizeOf51 rfl rfl (at?_some hat).1 (at?_some hat).2.1 (ac.addr hat)) ?_
   obtain ⟨_, c2, c3⟩ := ac.atN hat
   obtain ⟨⟨b1, b2, rfl, db⟩, _⟩ := c2
   refine lV (.slice b1 bc.length b2) (r_ld Tryz.isAgg51 rfl c3.one) <| lA (.int .i64 (am : Int)) <| lA (.slice b1 bc.length b2) <| lN <| wS ?_
   refine wquiet (col := an) (by kernel_rfl) (by kernel_rfl) ?_
   refine qv (v := (.agg #[(.string aa.1), (.slice ao aa.2.1.length ap), (.slice ai aa.2.2.1.length aj), (.slice ak aa.2.2.2.1.length al), (.slice af aa.2.2.2.2.length ah)])) rfl (fun _ hC => r_ldN Tryz.isAgg28 Tryz.sizeOf28 rfl rfl (ab.atN.gr (Grow.of_below (col := an) hC.below))) ?_
   refine qv (v := (.int .i64 (am : Int))) rfl (fun _ hC => r_move rfl) ?_
   obtain ⟨az, c4, hm⟩ := bS hm
   refine qc (v := (.int .i64 az)) rfl (fun _ hC => ⟨_, _, r_call2 Tryz.call116 rfl rfl, (c_model_rows an _ ao ap ai aj ak al af ah (aa.1, aa.2.1, aa.2.2.1, aa.2.2.2.1, aa.2.2.2.2) (am : Int) (ag.gr (Grow.of_below (col := an) hC.below)) (ad.gr (Grow.of_below (col := an) hC.below)) (ae.gr (Grow.of_below (col := an) hC.below)) (ac.gr (Grow.of_below (col := an) hC.below)) az c4).mono fun _ _ h => ⟨h.1, hC.trans (.of_below h.2)⟩⟩) ?_
   refine qv (v := (.pointer ((some (⟨aq, 0, none⟩ : Addr)).map (·.add 2)))) rfl (fun _ hC => rF (sz := 1) (off := 2) Tryz.underlying28 rfl Tryz.sizeOf24 (by decide) rfl rfl ⟨_, _, rfl⟩) ?_
   refine qv (v := (.slice ai aa.2.2.1.length aj)) rfl (fun _ hC => r_ld Tryz.isAgg24 rfl (((ab.atN).nth (q := 2) (v := (.slice ai aa.2.2.1.length aj)) rfl).gr (Grow.of_below (col := an) hC.below))) ?_
   refine qv (v := (.int .i64 (am : Int))) rfl (fun _ hC => r_move rfl) ?_
   obtain ⟨a0, bv, hm⟩ := bS hm
   refine qv (v := (sptr ai (Int.toNat (am : Int) * 1))) rfl (fun _ hC => r_idx Tryz.underlying24 Tryz.sizeOf23 rfl rfl (at?_some bv).1 (at?_some bv).2.1 (ad.addr bv)) ?_
   obtain ⟨_, c5, c6⟩ := ad.atN bv
   obtain ⟨⟨c7, c8, rfl, dc⟩, _⟩ := c5
   refine qv (v := (.slice c7 a0.length c8)) rfl (fun _ hC => r_ld Tryz.isAgg23 rfl (c6.one.gr (Grow.of_below (col := an) hC.below))) ?_
   refine qv (v := (.int .i64 (a0.length : Int))) rfl (fun _ hC => r_len Tryz.underlying23 rfl) ?_
   refine qv (v := (.int .i64 (IntKind.i64.wrap (az * (a0.length : Int))))) rfl (fun _ hC => r_mul az (a0.length : Int) rfl rfl) ?_
   refine qv (v := (.int .i64 (IntKind.i64.wrap (az * (a0.length : Int))))) rfl (fun _ hC => r_assign rfl) ?_
   refine qnil ?_
   intro c9 hC
   replace hC : Grow an a7 an c9 := .of_below hC.below
   refine wS <| wS <| wR <| lM (.int .i64 (IntKind.i64.wrap (az * (a0.length : Int)))) <| lV (.bool (decide (65536 < (IntKind.i64.wrap (az * (a0.length : Int)))))) (r_gtr (IntKind.i64.wrap (az * (a0.length : Int))) 65536 rfl rfl) <| lN ?_
   replace ag := ag.gr hC
   replace ad := ad.gr hC
   replace ae := ae.gr hC
   replace ac := ac.gr hC
   replace ab := ab.gr hC
   replace hst := hst.grow hC
   refine wcond (decide (65536 < (IntKind.i64.wrap (az * (a0.length : Int))))) rfl (fun hb => ?_) (fun hb => ?_)
   ·rw [if_pos hb] at hm
    clear hb
    cases hm
   rw [if_neg (by rw [hb]; decide)] at hm
   clear hb
   refine wK <| wS <| wR <| lM (.int .i64 (IntKind.i64.wrap (az * (a0.length : Int)))) <| lM (.slice b1 bc.length b2) <| lV (.int .i64 (bc.length : Int)) (r_len Tryz.underlying51 rfl) <| lV (.bool (!decide ((IntKind.i64.wrap (az * (a0.length : Int))) = (bc.length : Int)))) (r_neq (IntKind.i64.wrap (az * (a0.length : Int))) (bc.length : Int) rfl rfl) <| lN ?_
   refine wcond (!decide ((IntKind.i64.wrap (az * (a0.length : Int))) = (bc.length : Int))) rfl (fun hb => ?_) (fun hb => ?_)
   ·rw [if_pos hb] at hm
    clear hb
    cases hm
   rw [if_neg (by rw [hb]; decide)] at hm
   clear hb
   refine wK <| wR <| lV (.int .i64 (IntKind.i64.wrap ((am : Int) + 1))) (r_add (am : Int) 1 rfl rfl) <| lM (.int .i64 (IntKind.i64.wrap ((am : Int) + 1))) <| lN ?_
   exact ⟨cb.length, by simp, ⟨an, (am + 1), cb, rfl, hl2_L1, hm, hst, ag, ad, ae, ac, ab, (congrArg (Value.int .i64) (wrap_succ (Nat.lt_of_lt_of_le hlt_L1 ac.1.1))), rfl, rfl, rfl, rfl⟩⟩
 refine wR <| lV (.pointer ((some (⟨aq, 0, none⟩ : Addr)).map (·.add 2))) (rF (sz := 1) (off := 2) Tryz.underlying28 rfl Tryz.sizeOf24 (by decide) rfl rfl ⟨_, _, rfl⟩) <| lV (.slice ai aa.2.2.1.length aj) (r_ld Tryz.isAgg24 rfl ((ab.atN).nth (q := 2) (v := (.slice ai aa.2.2.1.length aj)) rfl)) <| lV (.int .i64 (aa.2.2.1.length : Int)) (r_len Tryz.underlying24 rfl) <| lM (.int .i64 (aa.2.1.length : Int)) <| lV (.bool (!decide ((aa.2.2.1.length : Int) = (aa.2.1.length : Int)))) (r_neq (aa.2.2.1.length : Int) (aa.2.1.length : Int) rfl rfl) <| lM (.bool (!decide ((aa.2.2.1.length : Int) = (aa.2.1.length : Int)))) ?_
 by_cases au : (!decide ((aa.2.2.1.length : Int) = (aa.2.1.length : Int))) = true
 ·rw [if_pos au] at hm
  refine lp (b := !decide ((aa.2.2.1.length : Int) = (aa.2.1.length : Int))) 21 rfl rfl rfl rfl (by rw [au]; rfl) ?_
  refine lp (b := !decide ((aa.2.2.1.length : Int) = (aa.2.1.length : Int))) 21 rfl rfl rfl rfl (by rw [au]; rfl) ?_
  refine lp (b := !decide ((aa.2.2.1.length : Int) = (aa.2.1.length : Int))) 21 rfl rfl rfl rfl (by rw [au]; rfl) ?_
  refine lp (b := !decide ((aa.2.2.1.length : Int) = (aa.2.1.length : Int))) 21 rfl rfl rfl rfl (by rw [au]; rfl) ?_
  refine lp (b := !decide ((aa.2.2.1.length : Int) = (aa.2.1.length : Int))) 21 rfl rfl rfl rfl (by rw [au]; rfl) ?_
  refine lV (.bool true) (r_pickT (congrArg Value.bool au) rfl) <| lM (.bool true) ?_
  refine lp (b := true) 28 rfl rfl rfl rfl rfl ?_
  refine lp (b := true) 28 rfl rfl rfl rfl rfl ?_
  refine lp (b := true) 28 rfl rfl rfl rfl rfl ?_
  refine lp (b := true) 28 rfl rfl rfl rfl rfl ?_
  refine lp (b := true) 28 rfl rfl rfl rfl rfl ?_
  refine lV (.bool true) (r_pickT rfl rfl) <| lN ?_
  exact ⟨bk, true, hm, hst, ag, ad, ae, ac, ab, rfl, rfl, rfl, rfl⟩
 rw [if_neg au] at hm
 replace au := Bool.eq_false_iff.2 au
 refine lg (b := !decide ((aa.2.2.1.length : Int) = (aa.2.1.length : Int))) 21 rfl rfl rfl (by rw [au]; rfl) ?_
 refine lV (.pointer ((some (⟨aq, 0, none⟩ : Addr)).map (·.add 3))) (rF (sz := 1) (off := 3) Tryz.underlying28 rfl Tryz.sizeOf25 (by decide) rfl rfl ⟨_, _, rfl⟩) ?_
 refine lg (b := !decide ((aa.2.2.1.length : Int) = (aa.2.1.length : Int))) 21 rfl rfl rfl (by rw [au]; rfl) ?_
 refine lV (.slice ak aa.2.2.2.1.length al) (r_ld Tryz.isAgg25 rfl ((ab.atN).nth (q := 3) (v := (.slice ak aa.2.2.2.1.length al)) rfl)) ?_
 refine lg (b := !decide ((aa.2.2.1.length : Int) = (aa.2.1.length : Int))) 21 rfl rfl rfl (by rw [au]; rfl) ?_
 refine lV (.int .i64 (aa.2.2.2.1.length : Int)) (r_len Tryz.underlying25 rfl) ?_
 refine lg (b := !decide ((aa.2.2.1.length : Int) = (aa.2.1.length : Int))) 21 rfl rfl rfl (by rw [au]; rfl) ?_
 refine lM (.int .i64 (aa.2.1.length : Int)) ?_
 refine lg (b := !decide ((aa.2.2.1.length : Int) = (aa.2.1.length : Int))) 21 rfl rfl rfl (by rw [au]; rfl) ?_
 refine lV (.bool (!decide ((aa.2.2.2.1.length : Int) = (aa.2.1.length : Int)))) (r_neq (aa.2.2.2.1.length : Int) (aa.2.1.length : Int) rfl rfl) <| lV (.bool (!decide ((aa.2.2.2.1.length : Int) = (aa.2.1.length : Int)))) (r_pickF (congrArg Value.bool au) rfl) <| lM (.bool (!decide ((aa.2.2.2.1.length : Int) = (aa.2.1.length : Int)))) ?_
 by_cases av : (!decide ((aa.2.2.2.1.length : Int) = (aa.2.1.length : Int))) = true
 ·rw [if_pos av] at hm
  refine lp (b := !decide ((aa.2.2.2.1.length : Int) = (aa.2.1.length : Int))) 28 rfl rfl rfl rfl (by rw [av]; rfl) ?_
  refine lp (b := !decide ((aa.2.2.2.1.length : Int) = (aa.2.1.length : Int))) 28 rfl rfl rfl rfl (by rw [av]; rfl) ?_
  refine lp (b := !decide ((aa.2.2.2.1.length : Int) = (aa.2.1.length : Int))) 28 rfl rfl rfl rfl (by rw [av]; rfl) ?_
  refine lp (b := !decide ((aa.2.2.2.1.length : Int) = (aa.2.1.length : Int))) 28 rfl rfl rfl rfl (by rw [av]; rfl) ?_
  refine lp (b := !decide ((aa.2.2.2.1.length : Int) = (aa.2.1.length : Int))) 28 rfl rfl rfl rfl (by rw [av]; rfl) ?_
  refine lV (.bool true) (r_pickT (congrArg Value.bool av) rfl) <| lN ?_
  exact ⟨bk, true, hm, hst, ag, ad, ae, ac, ab, rfl, rfl, rfl, rfl⟩
 rw [if_neg av] at hm
 replace av := Bool.eq_false_iff.2 av
 refine lg (b := !decide ((aa.2.2.2.1.length : Int) = (aa.2.1.length : Int))) 28 rfl rfl rfl (by rw [av]; rfl) ?_
 refine lV (.pointer ((some (⟨aq, 0, none⟩ : Addr)).map (·.add 4))) (rF (sz := 1) (off := 4) Tryz.underlying28 rfl Tryz.sizeOf26 (by decide) rfl rfl ⟨_, _, rfl⟩) ?_
 refine lg (b := !decide ((aa.2.2.2.1.length : Int) = (aa.2.1.length : Int))) 28 rfl rfl rfl (by rw [av]; rfl) ?_
 refine lV (.slice af aa.2.2.2.2.length ah) (r_ld Tryz.isAgg26 rfl ((ab.atN).nth (q := 4) (v := (.slice af aa.2.2.2.2.length ah)) rfl)) ?_
 refine lg (b := !decide ((aa.2.2.2.1.length : Int) = (aa.2.1.length : Int))) 28 rfl rfl rfl (by rw [av]; rfl) ?_
 refine lV (.int .i64 (aa.2.2.2.2.length : Int)) (r_len Tryz.underlying26 rfl) ?_
 refine lg (b := !decide ((aa.2.2.2.1.length : Int) = (aa.2.1.length : Int))) 28 rfl rfl rfl (by rw [av]; rfl) ?_
 refine lM (.int .i64 (aa.2.1.length : Int)) ?_
 refine lg (b := !decide ((aa.2.2.2.1.length : Int) = (aa.2.1.length : Int))) 28 rfl rfl rfl (by rw [av]; rfl) ?_
 refine lV (.bool (!decide ((aa.2.2.2.2.length : Int) = (aa.2.1.length : Int)))) (r_neq (aa.2.2.2.2.length : Int) (aa.2.1.length : Int) rfl rfl) <| lV (.bool (!decide ((aa.2.2.2.2.length : Int) = (aa.2.1.length : Int)))) (r_pickF (congrArg Value.bool av) rfl) <| lN ?_
 exact ⟨bk, (!decide ((aa.2.2.2.2.length : Int) = (aa.2.1.length : Int))), hm, hst, ag, ad, ae, ac, ab, rfl, rfl, rfl, rfl⟩

end Go.Proofs.YtonkjfnjadofpaaGreat
