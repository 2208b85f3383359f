/-
  What functions of the program compute, as plain Lean functions (m_..), and proofs that they compute it (c_..). Printed by a program of the author; no conditions.
-/
import Derived.Test.YtonkjfnjadofpaaGreatJointNamesBFloat
import Derived.Test.YtonkjfnjadofpaaGreatProg
set_option linter.unusedVariables false
set_option maxRecDepth 100000
set_option maxHeartbeats 2000000
namespace Go.Proofs.YtonkjfnjadofpaaGreat
open Go Go.RowKit

theorem el114_159 : ElemOk Tryz.prog 114 1 4 := ⟨Tryz.t114, _, rfl, rfl, rfl, rfl, rfl⟩
def m_r01_Norm_J1 (ab : (List Int)) (aa : Int) (kk_L1 : (Int → Option (List Int))) (ac : Bool) : Option (List Int) :=
  if ac = true then (kk_L1 (IntKind.i64.wrap (aa - 1))) else (chk ((0 : Int) ≤ aa ∧ aa ≤ (ab.length : Int)) (chk ((([] : List Int).length + (ab.take (Int.toNat aa)).length) * 4 ≤ 140737488355328 ∧ ([] : List Int).length + (ab.take (Int.toNat aa)).length ≤ maxLen) (some (([] : List Int) ++ (ab.take (Int.toNat aa))))))
def m_r01_Norm_L1 (N : Nat) (aa : (List Int)) : Nat → Int → Option (List Int)
  | 0, _ => none
  | ac + 1, ab => if (decide (0 < ab)) = true then ((at? aa (IntKind.i64.wrap (ab - 1))).bind fun ad => m_r01_Norm_J1 aa ab (m_r01_Norm_L1 N aa ac) (decide (ad = 0))) else (m_r01_Norm_J1 aa ab (m_r01_Norm_L1 N aa ac) false)
termination_by structural x => x
def m_r01_Norm (N : Nat) (aa : (List Int)) : Option (List Int) :=
  m_r01_Norm_L1 N aa N (aa.length : Int)
theorem c_r01_Norm (N : Nat) (c1 : Nat) (col : Col) (w0 : World) (a0 : Option Addr) (cap0 : Nat) (ab : (List Int)) (h0 : Sl (Rep.int .u32) col w0 a0 cap0 ab) (r : (List Int)) (hm : m_r01_Norm N ab = some r) :
    Calls Tryz.prog 159 #[(.slice a0 ab.length cap0)] w0 (fun e w' => ∃ (col' : Col) (ra1 : Option Addr) (rc2 : Nat), e = .returned ((.slice ra1 r.length rc2)) ∧ Grow col w0 col' w' ∧ Own (Rep.int .u32) 114 c1 col' w' ra1 rc2 r) := by
 refine calls_of1 2 (m := 24) (args := [(.slice a0 ab.length cap0)]) Tryz.func159 rfl rfl rfl rfl rfl ?_
 rw [m_r01_Norm.eq_1] at hm
 have hst := St.start col w0
 refine wS <| wR <| lA (.slice none (([] : List Int).length) 0) <| lN <| wS <| wR <| lM (.slice a0 ab.length cap0) <| lV (.int .i64 (ab.length : Int)) (r_len Tryz.underlying36 rfl) <| lA (.int .i64 (ab.length : Int)) <| lN <| wS <| wB ?_
 replace h0 := h0.keep (Stay.start col w0)
 refine wloop (fun n f ak => ∃ (ae : Col) (aa : Int) (ad : Nat), ad = n ∧ m_r01_Norm_L1 N ab ad aa = some r ∧ St w0 (col0 col) ae ak ∧ Sl (Rep.int .u32) ae ak a0 cap0 ab ∧ f 0 = (.slice a0 ab.length cap0) ∧ f 3 = (.int .i64 aa) ∧ f 1000000 = (enc [])) N ⟨(col0 col), (ab.length : Int), N, rfl, hm, hst, h0, rfl, rfl, rfl⟩ ?_
 clear hm; intro n f ak hI
 obtain ⟨ae, aa, ad, hn, hm, hst, h0, hs0, hs3, hs1000000⟩ := hI
 subst hn
 refine .lD 0 hs0 <| .lD 3 hs3 <| .lD 1000000 hs1000000 ?_
 clear hs0 hs3 hs1000000
 cases ad with
 | zero => rw [m_r01_Norm_L1.eq_1] at hm; cases hm
 | succ ad =>
  rw [m_r01_Norm_L1.eq_2] at hm
  refine wS <| wS ?_
  refine Wp.cut (fun f ah => ∃ (af : Col) (ai : Bool), m_r01_Norm_J1 ab aa (m_r01_Norm_L1 N ab ad) ai = some r ∧ St w0 (col0 col) af ah ∧ Sl (Rep.int .u32) af ah a0 cap0 ab ∧ f 0 = (.slice a0 ab.length cap0) ∧ f 16 = (.bool ai) ∧ f 3 = (.int .i64 aa) ∧ f 1000000 = (enc [])) ?_ ?_
  ·intro f ah hJ
   obtain ⟨af, ai, hm, hst, h0, hs0, hs16, hs3, hs1000000⟩ := hJ
   rw [m_r01_Norm_J1.eq_1] at hm
   refine .lD 0 hs0 <| .lD 16 hs16 <| .lD 3 hs3 <| .lD 1000000 hs1000000 ?_
   clear hs0 hs16 hs3 hs1000000
   refine wcond (ai) rfl (fun hb => ?_) (fun hb => ?_)
   ·rw [if_pos hb] at hm
    clear hb
    refine wK <| wB <| wR <| lM (.int .i64 aa) <| lV (.int .i64 (IntKind.i64.wrap (aa - 1))) (r_sub aa 1 rfl rfl) <| lA (.int .i64 (IntKind.i64.wrap (aa - 1))) <| lN ?_
    exact ⟨ad, by omega, ⟨af, (IntKind.i64.wrap (aa - 1)), ad, rfl, hm, hst, h0, rfl, rfl, rfl⟩⟩
   rw [if_neg (by rw [hb]; decide)] at hm
   clear hb
   refine wexit (inB_hit ?_)
   refine wS <| wR <| lA (.slice none (([] : List Int).length) 0) <| lN <| wS <| wR <| lM (.slice none (([] : List Int).length) 0) <| lM (.slice a0 ab.length cap0) <| lM (.int .i64 aa) ?_
   obtain ⟨al, hm⟩ := cS hm
   refine lv (v := .slice a0 (Int.toNat aa) cap0) rfl rfl (r_sliceH Tryz.underlying36 Tryz.sizeOf114 rfl rfl al.1 (by have := h0.1.2; have := al.2; omega)) ?_
   refine .ld (d := 22) (v := (.slice a0 ((ab.take (Int.toNat aa)).length) cap0)) (congrArg (fun n => Value.slice a0 n cap0) (List.length_take_of_le (show (Int.toNat aa) ≤ ab.length by have := al.2; omega)).symm) ?_
   obtain ⟨am, hm⟩ := cS hm
   refine l_appendM (col := af) (w := ah) (r := (Rep.int .u32)) (c := 1) (c2 := 1) (xs := ([] : List Int)) (ys := ab.take (Int.toNat aa)) Own.nil (h0.take (Int.toNat aa)).srcC rfl Tryz.underlying36 el114_159 rfl rfl rfl am.1 am.2 (by decide) ?_
   intro an ao au ap aq ar
   refine lA (.slice an ((([] : List Int) ++ (ab.take (Int.toNat aa))).length) ao) <| lN ?_
   refine wret ?_
   cases hm
   replace hst := hst.kpp aq
   exact ⟨rfl, colF w0.heap.size col ap (fun n => bif Nat.beq n 1 then c1 else 0), an, ao, rfl, hst.fin (fun n => bif Nat.beq n 1 then c1 else 0), hst.finOwn (g := (fun n => bif Nat.beq n 1 then c1 else 0)) rfl ar (by decide) (by decide) rfl⟩
  refine wR <| lM (.int .i64 aa) <| lV (.bool (decide (0 < aa))) (r_gtr aa 0 rfl rfl) <| lM (.bool (decide (0 < aa))) ?_
  by_cases ac : (decide (0 < aa)) = true
  ·rw [if_pos ac] at hm
   refine lg (b := decide (0 < aa)) 9 rfl rfl rfl (by rw [ac]; rfl) ?_
   refine lM (.slice a0 ab.length cap0) ?_
   refine lg (b := decide (0 < aa)) 9 rfl rfl rfl (by rw [ac]; rfl) ?_
   refine lM (.int .i64 aa) ?_
   refine lg (b := decide (0 < aa)) 9 rfl rfl rfl (by rw [ac]; rfl) ?_
   refine lV (.int .i64 (IntKind.i64.wrap (aa - 1))) (r_sub aa 1 rfl rfl) ?_
   refine lg (b := decide (0 < aa)) 9 rfl rfl rfl (by rw [ac]; rfl) ?_
   obtain ⟨ag, aj, hm⟩ := bS hm
   refine lV (sptr a0 (Int.toNat (IntKind.i64.wrap (aa - 1)) * 1)) (r_idx Tryz.underlying36 Tryz.sizeOf114 rfl rfl (at?_some aj).1 (at?_some aj).2.1 (h0.addr aj)) ?_
   refine lg (b := decide (0 < aa)) 9 rfl rfl rfl (by rw [ac]; rfl) ?_
   refine lV (.int .u32 ag) (r_ld Tryz.isAgg114 rfl (h0.atInt aj)) ?_
   refine lg (b := decide (0 < aa)) 9 rfl rfl rfl (by rw [ac]; rfl) ?_
   refine lV (.bool (decide (ag = 0))) (r_eql ag 0 rfl rfl) <| lV (.bool (decide (ag = 0))) (r_pickT (congrArg Value.bool ac) rfl) <| lN ?_
   exact ⟨ae, (decide (ag = 0)), hm, hst, h0, rfl, rfl, rfl, rfl⟩
  rw [if_neg ac] at hm
  replace ac := Bool.eq_false_iff.2 ac
  refine lp (b := decide (0 < aa)) 9 rfl rfl rfl rfl (by rw [ac]; rfl) ?_
  refine lp (b := decide (0 < aa)) 9 rfl rfl rfl rfl (by rw [ac]; rfl) ?_
  refine lp (b := decide (0 < aa)) 9 rfl rfl rfl rfl (by rw [ac]; rfl) ?_
  refine lp (b := decide (0 < aa)) 9 rfl rfl rfl rfl (by rw [ac]; rfl) ?_
  refine lp (b := decide (0 < aa)) 9 rfl rfl rfl rfl (by rw [ac]; rfl) ?_
  refine lp (b := decide (0 < aa)) 9 rfl rfl rfl rfl (by rw [ac]; rfl) ?_
  refine lV (.bool false) (r_pickF (congrArg Value.bool ac) rfl) <| lN ?_
  exact ⟨ae, false, hm, hst, h0, rfl, rfl, rfl, rfl⟩
theorem el114_162 : ElemOk Tryz.prog 114 1 4 := ⟨Tryz.t114, _, rfl, rfl, rfl, rfl, rfl⟩
def m_r01_Of (N : Nat) (aa : Int) : Option (List Int) :=
  (m_r01_Norm N [IntKind.u32.wrap (Int.tmod aa 4294967296), IntKind.u32.wrap (IntKind.u64.wrap (Int.tdiv aa 4294967296))]).bind fun ab => some ab
theorem c_r01_Of (N : Nat) (c1 : Nat) (col : Col) (w0 : World) (aa : Int) (r : (List Int)) (hm : m_r01_Of N aa = some r) :
    Calls Tryz.prog 162 #[(.int .u64 aa)] w0 (fun e w' => ∃ (col' : Col) (ra1 : Option Addr) (rc2 : Nat), e = .returned ((.slice ra1 r.length rc2)) ∧ Grow col w0 col' w' ∧ Own (Rep.int .u32) 114 c1 col' w' ra1 rc2 r) := by
 refine calls_of1 2 (m := 11) (args := [(.int .u64 aa)]) Tryz.func162 rfl rfl rfl rfl rfl ?_
 rw [m_r01_Of.eq_1] at hm
 have hst := St.start col w0
 refine wS <| wR <| lA (.slice none (([] : List Int).length) 0) <| lN <| wS <| wR <| lM (.int .u64 aa) <| lV (.int .u64 (Int.tmod aa 4294967296)) (r_rem aa 4294967296 rfl rfl (by decide)) <| lV (.int .u32 (IntKind.u32.wrap (Int.tmod aa 4294967296))) (r_conv (Int.tmod aa 4294967296) ⟨_, Tryz.underlying108⟩ Tryz.underlying114 rfl) <| lM (.int .u64 aa) <| lV (.int .u64 (IntKind.u64.wrap (Int.tdiv aa 4294967296))) (r_quo aa 4294967296 rfl rfl (by decide)) <| lV (.int .u32 (IntKind.u32.wrap (IntKind.u64.wrap (Int.tdiv aa 4294967296)))) (r_conv (IntKind.u64.wrap (Int.tdiv aa 4294967296)) ⟨_, Tryz.underlying108⟩ Tryz.underlying114 rfl) ?_
 refine l_lit (col := (col0 col)) (r := (Rep.int .u32)) (xs := [IntKind.u32.wrap (Int.tmod aa 4294967296), IntKind.u32.wrap (IntKind.u64.wrap (Int.tdiv aa 4294967296))]) [(.int .u32 (IntKind.u32.wrap (Int.tmod aa 4294967296))), (.int .u32 (IntKind.u32.wrap (IntKind.u64.wrap (Int.tdiv aa 4294967296))))] 1 rfl Tryz.underlying36 el114_162 rfl rfl rfl rfl rfl rfl (by intro v hv; simp only [List.mem_cons, List.not_mem_nil, or_false] at hv; rcases hv with rfl | rfl <;> rfl) (RowsH.ofF (Rows.consF (r := (Rep.int .u32)) (x := IntKind.u32.wrap (Int.tmod aa 4294967296)) (cs := [(.int .u32 (IntKind.u32.wrap (Int.tmod aa 4294967296)))]) (rd_int .u32 (IntKind.u32.wrap (Int.tmod aa 4294967296))) (Rows.consF (r := (Rep.int .u32)) (x := IntKind.u32.wrap (IntKind.u64.wrap (Int.tdiv aa 4294967296))) (cs := [(.int .u32 (IntKind.u32.wrap (IntKind.u64.wrap (Int.tdiv aa 4294967296))))]) (rd_int .u32 (IntKind.u32.wrap (IntKind.u64.wrap (Int.tdiv aa 4294967296)))) Rows.nil0))) ?_
 intro ah ai ab aj ak
 obtain ⟨ae, al, hm⟩ := bS hm
 refine lc rfl rfl (r_call1 Tryz.call159 rfl) (c_r01_Norm N 2 (frC 1 ab) _ ah 2 [IntKind.u32.wrap (Int.tmod aa 4294967296), IntKind.u32.wrap (IntKind.u64.wrap (Int.tdiv aa 4294967296))] (ak.toSlF (Froz.int .u32)) ae al) ?_
 rintro _ ao ⟨am, af, ag, rfl, ac, ad⟩
 refine ⟨_, rfl, ?_⟩
 replace ad := ad.thaw (flat_int .u32) ac ((Fz.refl (col := ab)).froz 1) (by decide)
 replace ac := ac.thawR (col := ab)
 generalize colR ai.heap.size ab am = an at *
 refine lA (.slice af ae.length ag) <| lN ?_
 refine wret ?_
 cases hm
 replace hst := (hst.grow aj).grow ac
 exact ⟨rfl, colF w0.heap.size col an (fun n => bif Nat.beq n 2 then c1 else 0), af, ag, rfl, hst.fin (fun n => bif Nat.beq n 2 then c1 else 0), hst.finOwn (g := (fun n => bif Nat.beq n 2 then c1 else 0)) rfl ad (by decide) (by decide) rfl⟩
def m_r02_Make_J1 (aa : Bool) (ab : List Int) : Option (Bool × (List Int)) :=
  some (aa, ab)
def m_r02_Make (N : Nat) (ab : Bool) (ac : (List Int)) : Option (Bool × (List Int)) :=
  (m_r01_Norm N ac).bind fun aa => if ab = true then (m_r02_Make_J1 (decide (0 < (aa.length : Int))) aa) else (m_r02_Make_J1 false aa)
theorem c_r02_Make (N : Nat) (c1 : Nat) (col : Col) (w0 : World) (ab : Bool) (a1 : Option Addr) (cap1 : Nat) (ah : (List Int)) (h1 : Sl (Rep.int .u32) col w0 a1 cap1 ah) (r : (Bool × (List Int))) (hm : m_r02_Make N ab ah = some r) :
    Calls Tryz.prog 157 #[(.bool ab), (.slice a1 ah.length cap1)] w0 (fun e w' => ∃ (col' : Col) (ra1 : Option Addr) (rc2 : Nat), e = .returned ((.agg #[(.bool r.1), (.slice ra1 r.2.length rc2)])) ∧ Grow col w0 col' w' ∧ Own (Rep.int .u32) 114 c1 col' w' ra1 rc2 r.2) := by
 refine calls_ofR (m := 16) (args := [(.bool ab), (.slice a1 ah.length cap1)]) Tryz.func157 rfl rfl rfl ?_
 rw [m_r02_Make.eq_1] at hm
 have hst := St.start col w0
 refine wS <| wR ?_
 refine l_alloc (col := (col0 col)) (v := (.agg #[(.bool false), (.slice none (([] : List Int).length) 0)])) 1 rfl Tryz.zeroValue38 ?_
 intro ai az au av af
 replace af : Box 38 1 au az ai #[(.bool false), (.slice none (([] : List Int).length) 0)] := af
 refine lN <| wS <| wR <| lM (.slice a1 ah.length cap1) ?_
 obtain ⟨aa, a0, hm⟩ := bS hm
 replace h1 := (h1.keep (Stay.start col w0)).gr av
 refine lc rfl rfl (r_call1 Tryz.call159 rfl) (c_r01_Norm N 2 au _ a1 cap1 ah h1 aa a0) ?_
 rintro _ a7 ⟨am, ac, ad, rfl, aw, ag⟩
 refine ⟨_, rfl, ?_⟩
 refine lA (.slice ac aa.length ad) <| lN <| wS ?_
 replace hst := (hst.grow av).grow aw
 replace af := af.gr aw
 refine Wp.cut (fun f an => ∃ (aj : Col) (ar : Bool) (ao : Option Addr) (ap : Nat) (aq : List Int), m_r02_Make_J1 ar aq = some r ∧ St w0 (col0 col) aj an ∧ Own (Rep.int .u32) 114 3 aj an ao ap aq ∧ Box 38 1 aj an ai #[(.bool ar), (.slice ao aq.length ap)] ∧ f 4 = (.pointer (some ⟨ai, 0, none⟩)) ∧ f 1000000 = (enc [])) ?_ ?_
 ·intro f an hJ
  obtain ⟨aj, ar, ao, ap, aq, hm, hst, a2, af, hs4, hs1000000⟩ := hJ
  rw [m_r02_Make_J1.eq_1] at hm
  refine .lD 4 hs4 <| .lD 1000000 hs1000000 ?_
  clear hs4 hs1000000
  refine wret ?_
  cases hm
  exact ⟨rfl, _, res_a rfl rfl Tryz.isAgg38 Tryz.sizeOf38 rfl rfl af.atN, colF w0.heap.size col aj (fun n => bif Nat.beq n 3 then c1 else 0), ao, ap, rfl, hst.fin (fun n => bif Nat.beq n 3 then c1 else 0), hst.finOwn (g := (fun n => bif Nat.beq n 3 then c1 else 0)) rfl a2 (by decide) (by decide) rfl⟩
 refine wR <| lM (.bool ab) <| lM (.bool ab) ?_
 by_cases ae : ab = true
 ·rw [if_pos ae] at hm
  refine lg (b := ab) 9 rfl rfl rfl (by rw [ae]; rfl) ?_
  refine lM (.slice ac aa.length ad) ?_
  refine lg (b := ab) 9 rfl rfl rfl (by rw [ae]; rfl) ?_
  refine lV (.int .i64 (aa.length : Int)) (r_len Tryz.underlying36 rfl) ?_
  refine lg (b := ab) 9 rfl rfl rfl (by rw [ae]; rfl) ?_
  refine lV (.bool (decide (0 < (aa.length : Int)))) (r_gtr (aa.length : Int) 0 rfl rfl) <| lV (.bool (decide (0 < (aa.length : Int)))) (r_pickT (congrArg Value.bool ae) rfl) <| lM (.slice ac aa.length ad) <| lV (.agg #[(.bool (decide (0 < (aa.length : Int)))), (.slice ac aa.length ad)]) (r_build (l := [_, _]) (qs := [(0, 1), (1, 1)]) Tryz.underlying38 Tryz.zeroValue38 ⟨rfl, Tryz.sizeOf4, rfl, Tryz.sizeOf36, trivial⟩ rfl) ?_
  refine l_bstore (v := (.agg #[(.bool (decide (0 < (aa.length : Int)))), (.slice ac aa.length ad)])) af Tryz.sizeOf38 rfl rfl (by intro u hu; simp only [Value.cells, List.mem_cons, List.not_mem_nil, or_false] at hu; rcases hu with rfl | rfl <;> rfl) rfl rfl ?_
  intro a3 ax a4 ak
  clear af
  replace ak : Box 38 1 am a3 ai #[(.bool (decide (0 < (aa.length : Int)))), (.slice ac aa.length ad)] := ak
  refine lN ?_
  replace ag := ag.kp ax
  replace ag := ag.recolSelf 3 (by decide)
  replace ak := ak.recol 2 3 (by decide)
  replace hst := hst.kp ax a4
  replace hst := hst.recol 2 3 (by decide) (by decide)
  exact ⟨(rcC 2 3 am), (decide (0 < (aa.length : Int))), ac, ad, aa, hm, hst, ag, ak, rfl, rfl⟩
 rw [if_neg ae] at hm
 replace ae := Bool.eq_false_iff.2 ae
 refine lp (b := ab) 9 rfl rfl rfl rfl (by rw [ae]; rfl) ?_
 refine lp (b := ab) 9 rfl rfl rfl rfl (by rw [ae]; rfl) ?_
 refine lp (b := ab) 9 rfl rfl rfl rfl (by rw [ae]; rfl) ?_
 refine lV (.bool false) (r_pickF (congrArg Value.bool ae) rfl) <| lM (.slice ac aa.length ad) <| lV (.agg #[(.bool false), (.slice ac aa.length ad)]) (r_build (l := [_, _]) (qs := [(0, 1), (1, 1)]) Tryz.underlying38 Tryz.zeroValue38 ⟨rfl, Tryz.sizeOf4, rfl, Tryz.sizeOf36, trivial⟩ rfl) ?_
 refine l_bstore (v := (.agg #[(.bool false), (.slice ac aa.length ad)])) af Tryz.sizeOf38 rfl rfl (by intro u hu; simp only [Value.cells, List.mem_cons, List.not_mem_nil, or_false] at hu; rcases hu with rfl | rfl <;> rfl) rfl rfl ?_
 intro a5 ay a6 al
 clear af
 replace al : Box 38 1 am a5 ai #[(.bool false), (.slice ac aa.length ad)] := al
 refine lN ?_
 replace ag := ag.kp ay
 replace ag := ag.recolSelf 3 (by decide)
 replace al := al.recol 2 3 (by decide)
 replace hst := hst.kp ay a6
 replace hst := hst.recol 2 3 (by decide) (by decide)
 exact ⟨(rcC 2 3 am), false, ac, ad, aa, hm, hst, ag, al, rfl, rfl⟩
def m_r02_Of (N : Nat) (aa : Int) : Option (Bool × (List Int)) :=
  if (decide (0 ≤ aa)) = true then ((m_r01_Of N (IntKind.u64.wrap aa)).bind fun ac => (m_r02_Make N false ac).bind fun ab => some (ab.1, ab.2)) else none
theorem c_r02_Of (N : Nat) (c1 : Nat) (col : Col) (w0 : World) (aa : Int) (r : (Bool × (List Int))) (hm : m_r02_Of N aa = some r) :
    Calls Tryz.prog 137 #[(.int .i64 aa)] w0 (fun e w' => ∃ (col' : Col) (ra1 : Option Addr) (rc2 : Nat), e = .returned ((.agg #[(.bool r.1), (.slice ra1 r.2.length rc2)])) ∧ Grow col w0 col' w' ∧ Own (Rep.int .u32) 114 c1 col' w' ra1 rc2 r.2) := by
 refine calls_ofR (m := 17) (args := [(.int .i64 aa)]) Tryz.func137 rfl rfl rfl ?_
 rw [m_r02_Of.eq_1] at hm
 have hst := St.start col w0
 refine wS <| wR ?_
 refine l_alloc (col := (col0 col)) (v := (.agg #[(.bool false), (.slice none (([] : List Int).length) 0)])) 1 rfl Tryz.zeroValue38 ?_
 intro aj ap ak aq ab
 replace ab : Box 38 1 ak ap aj #[(.bool false), (.slice none (([] : List Int).length) 0)] := ab
 refine lN <| wS <| wS <| wR <| lM (.int .i64 aa) <| lV (.bool (decide (0 ≤ aa))) (r_geq aa 0 rfl rfl) <| lN ?_
 replace hst := hst.grow aq
 refine wcond (decide (0 ≤ aa)) rfl (fun hb => ?_) (fun hb => ?_)
 ·rw [if_pos hb] at hm
  clear hb
  refine wS <| wR <| lM (.int .i64 aa) <| lV (.int .u64 (IntKind.u64.wrap aa)) (r_conv aa ⟨_, Tryz.underlying3⟩ Tryz.underlying108 rfl) ?_
  obtain ⟨al, ar, hm⟩ := bS hm
  refine lc rfl rfl (r_call1 Tryz.call162 rfl) (c_r01_Of N 2 ak _ (IntKind.u64.wrap aa) al ar) ?_
  rintro _ au ⟨af, av, aw, rfl, am, ax⟩
  refine ⟨_, rfl, ?_⟩
  obtain ⟨ac, ay, hm⟩ := bS hm
  refine lc rfl rfl (r_call2 Tryz.call157 rfl rfl) (c_r02_Make N 3 (frC 2 af) _ false av aw al (ax.toSlF (Froz.int .u32)) ac ay) ?_
  rintro _ a2 ⟨az, ag, ah, rfl, ad, ae⟩
  refine ⟨_, rfl, ?_⟩
  replace ae := ae.thaw (flat_int .u32) ad ((Fz.refl (col := af)).froz 2) (by decide)
  replace ad := ad.thawR (col := af)
  generalize colR au.heap.size af az = an at *
  replace ab := (ab.gr am).gr ad
  refine l_bstore (v := (.agg #[(.bool ac.1), (.slice ag ac.2.length ah)])) ab Tryz.sizeOf38 rfl rfl (by intro u hu; simp only [Value.cells, List.mem_cons, List.not_mem_nil, or_false] at hu; rcases hu with rfl | rfl <;> rfl) rfl rfl ?_
  intro a0 ao a1 ai
  clear ab
  replace ai : Box 38 1 an a0 aj #[(.bool ac.1), (.slice ag ac.2.length ah)] := ai
  refine lN ?_
  refine wret ?_
  cases hm
  replace hst := ((hst.grow am).grow ad).kp ao a1
  replace ae := ae.kp ao
  exact ⟨rfl, _, res_a rfl rfl Tryz.isAgg38 Tryz.sizeOf38 rfl rfl ai.atN, colF w0.heap.size col an (fun n => bif Nat.beq n 3 then c1 else 0), ag, ah, rfl, hst.fin (fun n => bif Nat.beq n 3 then c1 else 0), hst.finOwn (g := (fun n => bif Nat.beq n 3 then c1 else 0)) rfl ae (by decide) (by decide) rfl⟩
 rw [if_neg (by rw [hb]; decide)] at hm
 clear hb
 cases hm
def m_r02_Norm (N : Nat) (aa : (Bool × (List Int))) : Option (Bool × (List Int)) :=
  (m_r02_Make N aa.1 aa.2).bind fun ab => some (ab.1, ab.2)
theorem c_r02_Norm (N : Nat) (c1 : Nat) (col : Col) (w0 : World) (ab : Option Addr) (ac : Nat) (aa : (Bool × (List Int))) (ag : Sl (Rep.int .u32) col w0 ab ac aa.2) (r : (Bool × (List Int))) (hm : m_r02_Norm N aa = some r) :
    Calls Tryz.prog 177 #[(.agg #[(.bool aa.1), (.slice ab aa.2.length ac)])] w0 (fun e w' => ∃ (col' : Col) (ra1 : Option Addr) (rc2 : Nat), e = .returned ((.agg #[(.bool r.1), (.slice ra1 r.2.length rc2)])) ∧ Grow col w0 col' w' ∧ Own (Rep.int .u32) 114 c1 col' w' ra1 rc2 r.2) := by
 refine calls_ofR (m := 8) (args := [(.agg #[(.bool aa.1), (.slice ab aa.2.length ac)])]) Tryz.func177 rfl rfl rfl ?_
 rw [m_r02_Norm.eq_1] at hm
 have hst := St.start col w0
 refine wS <| wR ?_
 refine l_box (col := (col0 col)) (v := (.agg #[(.bool aa.1), (.slice ab aa.2.length ac)])) 1 rfl rfl ?_
 intro ah aw an ao ad
 replace ad : Box 38 1 an aw ah #[(.bool aa.1), (.slice ab aa.2.length ac)] := ad
 refine l_alloc (col := an) (v := (.agg #[(.bool false), (.slice none (([] : List Int).length) 0)])) 2 rfl Tryz.zeroValue38 ?_
 intro ap ax aq ai ae
 replace ae : Box 38 2 aq ax ap #[(.bool false), (.slice none (([] : List Int).length) 0)] := ae
 refine lN <| wS <| wR <| lV (.pointer ((some (⟨ah, 0, none⟩ : Addr)).map (·.add 0))) (rF (sz := 1) (off := 0) Tryz.underlying38 rfl Tryz.sizeOf4 (by decide) rfl rfl ⟨_, _, rfl⟩) ?_
 replace ad := ad.gr ai
 refine lV (.bool aa.1) (r_ld Tryz.isAgg4 rfl ((ad.atN).nth (q := 0) (v := (.bool aa.1)) rfl)) <| lV (.pointer ((some (⟨ah, 0, none⟩ : Addr)).map (·.add 1))) (rF (sz := 1) (off := 1) Tryz.underlying38 rfl Tryz.sizeOf36 (by decide) rfl rfl ⟨_, _, rfl⟩) <| lV (.slice ab aa.2.length ac) (r_ld Tryz.isAgg36 rfl ((ad.atN).nth (q := 1) (v := (.slice ab aa.2.length ac)) rfl)) ?_
 obtain ⟨af, ay, hm⟩ := bS hm
 replace ag := ((ag.keep (Stay.start col w0)).gr ao).gr ai
 refine lc rfl rfl (r_call2 Tryz.call157 rfl rfl) (c_r02_Make N 3 aq _ aa.1 ab ac aa.2 ag af ay) ?_
 rintro _ a1 ⟨ar, aj, ak, rfl, au, al⟩
 refine ⟨_, rfl, ?_⟩
 replace ae := ae.gr au
 refine l_bstore (v := (.agg #[(.bool af.1), (.slice aj af.2.length ak)])) ae Tryz.sizeOf38 rfl rfl (by intro u hu; simp only [Value.cells, List.mem_cons, List.not_mem_nil, or_false] at hu; rcases hu with rfl | rfl <;> rfl) rfl rfl ?_
 intro az av a0 am
 clear ae
 replace am : Box 38 2 ar az ap #[(.bool af.1), (.slice aj af.2.length ak)] := am
 refine lN ?_
 refine wret ?_
 cases hm
 replace hst := (((hst.grow ao).grow ai).grow au).kp av a0
 replace al := al.kp av
 exact ⟨rfl, _, res_a rfl rfl Tryz.isAgg38 Tryz.sizeOf38 rfl rfl am.atN, colF w0.heap.size col ar (fun n => bif Nat.beq n 3 then c1 else 0), aj, ak, rfl, hst.fin (fun n => bif Nat.beq n 3 then c1 else 0), hst.finOwn (g := (fun n => bif Nat.beq n 3 then c1 else 0)) rfl al (by decide) (by decide) rfl⟩
def m_r02_Sign (N : Nat) (aa : (Bool × (List Int))) : Option Int :=
  (m_r02_Norm N (aa.1, aa.2)).bind fun ab => if (decide ((ab.2.length : Int) = 0)) = true then none else (if ab.1 = true then none else (some 1))
theorem c_r02_Sign (N : Nat) (col : Col) (w0 : World) (ac : Option Addr) (ad : Nat) (aa : (Bool × (List Int))) (aj : Sl (Rep.int .u32) col w0 ac ad aa.2) (r : Int) (hm : m_r02_Sign N aa = some r) :
    Calls Tryz.prog 155 #[(.agg #[(.bool aa.1), (.slice ac aa.2.length ad)])] w0 (fun e w' => e = .returned ((.int .i64 r)) ∧ Below w0.heap.size w0 w') := by
 refine calls_of1 2 (m := 12) (args := [(.agg #[(.bool aa.1), (.slice ac aa.2.length ad)])]) Tryz.func155 rfl rfl rfl rfl rfl ?_
 rw [m_r02_Sign.eq_1] at hm
 have hst := St.start col w0
 refine wS <| wR ?_
 refine l_box (col := (col0 col)) (v := (.agg #[(.bool aa.1), (.slice ac aa.2.length ad)])) 1 rfl rfl ?_
 intro ao ap al am ak
 replace ak : Box 38 1 al ap ao #[(.bool aa.1), (.slice ac aa.2.length ad)] := ak
 refine lA (.int .i64 0) <| lN <| wS <| wR <| lV (.agg #[(.bool aa.1), (.slice ac aa.2.length ad)]) (r_ldN Tryz.isAgg38 Tryz.sizeOf38 rfl rfl ak.atN) ?_
 obtain ⟨ab, aq, hm⟩ := bS hm
 replace aj := (aj.keep (Stay.start col w0)).gr am
 refine lc rfl rfl (r_call1 Tryz.call177 rfl) (c_r02_Norm N 2 al _ ac ad (aa.1, aa.2) aj ab aq) ?_
 rintro _ a0 ⟨ar, ae, af, rfl, au, a1⟩
 refine ⟨_, rfl, ?_⟩
 refine l_alloc (col := ar) (v := (.agg #[(.bool false), (.slice none (([] : List Int).length) 0)])) 3 rfl Tryz.zeroValue38 ?_
 intro ag av an aw ah
 replace ah : Box 38 3 an av ag #[(.bool false), (.slice none (([] : List Int).length) 0)] := ah
 refine l_bstore (v := (.agg #[(.bool ab.1), (.slice ae ab.2.length af)])) ah Tryz.sizeOf38 rfl rfl (by intro u hu; simp only [Value.cells, List.mem_cons, List.not_mem_nil, or_false] at hu; rcases hu with rfl | rfl <;> rfl) rfl rfl ?_
 intro ax ay az ai
 clear ah
 replace ai : Box 38 3 an ax ag #[(.bool ab.1), (.slice ae ab.2.length af)] := ai
 refine lN <| wS <| wS <| wR <| lV (.pointer ((some (⟨ag, 0, none⟩ : Addr)).map (·.add 1))) (rF (sz := 1) (off := 1) Tryz.underlying38 rfl Tryz.sizeOf36 (by decide) rfl rfl ⟨_, _, rfl⟩) <| lV (.slice ae ab.2.length af) (r_ld Tryz.isAgg36 rfl ((ai.atN).nth (q := 1) (v := (.slice ae ab.2.length af)) rfl)) <| lV (.int .i64 (ab.2.length : Int)) (r_len Tryz.underlying36 rfl) <| lV (.bool (decide ((ab.2.length : Int) = 0))) (r_eql (ab.2.length : Int) 0 rfl rfl) <| lN ?_
 replace hst := (((hst.grow am).grow au).grow aw).kp ay az
 refine wcond (decide ((ab.2.length : Int) = 0)) rfl (fun hb => ?_) (fun hb => ?_)
 ·rw [if_pos hb] at hm
  clear hb
  cases hm
 rw [if_neg (by rw [hb]; decide)] at hm
 clear hb
 refine wK <| wS <| wS <| wR <| lV (.pointer ((some (⟨ag, 0, none⟩ : Addr)).map (·.add 0))) (rF (sz := 1) (off := 0) Tryz.underlying38 rfl Tryz.sizeOf4 (by decide) rfl rfl ⟨_, _, rfl⟩) <| lV (.bool ab.1) (r_ld Tryz.isAgg4 rfl ((ai.atN).nth (q := 0) (v := (.bool ab.1)) rfl)) <| lN ?_
 refine wcond (ab.1) rfl (fun hb => ?_) (fun hb => ?_)
 ·rw [if_pos hb] at hm
  clear hb
  cases hm
 rw [if_neg (by rw [hb]; decide)] at hm
 clear hb
 refine wK <| wS <| wR <| lA (.int .i64 1) <| lN ?_
 refine wret ?_
 cases hm
 exact ⟨rfl, rfl, hst.below⟩
def m_r01_even_J1 (aa : Bool) : Option Bool :=
  some aa
def m_r01_even (aa : (List Int)) : Option Bool :=
  if (decide ((aa.length : Int) = 0)) = true then (m_r01_even_J1 true) else ((at? aa 0).bind fun ab => m_r01_even_J1 (decide ((Int.tmod ab 2) = 0)))
theorem c_r01_even (col : Col) (w0 : World) (a0 : Option Addr) (cap0 : Nat) (aa : (List Int)) (h0 : Sl (Rep.int .u32) col w0 a0 cap0 aa) (r : Bool) (hm : m_r01_even aa = some r) :
    Calls Tryz.prog 190 #[(.slice a0 aa.length cap0)] w0 (fun e w' => e = .returned ((.bool r)) ∧ Below w0.heap.size w0 w') := by
 refine calls_of1 2 (m := 13) (args := [(.slice a0 aa.length cap0)]) Tryz.func190 rfl rfl rfl rfl rfl ?_
 rw [m_r01_even.eq_1] at hm
 have hst := St.start col w0
 refine wS <| wR <| lA (.bool false) <| lN <| wS ?_
 replace h0 := h0.keep (Stay.start col w0)
 refine Wp.cut (fun f af => ∃ (ag : Col) (ae : Bool), m_r01_even_J1 ae = some r ∧ St w0 (col0 col) ag af ∧ f 2 = (.bool ae) ∧ f 1000000 = (enc [])) ?_ ?_
 ·intro f af hJ
  obtain ⟨ag, ae, hm, hst, hs2, hs1000000⟩ := hJ
  rw [m_r01_even_J1.eq_1] at hm
  refine .lD 2 hs2 <| .lD 1000000 hs1000000 ?_
  clear hs2 hs1000000
  refine wret ?_
  cases hm
  exact ⟨rfl, rfl, hst.below⟩
 refine wR <| lM (.slice a0 aa.length cap0) <| lV (.int .i64 (aa.length : Int)) (r_len Tryz.underlying36 rfl) <| lV (.bool (decide ((aa.length : Int) = 0))) (r_eql (aa.length : Int) 0 rfl rfl) <| lM (.bool (decide ((aa.length : Int) = 0))) ?_
 by_cases ab : (decide ((aa.length : Int) = 0)) = true
 ·rw [if_pos ab] at hm
  refine lp (b := decide ((aa.length : Int) = 0)) 6 rfl rfl rfl rfl (by rw [ab]; rfl) ?_
  refine lp (b := decide ((aa.length : Int) = 0)) 6 rfl rfl rfl rfl (by rw [ab]; rfl) ?_
  refine lp (b := decide ((aa.length : Int) = 0)) 6 rfl rfl rfl rfl (by rw [ab]; rfl) ?_
  refine lp (b := decide ((aa.length : Int) = 0)) 6 rfl rfl rfl rfl (by rw [ab]; rfl) ?_
  refine lp (b := decide ((aa.length : Int) = 0)) 6 rfl rfl rfl rfl (by rw [ab]; rfl) ?_
  refine lV (.bool true) (r_pickT (congrArg Value.bool ab) rfl) <| lA (.bool true) <| lN ?_
  exact ⟨(col0 col), true, hm, hst, rfl, rfl⟩
 rw [if_neg ab] at hm
 replace ab := Bool.eq_false_iff.2 ab
 refine lg (b := decide ((aa.length : Int) = 0)) 6 rfl rfl rfl (by rw [ab]; rfl) ?_
 refine lM (.slice a0 aa.length cap0) ?_
 refine lg (b := decide ((aa.length : Int) = 0)) 6 rfl rfl rfl (by rw [ab]; rfl) ?_
 obtain ⟨ac, ad, hm⟩ := bS hm
 refine lV (sptr a0 (Int.toNat 0 * 1)) (r_idx Tryz.underlying36 Tryz.sizeOf114 rfl rfl (at?_some ad).1 (at?_some ad).2.1 (h0.addr ad)) ?_
 refine lg (b := decide ((aa.length : Int) = 0)) 6 rfl rfl rfl (by rw [ab]; rfl) ?_
 refine lV (.int .u32 ac) (r_ld Tryz.isAgg114 rfl (h0.atInt ad)) ?_
 refine lg (b := decide ((aa.length : Int) = 0)) 6 rfl rfl rfl (by rw [ab]; rfl) ?_
 refine lV (.int .u32 (Int.tmod ac 2)) (r_rem ac 2 rfl rfl (by decide)) ?_
 refine lg (b := decide ((aa.length : Int) = 0)) 6 rfl rfl rfl (by rw [ab]; rfl) ?_
 refine lV (.bool (decide ((Int.tmod ac 2) = 0))) (r_eql (Int.tmod ac 2) 0 rfl rfl) <| lV (.bool (decide ((Int.tmod ac 2) = 0))) (r_pickF (congrArg Value.bool ab) rfl) <| lA (.bool (decide ((Int.tmod ac 2) = 0))) <| lN ?_
 exact ⟨(col0 col), (decide ((Int.tmod ac 2) = 0)), hm, hst, rfl, rfl⟩
def m_r01_half_L1 (N : Nat) (ac : (List Int)) : Nat → (List Int) → Int → Int → Option (List Int)
  | 0, _, _, _ => none
  | af + 1, ab, ad, aa => if (decide (0 ≤ aa)) = true then ((at? ac aa).bind fun ae => (at? ab aa).bind fun ai => (some (ab.set (Int.toNat aa) (IntKind.u32.wrap (IntKind.u64.wrap (Int.tdiv (IntKind.u64.wrap ((IntKind.u64.wrap (ad * 4294967296)) + (IntKind.u64.wrap ae))) 2))))).bind fun ag => (m_r01_half_L1 N ac af) ag (Int.tmod (IntKind.u64.wrap ((IntKind.u64.wrap (ad * 4294967296)) + (IntKind.u64.wrap ae))) 2) (IntKind.i64.wrap (aa - 1))) else ((m_r01_Norm N ab).bind fun ah => some ah)
termination_by structural x => x
def m_r01_half (N : Nat) (aa : (List Int)) : Option (List Int) :=
  chk (aa.length * 4 ≤ 281474976710656 ∧ aa.length ≤ maxLen) (m_r01_half_L1 N aa N (List.replicate aa.length (0 : Int)) 0 (IntKind.i64.wrap ((aa.length : Int) - 1)))
theorem c_r01_half (N : Nat) (c1 : Nat) (col : Col) (w0 : World) (a0 : Option Addr) (cap0 : Nat) (ab : (List Int)) (h0 : Sl (Rep.int .u32) col w0 a0 cap0 ab) (r : (List Int)) (hm : m_r01_half N ab = some r) :
    Calls Tryz.prog 191 #[(.slice a0 ab.length cap0)] w0 (fun e w' => ∃ (col' : Col) (ra1 : Option Addr) (rc2 : Nat), e = .returned ((.slice ra1 r.length rc2)) ∧ Grow col w0 col' w' ∧ Own (Rep.int .u32) 114 c1 col' w' ra1 rc2 r) := by
 refine calls_of1 2 (m := 34) (args := [(.slice a0 ab.length cap0)]) Tryz.func191 rfl rfl rfl rfl rfl ?_
 rw [m_r01_half.eq_1] at hm
 have hst := St.start col w0
 refine wS <| wR <| lA (.slice none (([] : List Int).length) 0) <| lN <| wS <| wR <| lM (.slice a0 ab.length cap0) <| lV (.int .i64 (ab.length : Int)) (r_len Tryz.underlying36 rfl) ?_
 obtain ⟨ar, hm⟩ := cS hm
 refine l_make (col := (col0 col)) (w := w0) (r := (Rep.int .u32)) (n := ab.length) (x0 := 0) 1 rfl Tryz.underlying36 Tryz.t114 rfl rfl rfl rfl rfl rfl rfl ar.1 ar.2 (rd_int .u32 0) ?_
 intro au a8 a2 av a3
 refine lA (.slice au ((List.replicate ab.length (0 : Int)).length) ab.length) <| lN <| wS <| wR <| lA (.int .u64 0) <| lN <| wS <| wS <| wR <| lM (.slice a0 ab.length cap0) <| lV (.int .i64 (ab.length : Int)) (r_len Tryz.underlying36 rfl) <| lV (.int .i64 (IntKind.i64.wrap ((ab.length : Int) - 1))) (r_sub (ab.length : Int) 1 rfl rfl) <| lA (.int .i64 (IntKind.i64.wrap ((ab.length : Int) - 1))) <| lN <| wB ?_
 replace h0 := (h0.keep (Stay.start col w0)).gr av
 replace hst := hst.grow av
 refine wloop (fun n f aj => ∃ (af : Col) (ae : Option Addr) (ag : Nat) (ah : List Int) (aa : Int) (ad : Int) (ai : Nat), ai = n ∧ m_r01_half_L1 N ab ai ah aa ad = some r ∧ St w0 (col0 col) af aj ∧ Sl (Rep.int .u32) af aj a0 cap0 ab ∧ Own (Rep.int .u32) 114 1 af aj ae ag ah ∧ f 0 = (.slice a0 ab.length cap0) ∧ f 3 = (.slice ae ah.length ag) ∧ f 4 = (.int .u64 aa) ∧ f 5 = (.int .i64 ad) ∧ f 1000000 = (enc [])) N ⟨a2, au, ab.length, (List.replicate ab.length (0 : Int)), 0, (IntKind.i64.wrap ((ab.length : Int) - 1)), N, rfl, hm, hst, h0, a3, rfl, rfl, rfl, rfl, rfl⟩ ?_
 clear hm; intro n f aj hI
 obtain ⟨af, ae, ag, ah, aa, ad, ai, hn, hm, hst, h0, ak, hs0, hs3, hs4, hs5, hs1000000⟩ := hI
 subst hn
 refine .lD 0 hs0 <| .lD 3 hs3 <| .lD 4 hs4 <| .lD 5 hs5 <| .lD 1000000 hs1000000 ?_
 clear hs0 hs3 hs4 hs5 hs1000000
 cases ai with
 | zero => rw [m_r01_half_L1.eq_1] at hm; cases hm
 | succ ai =>
  rw [m_r01_half_L1.eq_2] at hm
  refine wS <| wS <| wR <| lM (.int .i64 ad) <| lV (.bool (decide (0 ≤ ad))) (r_geq ad 0 rfl rfl) <| lN ?_
  refine wcond (decide (0 ≤ ad)) rfl (fun hb => ?_) (fun hb => ?_)
  ·rw [if_pos hb] at hm
   clear hb
   refine wK <| wS <| wB <| wS <| wR <| lM (.int .u64 aa) <| lV (.int .u64 (IntKind.u64.wrap (aa * 4294967296))) (r_mul aa 4294967296 rfl rfl) <| lM (.slice a0 ab.length cap0) <| lM (.int .i64 ad) ?_
   obtain ⟨ac, al, hm⟩ := bS hm
   refine lV (sptr a0 (Int.toNat ad * 1)) (r_idx Tryz.underlying36 Tryz.sizeOf114 rfl rfl (at?_some al).1 (at?_some al).2.1 (h0.addr al)) ?_
   refine lV (.int .u32 ac) (r_ld Tryz.isAgg114 rfl (h0.atInt al)) <| lV (.int .u64 (IntKind.u64.wrap ac)) (r_conv ac ⟨_, Tryz.underlying114⟩ Tryz.underlying108 rfl) <| lV (.int .u64 (IntKind.u64.wrap ((IntKind.u64.wrap (aa * 4294967296)) + (IntKind.u64.wrap ac)))) (r_add (IntKind.u64.wrap (aa * 4294967296)) (IntKind.u64.wrap ac) rfl rfl) <| lA (.int .u64 (IntKind.u64.wrap ((IntKind.u64.wrap (aa * 4294967296)) + (IntKind.u64.wrap ac)))) <| lN <| wS <| wR <| lM (.slice ae ah.length ag) <| lM (.int .i64 ad) <| lM (.int .u64 (IntKind.u64.wrap ((IntKind.u64.wrap (aa * 4294967296)) + (IntKind.u64.wrap ac)))) <| lV (.int .u64 (IntKind.u64.wrap (Int.tdiv (IntKind.u64.wrap ((IntKind.u64.wrap (aa * 4294967296)) + (IntKind.u64.wrap ac))) 2))) (r_quo (IntKind.u64.wrap ((IntKind.u64.wrap (aa * 4294967296)) + (IntKind.u64.wrap ac))) 2 rfl rfl (by decide)) <| lV (.int .u32 (IntKind.u32.wrap (IntKind.u64.wrap (Int.tdiv (IntKind.u64.wrap ((IntKind.u64.wrap (aa * 4294967296)) + (IntKind.u64.wrap ac))) 2)))) (r_conv (IntKind.u64.wrap (Int.tdiv (IntKind.u64.wrap ((IntKind.u64.wrap (aa * 4294967296)) + (IntKind.u64.wrap ac))) 2)) ⟨_, Tryz.underlying108⟩ Tryz.underlying114 rfl) ?_
   obtain ⟨a9, am, hm⟩ := bS hm
   refine lV (sptr ae (Int.toNat ad * 1)) (r_idx Tryz.underlying36 Tryz.sizeOf114 rfl rfl (at?_some am).1 (at?_some am).2.1 (ak.addr am)) ?_
   obtain ⟨an, ao, hm⟩ := bS hm
   have ao : an = ah.set (Int.toNat ad) (IntKind.u32.wrap (IntKind.u64.wrap (Int.tdiv (IntKind.u64.wrap ((IntKind.u64.wrap (aa * 4294967296)) + (IntKind.u64.wrap ac))) 2))) := (Option.some.inj ao).symm
   refine l_store (x1 := IntKind.u32.wrap (IntKind.u64.wrap (Int.tdiv (IntKind.u64.wrap ((IntKind.u64.wrap (aa * 4294967296)) + (IntKind.u64.wrap ac))) 2))) (v := (.int .u32 (IntKind.u32.wrap (IntKind.u64.wrap (Int.tdiv (IntKind.u64.wrap ((IntKind.u64.wrap (aa * 4294967296)) + (IntKind.u64.wrap ac))) 2))))) ak am rfl Tryz.sizeOf114 (rd_int .u32 (IntKind.u32.wrap (IntKind.u64.wrap (Int.tdiv (IntKind.u64.wrap ((IntKind.u64.wrap (aa * 4294967296)) + (IntKind.u64.wrap ac))) 2)))) rfl rfl (by decide) ?_
   intro ba aw a4 ax
   rw [← ao] at ax
   refine .ld (d := 3) (v := (.slice ae an.length ag)) (congrArg (fun n => Value.slice ae n ag) (show ah.length = an.length by rw [ao, List.length_set])) ?_
   clear ak
   refine lN <| wR <| lM (.int .u64 (IntKind.u64.wrap ((IntKind.u64.wrap (aa * 4294967296)) + (IntKind.u64.wrap ac)))) <| lV (.int .u64 (Int.tmod (IntKind.u64.wrap ((IntKind.u64.wrap (aa * 4294967296)) + (IntKind.u64.wrap ac))) 2)) (r_rem (IntKind.u64.wrap ((IntKind.u64.wrap (aa * 4294967296)) + (IntKind.u64.wrap ac))) 2 rfl rfl (by decide)) <| lA (.int .u64 (Int.tmod (IntKind.u64.wrap ((IntKind.u64.wrap (aa * 4294967296)) + (IntKind.u64.wrap ac))) 2)) <| lN <| wR <| lM (.int .i64 ad) <| lV (.int .i64 (IntKind.i64.wrap (ad - 1))) (r_sub ad 1 rfl rfl) <| lA (.int .i64 (IntKind.i64.wrap (ad - 1))) <| lN ?_
   replace h0 := h0.kp aw
   replace hst := hst.kp aw a4
   exact ⟨ai, by omega, ⟨af, ae, ag, an, (Int.tmod (IntKind.u64.wrap ((IntKind.u64.wrap (aa * 4294967296)) + (IntKind.u64.wrap ac))) 2), (IntKind.i64.wrap (ad - 1)), ai, rfl, hm, hst, h0, ax, rfl, rfl, rfl, rfl, rfl⟩⟩
  rw [if_neg (by rw [hb]; decide)] at hm
  clear hb
  refine wexit (inB_hit ?_)
  refine wS <| wR <| lM (.slice ae ah.length ag) ?_
  obtain ⟨ay, a5, hm⟩ := bS hm
  refine lc rfl rfl (r_call1 Tryz.call159 rfl) (c_r01_Norm N 2 (frC 1 af) _ ae ag ah (ak.toSlF (Froz.int .u32)) ay a5) ?_
  rintro _ bb ⟨a6, az, a1, rfl, ap, aq⟩
  refine ⟨_, rfl, ?_⟩
  replace aq := aq.thaw (flat_int .u32) ap ((Fz.refl (col := af)).froz 1) (by decide)
  replace ap := ap.thawR (col := af)
  generalize colR aj.heap.size af a6 = a7 at *
  refine lA (.slice az ay.length a1) <| lN ?_
  refine wret ?_
  cases hm
  replace hst := hst.grow ap
  exact ⟨rfl, colF w0.heap.size col a7 (fun n => bif Nat.beq n 2 then c1 else 0), az, a1, rfl, hst.fin (fun n => bif Nat.beq n 2 then c1 else 0), hst.finOwn (g := (fun n => bif Nat.beq n 2 then c1 else 0)) rfl aq (by decide) (by decide) rfl⟩
def m_r01_limb (aa : (List Int)) (ab : Int) : Option Int :=
  if (decide (ab < (aa.length : Int))) = true then ((at? aa ab).bind fun ac => some (IntKind.u64.wrap ac)) else (some 0)
theorem c_r01_limb (col : Col) (w0 : World) (a0 : Option Addr) (cap0 : Nat) (aa : (List Int)) (ab : Int) (h0 : Sl (Rep.int .u32) col w0 a0 cap0 aa) (r : Int) (hm : m_r01_limb aa ab = some r) :
    Calls Tryz.prog 182 #[(.slice a0 aa.length cap0), (.int .i64 ab)] w0 (fun e w' => e = .returned ((.int .u64 r)) ∧ Below w0.heap.size w0 w') := by
 refine calls_of1 4 (m := 14) (args := [(.slice a0 aa.length cap0), (.int .i64 ab)]) Tryz.func182 rfl rfl rfl rfl rfl ?_
 rw [m_r01_limb.eq_1] at hm
 have hst := St.start col w0
 refine wS <| wR <| lA (.int .u64 0) <| lN <| wS <| wS <| wR <| lM (.int .i64 ab) <| lM (.slice a0 aa.length cap0) <| lV (.int .i64 (aa.length : Int)) (r_len Tryz.underlying36 rfl) <| lV (.bool (decide (ab < (aa.length : Int)))) (r_lss ab (aa.length : Int) rfl rfl) <| lN ?_
 replace h0 := h0.keep (Stay.start col w0)
 refine wcond (decide (ab < (aa.length : Int))) rfl (fun hb => ?_) (fun hb => ?_)
 ·rw [if_pos hb] at hm
  clear hb
  refine wS <| wR <| lM (.slice a0 aa.length cap0) <| lM (.int .i64 ab) ?_
  obtain ⟨ac, ad, hm⟩ := bS hm
  refine lV (sptr a0 (Int.toNat ab * 1)) (r_idx Tryz.underlying36 Tryz.sizeOf114 rfl rfl (at?_some ad).1 (at?_some ad).2.1 (h0.addr ad)) ?_
  refine lV (.int .u32 ac) (r_ld Tryz.isAgg114 rfl (h0.atInt ad)) <| lV (.int .u64 (IntKind.u64.wrap ac)) (r_conv ac ⟨_, Tryz.underlying114⟩ Tryz.underlying108 rfl) <| lA (.int .u64 (IntKind.u64.wrap ac)) <| lN ?_
  refine wret ?_
  cases hm
  exact ⟨rfl, rfl, hst.below⟩
 rw [if_neg (by rw [hb]; decide)] at hm
 clear hb
 refine wK <| wS <| wR <| lA (.int .u64 0) <| lN ?_
 refine wret ?_
 cases hm
 exact ⟨rfl, rfl, hst.below⟩
def m_r01_Cmp_L1 (N : Nat) (ab : (List Int)) (ac : (List Int)) : Nat → Int → Option Int
  | 0, _ => none
  | af + 1, aa => if (decide (0 ≤ aa)) = true then ((m_r01_limb ab aa).bind fun ad => (m_r01_limb ac aa).bind fun ae => if (decide (ad < ae)) = true then (some (-1)) else (if (decide (ae < ad)) = true then (some 1) else ((m_r01_Cmp_L1 N ab ac af) (IntKind.i64.wrap (aa - 1))))) else (some 0)
termination_by structural x => x
def m_r01_Cmp_J1 (N : Nat) (aa : (List Int)) (ab : (List Int)) (ac : Int) : Option Int :=
  m_r01_Cmp_L1 N aa ab N (IntKind.i64.wrap (ac - 1))
def m_r01_Cmp (N : Nat) (aa : (List Int)) (ab : (List Int)) : Option Int :=
  if (decide ((aa.length : Int) < (ab.length : Int))) = true then (m_r01_Cmp_J1 N aa ab (ab.length : Int)) else (m_r01_Cmp_J1 N aa ab (aa.length : Int))
theorem c_r01_Cmp (N : Nat) (col : Col) (w0 : World) (a0 : Option Addr) (cap0 : Nat) (ab : (List Int)) (a1 : Option Addr) (cap1 : Nat) (aa : (List Int)) (h0 : Sl (Rep.int .u32) col w0 a0 cap0 ab) (h1 : Sl (Rep.int .u32) col w0 a1 cap1 aa) (r : Int) (hm : m_r01_Cmp N ab aa = some r) :
    Calls Tryz.prog 192 #[(.slice a0 ab.length cap0), (.slice a1 aa.length cap1)] w0 (fun e w' => e = .returned ((.int .i64 r)) ∧ Below w0.heap.size w0 w') := by
 refine calls_of1 4 (m := 35) (args := [(.slice a0 ab.length cap0), (.slice a1 aa.length cap1)]) Tryz.func192 rfl rfl rfl rfl rfl ?_
 rw [m_r01_Cmp.eq_1] at hm
 have hst := St.start col w0
 refine wS <| wR <| lA (.int .i64 0) <| lN <| wS <| wR <| lM (.slice a0 ab.length cap0) <| lV (.int .i64 (ab.length : Int)) (r_len Tryz.underlying36 rfl) <| lA (.int .i64 (ab.length : Int)) <| lN <| wS ?_
 replace h0 := h0.keep (Stay.start col w0)
 replace h1 := h1.keep (Stay.start col w0)
 refine Wp.cut (fun f am => ∃ (ai : Col) (ag : Int), m_r01_Cmp_J1 N ab aa ag = some r ∧ St w0 (col0 col) ai am ∧ Sl (Rep.int .u32) ai am a0 cap0 ab ∧ Sl (Rep.int .u32) ai am a1 cap1 aa ∧ f 0 = (.slice a0 ab.length cap0) ∧ f 1 = (.slice a1 aa.length cap1) ∧ f 5 = (.int .i64 ag) ∧ f 1000000 = (enc [])) ?_ ?_
 ·intro f am hJ
  obtain ⟨ai, ag, hm, hst, h0, h1, hs0, hs1, hs5, hs1000000⟩ := hJ
  rw [m_r01_Cmp_J1.eq_1] at hm
  refine .lD 0 hs0 <| .lD 1 hs1 <| .lD 5 hs5 <| .lD 1000000 hs1000000 ?_
  clear hs0 hs1 hs5 hs1000000
  refine wS <| wS <| wR <| lM (.int .i64 ag) <| lV (.int .i64 (IntKind.i64.wrap (ag - 1))) (r_sub ag 1 rfl rfl) <| lA (.int .i64 (IntKind.i64.wrap (ag - 1))) <| lN <| wB ?_
  refine wloop (fun n f aj => ∃ (ad : Col) (ac : Int) (ah : Nat), ah = n ∧ m_r01_Cmp_L1 N ab aa ah ac = some r ∧ St w0 (col0 col) ad aj ∧ Sl (Rep.int .u32) ad aj a0 cap0 ab ∧ Sl (Rep.int .u32) ad aj a1 cap1 aa ∧ f 0 = (.slice a0 ab.length cap0) ∧ f 1 = (.slice a1 aa.length cap1) ∧ f 6 = (.int .i64 ac) ∧ f 1000000 = (enc [])) N ⟨ai, (IntKind.i64.wrap (ag - 1)), N, rfl, hm, hst, h0, h1, rfl, rfl, rfl, rfl⟩ ?_
  clear hm; intro n f aj hI
  obtain ⟨ad, ac, ah, hn, hm, hst, h0, h1, hs0, hs1, hs6, hs1000000⟩ := hI
  subst hn
  refine .lD 0 hs0 <| .lD 1 hs1 <| .lD 6 hs6 <| .lD 1000000 hs1000000 ?_
  clear hs0 hs1 hs6 hs1000000
  cases ah with
  | zero => rw [m_r01_Cmp_L1.eq_1] at hm; cases hm
  | succ ah =>
   rw [m_r01_Cmp_L1.eq_2] at hm
   refine wS <| wS <| wR <| lM (.int .i64 ac) <| lV (.bool (decide (0 ≤ ac))) (r_geq ac 0 rfl rfl) <| lN ?_
   refine wcond (decide (0 ≤ ac)) rfl (fun hb => ?_) (fun hb => ?_)
   ·rw [if_pos hb] at hm
    clear hb
    refine wK <| wS <| wB <| wS <| wR <| lM (.slice a0 ab.length cap0) <| lM (.int .i64 ac) ?_
    obtain ⟨ae, ao, hm⟩ := bS hm
    refine lc rfl rfl (r_call2 Tryz.call182 rfl rfl) (c_r01_limb ad _ a0 cap0 ab ac h0 ae ao) ?_
    rintro _ an ⟨rfl, ak⟩
    refine ⟨_, rfl, ?_⟩
    replace ak : Grow ad aj ad an := .of_below ak
    refine lA (.int .u64 ae) <| lN <| wS <| wR <| lM (.slice a1 aa.length cap1) <| lM (.int .i64 ac) ?_
    obtain ⟨af, ap, hm⟩ := bS hm
    replace h1 := h1.gr ak
    refine lc rfl rfl (r_call2 Tryz.call182 rfl rfl) (c_r01_limb ad _ a1 cap1 aa ac h1 af ap) ?_
    rintro _ aq ⟨rfl, al⟩
    refine ⟨_, rfl, ?_⟩
    replace al : Grow ad an ad aq := .of_below al
    refine lA (.int .u64 af) <| lN <| wS <| wS <| wR <| lM (.int .u64 ae) <| lM (.int .u64 af) <| lV (.bool (decide (ae < af))) (r_lss ae af rfl rfl) <| lN ?_
    replace h0 := (h0.gr ak).gr al
    replace hst := (hst.grow ak).grow al
    replace h1 := h1.gr al
    refine wcond (decide (ae < af)) rfl (fun hb => ?_) (fun hb => ?_)
    ·rw [if_pos hb] at hm
     clear hb
     refine wS <| wR <| lA (.int .i64 (-1)) <| lN ?_
     refine wret ?_
     cases hm
     exact ⟨rfl, rfl, hst.below⟩
    rw [if_neg (by rw [hb]; decide)] at hm
    clear hb
    refine wK <| wS <| wR <| lM (.int .u64 ae) <| lM (.int .u64 af) <| lV (.bool (decide (af < ae))) (r_gtr ae af rfl rfl) <| lN ?_
    refine wcond (decide (af < ae)) rfl (fun hb => ?_) (fun hb => ?_)
    ·rw [if_pos hb] at hm
     clear hb
     refine wS <| wR <| lA (.int .i64 1) <| lN ?_
     refine wret ?_
     cases hm
     exact ⟨rfl, rfl, hst.below⟩
    rw [if_neg (by rw [hb]; decide)] at hm
    clear hb
    refine wK <| wR <| lM (.int .i64 ac) <| lV (.int .i64 (IntKind.i64.wrap (ac - 1))) (r_sub ac 1 rfl rfl) <| lA (.int .i64 (IntKind.i64.wrap (ac - 1))) <| lN ?_
    exact ⟨ah, by omega, ⟨ad, (IntKind.i64.wrap (ac - 1)), ah, rfl, hm, hst, h0, h1, rfl, rfl, rfl, rfl⟩⟩
   rw [if_neg (by rw [hb]; decide)] at hm
   clear hb
   refine wexit (inB_hit ?_)
   refine wS <| wR <| lA (.int .i64 0) <| lN ?_
   refine wret ?_
   cases hm
   exact ⟨rfl, rfl, hst.below⟩
 refine wS <| wR <| lM (.slice a1 aa.length cap1) <| lV (.int .i64 (aa.length : Int)) (r_len Tryz.underlying36 rfl) <| lM (.int .i64 (ab.length : Int)) <| lV (.bool (decide ((ab.length : Int) < (aa.length : Int)))) (r_gtr (aa.length : Int) (ab.length : Int) rfl rfl) <| lN ?_
 refine wcond (decide ((ab.length : Int) < (aa.length : Int))) rfl (fun hb => ?_) (fun hb => ?_)
 ·rw [if_pos hb] at hm
  clear hb
  refine wR <| lM (.slice a1 aa.length cap1) <| lV (.int .i64 (aa.length : Int)) (r_len Tryz.underlying36 rfl) <| lA (.int .i64 (aa.length : Int)) <| lN ?_
  exact ⟨(col0 col), (aa.length : Int), hm, hst, h0, h1, rfl, rfl, rfl, rfl⟩
 rw [if_neg (by rw [hb]; decide)] at hm
 clear hb
 refine wK ?_
 exact ⟨(col0 col), (ab.length : Int), hm, hst, h0, h1, rfl, rfl, rfl, rfl⟩
theorem el114_189 : ElemOk Tryz.prog 114 1 4 := ⟨Tryz.t114, _, rfl, rfl, rfl, rfl, rfl⟩
def m_r01_Sub_J1 (aa : Int) (kk_L1 : ((List Int) → Int → Int → Option ((List Int) × Bool))) (ab : List Int) (ac : Int) : Option ((List Int) × Bool) :=
  kk_L1 ab ac (IntKind.i64.wrap (aa + 1))
def m_r01_Sub_J2 (aa : List Int) (ab : Int) (ae : Int) (kk_L1 : ((List Int) → Int → Int → Option ((List Int) × Bool))) (ac : Int) (af : Int) (ad : Int) : Option ((List Int) × Bool) :=
  chk ((aa.length + [IntKind.u32.wrap (IntKind.u64.wrap (ad - (IntKind.u64.wrap (ac + ab))))].length) * 4 ≤ 140737488355328 ∧ aa.length + [IntKind.u32.wrap (IntKind.u64.wrap (ad - (IntKind.u64.wrap (ac + ab))))].length ≤ maxLen) (m_r01_Sub_J1 ae kk_L1 (aa ++ [IntKind.u32.wrap (IntKind.u64.wrap (ad - (IntKind.u64.wrap (ac + ab))))]) af)
def m_r01_Sub_L1 (N : Nat) (ab : (List Int)) (ac : (List Int)) : Nat → (List Int) → Int → Int → Option ((List Int) × Bool)
  | 0, _, _, _ => none
  | ah + 1, ad, ae, aa => if (decide (aa < (ab.length : Int))) = true then ((m_r01_limb ab aa).bind fun af => (m_r01_limb ac aa).bind fun ag => if (decide (af < (IntKind.u64.wrap (ag + ae)))) = true then none else (m_r01_Sub_J2 ad ae aa (m_r01_Sub_L1 N ab ac ah) ag 0 af)) else ((m_r01_Norm N ad).bind fun ai => some (ai, true))
termination_by structural x => x
def m_r01_Sub (N : Nat) (aa : (List Int)) (ab : (List Int)) : Option ((List Int) × Bool) :=
  (m_r01_Cmp N aa ab).bind fun ac => if (decide (ac < 0)) = true then none else (m_r01_Sub_L1 N aa ab N ([] : List Int) 0 0)
theorem c_r01_Sub (N : Nat) (c1 : Nat) (col : Col) (w0 : World) (a0 : Option Addr) (cap0 : Nat) (ac : (List Int)) (a1 : Option Addr) (cap1 : Nat) (ae : (List Int)) (h0 : Sl (Rep.int .u32) col w0 a0 cap0 ac) (h1 : Sl (Rep.int .u32) col w0 a1 cap1 ae) (r : ((List Int) × Bool)) (hm : m_r01_Sub N ac ae = some r) :
    Calls Tryz.prog 189 #[(.slice a0 ac.length cap0), (.slice a1 ae.length cap1)] w0 (fun e w' => ∃ (col' : Col) (ra1 : Option Addr) (rc2 : Nat), e = .returned (.tuple #[(.slice ra1 r.1.length rc2), (.bool r.2)]) ∧ Grow col w0 col' w' ∧ Own (Rep.int .u32) 114 c1 col' w' ra1 rc2 r.1) := by
 refine calls_of2 4 5 (m := 43) (args := [(.slice a0 ac.length cap0), (.slice a1 ae.length cap1)]) Tryz.func189 rfl rfl rfl rfl rfl ?_
 rw [m_r01_Sub.eq_1] at hm
 have hst := St.start col w0
 refine wS <| wR <| lA (.slice none (([] : List Int).length) 0) <| lA (.bool false) <| lN <| wS <| wS <| wR <| lM (.slice a0 ac.length cap0) <| lM (.slice a1 ae.length cap1) ?_
 obtain ⟨ay, bg, hm⟩ := bS hm
 replace h0 := h0.keep (Stay.start col w0)
 replace h1 := h1.keep (Stay.start col w0)
 refine lc rfl rfl (r_call2 Tryz.call192 rfl rfl) (c_r01_Cmp N (col0 col) _ a0 cap0 ac a1 cap1 ae h0 h1 ay bg) ?_
 rintro _ bh ⟨rfl, au⟩
 refine ⟨_, rfl, ?_⟩
 replace au : Grow (col0 col) w0 (col0 col) bh := .of_below au
 refine lV (.bool (decide (ay < 0))) (r_lss ay 0 rfl rfl) <| lN ?_
 replace h0 := h0.gr au
 replace h1 := h1.gr au
 replace hst := hst.grow au
 refine wcond (decide (ay < 0)) rfl (fun hb => ?_) (fun hb => ?_)
 ·rw [if_pos hb] at hm
  clear hb
  cases hm
 rw [if_neg (by rw [hb]; decide)] at hm
 clear hb
 refine wK <| wS <| wR <| lA (.slice none (([] : List Int).length) 0) <| lN <| wS <| wR <| lA (.int .u64 0) <| lN <| wS <| wS <| wR <| lA (.int .i64 0) <| lN <| wB ?_
 refine wloop (fun n f am => ∃ (af : Col) (ak : Option Addr) (al : Nat) (ah : List Int) (aa : Int) (ad : Int) (ai : Nat), ai = n ∧ m_r01_Sub_L1 N ac ae ai ah aa ad = some r ∧ St w0 (col0 col) af am ∧ Sl (Rep.int .u32) af am a0 cap0 ac ∧ Sl (Rep.int .u32) af am a1 cap1 ae ∧ Own (Rep.int .u32) 114 1 af am ak al ah ∧ f 0 = (.slice a0 ac.length cap0) ∧ f 1 = (.slice a1 ae.length cap1) ∧ f 6 = (.slice ak ah.length al) ∧ f 7 = (.int .u64 aa) ∧ f 8 = (.int .i64 ad) ∧ f 1000000 = (enc [])) N ⟨(col0 col), none, 0, ([] : List Int), 0, 0, N, rfl, hm, hst, h0, h1, Own.nil, rfl, rfl, rfl, rfl, rfl, rfl⟩ ?_
 clear hm; intro n f am hI
 obtain ⟨af, ak, al, ah, aa, ad, ai, hn, hm, hst, h0, h1, aj, hs0, hs1, hs6, hs7, hs8, hs1000000⟩ := hI
 subst hn
 refine .lD 0 hs0 <| .lD 1 hs1 <| .lD 6 hs6 <| .lD 7 hs7 <| .lD 8 hs8 <| .lD 1000000 hs1000000 ?_
 clear hs0 hs1 hs6 hs7 hs8 hs1000000
 cases ai with
 | zero => rw [m_r01_Sub_L1.eq_1] at hm; cases hm
 | succ ai =>
  rw [m_r01_Sub_L1.eq_2] at hm
  refine wS <| wS <| wR <| lM (.int .i64 ad) <| lM (.slice a0 ac.length cap0) <| lV (.int .i64 (ac.length : Int)) (r_len Tryz.underlying36 rfl) <| lV (.bool (decide (ad < (ac.length : Int)))) (r_lss ad (ac.length : Int) rfl rfl) <| lN ?_
  refine wcond (decide (ad < (ac.length : Int))) rfl (fun hb => ?_) (fun hb => ?_)
  ·rw [if_pos hb] at hm
   clear hb
   refine wK <| wS ?_
   refine Wp.cut (fun f av => ∃ (ao : Col) (az : Option Addr) (a2 : Nat) (aw : List Int) (a3 : Int), m_r01_Sub_J1 ad (m_r01_Sub_L1 N ac ae ai) aw a3 = some r ∧ St w0 (col0 col) ao av ∧ Sl (Rep.int .u32) ao av a0 cap0 ac ∧ Sl (Rep.int .u32) ao av a1 cap1 ae ∧ Own (Rep.int .u32) 114 1 ao av az a2 aw ∧ f 0 = (.slice a0 ac.length cap0) ∧ f 1 = (.slice a1 ae.length cap1) ∧ f 6 = (.slice az aw.length a2) ∧ f 7 = (.int .u64 a3) ∧ f 8 = (.int .i64 ad) ∧ f 1000000 = (enc [])) ?_ ?_
   ·intro f av hJ
    obtain ⟨ao, az, a2, aw, a3, hm, hst, h0, h1, bi, hs0, hs1, hs6, hs7, hs8, hs1000000⟩ := hJ
    rw [m_r01_Sub_J1.eq_1] at hm
    refine .lD 0 hs0 <| .lD 1 hs1 <| .lD 6 hs6 <| .lD 7 hs7 <| .lD 8 hs8 <| .lD 1000000 hs1000000 ?_
    clear hs0 hs1 hs6 hs7 hs8 hs1000000
    refine wR <| lM (.int .i64 ad) <| lV (.int .i64 (IntKind.i64.wrap (ad + 1))) (r_add ad 1 rfl rfl) <| lA (.int .i64 (IntKind.i64.wrap (ad + 1))) <| lN ?_
    exact ⟨ai, by omega, ⟨ao, az, a2, aw, a3, (IntKind.i64.wrap (ad + 1)), ai, rfl, hm, hst, h0, h1, bi, rfl, rfl, rfl, rfl, rfl, rfl⟩⟩
   refine wB <| wS <| wR <| lM (.slice a0 ac.length cap0) <| lM (.int .i64 ad) ?_
   obtain ⟨an, bj, hm⟩ := bS hm
   refine lc rfl rfl (r_call2 Tryz.call182 rfl rfl) (c_r01_limb af _ a0 cap0 ac ad h0 an bj) ?_
   rintro _ a9 ⟨rfl, ap⟩
   refine ⟨_, rfl, ?_⟩
   replace ap : Grow af am af a9 := .of_below ap
   refine lA (.int .u64 an) <| lN <| wS <| wR <| lM (.slice a1 ae.length cap1) <| lM (.int .i64 ad) ?_
   obtain ⟨ab, bk, hm⟩ := bS hm
   replace h1 := h1.gr ap
   refine lc rfl rfl (r_call2 Tryz.call182 rfl rfl) (c_r01_limb af _ a1 cap1 ae ad h1 ab bk) ?_
   rintro _ bl ⟨rfl, aq⟩
   refine ⟨_, rfl, ?_⟩
   replace aq : Grow af a9 af bl := .of_below aq
   refine lM (.int .u64 aa) <| lV (.int .u64 (IntKind.u64.wrap (ab + aa))) (r_add ab aa rfl rfl) <| lA (.int .u64 (IntKind.u64.wrap (ab + aa))) <| lN <| wS <| wR <| lA (.int .u64 0) <| lN <| wS ?_
   replace h0 := (h0.gr ap).gr aq
   replace aj := (aj.gr ap).gr aq
   replace hst := (hst.grow ap).grow aq
   replace h1 := h1.gr aq
   refine Wp.cut (fun f ax => ∃ (ar : Col) (a4 : Int) (ag : Int), m_r01_Sub_J2 ah aa ad (m_r01_Sub_L1 N ac ae ai) ab a4 ag = some r ∧ St w0 (col0 col) ar ax ∧ Sl (Rep.int .u32) ar ax a0 cap0 ac ∧ Sl (Rep.int .u32) ar ax a1 cap1 ae ∧ Own (Rep.int .u32) 114 1 ar ax ak al ah ∧ f 0 = (.slice a0 ac.length cap0) ∧ f 1 = (.slice a1 ae.length cap1) ∧ f 10 = (.int .u64 (IntKind.u64.wrap (ab + aa))) ∧ f 6 = (.slice ak ah.length al) ∧ f 7 = (.int .u64 a4) ∧ f 8 = (.int .i64 ad) ∧ f 9 = (.int .u64 ag) ∧ f 1000000 = (enc [])) ?_ ?_
   ·intro f ax hJ
    obtain ⟨ar, a4, ag, hm, hst, h0, h1, aj, hs0, hs1, hs10, hs6, hs7, hs8, hs9, hs1000000⟩ := hJ
    rw [m_r01_Sub_J2.eq_1] at hm
    refine .lD 0 hs0 <| .lD 1 hs1 <| .lD 10 hs10 <| .lD 6 hs6 <| .lD 7 hs7 <| .lD 8 hs8 <| .lD 9 hs9 <| .lD 1000000 hs1000000 ?_
    clear hs0 hs1 hs10 hs6 hs7 hs8 hs9 hs1000000
    refine wR <| lM (.slice ak ah.length al) <| lM (.int .u64 ag) <| lM (.int .u64 (IntKind.u64.wrap (ab + aa))) <| lV (.int .u64 (IntKind.u64.wrap (ag - (IntKind.u64.wrap (ab + aa))))) (r_sub ag (IntKind.u64.wrap (ab + aa)) rfl rfl) <| lV (.int .u32 (IntKind.u32.wrap (IntKind.u64.wrap (ag - (IntKind.u64.wrap (ab + aa)))))) (r_conv (IntKind.u64.wrap (ag - (IntKind.u64.wrap (ab + aa)))) ⟨_, Tryz.underlying108⟩ Tryz.underlying114 rfl) ?_
    refine l_lit (col := ar) (r := (Rep.int .u32)) (xs := [IntKind.u32.wrap (IntKind.u64.wrap (ag - (IntKind.u64.wrap (ab + aa))))]) [(.int .u32 (IntKind.u32.wrap (IntKind.u64.wrap (ag - (IntKind.u64.wrap (ab + aa))))))] 2 rfl Tryz.underlying36 el114_189 rfl rfl rfl rfl rfl rfl (by intro v hv; simp only [List.mem_cons, List.not_mem_nil, or_false] at hv; subst hv; rfl) (RowsH.ofF (Rows.consF (r := (Rep.int .u32)) (x := IntKind.u32.wrap (IntKind.u64.wrap (ag - (IntKind.u64.wrap (ab + aa))))) (cs := [(.int .u32 (IntKind.u32.wrap (IntKind.u64.wrap (ag - (IntKind.u64.wrap (ab + aa))))))]) (rd_int .u32 (IntKind.u32.wrap (IntKind.u64.wrap (ag - (IntKind.u64.wrap (ab + aa)))))) Rows.nil0)) ?_
    intro bu bm bn a5 bo
    obtain ⟨ba, hm⟩ := cS hm
    replace aj := aj.gr a5
    refine l_appendM (col := bn) (w := bm) (r := (Rep.int .u32)) (c := 1) (c2 := 1) (xs := ah) (ys := [IntKind.u32.wrap (IntKind.u64.wrap (ag - (IntKind.u64.wrap (ab + aa))))]) aj (bo.srcN (NB.int (k := .u32))) rfl Tryz.underlying36 el114_189 rfl rfl rfl ba.1 ba.2 (by decide) ?_
    intro bb bc bv bp a7 bq
    clear aj
    refine lA (.slice bb ((ah ++ [IntKind.u32.wrap (IntKind.u64.wrap (ag - (IntKind.u64.wrap (ab + aa))))]).length) bc) <| lN ?_
    replace h0 := (h0.gr a5).kpp a7
    replace h1 := (h1.gr a5).kpp a7
    replace hst := (hst.grow a5).kpp a7
    exact ⟨bp, bb, bc, (ah ++ [IntKind.u32.wrap (IntKind.u64.wrap (ag - (IntKind.u64.wrap (ab + aa))))]), a4, hm, hst, h0, h1, bq, rfl, rfl, rfl, rfl, rfl, rfl⟩
   refine wS <| wR <| lM (.int .u64 an) <| lM (.int .u64 (IntKind.u64.wrap (ab + aa))) <| lV (.bool (decide (an < (IntKind.u64.wrap (ab + aa))))) (r_lss an (IntKind.u64.wrap (ab + aa)) rfl rfl) <| lN ?_
   refine wcond (decide (an < (IntKind.u64.wrap (ab + aa)))) rfl (fun hb => ?_) (fun hb => ?_)
   ·rw [if_pos hb] at hm
    clear hb
    cases hm
   rw [if_neg (by rw [hb]; decide)] at hm
   clear hb
   refine wK ?_
   exact ⟨af, 0, an, hm, hst, h0, h1, aj, rfl, rfl, rfl, rfl, rfl, rfl, rfl, rfl⟩
  rw [if_neg (by rw [hb]; decide)] at hm
  clear hb
  refine wexit (inB_hit ?_)
  refine wS <| wR <| lM (.slice ak ah.length al) ?_
  obtain ⟨bd, br, hm⟩ := bS hm
  refine lc rfl rfl (r_call1 Tryz.call159 rfl) (c_r01_Norm N 3 (frC 1 af) _ ak al ah (aj.toSlF (Froz.int .u32)) bd br) ?_
  rintro _ bw ⟨bs, be, bf, rfl, a6, a8⟩
  refine ⟨_, rfl, ?_⟩
  replace a8 := a8.thaw (flat_int .u32) a6 ((Fz.refl (col := af)).froz 1) (by decide)
  replace a6 := a6.thawR (col := af)
  generalize colR am.heap.size af bs = bt at *
  refine lA (.slice be bd.length bf) <| lA (.bool true) <| lN ?_
  refine wret ?_
  cases hm
  replace hst := hst.grow a6
  exact ⟨rfl, colF w0.heap.size col bt (fun n => bif Nat.beq n 3 then c1 else 0), be, bf, rfl, hst.fin (fun n => bif Nat.beq n 3 then c1 else 0), hst.finOwn (g := (fun n => bif Nat.beq n 3 then c1 else 0)) rfl a8 (by decide) (by decide) rfl⟩
def m_r01_Gcd_J3 (N : Nat) (kk_L2 : ((List Int) → (List Int) → Option (List Int))) (aa : List Int) (ab : List Int) : Option (List Int) :=
  (m_r01_Sub N ab aa).bind fun ac => kk_L2 aa ac.1
def m_r01_Gcd_J2 (N : Nat) (kk_L2 : ((List Int) → (List Int) → Option (List Int))) (ab : List Int) (aa : List Int) (kk_L4 : ((List Int) → Option (List Int))) (ac : Bool) : Option (List Int) :=
  if ac = true then ((m_r01_half N aa).bind fun ad => kk_L4 ad) else ((m_r01_Cmp N ab aa).bind fun ae => if (decide (0 < ae)) = true then (m_r01_Gcd_J3 N kk_L2 aa ab) else (m_r01_Gcd_J3 N kk_L2 ab aa))
def m_r01_Gcd_L4 (N : Nat) (kk_L2 : ((List Int) → (List Int) → Option (List Int))) (aa : List Int) : Nat → (List Int) → Option (List Int)
  | 0, _ => none
  | ac + 1, ab => if (decide (0 < (ab.length : Int))) = true then ((m_r01_even ab).bind fun ad => m_r01_Gcd_J2 N kk_L2 aa ab (m_r01_Gcd_L4 N kk_L2 aa ac) ad) else (m_r01_Gcd_J2 N kk_L2 aa ab (m_r01_Gcd_L4 N kk_L2 aa ac) false)
termination_by structural x => x
def m_r01_Gcd_L3 (N : Nat) (ab : List Int) (kk_L2 : ((List Int) → (List Int) → Option (List Int))) : Nat → (List Int) → Option (List Int)
  | 0, _ => none
  | ac + 1, aa => (m_r01_even aa).bind fun ad => if ad = true then ((m_r01_half N aa).bind fun ae => (m_r01_Gcd_L3 N ab kk_L2 ac) ae) else (m_r01_Gcd_L4 N kk_L2 aa N ab)
termination_by structural x => x
def m_r01_Gcd_L5 (N : Nat) (aa : Int) : Nat → (List Int) → Int → Option (List Int)
  | 0, _, _ => none
  | ad + 1, ab, ac => if (decide (ac < aa)) = true then none else (some ab)
def m_r01_Gcd_L2 (N : Nat) (aa : Int) : Nat → (List Int) → (List Int) → Option (List Int)
  | 0, _, _ => none
  | ad + 1, ab, ac => if (decide (0 < (ac.length : Int))) = true then (m_r01_Gcd_L3 N ac (m_r01_Gcd_L2 N aa ad) N ab) else (m_r01_Gcd_L5 N aa N ab 0)
termination_by structural x => x
def m_r01_Gcd_J1 (N : Nat) (aa : List Int) (ab : List Int) (ac : Int) (ad : Bool) : Option (List Int) :=
  if ad = true then none else (m_r01_Gcd_L2 N ac N aa ab)
def m_r01_Gcd_L1 (N : Nat)  : Nat → (List Int) → (List Int) → Int → Option (List Int)
  | 0, _, _, _ => none
  | af + 1, aa, ab, ac => (m_r01_even aa).bind fun ad => if ad = true then ((m_r01_even ab).bind fun ae => m_r01_Gcd_J1 N aa ab ac ae) else (m_r01_Gcd_J1 N aa ab ac false)
def m_r01_Gcd (N : Nat) (ac : (List Int)) (ad : (List Int)) : Option (List Int) :=
  (m_r01_Norm N ac).bind fun aa => (m_r01_Norm N ad).bind fun ab => if (decide ((aa.length : Int) = 0)) = true then none else (if (decide ((ab.length : Int) = 0)) = true then none else (m_r01_Gcd_L1 N N aa ab 0))
theorem c_r01_Gcd (N : Nat) (c1 : Nat) (col : Col) (w0 : World) (a0 : Option Addr) (cap0 : Nat) (bf : (List Int)) (a1 : Option Addr) (cap1 : Nat) (bg : (List Int)) (h0 : Sl (Rep.int .u32) col w0 a0 cap0 bf) (h1 : Sl (Rep.int .u32) col w0 a1 cap1 bg) (r : (List Int)) (hm : m_r01_Gcd N bf bg = some r) :
    Calls Tryz.prog 180 #[(.slice a0 bf.length cap0), (.slice a1 bg.length cap1)] w0 (fun e w' => ∃ (col' : Col) (ra1 : Option Addr) (rc2 : Nat), e = .returned ((.slice ra1 r.length rc2)) ∧ Grow col w0 col' w' ∧ Own (Rep.int .u32) 114 c1 col' w' ra1 rc2 r) := by
 refine calls_of1 4 (m := 69) (args := [(.slice a0 bf.length cap0), (.slice a1 bg.length cap1)]) Tryz.func180 rfl rfl rfl rfl rfl ?_
 rw [m_r01_Gcd.eq_1] at hm
 have hst := St.start col w0
 refine wS <| wR <| lA (.slice none (([] : List Int).length) 0) <| lN <| wS <| wR <| lM (.slice a0 bf.length cap0) ?_
 obtain ⟨ay, c7, hm⟩ := bS hm
 replace h0 := h0.keep (Stay.start col w0)
 refine lc rfl rfl (r_call1 Tryz.call159 rfl) (c_r01_Norm N 1 (col0 col) _ a0 cap0 bf h0 ay c7) ?_
 rintro _ dw ⟨c8, cm, cn, rfl, cw, co⟩
 refine ⟨_, rfl, ?_⟩
 refine lA (.slice cm ay.length cn) <| lN <| wS <| wR <| lM (.slice a1 bg.length cap1) ?_
 obtain ⟨az, c9, hm⟩ := bS hm
 replace h1 := (h1.keep (Stay.start col w0)).gr cw
 refine lc rfl rfl (r_call1 Tryz.call159 rfl) (c_r01_Norm N 2 c8 _ a1 cap1 bg h1 az c9) ?_
 rintro _ dx ⟨da, cp, cq, rfl, cx, db⟩
 refine ⟨_, rfl, ?_⟩
 refine lA (.slice cp az.length cq) <| lN <| wS <| wS <| wR <| lM (.slice cm ay.length cn) <| lV (.int .i64 (ay.length : Int)) (r_len Tryz.underlying36 rfl) <| lV (.bool (decide ((ay.length : Int) = 0))) (r_eql (ay.length : Int) 0 rfl rfl) <| lN ?_
 replace hst := (hst.grow cw).grow cx
 replace co := co.gr cx
 refine wcond (decide ((ay.length : Int) = 0)) rfl (fun hb => ?_) (fun hb => ?_)
 ·rw [if_pos hb] at hm
  clear hb
  cases hm
 rw [if_neg (by rw [hb]; decide)] at hm
 clear hb
 refine wK <| wS <| wS <| wR <| lM (.slice cp az.length cq) <| lV (.int .i64 (az.length : Int)) (r_len Tryz.underlying36 rfl) <| lV (.bool (decide ((az.length : Int) = 0))) (r_eql (az.length : Int) 0 rfl rfl) <| lN ?_
 refine wcond (decide ((az.length : Int) = 0)) rfl (fun hb => ?_) (fun hb => ?_)
 ·rw [if_pos hb] at hm
  clear hb
  cases hm
 rw [if_neg (by rw [hb]; decide)] at hm
 clear hb
 refine wK <| wS <| wR <| lA (.int .i64 0) <| lN <| wS <| wB ?_
 refine wloop (fun n f br => ∃ (al : Col) (a2 : Option Addr) (a3 : Nat) (ao : List Int) (a4 : Option Addr) (a5 : Nat) (ap : List Int) (ac : Int) (bs : Nat), bs = n ∧ m_r01_Gcd_L1 N bs ao ap ac = some r ∧ St w0 (col0 col) al br ∧ Own (Rep.int .u32) 114 1 al br a2 a3 ao ∧ Own (Rep.int .u32) 114 2 al br a4 a5 ap ∧ f 5 = (.slice a2 ao.length a3) ∧ f 6 = (.slice a4 ap.length a5) ∧ f 7 = (.int .i64 ac) ∧ f 1000000 = (enc [])) N ⟨da, cm, cn, ay, cp, cq, az, 0, N, rfl, hm, hst, co, db, rfl, rfl, rfl, rfl⟩ ?_
 clear hm; intro n f br hI
 obtain ⟨al, a2, a3, ao, a4, a5, ap, ac, bs, hn, hm, hst, av, aw, hs5, hs6, hs7, hs1000000⟩ := hI
 subst hn
 refine .lD 5 hs5 <| .lD 6 hs6 <| .lD 7 hs7 <| .lD 1000000 hs1000000 ?_
 clear hs5 hs6 hs7 hs1000000
 cases bs with
 | zero => rw [m_r01_Gcd_L1.eq_1] at hm; cases hm
 | succ bs =>
  rw [m_r01_Gcd_L1.eq_2] at hm
  refine wS <| wS ?_
  refine Wp.cut (fun f ce => ∃ (bt : Col) (cf : Bool), m_r01_Gcd_J1 N ao ap ac cf = some r ∧ St w0 (col0 col) bt ce ∧ Own (Rep.int .u32) 114 1 bt ce a2 a3 ao ∧ Own (Rep.int .u32) 114 2 bt ce a4 a5 ap ∧ f 26 = (.bool cf) ∧ f 5 = (.slice a2 ao.length a3) ∧ f 6 = (.slice a4 ap.length a5) ∧ f 7 = (.int .i64 ac) ∧ f 1000000 = (enc [])) ?_ ?_
  ·intro f ce hJ
   obtain ⟨bt, cf, hm, hst, av, aw, hs26, hs5, hs6, hs7, hs1000000⟩ := hJ
   rw [m_r01_Gcd_J1.eq_1] at hm
   refine .lD 26 hs26 <| .lD 5 hs5 <| .lD 6 hs6 <| .lD 7 hs7 <| .lD 1000000 hs1000000 ?_
   clear hs26 hs5 hs6 hs7 hs1000000
   refine wcond (cf) rfl (fun hb => ?_) (fun hb => ?_)
   ·rw [if_pos hb] at hm
    clear hb
    cases hm
   rw [if_neg (by rw [hb]; decide)] at hm
   clear hb
   refine wexit (inB_hit ?_)
   refine wS <| wB ?_
   refine wloop (fun n f cg => ∃ (bh : Col) (bu : Option Addr) (bv : Nat) (bi : List Int) (a8 : Option Addr) (a9 : Nat) (aj : List Int) (am : Nat), am = n ∧ m_r01_Gcd_L2 N ac am bi aj = some r ∧ St w0 (col0 col) bh cg ∧ Own (Rep.int .u32) 114 1 bh cg bu bv bi ∧ Own (Rep.int .u32) 114 2 bh cg a8 a9 aj ∧ f 5 = (.slice bu bi.length bv) ∧ f 6 = (.slice a8 aj.length a9) ∧ f 7 = (.int .i64 ac) ∧ f 1000000 = (enc [])) N ⟨bt, a2, a3, ao, a4, a5, ap, N, rfl, hm, hst, av, aw, rfl, rfl, rfl, rfl⟩ ?_
   clear hm; intro n f cg hI
   obtain ⟨bh, bu, bv, bi, a8, a9, aj, am, hn, hm, hst, cy, aq, hs5, hs6, hs7, hs1000000⟩ := hI
   subst hn
   refine .lD 5 hs5 <| .lD 6 hs6 <| .lD 7 hs7 <| .lD 1000000 hs1000000 ?_
   clear hs5 hs6 hs7 hs1000000
   cases am with
   | zero => rw [m_r01_Gcd_L2.eq_1] at hm; cases hm
   | succ am =>
    rw [m_r01_Gcd_L2.eq_2] at hm
    refine wS <| wS <| wR <| lM (.slice a8 aj.length a9) <| lV (.int .i64 (aj.length : Int)) (r_len Tryz.underlying36 rfl) <| lV (.bool (decide (0 < (aj.length : Int)))) (r_gtr (aj.length : Int) 0 rfl rfl) <| lN ?_
    refine wcond (decide (0 < (aj.length : Int))) rfl (fun hb => ?_) (fun hb => ?_)
    ·rw [if_pos hb] at hm
     clear hb
     refine wK <| wB <| wS <| wB ?_
     refine wloop (fun n f bw => ∃ (an : Col) (af : Option Addr) (ag : Nat) (ad : List Int) (ba : Nat), ba = n ∧ m_r01_Gcd_L3 N aj (m_r01_Gcd_L2 N ac am) ba ad = some r ∧ St w0 (col0 col) an bw ∧ Own (Rep.int .u32) 114 1 an bw af ag ad ∧ Own (Rep.int .u32) 114 2 an bw a8 a9 aj ∧ f 5 = (.slice af ad.length ag) ∧ f 6 = (.slice a8 aj.length a9) ∧ f 7 = (.int .i64 ac) ∧ f 1000000 = (enc [])) N ⟨bh, bu, bv, bi, N, rfl, hm, hst, cy, aq, rfl, rfl, rfl, rfl⟩ ?_
     clear hm; intro n f bw hI
     obtain ⟨an, af, ag, ad, ba, hn, hm, hst, aa, aq, hs5, hs6, hs7, hs1000000⟩ := hI
     subst hn
     refine .lD 5 hs5 <| .lD 6 hs6 <| .lD 7 hs7 <| .lD 1000000 hs1000000 ?_
     clear hs5 hs6 hs7 hs1000000
     cases ba with
     | zero => rw [m_r01_Gcd_L3.eq_1] at hm; cases hm
     | succ ba =>
      rw [m_r01_Gcd_L3.eq_2] at hm
      refine wS <| wS <| wR <| lM (.slice af ad.length ag) ?_
      obtain ⟨cz, dc, hm⟩ := bS hm
      refine lc rfl rfl (r_call1 Tryz.call190 rfl) (c_r01_even (frC 1 an) _ af ag ad (aa.toSlF (Froz.int .u32)) cz dc) ?_
      rintro _ c0 ⟨rfl, bx⟩
      refine ⟨_, rfl, ?_⟩
      replace bx : Grow an bw an c0 := .of_below bx
      refine lN ?_
      replace aa := aa.gr bx
      replace aq := aq.gr bx
      replace hst := hst.grow bx
      refine wcond (cz) rfl (fun hb => ?_) (fun hb => ?_)
      ·rw [if_pos hb] at hm
       clear hb
       refine wK <| wB <| wR <| lM (.slice af ad.length ag) ?_
       obtain ⟨cr, dd, hm⟩ := bS hm
       refine lc rfl rfl (r_call1 Tryz.call191 rfl) (c_r01_half N 3 (frC 1 an) _ af ag ad (aa.toSlF (Froz.int .u32)) cr dd) ?_
       rintro _ dy ⟨de, c2, c3, rfl, bz, b0⟩
       refine ⟨_, rfl, ?_⟩
       replace b0 := b0.thaw (flat_int .u32) bz ((Fz.refl (col := an)).froz 1) (by decide)
       replace bz := bz.thawR (col := an)
       generalize colR c0.heap.size an de = df at *
       refine lA (.slice c2 cr.length c3) <| lN ?_
       replace aq := aq.gr bz
       replace aq := aq.recol 3 1 (by decide)
       replace b0 := b0.recolSelf 1 (by decide)
       replace hst := hst.grow bz
       replace hst := hst.recol 3 1 (by decide) (by decide)
       exact ⟨ba, by omega, ⟨(rcC 3 1 df), c2, c3, cr, ba, rfl, hm, hst, b0, aq, rfl, rfl, rfl, rfl⟩⟩
      rw [if_neg (by rw [hb]; decide)] at hm
      clear hb
      refine wexit (inB_hit ?_)
      refine wS <| wB ?_
      refine wloop (fun n f b1 => ∃ (ax : Col) (ah : Option Addr) (ai : Nat) (ab : List Int) (a6 : Nat), a6 = n ∧ m_r01_Gcd_L4 N (m_r01_Gcd_L2 N ac am) ad a6 ab = some r ∧ St w0 (col0 col) ax b1 ∧ Own (Rep.int .u32) 114 1 ax b1 af ag ad ∧ Own (Rep.int .u32) 114 2 ax b1 ah ai ab ∧ f 5 = (.slice af ad.length ag) ∧ f 6 = (.slice ah ab.length ai) ∧ f 7 = (.int .i64 ac) ∧ f 1000000 = (enc [])) N ⟨an, a8, a9, aj, N, rfl, hm, hst, aa, aq, rfl, rfl, rfl, rfl⟩ ?_
      clear hm; intro n f b1 hI
      obtain ⟨ax, ah, ai, ab, a6, hn, hm, hst, aa, ae, hs5, hs6, hs7, hs1000000⟩ := hI
      subst hn
      refine .lD 5 hs5 <| .lD 6 hs6 <| .lD 7 hs7 <| .lD 1000000 hs1000000 ?_
      clear hs5 hs6 hs7 hs1000000
      cases a6 with
      | zero => rw [m_r01_Gcd_L4.eq_1] at hm; cases hm
      | succ a6 =>
       rw [m_r01_Gcd_L4.eq_2] at hm
       refine wS <| wS ?_
       refine Wp.cut (fun f bj => ∃ (ak : Col) (ch : Bool), m_r01_Gcd_J2 N (m_r01_Gcd_L2 N ac am) ad ab (m_r01_Gcd_L4 N (m_r01_Gcd_L2 N ac am) ad a6) ch = some r ∧ St w0 (col0 col) ak bj ∧ Own (Rep.int .u32) 114 1 ak bj af ag ad ∧ Own (Rep.int .u32) 114 2 ak bj ah ai ab ∧ f 46 = (.bool ch) ∧ f 5 = (.slice af ad.length ag) ∧ f 6 = (.slice ah ab.length ai) ∧ f 7 = (.int .i64 ac) ∧ f 1000000 = (enc [])) ?_ ?_
       ·intro f bj hJ
        obtain ⟨ak, ch, hm, hst, aa, ae, hs46, hs5, hs6, hs7, hs1000000⟩ := hJ
        rw [m_r01_Gcd_J2.eq_1] at hm
        refine .lD 46 hs46 <| .lD 5 hs5 <| .lD 6 hs6 <| .lD 7 hs7 <| .lD 1000000 hs1000000 ?_
        clear hs46 hs5 hs6 hs7 hs1000000
        refine wcond (ch) rfl (fun hb => ?_) (fun hb => ?_)
        ·rw [if_pos hb] at hm
         clear hb
         refine wK <| wB <| wR <| lM (.slice ah ab.length ai) ?_
         obtain ⟨cs, dg, hm⟩ := bS hm
         refine lc rfl rfl (r_call1 Tryz.call191 rfl) (c_r01_half N 4 (frC 2 ak) _ ah ai ab (ae.toSlF (Froz.int .u32)) cs dg) ?_
         rintro _ dz ⟨dh, c4, c5, rfl, b2, b3⟩
         refine ⟨_, rfl, ?_⟩
         replace b3 := b3.thaw (flat_int .u32) b2 ((Fz.refl (col := ak)).froz 2) (by decide)
         replace b2 := b2.thawR (col := ak)
         generalize colR bj.heap.size ak dh = di at *
         refine lA (.slice c4 cs.length c5) <| lN ?_
         replace aa := aa.gr b2
         replace aa := aa.recol 4 2 (by decide)
         replace b3 := b3.recolSelf 2 (by decide)
         replace hst := hst.grow b2
         replace hst := hst.recol 4 2 (by decide) (by decide)
         exact ⟨a6, by omega, ⟨(rcC 4 2 di), c4, c5, cs, a6, rfl, hm, hst, aa, b3, rfl, rfl, rfl, rfl⟩⟩
        rw [if_neg (by rw [hb]; decide)] at hm
        clear hb
        refine wexit (inB_hit ?_)
        refine wS ?_
        refine Wp.cut (fun f b4 => ∃ (a7 : Col) (bk : Option Addr) (bl : Nat) (bb : List Int) (b5 : Option Addr) (b6 : Nat) (bm : List Int), m_r01_Gcd_J3 N (m_r01_Gcd_L2 N ac am) bb bm = some r ∧ St w0 (col0 col) a7 b4 ∧ Own (Rep.int .u32) 114 1 a7 b4 bk bl bb ∧ Own (Rep.int .u32) 114 2 a7 b4 b5 b6 bm ∧ f 5 = (.slice bk bb.length bl) ∧ f 6 = (.slice b5 bm.length b6) ∧ f 7 = (.int .i64 ac) ∧ f 1000000 = (enc [])) ?_ ?_
        ·intro f b4 hJ
         obtain ⟨a7, bk, bl, bb, b5, b6, bm, hm, hst, bn, dj, hs5, hs6, hs7, hs1000000⟩ := hJ
         rw [m_r01_Gcd_J3.eq_1] at hm
         refine .lD 5 hs5 <| .lD 6 hs6 <| .lD 7 hs7 <| .lD 1000000 hs1000000 ?_
         clear hs5 hs6 hs7 hs1000000
         refine wR <| lM (.slice b5 bm.length b6) <| lM (.slice bk bb.length bl) ?_
         obtain ⟨bc, dk, hm⟩ := bS hm
         refine lc rfl rfl (r_call2 Tryz.call189 rfl rfl) (c_r01_Sub N 5 (frC 1 (frC 2 a7)) _ b5 b6 bm bk bl bb ((dj.toSlF (Froz.int .u32)).froz 1) ((bn.froz 2 (by decide)).toSlF (Froz.int .u32)) bc dk) ?_
         rintro _ d0 ⟨dl, ci, cj, rfl, b7, b8⟩
         refine ⟨_, rfl, ?_⟩
         replace b8 := b8.thaw (flat_int .u32) b7 (((Fz.refl (col := a7)).froz 2).froz 1) (by decide)
         replace b7 := b7.thawR (col := a7)
         generalize colR b4.heap.size a7 dl = dm at *
         refine lM (.tuple #[(.slice ci bc.1.length cj), (.bool bc.2)]) <| lV (.slice ci bc.1.length cj) (r_extract rfl rfl) <| lV (.bool bc.2) (r_extract rfl rfl) <| lA (.slice ci bc.1.length cj) <| lN ?_
         replace bn := bn.gr b7
         replace bn := bn.recol 5 2 (by decide)
         replace b8 := b8.recolSelf 2 (by decide)
         replace hst := hst.grow b7
         replace hst := hst.recol 5 2 (by decide) (by decide)
         exact ⟨am, by omega, ⟨(rcC 5 2 dm), bk, bl, bb, ci, cj, bc.1, am, rfl, hm, hst, bn, b8, rfl, rfl, rfl, rfl⟩⟩
        refine wS <| wR <| lM (.slice af ad.length ag) <| lM (.slice ah ab.length ai) ?_
        obtain ⟨ck, dn, hm⟩ := bS hm
        refine lc rfl rfl (r_call2 Tryz.call192 rfl rfl) (c_r01_Cmp N (frC 2 (frC 1 ak)) _ af ag ad ah ai ab ((aa.toSlF (Froz.int .u32)).froz 2) ((ae.froz 1 (by decide)).toSlF (Froz.int .u32)) ck dn) ?_
        rintro _ dp ⟨rfl, b9⟩
        refine ⟨_, rfl, ?_⟩
        replace b9 : Grow ak bj ak dp := .of_below b9
        refine lV (.bool (decide (0 < ck))) (r_gtr ck 0 rfl rfl) <| lN ?_
        replace aa := aa.gr b9
        replace ae := ae.gr b9
        replace hst := hst.grow b9
        refine wcond (decide (0 < ck)) rfl (fun hb => ?_) (fun hb => ?_)
        ·rw [if_pos hb] at hm
         clear hb
         refine wR <| lM (.slice ah ab.length ai) <| lM (.slice af ad.length ag) <| lA (.slice ah ab.length ai) <| lA (.slice af ad.length ag) <| lN ?_
         replace ae := ae.recol 1 6 (by decide)
         replace aa := aa.recolSelf 6 (by decide)
         replace hst := hst.recol 1 6 (by decide) (by decide)
         replace ae := ae.recolSelf 1 (by decide)
         replace aa := aa.recol 2 1 (by decide)
         replace hst := hst.recol 2 1 (by decide) (by decide)
         replace ae := ae.recol 6 2 (by decide)
         replace aa := aa.recolSelf 2 (by decide)
         replace hst := hst.recol 6 2 (by decide) (by decide)
         exact ⟨(rcC 6 2 (rcC 2 1 (rcC 1 6 ak))), ah, ai, ab, af, ag, ad, hm, hst, ae, aa, rfl, rfl, rfl, rfl⟩
        rw [if_neg (by rw [hb]; decide)] at hm
        clear hb
        refine wK ?_
        exact ⟨ak, af, ag, ad, ah, ai, ab, hm, hst, aa, ae, rfl, rfl, rfl, rfl⟩
       refine wR <| lM (.slice ah ab.length ai) <| lV (.int .i64 (ab.length : Int)) (r_len Tryz.underlying36 rfl) <| lV (.bool (decide (0 < (ab.length : Int)))) (r_gtr (ab.length : Int) 0 rfl rfl) <| lM (.bool (decide (0 < (ab.length : Int)))) ?_
       by_cases ar : (decide (0 < (ab.length : Int))) = true
       ·rw [if_pos ar] at hm
        refine lg (b := decide (0 < (ab.length : Int))) 43 rfl rfl rfl (by rw [ar]; rfl) ?_
        refine lM (.slice ah ab.length ai) ?_
        refine lg (b := decide (0 < (ab.length : Int))) 43 rfl rfl rfl (by rw [ar]; rfl) ?_
        obtain ⟨ct, dq, hm⟩ := bS hm
        refine lc rfl rfl (r_call1 Tryz.call190 rfl) (c_r01_even (frC 2 ax) _ ah ai ab (ae.toSlF (Froz.int .u32)) ct dq) ?_
        rintro _ dr ⟨rfl, ca⟩
        refine ⟨_, rfl, ?_⟩
        replace ca : Grow ax b1 ax dr := .of_below ca
        refine lV (.bool ct) (r_pickT (congrArg Value.bool ar) rfl) <| lN ?_
        replace aa := aa.gr ca
        replace ae := ae.gr ca
        replace hst := hst.grow ca
        exact ⟨ax, ct, hm, hst, aa, ae, rfl, rfl, rfl, rfl, rfl⟩
       rw [if_neg ar] at hm
       replace ar := Bool.eq_false_iff.2 ar
       refine lp (b := decide (0 < (ab.length : Int))) 43 rfl rfl rfl rfl (by rw [ar]; rfl) ?_
       refine lp (b := decide (0 < (ab.length : Int))) 43 rfl rfl rfl rfl (by rw [ar]; rfl) ?_
       refine lV (.bool false) (r_pickF (congrArg Value.bool ar) rfl) <| lN ?_
       exact ⟨ax, false, hm, hst, aa, ae, rfl, rfl, rfl, rfl, rfl⟩
    rw [if_neg (by rw [hb]; decide)] at hm
    clear hb
    refine wexit (inB_hit ?_)
    refine wS <| wS <| wR <| lA (.int .i64 0) <| lN <| wB ?_
    refine wloop (fun n f cu => ∃ (cl : Col) (bo : Option Addr) (bp : Nat) (bq : List Int) (bd : Int) (cb : Nat), cb = n ∧ m_r01_Gcd_L5 N ac cb bq bd = some r ∧ St w0 (col0 col) cl cu ∧ Own (Rep.int .u32) 114 1 cl cu bo bp bq ∧ f 5 = (.slice bo bq.length bp) ∧ f 7 = (.int .i64 ac) ∧ f 8 = (.int .i64 bd) ∧ f 1000000 = (enc [])) N ⟨bh, bu, bv, bi, 0, N, rfl, hm, hst, cy, rfl, rfl, rfl, rfl⟩ ?_
    clear hm; intro n f cu hI
    obtain ⟨cl, bo, bp, bq, bd, cb, hn, hm, hst, ds, hs5, hs7, hs8, hs1000000⟩ := hI
    subst hn
    refine .lD 5 hs5 <| .lD 7 hs7 <| .lD 8 hs8 <| .lD 1000000 hs1000000 ?_
    clear hs5 hs7 hs8 hs1000000
    cases cb with
    | zero => rw [m_r01_Gcd_L5.eq_1] at hm; cases hm
    | succ cb =>
     rw [m_r01_Gcd_L5.eq_2] at hm
     refine wS <| wS <| wR <| lM (.int .i64 bd) <| lM (.int .i64 ac) <| lV (.bool (decide (bd < ac))) (r_lss bd ac rfl rfl) <| lN ?_
     refine wcond (decide (bd < ac)) rfl (fun hb => ?_) (fun hb => ?_)
     ·rw [if_pos hb] at hm
      clear hb
      cases hm
     rw [if_neg (by rw [hb]; decide)] at hm
     clear hb
     refine wexit (inB_hit ?_)
     refine wS <| wR <| lM (.slice bo bq.length bp) <| lA (.slice bo bq.length bp) <| lN ?_
     refine wret ?_
     cases hm
     exact ⟨rfl, colF w0.heap.size col cl (fun n => bif Nat.beq n 1 then c1 else 0), bo, bp, rfl, hst.fin (fun n => bif Nat.beq n 1 then c1 else 0), hst.finOwn (g := (fun n => bif Nat.beq n 1 then c1 else 0)) rfl ds (by decide) (by decide) rfl⟩
  refine wR <| lM (.slice a2 ao.length a3) ?_
  obtain ⟨be, dt, hm⟩ := bS hm
  refine lc rfl rfl (r_call1 Tryz.call190 rfl) (c_r01_even (frC 1 al) _ a2 a3 ao (av.toSlF (Froz.int .u32)) be dt) ?_
  rintro _ c6 ⟨rfl, cc⟩
  refine ⟨_, rfl, ?_⟩
  replace cc : Grow al br al c6 := .of_below cc
  refine lM (.bool be) ?_
  replace av := av.gr cc
  replace aw := aw.gr cc
  replace hst := hst.grow cc
  by_cases au : be = true
  ·rw [if_pos au] at hm
   refine lg (b := be) 23 rfl rfl rfl (by rw [au]; rfl) ?_
   refine lM (.slice a4 ap.length a5) ?_
   refine lg (b := be) 23 rfl rfl rfl (by rw [au]; rfl) ?_
   obtain ⟨cv, du, hm⟩ := bS hm
   refine lc rfl rfl (r_call1 Tryz.call190 rfl) (c_r01_even (frC 2 al) _ a4 a5 ap (aw.toSlF (Froz.int .u32)) cv du) ?_
   rintro _ dv ⟨rfl, cd⟩
   refine ⟨_, rfl, ?_⟩
   replace cd : Grow al c6 al dv := .of_below cd
   refine lV (.bool cv) (r_pickT (congrArg Value.bool au) rfl) <| lN ?_
   replace av := av.gr cd
   replace aw := aw.gr cd
   replace hst := hst.grow cd
   exact ⟨al, cv, hm, hst, av, aw, rfl, rfl, rfl, rfl, rfl⟩
  rw [if_neg au] at hm
  replace au := Bool.eq_false_iff.2 au
  refine lp (b := be) 23 rfl rfl rfl rfl (by rw [au]; rfl) ?_
  refine lp (b := be) 23 rfl rfl rfl rfl (by rw [au]; rfl) ?_
  refine lV (.bool false) (r_pickF (congrArg Value.bool au) rfl) <| lN ?_
  exact ⟨al, false, hm, hst, av, aw, rfl, rfl, rfl, rfl, rfl⟩
def m_r01_Bits_L1 (N : Nat)  : Nat → Int → Int → Option Int
  | 0, _, _ => none
  | ac + 1, aa, ab => if (decide (0 < ab)) = true then ((m_r01_Bits_L1 N ac) (IntKind.i64.wrap (aa + 1)) (IntKind.u32.wrap (Int.tdiv ab 2))) else (some aa)
termination_by structural x => x
def m_r01_Bits (N : Nat) (ab : (List Int)) : Option Int :=
  (m_r01_Norm N ab).bind fun aa => if (decide ((aa.length : Int) = 0)) = true then none else ((at? aa (IntKind.i64.wrap ((aa.length : Int) - 1))).bind fun ac => m_r01_Bits_L1 N N (IntKind.i64.wrap (32 * (IntKind.i64.wrap ((aa.length : Int) - 1)))) ac)
theorem c_r01_Bits (N : Nat) (col : Col) (w0 : World) (a0 : Option Addr) (cap0 : Nat) (ae : (List Int)) (h0 : Sl (Rep.int .u32) col w0 a0 cap0 ae) (r : Int) (hm : m_r01_Bits N ae = some r) :
    Calls Tryz.prog 194 #[(.slice a0 ae.length cap0)] w0 (fun e w' => e = .returned ((.int .i64 r)) ∧ Below w0.heap.size w0 w') := by
 refine calls_of1 2 (m := 28) (args := [(.slice a0 ae.length cap0)]) Tryz.func194 rfl rfl rfl rfl rfl ?_
 rw [m_r01_Bits.eq_1] at hm
 have hst := St.start col w0
 refine wS <| wR <| lA (.int .i64 0) <| lN <| wS <| wR <| lM (.slice a0 ae.length cap0) ?_
 obtain ⟨aa, am, hm⟩ := bS hm
 replace h0 := h0.keep (Stay.start col w0)
 refine lc rfl rfl (r_call1 Tryz.call159 rfl) (c_r01_Norm N 1 (col0 col) _ a0 cap0 ae h0 aa am) ?_
 rintro _ ap ⟨an, af, ag, rfl, ao, ak⟩
 refine ⟨_, rfl, ?_⟩
 refine lA (.slice af aa.length ag) <| lN <| wS <| wS <| wR <| lM (.slice af aa.length ag) <| lV (.int .i64 (aa.length : Int)) (r_len Tryz.underlying36 rfl) <| lV (.bool (decide ((aa.length : Int) = 0))) (r_eql (aa.length : Int) 0 rfl rfl) <| lN ?_
 replace hst := hst.grow ao
 refine wcond (decide ((aa.length : Int) = 0)) rfl (fun hb => ?_) (fun hb => ?_)
 ·rw [if_pos hb] at hm
  clear hb
  cases hm
 rw [if_neg (by rw [hb]; decide)] at hm
 clear hb
 refine wK <| wS <| wR <| lM (.slice af aa.length ag) <| lV (.int .i64 (aa.length : Int)) (r_len Tryz.underlying36 rfl) <| lV (.int .i64 (IntKind.i64.wrap ((aa.length : Int) - 1))) (r_sub (aa.length : Int) 1 rfl rfl) <| lV (.int .i64 (IntKind.i64.wrap (32 * (IntKind.i64.wrap ((aa.length : Int) - 1))))) (r_mul 32 (IntKind.i64.wrap ((aa.length : Int) - 1)) rfl rfl) <| lA (.int .i64 (IntKind.i64.wrap (32 * (IntKind.i64.wrap ((aa.length : Int) - 1))))) <| lN <| wS <| wS <| wR <| lM (.slice af aa.length ag) <| lM (.slice af aa.length ag) <| lV (.int .i64 (aa.length : Int)) (r_len Tryz.underlying36 rfl) <| lV (.int .i64 (IntKind.i64.wrap ((aa.length : Int) - 1))) (r_sub (aa.length : Int) 1 rfl rfl) ?_
 obtain ⟨ai, ah, hm⟩ := bS hm
 refine lV (sptr af (Int.toNat (IntKind.i64.wrap ((aa.length : Int) - 1)) * 1)) (r_idx Tryz.underlying36 Tryz.sizeOf114 rfl rfl (at?_some ah).1 (at?_some ah).2.1 (ak.addr ah)) ?_
 refine lV (.int .u32 ai) (r_ld Tryz.isAgg114 rfl (ak.atInt ah)) <| lA (.int .u32 ai) <| lN <| wB ?_
 refine wloop (fun n f al => ∃ (aj : Col) (ac : Int) (ab : Int) (ad : Nat), ad = n ∧ m_r01_Bits_L1 N ad ac ab = some r ∧ St w0 (col0 col) aj al ∧ f 4 = (.int .i64 ac) ∧ f 5 = (.int .u32 ab) ∧ f 1000000 = (enc [])) N ⟨an, (IntKind.i64.wrap (32 * (IntKind.i64.wrap ((aa.length : Int) - 1)))), ai, N, rfl, hm, hst, rfl, rfl, rfl⟩ ?_
 clear hm; intro n f al hI
 obtain ⟨aj, ac, ab, ad, hn, hm, hst, hs4, hs5, hs1000000⟩ := hI
 subst hn
 refine .lD 4 hs4 <| .lD 5 hs5 <| .lD 1000000 hs1000000 ?_
 clear hs4 hs5 hs1000000
 cases ad with
 | zero => rw [m_r01_Bits_L1.eq_1] at hm; cases hm
 | succ ad =>
  rw [m_r01_Bits_L1.eq_2] at hm
  refine wS <| wS <| wR <| lM (.int .u32 ab) <| lV (.bool (decide (0 < ab))) (r_gtr ab 0 rfl rfl) <| lN ?_
  refine wcond (decide (0 < ab)) rfl (fun hb => ?_) (fun hb => ?_)
  ·rw [if_pos hb] at hm
   clear hb
   refine wK <| wS <| wB <| wR <| lM (.int .i64 ac) <| lV (.int .i64 (IntKind.i64.wrap (ac + 1))) (r_add ac 1 rfl rfl) <| lA (.int .i64 (IntKind.i64.wrap (ac + 1))) <| lN <| wR <| lM (.int .u32 ab) <| lV (.int .u32 (IntKind.u32.wrap (Int.tdiv ab 2))) (r_quo ab 2 rfl rfl (by decide)) <| lA (.int .u32 (IntKind.u32.wrap (Int.tdiv ab 2))) <| lN ?_
   exact ⟨ad, by omega, ⟨aj, (IntKind.i64.wrap (ac + 1)), (IntKind.u32.wrap (Int.tdiv ab 2)), ad, rfl, hm, hst, rfl, rfl, rfl⟩⟩
  rw [if_neg (by rw [hb]; decide)] at hm
  clear hb
  refine wexit (inB_hit ?_)
  refine wS <| wR <| lM (.int .i64 ac) <| lA (.int .i64 ac) <| lN ?_
  refine wret ?_
  cases hm
  exact ⟨rfl, rfl, hst.below⟩
def m_r01_Bit (ab : (List Int)) (aa : Int) : Option Int :=
  (m_r01_limb ab (IntKind.i64.wrap (Int.tdiv aa 32))).bind fun ac => chk (0 ≤ (Int.tmod aa 32)) (some (Int.tmod (IntKind.u32.wrap (ishr .u64 ac (Int.tmod aa 32))) 2))
theorem c_r01_Bit (col : Col) (w0 : World) (a0 : Option Addr) (cap0 : Nat) (ac : (List Int)) (aa : Int) (h0 : Sl (Rep.int .u32) col w0 a0 cap0 ac) (r : Int) (hm : m_r01_Bit ac aa = some r) :
    Calls Tryz.prog 195 #[(.slice a0 ac.length cap0), (.int .i64 aa)] w0 (fun e w' => e = .returned ((.int .u32 r)) ∧ Below w0.heap.size w0 w') := by
 refine calls_of1 4 (m := 14) (args := [(.slice a0 ac.length cap0), (.int .i64 aa)]) Tryz.func195 rfl rfl rfl rfl rfl ?_
 rw [m_r01_Bit.eq_1] at hm
 have hst := St.start col w0
 refine wS <| wR <| lA (.int .u32 0) <| lN <| wS <| wR <| lM (.slice a0 ac.length cap0) <| lM (.int .i64 aa) <| lV (.int .i64 (IntKind.i64.wrap (Int.tdiv aa 32))) (r_quo aa 32 rfl rfl (by decide)) ?_
 obtain ⟨ab, ae, hm⟩ := bS hm
 replace h0 := h0.keep (Stay.start col w0)
 refine lc rfl rfl (r_call2 Tryz.call182 rfl rfl) (c_r01_limb (col0 col) _ a0 cap0 ac (IntKind.i64.wrap (Int.tdiv aa 32)) h0 ab ae) ?_
 rintro _ af ⟨rfl, ad⟩
 refine ⟨_, rfl, ?_⟩
 replace ad : Grow (col0 col) w0 (col0 col) af := .of_below ad
 refine lM (.int .i64 aa) <| lV (.int .i64 (Int.tmod aa 32)) (r_rem aa 32 rfl rfl (by decide)) ?_
 obtain ⟨ag, hm⟩ := cS hm
 refine lV (.int .u64 (ishr .u64 ab (Int.tmod aa 32))) (r_shr ab (Int.tmod aa 32) rfl rfl ag) <| lV (.int .u32 (IntKind.u32.wrap (ishr .u64 ab (Int.tmod aa 32)))) (r_conv (ishr .u64 ab (Int.tmod aa 32)) ⟨_, Tryz.underlying108⟩ Tryz.underlying114 rfl) <| lV (.int .u32 (Int.tmod (IntKind.u32.wrap (ishr .u64 ab (Int.tmod aa 32))) 2)) (r_rem (IntKind.u32.wrap (ishr .u64 ab (Int.tmod aa 32))) 2 rfl rfl (by decide)) <| lA (.int .u32 (Int.tmod (IntKind.u32.wrap (ishr .u64 ab (Int.tmod aa 32))) 2)) <| lN ?_
 refine wret ?_
 cases hm
 replace hst := hst.grow ad
 exact ⟨rfl, rfl, hst.below⟩
theorem el114_193 : ElemOk Tryz.prog 114 1 4 := ⟨Tryz.t114, _, rfl, rfl, rfl, rfl, rfl⟩
def m_r01_double_J1 (aa : List Int) : Option (List Int) :=
  some aa
def m_r01_double_L1 (N : Nat) (ac : (List Int)) : Nat → (List Int) → Int → Int → Option (List Int)
  | 0, _, _, _ => none
  | ae + 1, aa, ab, ad => if (decide (ad < (ac.length : Int))) = true then none else (if (decide (0 < ab)) = true then (chk ((aa.length + [IntKind.u32.wrap ab].length) * 4 ≤ 140737488355328 ∧ aa.length + [IntKind.u32.wrap ab].length ≤ maxLen) (m_r01_double_J1 (aa ++ [IntKind.u32.wrap ab]))) else (m_r01_double_J1 aa))
def m_r01_double (N : Nat) (aa : (List Int)) (ab : Int) : Option (List Int) :=
  m_r01_double_L1 N aa N ([] : List Int) (IntKind.u64.wrap ab) 0
theorem c_r01_double (N : Nat) (c1 : Nat) (col : Col) (w0 : World) (a0 : Option Addr) (cap0 : Nat) (ab : (List Int)) (ad : Int) (h0 : Sl (Rep.int .u32) col w0 a0 cap0 ab) (r : (List Int)) (hm : m_r01_double N ab ad = some r) :
    Calls Tryz.prog 193 #[(.slice a0 ab.length cap0), (.int .u32 ad)] w0 (fun e w' => ∃ (col' : Col) (ra1 : Option Addr) (rc2 : Nat), e = .returned ((.slice ra1 r.length rc2)) ∧ Grow col w0 col' w' ∧ Own (Rep.int .u32) 114 c1 col' w' ra1 rc2 r) := by
 refine calls_of1 4 (m := 40) (args := [(.slice a0 ab.length cap0), (.int .u32 ad)]) Tryz.func193 rfl rfl rfl rfl rfl ?_
 rw [m_r01_double.eq_1] at hm
 have hst := St.start col w0
 refine wS <| wR <| lA (.slice none (([] : List Int).length) 0) <| lN <| wS <| wR <| lA (.slice none (([] : List Int).length) 0) <| lN <| wS <| wR <| lM (.int .u32 ad) <| lV (.int .u64 (IntKind.u64.wrap ad)) (r_conv ad ⟨_, Tryz.underlying114⟩ Tryz.underlying108 rfl) <| lA (.int .u64 (IntKind.u64.wrap ad)) <| lN <| wS <| wS <| wR <| lA (.int .i64 0) <| lN <| wB ?_
 replace h0 := h0.keep (Stay.start col w0)
 refine wloop (fun n f an => ∃ (af : Col) (aj : Option Addr) (ak : Nat) (ac : List Int) (aa : Int) (ae : Int) (al : Nat), al = n ∧ m_r01_double_L1 N ab al ac aa ae = some r ∧ St w0 (col0 col) af an ∧ Sl (Rep.int .u32) af an a0 cap0 ab ∧ Own (Rep.int .u32) 114 1 af an aj ak ac ∧ f 0 = (.slice a0 ab.length cap0) ∧ f 5 = (.slice aj ac.length ak) ∧ f 6 = (.int .u64 aa) ∧ f 7 = (.int .i64 ae) ∧ f 1000000 = (enc [])) N ⟨(col0 col), none, 0, ([] : List Int), (IntKind.u64.wrap ad), 0, N, rfl, hm, hst, h0, Own.nil, rfl, rfl, rfl, rfl, rfl⟩ ?_
 clear hm; intro n f an hI
 obtain ⟨af, aj, ak, ac, aa, ae, al, hn, hm, hst, h0, am, hs0, hs5, hs6, hs7, hs1000000⟩ := hI
 subst hn
 refine .lD 0 hs0 <| .lD 5 hs5 <| .lD 6 hs6 <| .lD 7 hs7 <| .lD 1000000 hs1000000 ?_
 clear hs0 hs5 hs6 hs7 hs1000000
 cases al with
 | zero => rw [m_r01_double_L1.eq_1] at hm; cases hm
 | succ al =>
  rw [m_r01_double_L1.eq_2] at hm
  refine wS <| wS <| wR <| lM (.int .i64 ae) <| lM (.slice a0 ab.length cap0) <| lV (.int .i64 (ab.length : Int)) (r_len Tryz.underlying36 rfl) <| lV (.bool (decide (ae < (ab.length : Int)))) (r_lss ae (ab.length : Int) rfl rfl) <| lN ?_
  refine wcond (decide (ae < (ab.length : Int))) rfl (fun hb => ?_) (fun hb => ?_)
  ·rw [if_pos hb] at hm
   clear hb
   cases hm
  rw [if_neg (by rw [hb]; decide)] at hm
  clear hb
  refine wexit (inB_hit ?_)
  refine wS ?_
  refine Wp.cut (fun f ap => ∃ (ao : Col) (ag : Option Addr) (ah : Nat) (ai : List Int), m_r01_double_J1 ai = some r ∧ St w0 (col0 col) ao ap ∧ Own (Rep.int .u32) 114 1 ao ap ag ah ai ∧ f 5 = (.slice ag ai.length ah) ∧ f 1000000 = (enc [])) ?_ ?_
  ·intro f ap hJ
   obtain ⟨ao, ag, ah, ai, hm, hst, aw, hs5, hs1000000⟩ := hJ
   rw [m_r01_double_J1.eq_1] at hm
   refine .lD 5 hs5 <| .lD 1000000 hs1000000 ?_
   clear hs5 hs1000000
   refine wS <| wR <| lM (.slice ag ai.length ah) <| lA (.slice ag ai.length ah) <| lN ?_
   refine wret ?_
   cases hm
   exact ⟨rfl, colF w0.heap.size col ao (fun n => bif Nat.beq n 1 then c1 else 0), ag, ah, rfl, hst.fin (fun n => bif Nat.beq n 1 then c1 else 0), hst.finOwn (g := (fun n => bif Nat.beq n 1 then c1 else 0)) rfl aw (by decide) (by decide) rfl⟩
  refine wS <| wR <| lM (.int .u64 aa) <| lV (.bool (decide (0 < aa))) (r_gtr aa 0 rfl rfl) <| lN ?_
  refine wcond (decide (0 < aa)) rfl (fun hb => ?_) (fun hb => ?_)
  ·rw [if_pos hb] at hm
   clear hb
   refine wR <| lM (.slice aj ac.length ak) <| lM (.int .u64 aa) <| lV (.int .u32 (IntKind.u32.wrap aa)) (r_conv aa ⟨_, Tryz.underlying108⟩ Tryz.underlying114 rfl) ?_
   refine l_lit (col := af) (r := (Rep.int .u32)) (xs := [IntKind.u32.wrap aa]) [(.int .u32 (IntKind.u32.wrap aa))] 2 rfl Tryz.underlying36 el114_193 rfl rfl rfl rfl rfl rfl (by intro v hv; simp only [List.mem_cons, List.not_mem_nil, or_false] at hv; subst hv; rfl) (RowsH.ofF (Rows.consF (r := (Rep.int .u32)) (x := IntKind.u32.wrap aa) (cs := [(.int .u32 (IntKind.u32.wrap aa))]) (rd_int .u32 (IntKind.u32.wrap aa)) Rows.nil0)) ?_
   intro a4 ax ay aq az
   obtain ⟨ar, hm⟩ := cS hm
   replace am := am.gr aq
   refine l_appendM (col := ay) (w := ax) (r := (Rep.int .u32)) (c := 1) (c2 := 1) (xs := ac) (ys := [IntKind.u32.wrap aa]) am (az.srcN (NB.int (k := .u32))) rfl Tryz.underlying36 el114_193 rfl rfl rfl ar.1 ar.2 (by decide) ?_
   intro au av a5 a1 a2 a3
   clear am
   refine lA (.slice au ((ac ++ [IntKind.u32.wrap aa]).length) av) <| lN ?_
   replace hst := (hst.grow aq).kpp a2
   exact ⟨a1, au, av, (ac ++ [IntKind.u32.wrap aa]), hm, hst, a3, rfl, rfl⟩
  rw [if_neg (by rw [hb]; decide)] at hm
  clear hb
  refine wK ?_
  exact ⟨af, aj, ak, ac, hm, hst, am, rfl, rfl⟩
def m_r01_DivMod_J1 (aa : Int) (kk_L1 : ((List Int) → Int → (List Int) → Option ((List Int) × (List Int) × Int))) (ab : List Int) (ac : List Int) : Option ((List Int) × (List Int) × Int) :=
  kk_L1 ab (IntKind.i64.wrap (aa - 1)) ac
def m_r01_DivMod_L1 (N : Nat) (ad : (List Int)) (ab : (List Int)) : Nat → (List Int) → Int → (List Int) → Option ((List Int) × (List Int) × Int)
  | 0, _, _, _ => none
  | af + 1, ag, aa, ac => if (decide (0 ≤ aa)) = true then ((m_r01_Bit ad aa).bind fun ah => (m_r01_double N ag ah).bind fun ai => (m_r01_Norm N ai).bind fun ae => (m_r01_Cmp N ae ab).bind fun aj => if (decide (0 ≤ aj)) = true then ((m_r01_Sub N ae ab).bind fun ak => (at? ac (IntKind.i64.wrap (Int.tdiv aa 32))).bind fun al => chk (0 ≤ (Int.tmod aa 32)) ((some (ac.set (Int.toNat (IntKind.i64.wrap (Int.tdiv aa 32))) (IntKind.u32.wrap (al + (ishl .u32 1 (Int.tmod aa 32)))))).bind fun am => m_r01_DivMod_J1 aa (m_r01_DivMod_L1 N ad ab af) ak.1 am)) else (m_r01_DivMod_J1 aa (m_r01_DivMod_L1 N ad ab af) ae ac)) else ((m_r01_Norm N ac).bind fun an => some (an, ag, 0))
termination_by structural x => x
def m_r01_DivMod (N : Nat) (ab : (List Int)) (ad : (List Int)) : Option ((List Int) × (List Int) × Int) :=
  (m_r01_Norm N ad).bind fun ac => if (decide ((ac.length : Int) = 0)) = true then none else ((m_r01_Bits N ab).bind fun aa => chk ((Int.toNat (IntKind.i64.wrap (Int.tdiv (IntKind.i64.wrap (aa + 31)) 32))) * 4 ≤ 281474976710656 ∧ (Int.toNat (IntKind.i64.wrap (Int.tdiv (IntKind.i64.wrap (aa + 31)) 32))) ≤ maxLen ∧ 0 ≤ (IntKind.i64.wrap (Int.tdiv (IntKind.i64.wrap (aa + 31)) 32))) (m_r01_DivMod_L1 N ab ac N ([] : List Int) (IntKind.i64.wrap (aa - 1)) (List.replicate (Int.toNat (IntKind.i64.wrap (Int.tdiv (IntKind.i64.wrap (aa + 31)) 32))) (0 : Int))))
theorem c_r01_DivMod (N : Nat) (c1 : Nat) (c2 : Nat) (col : Col) (w0 : World) (a0 : Option Addr) (cap0 : Nat) (ag : (List Int)) (a1 : Option Addr) (cap1 : Nat) (a9 : (List Int)) (h0 : Sl (Rep.int .u32) col w0 a0 cap0 ag) (h1 : Sl (Rep.int .u32) col w0 a1 cap1 a9) (r : ((List Int) × (List Int) × Int)) (hm : m_r01_DivMod N ag a9 = some r) :
    Calls Tryz.prog 181 #[(.slice a0 ag.length cap0), (.slice a1 a9.length cap1)] w0 (fun e w' => ∃ (col' : Col) (ra1 : Option Addr) (rc2 : Nat) (ra4 : Option Addr) (rc5 : Nat), e = .returned (.tuple #[(.slice ra1 r.1.length rc2), (.slice ra4 r.2.1.length rc5), (.int .i64 r.2.2)]) ∧ Grow col w0 col' w' ∧ Own (Rep.int .u32) 114 c1 col' w' ra1 rc2 r.1 ∧ Own (Rep.int .u32) 114 c2 col' w' ra4 rc5 r.2.1) := by
 refine calls_of3 4 5 6 (m := 61) (args := [(.slice a0 ag.length cap0), (.slice a1 a9.length cap1)]) Tryz.func181 rfl rfl rfl rfl rfl ?_
 rw [m_r01_DivMod.eq_1] at hm
 have hst := St.start col w0
 refine wS <| wR <| lA (.slice none (([] : List Int).length) 0) <| lA (.slice none (([] : List Int).length) 0) <| lA (.int .i64 0) <| lN <| wS <| wR <| lM (.slice a1 a9.length cap1) ?_
 obtain ⟨ac, cb, hm⟩ := bS hm
 replace h1 := h1.keep (Stay.start col w0)
 refine lc rfl rfl (r_call1 Tryz.call159 rfl) (c_r01_Norm N 1 (col0 col) _ a1 cap1 a9 h1 ac cb) ?_
 rintro _ cc ⟨bj, ak, al, rfl, b0, ab⟩
 refine ⟨_, rfl, ?_⟩
 refine lA (.slice ak ac.length al) <| lN <| wS <| wS <| wR <| lM (.slice ak ac.length al) <| lV (.int .i64 (ac.length : Int)) (r_len Tryz.underlying36 rfl) <| lV (.bool (decide ((ac.length : Int) = 0))) (r_eql (ac.length : Int) 0 rfl rfl) <| lN ?_
 replace h0 := (h0.keep (Stay.start col w0)).gr b0
 replace hst := hst.grow b0
 refine wcond (decide ((ac.length : Int) = 0)) rfl (fun hb => ?_) (fun hb => ?_)
 ·rw [if_pos hb] at hm
  clear hb
  cases hm
 rw [if_neg (by rw [hb]; decide)] at hm
 clear hb
 refine wK <| wS <| wR <| lM (.slice a0 ag.length cap0) ?_
 obtain ⟨ad, cd, hm⟩ := bS hm
 refine lc rfl rfl (r_call1 Tryz.call194 rfl) (c_r01_Bits N bj _ a0 cap0 ag h0 ad cd) ?_
 rintro _ b1 ⟨rfl, bf⟩
 refine ⟨_, rfl, ?_⟩
 replace bf : Grow bj cc bj b1 := .of_below bf
 refine lA (.int .i64 ad) <| lN <| wS <| wR <| lM (.int .i64 ad) <| lV (.int .i64 (IntKind.i64.wrap (ad + 31))) (r_add ad 31 rfl rfl) <| lV (.int .i64 (IntKind.i64.wrap (Int.tdiv (IntKind.i64.wrap (ad + 31)) 32))) (r_quo (IntKind.i64.wrap (ad + 31)) 32 rfl rfl (by decide)) ?_
 obtain ⟨bk, hm⟩ := cS hm
 refine l_make (col := bj) (w := b1) (r := (Rep.int .u32)) (n := (Int.toNat (IntKind.i64.wrap (Int.tdiv (IntKind.i64.wrap (ad + 31)) 32)))) (x0 := 0) 2 rfl Tryz.underlying36 Tryz.t114 rfl rfl rfl rfl rfl (congrArg (Value.int _) (Int.toNat_of_nonneg bk.2.2).symm) (congrArg (Value.int _) (Int.toNat_of_nonneg bk.2.2).symm) bk.1 bk.2.1 (rd_int .u32 0) ?_
 intro b2 c4 ce bw cf
 refine lA (.slice b2 ((List.replicate (Int.toNat (IntKind.i64.wrap (Int.tdiv (IntKind.i64.wrap (ad + 31)) 32))) (0 : Int)).length) (Int.toNat (IntKind.i64.wrap (Int.tdiv (IntKind.i64.wrap (ad + 31)) 32)))) <| lN <| wS <| wR <| lA (.slice none (([] : List Int).length) 0) <| lN <| wS <| wS <| wR <| lM (.int .i64 ad) <| lV (.int .i64 (IntKind.i64.wrap (ad - 1))) (r_sub ad 1 rfl rfl) <| lA (.int .i64 (IntKind.i64.wrap (ad - 1))) <| lN <| wB ?_
 replace h0 := (h0.gr bf).gr bw
 replace ab := (ab.gr bf).gr bw
 replace hst := (hst.grow bf).grow bw
 refine wloop (fun n f ap => ∃ (ae : Col) (aq : Option Addr) (ar : Nat) (au : List Int) (aa : Int) (ah : Option Addr) (ai : Nat) (aj : List Int) (av : Nat), av = n ∧ m_r01_DivMod_L1 N ag ac av au aa aj = some r ∧ St w0 (col0 col) ae ap ∧ Sl (Rep.int .u32) ae ap a0 cap0 ag ∧ Own (Rep.int .u32) 114 3 ae ap aq ar au ∧ Own (Rep.int .u32) 114 1 ae ap ak al ac ∧ Own (Rep.int .u32) 114 2 ae ap ah ai aj ∧ f 0 = (.slice a0 ag.length cap0) ∧ f 10 = (.slice aq au.length ar) ∧ f 11 = (.int .i64 aa) ∧ f 7 = (.slice ak ac.length al) ∧ f 9 = (.slice ah aj.length ai) ∧ f 1000000 = (enc [])) N ⟨ce, none, 0, ([] : List Int), (IntKind.i64.wrap (ad - 1)), b2, (Int.toNat (IntKind.i64.wrap (Int.tdiv (IntKind.i64.wrap (ad + 31)) 32))), (List.replicate (Int.toNat (IntKind.i64.wrap (Int.tdiv (IntKind.i64.wrap (ad + 31)) 32))) (0 : Int)), N, rfl, hm, hst, h0, Own.nil, ab, cf, rfl, rfl, rfl, rfl, rfl, rfl⟩ ?_
 clear hm; intro n f ap hI
 obtain ⟨ae, aq, ar, au, aa, ah, ai, aj, av, hn, hm, hst, h0, ba, ab, af, hs0, hs10, hs11, hs7, hs9, hs1000000⟩ := hI
 subst hn
 refine .lD 0 hs0 <| .lD 10 hs10 <| .lD 11 hs11 <| .lD 7 hs7 <| .lD 9 hs9 <| .lD 1000000 hs1000000 ?_
 clear hs0 hs10 hs11 hs7 hs9 hs1000000
 cases av with
 | zero => rw [m_r01_DivMod_L1.eq_1] at hm; cases hm
 | succ av =>
  rw [m_r01_DivMod_L1.eq_2] at hm
  refine wS <| wS <| wR <| lM (.int .i64 aa) <| lV (.bool (decide (0 ≤ aa))) (r_geq aa 0 rfl rfl) <| lN ?_
  refine wcond (decide (0 ≤ aa)) rfl (fun hb => ?_) (fun hb => ?_)
  ·rw [if_pos hb] at hm
   clear hb
   refine wK <| wS ?_
   refine Wp.cut (fun f bb => ∃ (ay : Col) (bl : Option Addr) (bm : Nat) (bg : List Int) (bn : Option Addr) (bo : Nat) (bh : List Int), m_r01_DivMod_J1 aa (m_r01_DivMod_L1 N ag ac av) bg bh = some r ∧ St w0 (col0 col) ay bb ∧ Sl (Rep.int .u32) ay bb a0 cap0 ag ∧ Own (Rep.int .u32) 114 3 ay bb bl bm bg ∧ Own (Rep.int .u32) 114 1 ay bb ak al ac ∧ Own (Rep.int .u32) 114 2 ay bb bn bo bh ∧ f 0 = (.slice a0 ag.length cap0) ∧ f 10 = (.slice bl bg.length bm) ∧ f 11 = (.int .i64 aa) ∧ f 7 = (.slice ak ac.length al) ∧ f 9 = (.slice bn bh.length bo) ∧ f 1000000 = (enc [])) ?_ ?_
   ·intro f bb hJ
    obtain ⟨ay, bl, bm, bg, bn, bo, bh, hm, hst, h0, cg, ab, ch, hs0, hs10, hs11, hs7, hs9, hs1000000⟩ := hJ
    rw [m_r01_DivMod_J1.eq_1] at hm
    refine .lD 0 hs0 <| .lD 10 hs10 <| .lD 11 hs11 <| .lD 7 hs7 <| .lD 9 hs9 <| .lD 1000000 hs1000000 ?_
    clear hs0 hs10 hs11 hs7 hs9 hs1000000
    refine wR <| lM (.int .i64 aa) <| lV (.int .i64 (IntKind.i64.wrap (aa - 1))) (r_sub aa 1 rfl rfl) <| lA (.int .i64 (IntKind.i64.wrap (aa - 1))) <| lN ?_
    exact ⟨av, by omega, ⟨ay, bl, bm, bg, (IntKind.i64.wrap (aa - 1)), bn, bo, bh, av, rfl, hm, hst, h0, cg, ab, ch, rfl, rfl, rfl, rfl, rfl, rfl⟩⟩
   refine wB <| wS <| wR <| lM (.slice aq au.length ar) <| lM (.slice a0 ag.length cap0) <| lM (.int .i64 aa) ?_
   obtain ⟨b3, ci, hm⟩ := bS hm
   refine lc rfl rfl (r_call2 Tryz.call195 rfl rfl) (c_r01_Bit ae _ a0 cap0 ag aa h0 b3 ci) ?_
   rintro _ b4 ⟨rfl, az⟩
   refine ⟨_, rfl, ?_⟩
   replace az : Grow ae ap ae b4 := .of_below az
   obtain ⟨b5, cj, hm⟩ := bS hm
   replace ba := ba.gr az
   refine lc rfl rfl (r_call2 Tryz.call193 rfl rfl) (c_r01_double N 4 (frC 3 ae) _ aq ar au b3 (ba.toSlF (Froz.int .u32)) b5 cj) ?_
   rintro _ ck ⟨cl, cm, cn, rfl, a2, bx⟩
   refine ⟨_, rfl, ?_⟩
   replace bx := bx.thaw (flat_int .u32) a2 ((Fz.refl (col := ae)).froz 3) (by decide)
   replace a2 := a2.thawR (col := ae)
   generalize colR b4.heap.size ae cl = bp at *
   obtain ⟨a3, co, hm⟩ := bS hm
   refine lc rfl rfl (r_call1 Tryz.call159 rfl) (c_r01_Norm N 5 (frC 4 bp) _ cm cn b5 (bx.toSlF (Froz.int .u32)) a3 co) ?_
   rintro _ cp ⟨cq, bc, bd, rfl, a4, am⟩
   refine ⟨_, rfl, ?_⟩
   replace am := am.thaw (flat_int .u32) a4 ((Fz.refl (col := bp)).froz 4) (by decide)
   replace a4 := a4.thawR (col := bp)
   generalize colR ck.heap.size bp cq = aw at *
   refine lA (.slice bc a3.length bd) <| lN <| wS <| wR <| lM (.slice bc a3.length bd) <| lM (.slice ak ac.length al) ?_
   obtain ⟨bq, cr, hm⟩ := bS hm
   replace ab := ((ab.gr az).gr a2).gr a4
   refine lc rfl rfl (r_call2 Tryz.call192 rfl rfl) (c_r01_Cmp N (frC 1 (frC 5 aw)) _ bc bd a3 ak al ac ((am.toSlF (Froz.int .u32)).froz 1) ((ab.froz 5 (by decide)).toSlF (Froz.int .u32)) bq cr) ?_
   rintro _ b6 ⟨rfl, a5⟩
   refine ⟨_, rfl, ?_⟩
   replace a5 : Grow aw cp aw b6 := .of_below a5
   refine lV (.bool (decide (0 ≤ bq))) (r_geq bq 0 rfl rfl) <| lN ?_
   replace h0 := (((h0.gr az).gr a2).gr a4).gr a5
   replace af := (((af.gr az).gr a2).gr a4).gr a5
   replace hst := (((hst.grow az).grow a2).grow a4).grow a5
   replace ab := ab.gr a5
   replace am := am.gr a5
   refine wcond (decide (0 ≤ bq)) rfl (fun hb => ?_) (fun hb => ?_)
   ·rw [if_pos hb] at hm
    clear hb
    refine wS <| wR <| lM (.slice bc a3.length bd) <| lM (.slice ak ac.length al) ?_
    obtain ⟨a6, cs, hm⟩ := bS hm
    refine lc rfl rfl (r_call2 Tryz.call189 rfl rfl) (c_r01_Sub N 6 (frC 1 (frC 5 aw)) _ bc bd a3 ak al ac ((am.toSlF (Froz.int .u32)).froz 1) ((ab.froz 5 (by decide)).toSlF (Froz.int .u32)) a6 cs) ?_
    rintro _ ct ⟨cu, br, bs, rfl, a7, an⟩
    refine ⟨_, rfl, ?_⟩
    replace an := an.thaw (flat_int .u32) a7 (((Fz.refl (col := aw)).froz 5).froz 1) (by decide)
    replace a7 := a7.thawR (col := aw)
    generalize colR b6.heap.size aw cu = ao at *
    refine lM (.tuple #[(.slice br a6.1.length bs), (.bool a6.2)]) <| lV (.slice br a6.1.length bs) (r_extract rfl rfl) <| lV (.bool a6.2) (r_extract rfl rfl) <| lA (.slice br a6.1.length bs) <| lN ?_
    refine wmix (col := ao) [(0, 1), (1, 1), (2, 1), (3, 1), (4, 1), (5, 1), (6, 1), (7, 0), (8, 1), (9, 1), (10, 1), (11, 1), (12, 1), (13, 2)] (by kernel_rfl) (by kernel_rfl) ?_
    refine xu (v := (.slice ah aj.length ai)) rfl rfl (fun _ => r_move rfl) ?_
    refine xu (v := (.int .i64 aa)) rfl rfl (fun _ => r_move rfl) ?_
    refine xu (v := (.int .i64 (IntKind.i64.wrap (Int.tdiv aa 32)))) rfl rfl (fun _ => r_quo aa 32 rfl rfl (by decide)) ?_
    refine xu (v := (.slice ah aj.length ai)) rfl rfl (fun _ => r_move rfl) ?_
    refine xu (v := (.int .i64 aa)) rfl rfl (fun _ => r_move rfl) ?_
    refine xu (v := (.int .i64 (IntKind.i64.wrap (Int.tdiv aa 32)))) rfl rfl (fun _ => r_quo aa 32 rfl rfl (by decide)) ?_
    obtain ⟨a8, ax, hm⟩ := bS hm
    replace af := af.gr a7
    refine xu (v := (sptr ah (Int.toNat (IntKind.i64.wrap (Int.tdiv aa 32)) * 1))) rfl rfl (fun _ => r_idx Tryz.underlying36 Tryz.sizeOf114 rfl rfl (at?_some ax).1 (at?_some ax).2.1 (af.addr ax)) ?_
    refine xv (v := (.int .u32 a8)) rfl rfl (fun _ hC => r_ld Tryz.isAgg114 rfl ((af.gr (Grow.of_below (col := ao) hC.below)).atInt ax)) ?_
    refine xu (v := (.int .i64 aa)) rfl rfl (fun _ => r_move rfl) ?_
    refine xu (v := (.int .i64 (Int.tmod aa 32))) rfl rfl (fun _ => r_rem aa 32 rfl rfl (by decide)) ?_
    obtain ⟨cv, hm⟩ := cS hm
    refine xu (v := (.int .u32 (ishl .u32 1 (Int.tmod aa 32)))) rfl rfl (fun _ => r_shl 1 (Int.tmod aa 32) rfl rfl cv) ?_
    refine xu (v := (.int .u32 (IntKind.u32.wrap (a8 + (ishl .u32 1 (Int.tmod aa 32)))))) rfl rfl (fun _ => r_add a8 (ishl .u32 1 (Int.tmod aa 32)) rfl rfl) ?_
    refine xu (v := (sptr ah (Int.toNat (IntKind.i64.wrap (Int.tdiv aa 32)) * 1))) rfl rfl (fun _ => r_idx Tryz.underlying36 Tryz.sizeOf114 rfl rfl (at?_some ax).1 (at?_some ax).2.1 (af.addr ax)) ?_
    refine xe rfl rfl ?_
    intro cw hC0
    have hC : Grow ao ct ao cw := .of_below hC0.below
    obtain ⟨bt, bu, hm⟩ := bS hm
    have bu : bt = aj.set (Int.toNat (IntKind.i64.wrap (Int.tdiv aa 32))) (IntKind.u32.wrap (a8 + (ishl .u32 1 (Int.tmod aa 32)))) := (Option.some.inj bu).symm
    replace af := af.gr hC
    refine l_store (x1 := IntKind.u32.wrap (a8 + (ishl .u32 1 (Int.tmod aa 32)))) (v := (.int .u32 (IntKind.u32.wrap (a8 + (ishl .u32 1 (Int.tmod aa 32)))))) af ax rfl Tryz.sizeOf114 (rd_int .u32 (IntKind.u32.wrap (a8 + (ishl .u32 1 (Int.tmod aa 32))))) rfl rfl (by decide) ?_
    intro b7 bv cx be
    rw [← bu] at be
    refine .ld (d := 9) (v := (.slice ah bt.length ai)) (congrArg (fun n => Value.slice ah n ai) (show aj.length = bt.length by rw [bu, List.length_set])) ?_
    clear af
    refine lN ⟨fun w' => Grow ao b7 ao w', Grow.refl _ _, fun h => absurd h (by decide), ?_⟩
    refine xnil ?_
    replace h0 := ((h0.gr a7).gr hC).kp bv
    replace ab := ((ab.gr a7).gr hC).kp bv
    replace hst := ((hst.grow a7).grow hC).kp bv cx
    replace an := (an.gr hC).kp bv
    intro cy hC
    replace hC : Grow ao b7 ao cy := .of_below hC.below
    replace h0 := h0.gr hC
    replace h0 := h0.recol 6 3 (by decide)
    replace ab := ab.gr hC
    replace ab := ab.recol 6 3 (by decide)
    replace be := be.gr hC
    replace be := be.recol 6 3 (by decide)
    replace an := an.gr hC
    replace an := an.recolSelf 3 (by decide)
    replace hst := hst.grow hC
    replace hst := hst.recol 6 3 (by decide) (by decide)
    exact ⟨(rcC 6 3 ao), br, bs, a6.1, ah, ai, bt, hm, hst, h0, an, ab, be, rfl, rfl, rfl, rfl, rfl, rfl⟩
   rw [if_neg (by rw [hb]; decide)] at hm
   clear hb
   refine wK ?_
   replace h0 := h0.recol 5 3 (by decide)
   replace ab := ab.recol 5 3 (by decide)
   replace af := af.recol 5 3 (by decide)
   replace am := am.recolSelf 3 (by decide)
   replace hst := hst.recol 5 3 (by decide) (by decide)
   exact ⟨(rcC 5 3 aw), bc, bd, a3, ah, ai, aj, hm, hst, h0, am, ab, af, rfl, rfl, rfl, rfl, rfl, rfl⟩
  rw [if_neg (by rw [hb]; decide)] at hm
  clear hb
  refine wexit (inB_hit ?_)
  refine wS <| wR <| lM (.slice ah aj.length ai) ?_
  obtain ⟨b8, cz, hm⟩ := bS hm
  refine lc rfl rfl (r_call1 Tryz.call159 rfl) (c_r01_Norm N 7 (frC 2 ae) _ ah ai aj (af.toSlF (Froz.int .u32)) b8 cz) ?_
  rintro _ c5 ⟨c0, b9, ca, rfl, bi, bz⟩
  refine ⟨_, rfl, ?_⟩
  replace bz := bz.thaw (flat_int .u32) bi ((Fz.refl (col := ae)).froz 2) (by decide)
  replace bi := bi.thawR (col := ae)
  generalize colR ap.heap.size ae c0 = c3 at *
  refine lM (.slice aq au.length ar) <| lA (.slice b9 b8.length ca) <| lA (.slice aq au.length ar) <| lA (.int .i64 0) <| lN ?_
  refine wret ?_
  cases hm
  replace ba := ba.gr bi
  replace hst := hst.grow bi
  exact ⟨rfl, colF w0.heap.size col c3 (fun n => bif Nat.beq n 7 then c1 else bif Nat.beq n 3 then c2 else 0), b9, ca, aq, ar, rfl, hst.fin (fun n => bif Nat.beq n 7 then c1 else bif Nat.beq n 3 then c2 else 0), hst.finOwn (g := (fun n => bif Nat.beq n 7 then c1 else bif Nat.beq n 3 then c2 else 0)) rfl bz (by decide) (by decide) rfl, hst.finOwn (g := (fun n => bif Nat.beq n 7 then c1 else bif Nat.beq n 3 then c2 else 0)) rfl ba (by decide) (by decide) rfl⟩
def m_r03_lowest (N : Nat) (aa : (Bool × (List Int))) (ab : (List Int)) : Option ((Bool × (List Int)) × (List Int)) :=
  (m_r01_Gcd N aa.2 ab).bind fun ac => (m_r01_DivMod N aa.2 ac).bind fun ae => (m_r01_DivMod N ab ac).bind fun af => (m_r02_Norm N (aa.1, ae.1)).bind fun ad => (m_r01_Norm N af.1).bind fun ag => some ((ad.1, ad.2), ag)
theorem c_r03_lowest (N : Nat) (c1 : Nat) (c2 : Nat) (col : Col) (w0 : World) (ad : Option Addr) (ae : Nat) (aa : (Bool × (List Int))) (a1 : Option Addr) (cap1 : Nat) (ag : (List Int)) (ak : Sl (Rep.int .u32) col w0 ad ae aa.2) (h1 : Sl (Rep.int .u32) col w0 a1 cap1 ag) (r : ((Bool × (List Int)) × (List Int))) (hm : m_r03_lowest N aa ag = some r) :
    Calls Tryz.prog 161 #[(.agg #[(.bool aa.1), (.slice ad aa.2.length ae)]), (.slice a1 ag.length cap1)] w0 (fun e w' => ∃ (col' : Col) (ra1 : Option Addr) (rc2 : Nat) (ra4 : Option Addr) (rc5 : Nat), e = .returned ((.agg #[(.bool r.1.1), (.slice ra1 r.1.2.length rc2), (.slice ra4 r.2.length rc5)])) ∧ Grow col w0 col' w' ∧ Own (Rep.int .u32) 114 c1 col' w' ra1 rc2 r.1.2 ∧ Own (Rep.int .u32) 114 c2 col' w' ra4 rc5 r.2) := by
 refine calls_ofR (m := 39) (args := [(.agg #[(.bool aa.1), (.slice ad aa.2.length ae)]), (.slice a1 ag.length cap1)]) Tryz.func161 rfl rfl rfl ?_
 rw [m_r03_lowest.eq_1] at hm
 have hst := St.start col w0
 refine wS <| wR ?_
 refine l_box (col := (col0 col)) (v := (.agg #[(.bool aa.1), (.slice ad aa.2.length ae)])) 1 rfl rfl ?_
 intro a3 bq bm bf af
 replace af : Box 38 1 bm bq a3 #[(.bool aa.1), (.slice ad aa.2.length ae)] := af
 refine l_alloc (col := bm) (v := (.agg #[(.bool false), (.slice none (([] : List Int).length) 0), (.slice none (([] : List Int).length) 0)])) 2 rfl Tryz.zeroValue40 ?_
 intro bn br bo a4 al
 replace al : Box 40 2 bo br bn #[(.bool false), (.slice none (([] : List Int).length) 0), (.slice none (([] : List Int).length) 0)] := al
 refine lN <| wS <| wR <| lV (.pointer ((some (⟨a3, 0, none⟩ : Addr)).map (·.add 1))) (rF (sz := 1) (off := 1) Tryz.underlying38 rfl Tryz.sizeOf36 (by decide) rfl rfl ⟨_, _, rfl⟩) ?_
 replace af := af.gr a4
 refine lV (.slice ad aa.2.length ae) (r_ld Tryz.isAgg36 rfl ((af.atN).nth (q := 1) (v := (.slice ad aa.2.length ae)) rfl)) <| lM (.slice a1 ag.length cap1) ?_
 obtain ⟨am, bs, hm⟩ := bS hm
 replace ak := ((ak.keep (Stay.start col w0)).gr bf).gr a4
 replace h1 := ((h1.keep (Stay.start col w0)).gr bf).gr a4
 refine lc rfl rfl (r_call2 Tryz.call180 rfl rfl) (c_r01_Gcd N 3 bo _ ad ae aa.2 a1 cap1 ag ak h1 am bs) ?_
 rintro _ bt ⟨a5, ar, au, rfl, av, a6⟩
 refine ⟨_, rfl, ?_⟩
 refine lA (.slice ar am.length au) <| lN <| wS <| wR <| lV (.pointer ((some (⟨a3, 0, none⟩ : Addr)).map (·.add 1))) (rF (sz := 1) (off := 1) Tryz.underlying38 rfl Tryz.sizeOf36 (by decide) rfl rfl ⟨_, _, rfl⟩) ?_
 replace af := af.gr av
 refine lV (.slice ad aa.2.length ae) (r_ld Tryz.isAgg36 rfl ((af.atN).nth (q := 1) (v := (.slice ad aa.2.length ae)) rfl)) <| lM (.slice ar am.length au) ?_
 obtain ⟨ab, bu, hm⟩ := bS hm
 replace ak := ak.gr av
 refine lc rfl rfl (r_call2 Tryz.call181 rfl rfl) (c_r01_DivMod N 4 5 (frC 3 a5) _ ad ae aa.2 ar au am (ak.froz 3) (a6.toSlF (Froz.int .u32)) ab bu) ?_
 rintro _ bv ⟨bw, an, ao, bg, bh, rfl, ah, aw, b8⟩
 refine ⟨_, rfl, ?_⟩
 replace aw := aw.thaw (flat_int .u32) ah ((Fz.refl (col := a5)).froz 3) (by decide)
 replace ah := ah.thawR (col := a5)
 generalize colR bt.heap.size a5 bw = a7 at *
 refine lM (.tuple #[(.slice an ab.1.length ao), (.slice bg ab.2.1.length bh), (.int .i64 ab.2.2)]) <| lV (.slice an ab.1.length ao) (r_extract rfl rfl) <| lV (.slice bg ab.2.1.length bh) (r_extract rfl rfl) <| lV (.int .i64 ab.2.2) (r_extract rfl rfl) <| lA (.slice an ab.1.length ao) <| lA (.slice bg ab.2.1.length bh) <| lA (.int .i64 ab.2.2) <| lN <| wS <| wR <| lM (.slice a1 ag.length cap1) <| lM (.slice ar am.length au) ?_
 obtain ⟨ac, bx, hm⟩ := bS hm
 replace h1 := (h1.gr av).gr ah
 replace a6 := a6.gr ah
 refine lc rfl rfl (r_call2 Tryz.call181 rfl rfl) (c_r01_DivMod N 6 7 (frC 3 a7) _ a1 cap1 ag ar au am (h1.froz 3) (a6.toSlF (Froz.int .u32)) ac bx) ?_
 rintro _ bz ⟨b0, ax, ay, bi, bj, rfl, ai, az, b9⟩
 refine ⟨_, rfl, ?_⟩
 replace az := az.thaw (flat_int .u32) ai ((Fz.refl (col := a7)).froz 3) (by decide)
 replace ai := ai.thawR (col := a7)
 generalize colR bv.heap.size a7 b0 = a8 at *
 refine lM (.tuple #[(.slice ax ac.1.length ay), (.slice bi ac.2.1.length bj), (.int .i64 ac.2.2)]) <| lV (.slice ax ac.1.length ay) (r_extract rfl rfl) <| lV (.slice bi ac.2.1.length bj) (r_extract rfl rfl) <| lV (.int .i64 ac.2.2) (r_extract rfl rfl) <| lA (.slice ax ac.1.length ay) <| lA (.slice bi ac.2.1.length bj) <| lA (.int .i64 ac.2.2) <| lN <| wS <| wR <| lV (.pointer ((some (⟨a3, 0, none⟩ : Addr)).map (·.add 0))) (rF (sz := 1) (off := 0) Tryz.underlying38 rfl Tryz.sizeOf4 (by decide) rfl rfl ⟨_, _, rfl⟩) ?_
 replace af := (af.gr ah).gr ai
 refine lV (.bool aa.1) (r_ld Tryz.isAgg4 rfl ((af.atN).nth (q := 0) (v := (.bool aa.1)) rfl)) <| lM (.slice an ab.1.length ao) <| lV (.agg #[(.bool aa.1), (.slice an ab.1.length ao)]) (r_build (l := [_, _]) (qs := [(0, 1), (1, 1)]) Tryz.underlying38 Tryz.zeroValue38 ⟨rfl, Tryz.sizeOf4, rfl, Tryz.sizeOf36, trivial⟩ rfl) ?_
 obtain ⟨aj, b1, hm⟩ := bS hm
 replace aw := aw.gr ai
 refine lc rfl rfl (r_call1 Tryz.call177 rfl) (c_r02_Norm N 8 (frC 4 a8) _ an ao (aa.1, ab.1) (aw.toSlF (Froz.int .u32)) aj b1) ?_
 rintro _ b2 ⟨b3, a9, ba, rfl, ap, a0⟩
 refine ⟨_, rfl, ?_⟩
 replace a0 := a0.thaw (flat_int .u32) ap ((Fz.refl (col := a8)).froz 4) (by decide)
 replace ap := ap.thawR (col := a8)
 generalize colR bz.heap.size a8 b3 = bb at *
 refine lM (.slice ax ac.1.length ay) ?_
 obtain ⟨bc, b4, hm⟩ := bS hm
 replace az := az.gr ap
 refine lc rfl rfl (r_call1 Tryz.call159 rfl) (c_r01_Norm N 9 (frC 6 bb) _ ax ay ac.1 (az.toSlF (Froz.int .u32)) bc b4) ?_
 rintro _ ca ⟨b5, bd, be, rfl, aq, a2⟩
 refine ⟨_, rfl, ?_⟩
 replace a2 := a2.thaw (flat_int .u32) aq ((Fz.refl (col := bb)).froz 6) (by decide)
 replace aq := aq.thawR (col := bb)
 generalize colR b2.heap.size bb b5 = bp at *
 refine lV (.agg #[(.bool aj.1), (.slice a9 aj.2.length ba), (.slice bd bc.length be)]) (r_build (l := [_, _]) (qs := [(0, 2), (2, 1)]) Tryz.underlying40 Tryz.zeroValue40 ⟨rfl, Tryz.sizeOf38, rfl, Tryz.sizeOf36, trivial⟩ rfl) ?_
 replace al := ((((al.gr av).gr ah).gr ai).gr ap).gr aq
 refine l_bstore (v := (.agg #[(.bool aj.1), (.slice a9 aj.2.length ba), (.slice bd bc.length be)])) al Tryz.sizeOf40 rfl rfl (by intro u hu; simp only [Value.cells, List.mem_cons, List.not_mem_nil, or_false] at hu; rcases hu with rfl | rfl | rfl <;> rfl) rfl rfl ?_
 intro b6 bk b7 bl
 clear al
 replace bl : Box 40 2 bp b6 bn #[(.bool aj.1), (.slice a9 aj.2.length ba), (.slice bd bc.length be)] := bl
 refine lN ?_
 refine wret ?_
 cases hm
 replace hst := (((((((hst.grow bf).grow a4).grow av).grow ah).grow ai).grow ap).grow aq).kp bk b7
 replace a0 := (a0.gr aq).kp bk
 replace a2 := a2.kp bk
 exact ⟨rfl, _, res_a rfl rfl Tryz.isAgg40 Tryz.sizeOf40 rfl rfl bl.atN, colF w0.heap.size col bp (fun n => bif Nat.beq n 8 then c1 else bif Nat.beq n 9 then c2 else 0), a9, ba, bd, be, rfl, hst.fin (fun n => bif Nat.beq n 8 then c1 else bif Nat.beq n 9 then c2 else 0), hst.finOwn (g := (fun n => bif Nat.beq n 8 then c1 else bif Nat.beq n 9 then c2 else 0)) rfl a0 (by decide) (by decide) rfl, hst.finOwn (g := (fun n => bif Nat.beq n 8 then c1 else bif Nat.beq n 9 then c2 else 0)) rfl a2 (by decide) (by decide) rfl⟩
def m_r03_New (N : Nat) (ac : (Bool × (List Int))) (aa : (Bool × (List Int))) : Option (((Bool × (List Int)) × (List Int)) × Int) :=
  (m_r02_Sign N (aa.1, aa.2)).bind fun ad => if (decide (ad = 0)) = true then none else ((m_r03_lowest N (!decide (ac.1 = aa.1), ac.2) aa.2).bind fun ab => some (((ab.1.1, ab.1.2), ab.2), 0))
theorem c_r03_New (N : Nat) (c1 : Nat) (c2 : Nat) (col : Col) (w0 : World) (ae : Option Addr) (af : Nat) (ab : (Bool × (List Int))) (ac : Option Addr) (ad : Nat) (aa : (Bool × (List Int))) (aq : Sl (Rep.int .u32) col w0 ae af ab.2) (ak : Sl (Rep.int .u32) col w0 ac ad aa.2) (r : (((Bool × (List Int)) × (List Int)) × Int)) (hm : m_r03_New N ab aa = some r) :
    Calls Tryz.prog 136 #[(.agg #[(.bool ab.1), (.slice ae ab.2.length af)]), (.agg #[(.bool aa.1), (.slice ac aa.2.length ad)])] w0 (fun e w' => ∃ (col' : Col) (ra1 : Option Addr) (rc2 : Nat) (ra4 : Option Addr) (rc5 : Nat), e = .returned (.tuple #[(.agg #[(.bool r.1.1.1), (.slice ra1 r.1.1.2.length rc2), (.slice ra4 r.1.2.length rc5)]), (.int .i64 r.2)]) ∧ Grow col w0 col' w' ∧ Own (Rep.int .u32) 114 c1 col' w' ra1 rc2 r.1.1.2 ∧ Own (Rep.int .u32) 114 c2 col' w' ra4 rc5 r.1.2) := by
 refine calls_ofR (m := 21) (args := [(.agg #[(.bool ab.1), (.slice ae ab.2.length af)]), (.agg #[(.bool aa.1), (.slice ac aa.2.length ad)])]) Tryz.func136 rfl rfl rfl ?_
 rw [m_r03_New.eq_1] at hm
 have hst := St.start col w0
 refine wS <| wR ?_
 refine l_box (col := (col0 col)) (v := (.agg #[(.bool ab.1), (.slice ae ab.2.length af)])) 1 rfl rfl ?_
 intro ar ba a4 au al
 replace al : Box 38 1 a4 ba ar #[(.bool ab.1), (.slice ae ab.2.length af)] := al
 refine l_box (col := a4) (v := (.agg #[(.bool aa.1), (.slice ac aa.2.length ad)])) 2 rfl rfl ?_
 intro av bb a5 ao ag
 replace ag : Box 38 2 a5 bb av #[(.bool aa.1), (.slice ac aa.2.length ad)] := ag
 refine l_alloc (col := a5) (v := (.agg #[(.bool false), (.slice none (([] : List Int).length) 0), (.slice none (([] : List Int).length) 0)])) 3 rfl Tryz.zeroValue40 ?_
 intro a6 a7 am an ah
 replace ah : Box 40 3 am a7 a6 #[(.bool false), (.slice none (([] : List Int).length) 0), (.slice none (([] : List Int).length) 0)] := ah
 refine lA (.int .i64 0) <| lN <| wS <| wS <| wR ?_
 replace ag := ag.gr an
 refine lV (.agg #[(.bool aa.1), (.slice ac aa.2.length ad)]) (r_ldN Tryz.isAgg38 Tryz.sizeOf38 rfl rfl ag.atN) ?_
 obtain ⟨ap, bc, hm⟩ := bS hm
 replace ak := (((ak.keep (Stay.start col w0)).gr au).gr ao).gr an
 refine lc rfl rfl (r_call1 Tryz.call155 rfl) (c_r02_Sign N am _ ac ad (aa.1, aa.2) ak ap bc) ?_
 rintro _ bd ⟨rfl, ai⟩
 refine ⟨_, rfl, ?_⟩
 replace ai : Grow am a7 am bd := .of_below ai
 refine lV (.bool (decide (ap = 0))) (r_eql ap 0 rfl rfl) <| lN ?_
 replace aq := ((((aq.keep (Stay.start col w0)).gr au).gr ao).gr an).gr ai
 replace hst := (((hst.grow au).grow ao).grow an).grow ai
 replace al := ((al.gr ao).gr an).gr ai
 replace ak := ak.gr ai
 replace ag := ag.gr ai
 replace ah := ah.gr ai
 refine wcond (decide (ap = 0)) rfl (fun hb => ?_) (fun hb => ?_)
 ·rw [if_pos hb] at hm
  clear hb
  cases hm
 rw [if_neg (by rw [hb]; decide)] at hm
 clear hb
 refine wK <| wS <| wR <| lV (.pointer ((some (⟨ar, 0, none⟩ : Addr)).map (·.add 0))) (rF (sz := 1) (off := 0) Tryz.underlying38 rfl Tryz.sizeOf4 (by decide) rfl rfl ⟨_, _, rfl⟩) <| lV (.bool ab.1) (r_ld Tryz.isAgg4 rfl ((al.atN).nth (q := 0) (v := (.bool ab.1)) rfl)) <| lV (.pointer ((some (⟨av, 0, none⟩ : Addr)).map (·.add 0))) (rF (sz := 1) (off := 0) Tryz.underlying38 rfl Tryz.sizeOf4 (by decide) rfl rfl ⟨_, _, rfl⟩) <| lV (.bool aa.1) (r_ld Tryz.isAgg4 rfl ((ag.atN).nth (q := 0) (v := (.bool aa.1)) rfl)) <| lV (.bool (!decide (ab.1 = aa.1))) (r_neqB ab.1 aa.1 Tryz.underlying4 rfl rfl) <| lV (.pointer ((some (⟨ar, 0, none⟩ : Addr)).map (·.add 1))) (rF (sz := 1) (off := 1) Tryz.underlying38 rfl Tryz.sizeOf36 (by decide) rfl rfl ⟨_, _, rfl⟩) <| lV (.slice ae ab.2.length af) (r_ld Tryz.isAgg36 rfl ((al.atN).nth (q := 1) (v := (.slice ae ab.2.length af)) rfl)) <| lV (.agg #[(.bool (!decide (ab.1 = aa.1))), (.slice ae ab.2.length af)]) (r_build (l := [_, _]) (qs := [(0, 1), (1, 1)]) Tryz.underlying38 Tryz.zeroValue38 ⟨rfl, Tryz.sizeOf4, rfl, Tryz.sizeOf36, trivial⟩ rfl) <| lV (.pointer ((some (⟨av, 0, none⟩ : Addr)).map (·.add 1))) (rF (sz := 1) (off := 1) Tryz.underlying38 rfl Tryz.sizeOf36 (by decide) rfl rfl ⟨_, _, rfl⟩) <| lV (.slice ac aa.2.length ad) (r_ld Tryz.isAgg36 rfl ((ag.atN).nth (q := 1) (v := (.slice ac aa.2.length ad)) rfl)) ?_
 obtain ⟨aj, be, hm⟩ := bS hm
 refine lc rfl rfl (r_call2 Tryz.call161 rfl rfl) (c_r03_lowest N 4 5 am _ ae af (!decide (ab.1 = aa.1), ab.2) ac ad aa.2 aq ak aj be) ?_
 rintro _ bh ⟨a8, aw, ax, ay, az, rfl, a9, a0, a1⟩
 refine ⟨_, rfl, ?_⟩
 replace ah := ah.gr a9
 refine l_bstore (v := (.agg #[(.bool aj.1.1), (.slice aw aj.1.2.length ax), (.slice ay aj.2.length az)])) ah Tryz.sizeOf40 rfl rfl (by intro u hu; simp only [Value.cells, List.mem_cons, List.not_mem_nil, or_false] at hu; rcases hu with rfl | rfl | rfl <;> rfl) rfl rfl ?_
 intro bf a2 bg a3
 clear ah
 replace a3 : Box 40 3 a8 bf a6 #[(.bool aj.1.1), (.slice aw aj.1.2.length ax), (.slice ay aj.2.length az)] := a3
 refine lA (.int .i64 0) <| lN ?_
 refine wret ?_
 cases hm
 replace hst := (hst.grow a9).kp a2 bg
 replace a0 := a0.kp a2
 replace a1 := a1.kp a2
 exact ⟨rfl, _, res_at rfl rfl Tryz.isAgg40 Tryz.sizeOf40 rfl rfl a3.atN rfl rfl, colF w0.heap.size col a8 (fun n => bif Nat.beq n 4 then c1 else bif Nat.beq n 5 then c2 else 0), aw, ax, ay, az, rfl, hst.fin (fun n => bif Nat.beq n 4 then c1 else bif Nat.beq n 5 then c2 else 0), hst.finOwn (g := (fun n => bif Nat.beq n 4 then c1 else bif Nat.beq n 5 then c2 else 0)) rfl a0 (by decide) (by decide) rfl, hst.finOwn (g := (fun n => bif Nat.beq n 4 then c1 else bif Nat.beq n 5 then c2 else 0)) rfl a1 (by decide) (by decide) rfl⟩
def m_r03_Of (N : Nat) (ad : Int) (ae : Int) : Option (((Bool × (List Int)) × (List Int)) × Int) :=
  (m_r02_Of N ad).bind fun ab => (m_r02_Of N ae).bind fun ac => (m_r03_New N (ab.1, ab.2) (ac.1, ac.2)).bind fun aa => some (((aa.1.1.1, aa.1.1.2), aa.1.2), aa.2)
theorem c_r03_Of (N : Nat) (c1 : Nat) (c2 : Nat) (col : Col) (w0 : World) (ad : Int) (ae : Int) (r : (((Bool × (List Int)) × (List Int)) × Int)) (hm : m_r03_Of N ad ae = some r) :
    Calls Tryz.prog 95 #[(.int .i64 ad), (.int .i64 ae)] w0 (fun e w' => ∃ (col' : Col) (ra1 : Option Addr) (rc2 : Nat) (ra4 : Option Addr) (rc5 : Nat), e = .returned (.tuple #[(.agg #[(.bool r.1.1.1), (.slice ra1 r.1.1.2.length rc2), (.slice ra4 r.1.2.length rc5)]), (.int .i64 r.2)]) ∧ Grow col w0 col' w' ∧ Own (Rep.int .u32) 114 c1 col' w' ra1 rc2 r.1.1.2 ∧ Own (Rep.int .u32) 114 c2 col' w' ra4 rc5 r.1.2) := by
 refine calls_ofR (m := 13) (args := [(.int .i64 ad), (.int .i64 ae)]) Tryz.func95 rfl rfl rfl ?_
 rw [m_r03_Of.eq_1] at hm
 have hst := St.start col w0
 refine wS <| wR ?_
 refine l_alloc (col := (col0 col)) (v := (.agg #[(.bool false), (.slice none (([] : List Int).length) 0), (.slice none (([] : List Int).length) 0)])) 1 rfl Tryz.zeroValue40 ?_
 intro au ay av az ab
 replace ab : Box 40 1 av ay au #[(.bool false), (.slice none (([] : List Int).length) 0), (.slice none (([] : List Int).length) 0)] := ab
 refine lA (.int .i64 0) <| lN <| wS <| wR <| lM (.int .i64 ad) ?_
 obtain ⟨am, a0, hm⟩ := bS hm
 refine lc rfl rfl (r_call1 Tryz.call137 rfl) (c_r02_Of N 2 av _ ad am a0) ?_
 rintro _ bd ⟨a1, a2, a3, rfl, aw, an⟩
 refine ⟨_, rfl, ?_⟩
 refine lM (.int .i64 ae) ?_
 obtain ⟨ao, a4, hm⟩ := bS hm
 refine lc rfl rfl (r_call1 Tryz.call137 rfl) (c_r02_Of N 3 a1 _ ae ao a4) ?_
 rintro _ a5 ⟨af, a6, a7, rfl, ap, a8⟩
 refine ⟨_, rfl, ?_⟩
 obtain ⟨aa, a9, hm⟩ := bS hm
 replace an := an.gr ap
 refine lc rfl rfl (r_call2 Tryz.call136 rfl rfl) (c_r03_New N 4 5 (frC 3 (frC 2 af)) _ a2 a3 (am.1, am.2) a6 a7 (ao.1, ao.2) ((an.toSlF (Froz.int .u32)).froz 3) ((a8.froz 2 (by decide)).toSlF (Froz.int .u32)) aa a9) ?_
 rintro _ be ⟨ba, ai, aj, ak, al, rfl, ac, ag, ah⟩
 refine ⟨_, rfl, ?_⟩
 replace ag := ag.thaw (flat_int .u32) ac (((Fz.refl (col := af)).froz 2).froz 3) (by decide)
 replace ah := ah.thaw (flat_int .u32) ac (((Fz.refl (col := af)).froz 2).froz 3) (by decide)
 replace ac := ac.thawR (col := af)
 generalize colR a5.heap.size af ba = ax at *
 refine lV (.agg #[(.bool aa.1.1.1), (.slice ai aa.1.1.2.length aj), (.slice ak aa.1.2.length al)]) (r_extract rfl rfl) <| lV (.int .i64 aa.2) (r_extract rfl rfl) ?_
 replace ab := ((ab.gr aw).gr ap).gr ac
 refine l_bstore (v := (.agg #[(.bool aa.1.1.1), (.slice ai aa.1.1.2.length aj), (.slice ak aa.1.2.length al)])) ab Tryz.sizeOf40 rfl rfl (by intro u hu; simp only [Value.cells, List.mem_cons, List.not_mem_nil, or_false] at hu; rcases hu with rfl | rfl | rfl <;> rfl) rfl rfl ?_
 intro bb aq bc ar
 clear ab
 replace ar : Box 40 1 ax bb au #[(.bool aa.1.1.1), (.slice ai aa.1.1.2.length aj), (.slice ak aa.1.2.length al)] := ar
 refine lA (.int .i64 aa.2) <| lN ?_
 refine wret ?_
 cases hm
 replace hst := ((((hst.grow az).grow aw).grow ap).grow ac).kp aq bc
 replace ag := ag.kp aq
 replace ah := ah.kp aq
 exact ⟨rfl, _, res_at rfl rfl Tryz.isAgg40 Tryz.sizeOf40 rfl rfl ar.atN rfl rfl, colF w0.heap.size col ax (fun n => bif Nat.beq n 4 then c1 else bif Nat.beq n 5 then c2 else 0), ai, aj, ak, al, rfl, hst.fin (fun n => bif Nat.beq n 4 then c1 else bif Nat.beq n 5 then c2 else 0), hst.finOwn (g := (fun n => bif Nat.beq n 4 then c1 else bif Nat.beq n 5 then c2 else 0)) rfl ag (by decide) (by decide) rfl, hst.finOwn (g := (fun n => bif Nat.beq n 4 then c1 else bif Nat.beq n 5 then c2 else 0)) rfl ah (by decide) (by decide) rfl⟩
def m_r03_Small (N : Nat) (ab : Int) (ac : Int) : Option ((Bool × (List Int)) × (List Int)) :=
  (m_r03_Of N ab ac).bind fun aa => some ((aa.1.1.1, aa.1.1.2), aa.1.2)
theorem c_r03_Small (N : Nat) (c1 : Nat) (c2 : Nat) (col : Col) (w0 : World) (ag : Int) (ah : Int) (r : ((Bool × (List Int)) × (List Int))) (hm : m_r03_Small N ag ah = some r) :
    Calls Tryz.prog 46 #[(.int .i64 ag), (.int .i64 ah)] w0 (fun e w' => ∃ (col' : Col) (ra1 : Option Addr) (rc2 : Nat) (ra4 : Option Addr) (rc5 : Nat), e = .returned ((.agg #[(.bool r.1.1), (.slice ra1 r.1.2.length rc2), (.slice ra4 r.2.length rc5)])) ∧ Grow col w0 col' w' ∧ Own (Rep.int .u32) 114 c1 col' w' ra1 rc2 r.1.2 ∧ Own (Rep.int .u32) 114 c2 col' w' ra4 rc5 r.2) := by
 refine calls_ofR (m := 14) (args := [(.int .i64 ag), (.int .i64 ah)]) Tryz.func46 rfl rfl rfl ?_
 rw [m_r03_Small.eq_1] at hm
 have hst := St.start col w0
 refine wS <| wR ?_
 refine l_alloc (col := (col0 col)) (v := (.agg #[(.bool false), (.slice none (([] : List Int).length) 0), (.slice none (([] : List Int).length) 0)])) 1 rfl Tryz.zeroValue40 ?_
 intro ar ax au ay af
 replace af : Box 40 1 au ax ar #[(.bool false), (.slice none (([] : List Int).length) 0), (.slice none (([] : List Int).length) 0)] := af
 refine lN <| wS <| wR <| lM (.int .i64 ag) <| lM (.int .i64 ah) ?_
 obtain ⟨aa, az, hm⟩ := bS hm
 refine lc rfl rfl (r_call2 Tryz.call95 rfl rfl) (c_r03_Of N 2 3 au _ ag ah aa az) ?_
 rintro _ a6 ⟨a0, ab, ac, ad, ae, rfl, av, am, an⟩
 refine ⟨_, rfl, ?_⟩
 refine lM (.tuple #[(.agg #[(.bool aa.1.1.1), (.slice ab aa.1.1.2.length ac), (.slice ad aa.1.2.length ae)]), (.int .i64 aa.2)]) <| lV (.agg #[(.bool aa.1.1.1), (.slice ab aa.1.1.2.length ac), (.slice ad aa.1.2.length ae)]) (r_extract rfl rfl) <| lV (.int .i64 aa.2) (r_extract rfl rfl) ?_
 refine l_alloc (col := a0) (v := (.agg #[(.bool false), (.slice none (([] : List Int).length) 0), (.slice none (([] : List Int).length) 0)])) 4 rfl Tryz.zeroValue40 ?_
 intro aw a1 ai aj ak
 replace ak : Box 40 4 ai a1 aw #[(.bool false), (.slice none (([] : List Int).length) 0), (.slice none (([] : List Int).length) 0)] := ak
 refine l_bstore (v := (.agg #[(.bool aa.1.1.1), (.slice ab aa.1.1.2.length ac), (.slice ad aa.1.2.length ae)])) ak Tryz.sizeOf40 rfl rfl (by intro u hu; simp only [Value.cells, List.mem_cons, List.not_mem_nil, or_false] at hu; rcases hu with rfl | rfl | rfl <;> rfl) rfl rfl ?_
 intro a2 al a3 ao
 clear ak
 replace ao : Box 40 4 ai a2 aw #[(.bool aa.1.1.1), (.slice ab aa.1.1.2.length ac), (.slice ad aa.1.2.length ae)] := ao
 refine lA (.int .i64 aa.2) <| lN <| wS <| wR <| lV (.agg #[(.bool aa.1.1.1), (.slice ab aa.1.1.2.length ac), (.slice ad aa.1.2.length ae)]) (r_ldN Tryz.isAgg40 Tryz.sizeOf40 rfl rfl ao.atN) ?_
 replace af := ((af.gr av).gr aj).kp al
 refine l_bstore (v := (.agg #[(.bool aa.1.1.1), (.slice ab aa.1.1.2.length ac), (.slice ad aa.1.2.length ae)])) af Tryz.sizeOf40 rfl rfl (by intro u hu; simp only [Value.cells, List.mem_cons, List.not_mem_nil, or_false] at hu; rcases hu with rfl | rfl | rfl <;> rfl) rfl rfl ?_
 intro a4 ap a5 aq
 clear af
 replace aq : Box 40 1 ai a4 ar #[(.bool aa.1.1.1), (.slice ab aa.1.1.2.length ac), (.slice ad aa.1.2.length ae)] := aq
 refine lN ?_
 refine wret ?_
 cases hm
 replace hst := ((((hst.grow ay).grow av).grow aj).kp al a3).kp ap a5
 replace am := ((am.gr aj).kp al).kp ap
 replace an := ((an.gr aj).kp al).kp ap
 exact ⟨rfl, _, res_a rfl rfl Tryz.isAgg40 Tryz.sizeOf40 rfl rfl aq.atN, colF w0.heap.size col ai (fun n => bif Nat.beq n 2 then c1 else bif Nat.beq n 3 then c2 else 0), ab, ac, ad, ae, rfl, hst.fin (fun n => bif Nat.beq n 2 then c1 else bif Nat.beq n 3 then c2 else 0), hst.finOwn (g := (fun n => bif Nat.beq n 2 then c1 else bif Nat.beq n 3 then c2 else 0)) rfl am (by decide) (by decide) rfl, hst.finOwn (g := (fun n => bif Nat.beq n 2 then c1 else bif Nat.beq n 3 then c2 else 0)) rfl an (by decide) (by decide) rfl⟩
theorem el3_15 : ElemOk Tryz.prog 3 1 8 := ⟨Tryz.t3, _, rfl, rfl, rfl, rfl, rfl⟩
theorem el9_15 : ElemOk Tryz.prog 9 1 16 := ⟨Tryz.t9, _, rfl, rfl, rfl, rfl, rfl⟩
theorem el23_15 : ElemOk Tryz.prog 23 1 24 := ⟨Tryz.t23, _, rfl, rfl, rfl, rfl, rfl⟩
theorem el33_15 : ElemOk Tryz.prog 33 1 24 := ⟨Tryz.t33, _, rfl, rfl, rfl, rfl, rfl⟩
theorem el40_15 : ElemOk Tryz.prog 40 3 56 := ⟨Tryz.t40, _, rfl, rfl, rfl, rfl, rfl⟩
theorem el51_15 : ElemOk Tryz.prog 51 1 24 := ⟨Tryz.t51, _, rfl, rfl, rfl, rfl, rfl⟩
def m_r20_Rain (N : Nat)  : Option (ByteArray × (List ByteArray) × (List (List ByteArray)) × (List (List Int)) × (List (List ((Bool × (List Int)) × (List Int))))) :=
  (m_r03_Small N 4 5).bind fun aa => (m_r03_Small N 1 5).bind fun ab => (m_r03_Small N 9 10).bind fun ac => (m_r03_Small N 1 10).bind fun ad => (m_r03_Small N 1 10).bind fun ae => (m_r03_Small N 9 10).bind fun af => some (⟨#[114, 97, 105, 110]⟩, ([⟨#[114, 97, 105, 110]⟩, ⟨#[103, 114, 97, 115, 115]⟩] : List ByteArray), [([⟨#[110, 111]⟩, ⟨#[121, 101, 115]⟩] : List ByteArray), ([⟨#[100, 114, 121]⟩, ⟨#[119, 101, 116]⟩] : List ByteArray)], [([] : List Int), [0]], [[((aa.1.1, aa.1.2), aa.2), ((ab.1.1, ab.1.2), ab.2)], [((ac.1.1, ac.1.2), ac.2), ((ad.1.1, ad.1.2), ad.2), ((ae.1.1, ae.1.2), ae.2), ((af.1.1, af.1.2), af.2)]])
theorem c_r20_Rain (N : Nat) (c1 : Nat) (c2 : Nat) (c3 : Nat) (c4 : Nat) (col : Col) (w0 : World)  (r : (ByteArray × (List ByteArray) × (List (List ByteArray)) × (List (List Int)) × (List (List ((Bool × (List Int)) × (List Int)))))) (hm : m_r20_Rain N = some r) :
    Calls Tryz.prog 15 #[] w0 (fun e w' => ∃ (col' : Col) (ra1 : Option Addr) (rc2 : Nat) (ra4 : Option Addr) (rc5 : Nat) (ra7 : Option Addr) (rc8 : Nat) (ra10 : Option Addr) (rc11 : Nat), e = .returned ((.agg #[(.string r.1), (.slice ra1 r.2.1.length rc2), (.slice ra4 r.2.2.1.length rc5), (.slice ra7 r.2.2.2.1.length rc8), (.slice ra10 r.2.2.2.2.length rc11)])) ∧ Grow col w0 col' w' ∧ Own Rep.str 9 c1 col' w' ra1 rc2 r.2.1 ∧ Own (Rep.row 9 Rep.str) 23 c2 col' w' ra4 rc5 r.2.2.1 ∧ Own (Rep.row 3 (Rep.int .i64)) 33 c3 col' w' ra7 rc8 r.2.2.2.1 ∧ Own (Rep.row 40 (Rep.pair (Rep.pair Rep.bool (Rep.row 114 (Rep.int .u32))) (Rep.row 114 (Rep.int .u32)))) 51 c4 col' w' ra10 rc11 r.2.2.2.2) := by
 refine calls_ofR (m := 18) (args := []) Tryz.func15 rfl rfl rfl ?_
 rw [m_r20_Rain.eq_1] at hm
 have hst := St.start col w0
 refine wS <| wR ?_
 refine l_alloc (col := (col0 col)) (v := (.agg #[(.string (⟨#[]⟩)), (.slice none (([] : List ByteArray).length) 0), (.slice none (([] : List (List ByteArray)).length) 0), (.slice none (([] : List (List Int)).length) 0), (.slice none (([] : List (List ((Bool × (List Int)) × (List Int)))).length) 0)])) 1 rfl Tryz.zeroValue28 ?_
 intro ct c5 cu c6 aa
 replace aa : Box 28 1 cu c5 ct #[(.string (⟨#[]⟩)), (.slice none (([] : List ByteArray).length) 0), (.slice none (([] : List (List ByteArray)).length) 0), (.slice none (([] : List (List Int)).length) 0), (.slice none (([] : List (List ((Bool × (List Int)) × (List Int)))).length) 0)] := aa
 refine lN <| wS <| wR ?_
 refine l_lit (col := cu) (r := Rep.str) (xs := ([⟨#[114, 97, 105, 110]⟩, ⟨#[103, 114, 97, 115, 115]⟩] : List ByteArray)) [(.string (⟨#[114, 97, 105, 110]⟩)), (.string (⟨#[103, 114, 97, 115, 115]⟩))] 2 rfl Tryz.underlying23 el9_15 rfl rfl rfl rfl rfl rfl (by intro v hv; simp only [List.mem_cons, List.not_mem_nil, or_false] at hv; rcases hv with rfl | rfl <;> rfl) (RowsH.ofF (Rows.consF (r := Rep.str) (x := ⟨#[114, 97, 105, 110]⟩) (cs := [(.string (⟨#[114, 97, 105, 110]⟩))]) (rd_str (⟨#[114, 97, 105, 110]⟩)) (Rows.consF (r := Rep.str) (x := ⟨#[103, 114, 97, 115, 115]⟩) (cs := [(.string (⟨#[103, 114, 97, 115, 115]⟩))]) (rd_str (⟨#[103, 114, 97, 115, 115]⟩)) Rows.nil0))) ?_
 intro a7 ee c7 cv ah
 refine l_lit (col := c7) (r := Rep.str) (xs := ([⟨#[110, 111]⟩, ⟨#[121, 101, 115]⟩] : List ByteArray)) [(.string (⟨#[110, 111]⟩)), (.string (⟨#[121, 101, 115]⟩))] 3 rfl Tryz.underlying23 el9_15 rfl rfl rfl rfl rfl rfl (by intro v hv; simp only [List.mem_cons, List.not_mem_nil, or_false] at hv; rcases hv with rfl | rfl <;> rfl) (RowsH.ofF (Rows.consF (r := Rep.str) (x := ⟨#[110, 111]⟩) (cs := [(.string (⟨#[110, 111]⟩))]) (rd_str (⟨#[110, 111]⟩)) (Rows.consF (r := Rep.str) (x := ⟨#[121, 101, 115]⟩) (cs := [(.string (⟨#[121, 101, 115]⟩))]) (rd_str (⟨#[121, 101, 115]⟩)) Rows.nil0))) ?_
 intro bf ef c8 bg bh
 refine l_lit (col := c8) (r := Rep.str) (xs := ([⟨#[100, 114, 121]⟩, ⟨#[119, 101, 116]⟩] : List ByteArray)) [(.string (⟨#[100, 114, 121]⟩)), (.string (⟨#[119, 101, 116]⟩))] 4 rfl Tryz.underlying23 el9_15 rfl rfl rfl rfl rfl rfl (by intro v hv; simp only [List.mem_cons, List.not_mem_nil, or_false] at hv; rcases hv with rfl | rfl <;> rfl) (RowsH.ofF (Rows.consF (r := Rep.str) (x := ⟨#[100, 114, 121]⟩) (cs := [(.string (⟨#[100, 114, 121]⟩))]) (rd_str (⟨#[100, 114, 121]⟩)) (Rows.consF (r := Rep.str) (x := ⟨#[119, 101, 116]⟩) (cs := [(.string (⟨#[119, 101, 116]⟩))]) (rd_str (⟨#[119, 101, 116]⟩)) Rows.nil0))) ?_
 intro bi cw bj a8 c9
 replace bh := bh.gr a8
 have da : Has (Rep.row 9 Rep.str) 3 bj cw [(.slice bf (([⟨#[110, 111]⟩, ⟨#[121, 101, 115]⟩] : List ByteArray).length) 2)] ([⟨#[110, 111]⟩, ⟨#[121, 101, 115]⟩] : List ByteArray) := bh.has
 have db : Has (Rep.row 9 Rep.str) 4 bj cw [(.slice bi (([⟨#[100, 114, 121]⟩, ⟨#[119, 101, 116]⟩] : List ByteArray).length) 2)] ([⟨#[100, 114, 121]⟩, ⟨#[119, 101, 116]⟩] : List ByteArray) := c9.has
 have dc := RowsH.cons (cs := [(.slice bf (([⟨#[110, 111]⟩, ⟨#[121, 101, 115]⟩] : List ByteArray).length) 2)]) da (RowsH.cons1 (cs := [(.slice bi (([⟨#[100, 114, 121]⟩, ⟨#[119, 101, 116]⟩] : List ByteArray).length) 2)]) db Rows.nil0) (by decide) (by decide)
 replace ah := (ah.gr bg).gr a8
 replace ah := ah.recol 3 4 (by decide)
 replace aa := ((aa.gr cv).gr bg).gr a8
 replace aa := aa.recol 3 4 (by decide)
 replace hst := (((hst.grow c6).grow cv).grow bg).grow a8
 replace hst := hst.recol 3 4 (by decide) (by decide)
 refine l_lit (col := (rcC 3 4 bj)) (r := (Rep.row 9 Rep.str)) (xs := [([⟨#[110, 111]⟩, ⟨#[121, 101, 115]⟩] : List ByteArray), ([⟨#[100, 114, 121]⟩, ⟨#[119, 101, 116]⟩] : List ByteArray)]) [(.slice bf (([⟨#[110, 111]⟩, ⟨#[121, 101, 115]⟩] : List ByteArray).length) 2), (.slice bi (([⟨#[100, 114, 121]⟩, ⟨#[119, 101, 116]⟩] : List ByteArray).length) 2)] 4 rfl Tryz.underlying24 el23_15 rfl rfl rfl rfl rfl rfl (by intro v hv; simp only [List.mem_cons, List.not_mem_nil, or_false] at hv; rcases hv with rfl | rfl <;> rfl) dc ?_
 intro a9 eg dd bk ai
 refine l_lit0 (col := dd) (r := (Rep.int .i64)) 5 rfl Tryz.underlying33 el3_15 rfl ?_
 intro bl eh de ba bm
 refine l_lit (col := de) (r := (Rep.int .i64)) (xs := [0]) [(.int .i64 0)] 6 rfl Tryz.underlying33 el3_15 rfl rfl rfl rfl rfl rfl (by intro v hv; simp only [List.mem_cons, List.not_mem_nil, or_false] at hv; subst hv; rfl) (RowsH.ofF (Rows.consF (r := (Rep.int .i64)) (x := 0) (cs := [(.int .i64 0)]) (rd_int .i64 0) Rows.nil0)) ?_
 intro bn cx bo az df
 replace bm := bm.gr az
 have dg : Has (Rep.row 3 (Rep.int .i64)) 5 bo cx [(.slice bl (([] : List Int).length) 0)] ([] : List Int) := bm.has
 have dh : Has (Rep.row 3 (Rep.int .i64)) 6 bo cx [(.slice bn ([0].length) 1)] [0] := df.has
 have di := RowsH.cons (cs := [(.slice bl (([] : List Int).length) 0)]) dg (RowsH.cons1 (cs := [(.slice bn ([0].length) 1)]) dh Rows.nil0) (by decide) (by decide)
 replace ah := ((ah.gr bk).gr ba).gr az
 replace ah := ah.recol 5 6 (by decide)
 replace ai := (ai.gr ba).gr az
 replace ai := ai.recol 5 6 (by decide)
 replace aa := ((aa.gr bk).gr ba).gr az
 replace aa := aa.recol 5 6 (by decide)
 replace hst := ((hst.grow bk).grow ba).grow az
 replace hst := hst.recol 5 6 (by decide) (by decide)
 refine l_lit (col := (rcC 5 6 bo)) (r := (Rep.row 3 (Rep.int .i64))) (xs := [([] : List Int), [0]]) [(.slice bl (([] : List Int).length) 0), (.slice bn ([0].length) 1)] 6 rfl Tryz.underlying25 el33_15 rfl rfl rfl rfl rfl rfl (by intro v hv; simp only [List.mem_cons, List.not_mem_nil, or_false] at hv; rcases hv with rfl | rfl <;> rfl) di ?_
 intro bb ei dj bc aj
 obtain ⟨ab, dk, hm⟩ := bS hm
 refine lc rfl rfl (r_call2 Tryz.call46 rfl rfl) (c_r03_Small N 7 8 dj _ 4 5 ab dk) ?_
 rintro _ ej ⟨dl, bp, bq, br, bs, rfl, a0, bt, bu⟩
 refine ⟨_, rfl, ?_⟩
 obtain ⟨ac, dm, hm⟩ := bS hm
 refine lc rfl rfl (r_call2 Tryz.call46 rfl rfl) (c_r03_Small N 9 10 dl _ 1 5 ac dm) ?_
 rintro _ cy ⟨bv, bw, bx, bz, b0, rfl, ap, b1, b2⟩
 refine ⟨_, rfl, ?_⟩
 replace bt := bt.gr ap
 replace bu := bu.gr ap
 have dn := Has.join (Has.joinL (rd_bool ab.1.1) bt.has) bu.has (by decide) (by decide)
 replace ah := ((ah.gr bc).gr a0).gr ap
 replace ah := ah.recol 8 7 (by decide)
 replace ai := ((ai.gr bc).gr a0).gr ap
 replace ai := ai.recol 8 7 (by decide)
 replace aj := (aj.gr a0).gr ap
 replace aj := aj.recol 8 7 (by decide)
 replace b1 := b1.recol 8 7 (by decide)
 replace b2 := b2.recol 8 7 (by decide)
 replace aa := ((aa.gr bc).gr a0).gr ap
 replace aa := aa.recol 8 7 (by decide)
 replace hst := ((hst.grow bc).grow a0).grow ap
 replace hst := hst.recol 8 7 (by decide) (by decide)
 have b3 : Has (Rep.pair (Rep.pair Rep.bool (Rep.row 114 (Rep.int .u32))) (Rep.row 114 (Rep.int .u32))) 7 (rcC 8 7 bv) cy [(.bool ab.1.1), (.slice bp ab.1.2.length bq), (.slice br ab.2.length bs)] ((ab.1.1, ab.1.2), ab.2) := dn
 have dp := Has.join (Has.joinL (rd_bool ac.1.1) b1.has) b2.has (by decide) (by decide)
 replace ah := ah.recol 10 9 (by decide)
 replace ai := ai.recol 10 9 (by decide)
 replace aj := aj.recol 10 9 (by decide)
 replace aa := aa.recol 10 9 (by decide)
 replace hst := hst.recol 10 9 (by decide) (by decide)
 replace b3 := b3.recol 10 9 (by decide)
 have dq : Has (Rep.pair (Rep.pair Rep.bool (Rep.row 114 (Rep.int .u32))) (Rep.row 114 (Rep.int .u32))) 9 (rcC 10 9 (rcC 8 7 bv)) cy [(.bool ac.1.1), (.slice bw ac.1.2.length bx), (.slice bz ac.2.length b0)] ((ac.1.1, ac.1.2), ac.2) := dp
 have dr := RowsH.cons (cs := [(.bool ab.1.1), (.slice bp ab.1.2.length bq), (.slice br ab.2.length bs)]) b3 (RowsH.cons1 (cs := [(.bool ac.1.1), (.slice bw ac.1.2.length bx), (.slice bz ac.2.length b0)]) dq Rows.nil0) (by decide) (by decide)
 replace ah := ah.recol 7 9 (by decide)
 replace ai := ai.recol 7 9 (by decide)
 replace aj := aj.recol 7 9 (by decide)
 replace aa := aa.recol 7 9 (by decide)
 replace hst := hst.recol 7 9 (by decide) (by decide)
 refine l_lit (col := (rcC 7 9 (rcC 10 9 (rcC 8 7 bv)))) (r := (Rep.pair (Rep.pair Rep.bool (Rep.row 114 (Rep.int .u32))) (Rep.row 114 (Rep.int .u32)))) (xs := [((ab.1.1, ab.1.2), ab.2), ((ac.1.1, ac.1.2), ac.2)]) [(.agg #[(.bool ab.1.1), (.slice bp ab.1.2.length bq), (.slice br ab.2.length bs)]), (.agg #[(.bool ac.1.1), (.slice bw ac.1.2.length bx), (.slice bz ac.2.length b0)])] 9 rfl Tryz.underlying51 el40_15 rfl rfl rfl rfl rfl rfl (by intro v hv; simp only [List.mem_cons, List.not_mem_nil, or_false] at hv; rcases hv with rfl | rfl <;> rfl) dr ?_
 intro b4 ek ds a1 ak
 obtain ⟨ad, dt, hm⟩ := bS hm
 refine lc rfl rfl (r_call2 Tryz.call46 rfl rfl) (c_r03_Small N 11 12 ds _ 9 10 ad dt) ?_
 rintro _ el ⟨du, b5, b6, b7, b8, rfl, ax, b9, ca⟩
 refine ⟨_, rfl, ?_⟩
 obtain ⟨ae, dv, hm⟩ := bS hm
 refine lc rfl rfl (r_call2 Tryz.call46 rfl rfl) (c_r03_Small N 13 14 du _ 1 10 ae dv) ?_
 rintro _ em ⟨dw, cb, cc, cd, ce, rfl, ao, a2, a3⟩
 refine ⟨_, rfl, ?_⟩
 obtain ⟨af, dx, hm⟩ := bS hm
 refine lc rfl rfl (r_call2 Tryz.call46 rfl rfl) (c_r03_Small N 15 16 dw _ 1 10 af dx) ?_
 rintro _ en ⟨dy, cf, cg, ch, ci, rfl, an, aq, ar⟩
 refine ⟨_, rfl, ?_⟩
 obtain ⟨ag, dz, hm⟩ := bS hm
 refine lc rfl rfl (r_call2 Tryz.call46 rfl rfl) (c_r03_Small N 17 18 dy _ 9 10 ag dz) ?_
 rintro _ bd ⟨a4, cj, ck, cl, cm, rfl, al, au, av⟩
 refine ⟨_, rfl, ?_⟩
 replace b9 := ((b9.gr ao).gr an).gr al
 replace ca := ((ca.gr ao).gr an).gr al
 have d0 := Has.join (Has.joinL (rd_bool ad.1.1) b9.has) ca.has (by decide) (by decide)
 replace ah := ((((ah.gr a1).gr ax).gr ao).gr an).gr al
 replace ah := ah.recol 12 11 (by decide)
 replace ai := ((((ai.gr a1).gr ax).gr ao).gr an).gr al
 replace ai := ai.recol 12 11 (by decide)
 replace aj := ((((aj.gr a1).gr ax).gr ao).gr an).gr al
 replace aj := aj.recol 12 11 (by decide)
 replace ak := (((ak.gr ax).gr ao).gr an).gr al
 replace ak := ak.recol 12 11 (by decide)
 replace a2 := (a2.gr an).gr al
 replace a2 := a2.recol 12 11 (by decide)
 replace a3 := (a3.gr an).gr al
 replace a3 := a3.recol 12 11 (by decide)
 replace aq := aq.gr al
 replace aq := aq.recol 12 11 (by decide)
 replace ar := ar.gr al
 replace ar := ar.recol 12 11 (by decide)
 replace au := au.recol 12 11 (by decide)
 replace av := av.recol 12 11 (by decide)
 replace aa := ((((aa.gr a1).gr ax).gr ao).gr an).gr al
 replace aa := aa.recol 12 11 (by decide)
 replace hst := ((((hst.grow a1).grow ax).grow ao).grow an).grow al
 replace hst := hst.recol 12 11 (by decide) (by decide)
 have am : Has (Rep.pair (Rep.pair Rep.bool (Rep.row 114 (Rep.int .u32))) (Rep.row 114 (Rep.int .u32))) 11 (rcC 12 11 a4) bd [(.bool ad.1.1), (.slice b5 ad.1.2.length b6), (.slice b7 ad.2.length b8)] ((ad.1.1, ad.1.2), ad.2) := d0
 have d1 := Has.join (Has.joinL (rd_bool ae.1.1) a2.has) a3.has (by decide) (by decide)
 replace ah := ah.recol 14 13 (by decide)
 replace ai := ai.recol 14 13 (by decide)
 replace aj := aj.recol 14 13 (by decide)
 replace ak := ak.recol 14 13 (by decide)
 replace aq := aq.recol 14 13 (by decide)
 replace ar := ar.recol 14 13 (by decide)
 replace au := au.recol 14 13 (by decide)
 replace av := av.recol 14 13 (by decide)
 replace aa := aa.recol 14 13 (by decide)
 replace hst := hst.recol 14 13 (by decide) (by decide)
 replace am := am.recol 14 13 (by decide)
 have aw : Has (Rep.pair (Rep.pair Rep.bool (Rep.row 114 (Rep.int .u32))) (Rep.row 114 (Rep.int .u32))) 13 (rcC 14 13 (rcC 12 11 a4)) bd [(.bool ae.1.1), (.slice cb ae.1.2.length cc), (.slice cd ae.2.length ce)] ((ae.1.1, ae.1.2), ae.2) := d1
 have d2 := Has.join (Has.joinL (rd_bool af.1.1) aq.has) ar.has (by decide) (by decide)
 replace ah := ah.recol 16 15 (by decide)
 replace ai := ai.recol 16 15 (by decide)
 replace aj := aj.recol 16 15 (by decide)
 replace ak := ak.recol 16 15 (by decide)
 replace au := au.recol 16 15 (by decide)
 replace av := av.recol 16 15 (by decide)
 replace aa := aa.recol 16 15 (by decide)
 replace hst := hst.recol 16 15 (by decide) (by decide)
 replace am := am.recol 16 15 (by decide)
 replace aw := aw.recol 16 15 (by decide)
 have cn : Has (Rep.pair (Rep.pair Rep.bool (Rep.row 114 (Rep.int .u32))) (Rep.row 114 (Rep.int .u32))) 15 (rcC 16 15 (rcC 14 13 (rcC 12 11 a4))) bd [(.bool af.1.1), (.slice cf af.1.2.length cg), (.slice ch af.2.length ci)] ((af.1.1, af.1.2), af.2) := d2
 have d3 := Has.join (Has.joinL (rd_bool ag.1.1) au.has) av.has (by decide) (by decide)
 replace ah := ah.recol 18 17 (by decide)
 replace ai := ai.recol 18 17 (by decide)
 replace aj := aj.recol 18 17 (by decide)
 replace ak := ak.recol 18 17 (by decide)
 replace aa := aa.recol 18 17 (by decide)
 replace hst := hst.recol 18 17 (by decide) (by decide)
 replace am := am.recol 18 17 (by decide)
 replace aw := aw.recol 18 17 (by decide)
 replace cn := cn.recol 18 17 (by decide)
 have d4 : Has (Rep.pair (Rep.pair Rep.bool (Rep.row 114 (Rep.int .u32))) (Rep.row 114 (Rep.int .u32))) 17 (rcC 18 17 (rcC 16 15 (rcC 14 13 (rcC 12 11 a4)))) bd [(.bool ag.1.1), (.slice cj ag.1.2.length ck), (.slice cl ag.2.length cm)] ((ag.1.1, ag.1.2), ag.2) := d3
 have d5 := RowsH.cons (cs := [(.bool af.1.1), (.slice cf af.1.2.length cg), (.slice ch af.2.length ci)]) cn (RowsH.cons1 (cs := [(.bool ag.1.1), (.slice cj ag.1.2.length ck), (.slice cl ag.2.length cm)]) d4 Rows.nil0) (by decide) (by decide)
 replace am := am.recol 15 17 (by decide)
 replace aw := aw.recol 15 17 (by decide)
 replace ah := ah.recol 15 17 (by decide)
 replace ai := ai.recol 15 17 (by decide)
 replace aj := aj.recol 15 17 (by decide)
 replace ak := ak.recol 15 17 (by decide)
 replace aa := aa.recol 15 17 (by decide)
 replace hst := hst.recol 15 17 (by decide) (by decide)
 have d6 := RowsH.cons (cs := [(.bool ae.1.1), (.slice cb ae.1.2.length cc), (.slice cd ae.2.length ce)]) aw d5 (by decide) (by decide)
 replace am := am.recol 13 17 (by decide)
 replace ah := ah.recol 13 17 (by decide)
 replace ai := ai.recol 13 17 (by decide)
 replace aj := aj.recol 13 17 (by decide)
 replace ak := ak.recol 13 17 (by decide)
 replace aa := aa.recol 13 17 (by decide)
 replace hst := hst.recol 13 17 (by decide) (by decide)
 have d7 := RowsH.cons (cs := [(.bool ad.1.1), (.slice b5 ad.1.2.length b6), (.slice b7 ad.2.length b8)]) am d6 (by decide) (by decide)
 replace ah := ah.recol 11 17 (by decide)
 replace ai := ai.recol 11 17 (by decide)
 replace aj := aj.recol 11 17 (by decide)
 replace ak := ak.recol 11 17 (by decide)
 replace aa := aa.recol 11 17 (by decide)
 replace hst := hst.recol 11 17 (by decide) (by decide)
 refine l_lit (col := (rcC 11 17 (rcC 13 17 (rcC 15 17 (rcC 18 17 (rcC 16 15 (rcC 14 13 (rcC 12 11 a4)))))))) (r := (Rep.pair (Rep.pair Rep.bool (Rep.row 114 (Rep.int .u32))) (Rep.row 114 (Rep.int .u32)))) (xs := [((ad.1.1, ad.1.2), ad.2), ((ae.1.1, ae.1.2), ae.2), ((af.1.1, af.1.2), af.2), ((ag.1.1, ag.1.2), ag.2)]) [(.agg #[(.bool ad.1.1), (.slice b5 ad.1.2.length b6), (.slice b7 ad.2.length b8)]), (.agg #[(.bool ae.1.1), (.slice cb ae.1.2.length cc), (.slice cd ae.2.length ce)]), (.agg #[(.bool af.1.1), (.slice cf af.1.2.length cg), (.slice ch af.2.length ci)]), (.agg #[(.bool ag.1.1), (.slice cj ag.1.2.length ck), (.slice cl ag.2.length cm)])] 17 rfl Tryz.underlying51 el40_15 rfl rfl rfl rfl rfl rfl (by intro v hv; simp only [List.mem_cons, List.not_mem_nil, or_false] at hv; rcases hv with rfl | rfl | rfl | rfl <;> rfl) d7 ?_
 intro co cz cp ay d8
 replace ak := ak.gr ay
 have d9 : Has (Rep.row 40 (Rep.pair (Rep.pair Rep.bool (Rep.row 114 (Rep.int .u32))) (Rep.row 114 (Rep.int .u32)))) 9 cp cz [(.slice b4 ([((ab.1.1, ab.1.2), ab.2), ((ac.1.1, ac.1.2), ac.2)].length) 2)] [((ab.1.1, ab.1.2), ab.2), ((ac.1.1, ac.1.2), ac.2)] := ak.has
 have ea : Has (Rep.row 40 (Rep.pair (Rep.pair Rep.bool (Rep.row 114 (Rep.int .u32))) (Rep.row 114 (Rep.int .u32)))) 17 cp cz [(.slice co ([((ad.1.1, ad.1.2), ad.2), ((ae.1.1, ae.1.2), ae.2), ((af.1.1, af.1.2), af.2), ((ag.1.1, ag.1.2), ag.2)].length) 4)] [((ad.1.1, ad.1.2), ad.2), ((ae.1.1, ae.1.2), ae.2), ((af.1.1, af.1.2), af.2), ((ag.1.1, ag.1.2), ag.2)] := d8.has
 have eb := RowsH.cons (cs := [(.slice b4 ([((ab.1.1, ab.1.2), ab.2), ((ac.1.1, ac.1.2), ac.2)].length) 2)]) d9 (RowsH.cons1 (cs := [(.slice co ([((ad.1.1, ad.1.2), ad.2), ((ae.1.1, ae.1.2), ae.2), ((af.1.1, af.1.2), af.2), ((ag.1.1, ag.1.2), ag.2)].length) 4)]) ea Rows.nil0) (by decide) (by decide)
 replace ah := ah.gr ay
 replace ah := ah.recol 9 17 (by decide)
 replace ai := ai.gr ay
 replace ai := ai.recol 9 17 (by decide)
 replace aj := aj.gr ay
 replace aj := aj.recol 9 17 (by decide)
 replace aa := aa.gr ay
 replace aa := aa.recol 9 17 (by decide)
 replace hst := hst.grow ay
 replace hst := hst.recol 9 17 (by decide) (by decide)
 refine l_lit (col := (rcC 9 17 cp)) (r := (Rep.row 40 (Rep.pair (Rep.pair Rep.bool (Rep.row 114 (Rep.int .u32))) (Rep.row 114 (Rep.int .u32))))) (xs := [[((ab.1.1, ab.1.2), ab.2), ((ac.1.1, ac.1.2), ac.2)], [((ad.1.1, ad.1.2), ad.2), ((ae.1.1, ae.1.2), ae.2), ((af.1.1, af.1.2), af.2), ((ag.1.1, ag.1.2), ag.2)]]) [(.slice b4 ([((ab.1.1, ab.1.2), ab.2), ((ac.1.1, ac.1.2), ac.2)].length) 2), (.slice co ([((ad.1.1, ad.1.2), ad.2), ((ae.1.1, ae.1.2), ae.2), ((af.1.1, af.1.2), af.2), ((ag.1.1, ag.1.2), ag.2)].length) 4)] 17 rfl Tryz.underlying26 el51_15 rfl rfl rfl rfl rfl rfl (by intro v hv; simp only [List.mem_cons, List.not_mem_nil, or_false] at hv; rcases hv with rfl | rfl <;> rfl) eb ?_
 intro be eo c0 a5 cq
 refine lV (.agg #[(.string (⟨#[114, 97, 105, 110]⟩)), (.slice a7 (([⟨#[114, 97, 105, 110]⟩, ⟨#[103, 114, 97, 115, 115]⟩] : List ByteArray).length) 2), (.slice a9 ([([⟨#[110, 111]⟩, ⟨#[121, 101, 115]⟩] : List ByteArray), ([⟨#[100, 114, 121]⟩, ⟨#[119, 101, 116]⟩] : List ByteArray)].length) 2), (.slice bb ([([] : List Int), [0]].length) 2), (.slice be ([[((ab.1.1, ab.1.2), ab.2), ((ac.1.1, ac.1.2), ac.2)], [((ad.1.1, ad.1.2), ad.2), ((ae.1.1, ae.1.2), ae.2), ((af.1.1, af.1.2), af.2), ((ag.1.1, ag.1.2), ag.2)]].length) 2)]) (r_build (l := [_, _, _, _, _]) (qs := [(0, 1), (1, 1), (2, 1), (3, 1), (4, 1)]) Tryz.underlying28 Tryz.zeroValue28 ⟨rfl, Tryz.sizeOf9, rfl, Tryz.sizeOf23, rfl, Tryz.sizeOf24, rfl, Tryz.sizeOf25, rfl, Tryz.sizeOf26, trivial⟩ rfl) ?_
 replace aa := aa.gr a5
 refine l_bstore (v := (.agg #[(.string (⟨#[114, 97, 105, 110]⟩)), (.slice a7 (([⟨#[114, 97, 105, 110]⟩, ⟨#[103, 114, 97, 115, 115]⟩] : List ByteArray).length) 2), (.slice a9 ([([⟨#[110, 111]⟩, ⟨#[121, 101, 115]⟩] : List ByteArray), ([⟨#[100, 114, 121]⟩, ⟨#[119, 101, 116]⟩] : List ByteArray)].length) 2), (.slice bb ([([] : List Int), [0]].length) 2), (.slice be ([[((ab.1.1, ab.1.2), ab.2), ((ac.1.1, ac.1.2), ac.2)], [((ad.1.1, ad.1.2), ad.2), ((ae.1.1, ae.1.2), ae.2), ((af.1.1, af.1.2), af.2), ((ag.1.1, ag.1.2), ag.2)]].length) 2)])) aa Tryz.sizeOf28 rfl rfl (by intro u hu; simp only [Value.cells, List.mem_cons, List.not_mem_nil, or_false] at hu; rcases hu with rfl | rfl | rfl | rfl | rfl <;> rfl) rfl rfl ?_
 intro ec a6 ed cr
 clear aa
 replace cr : Box 28 1 c0 ec ct #[(.string (⟨#[114, 97, 105, 110]⟩)), (.slice a7 (([⟨#[114, 97, 105, 110]⟩, ⟨#[103, 114, 97, 115, 115]⟩] : List ByteArray).length) 2), (.slice a9 ([([⟨#[110, 111]⟩, ⟨#[121, 101, 115]⟩] : List ByteArray), ([⟨#[100, 114, 121]⟩, ⟨#[119, 101, 116]⟩] : List ByteArray)].length) 2), (.slice bb ([([] : List Int), [0]].length) 2), (.slice be ([[((ab.1.1, ab.1.2), ab.2), ((ac.1.1, ac.1.2), ac.2)], [((ad.1.1, ad.1.2), ad.2), ((ae.1.1, ae.1.2), ae.2), ((af.1.1, af.1.2), af.2), ((ag.1.1, ag.1.2), ag.2)]].length) 2)] := cr
 refine lN ?_
 refine wret ?_
 cases hm
 replace ah := (ah.gr a5).kp a6
 replace ai := (ai.gr a5).kp a6
 replace aj := (aj.gr a5).kp a6
 replace hst := (hst.grow a5).kp a6 ed
 replace cq := cq.kp a6
 exact ⟨rfl, _, res_a rfl rfl Tryz.isAgg28 Tryz.sizeOf28 rfl rfl cr.atN, colF w0.heap.size col c0 (fun n => bif Nat.beq n 2 then c1 else bif Nat.beq n 4 then c2 else bif Nat.beq n 6 then c3 else bif Nat.beq n 17 then c4 else 0), a7, 2, a9, 2, bb, 2, be, 2, rfl, hst.fin (fun n => bif Nat.beq n 2 then c1 else bif Nat.beq n 4 then c2 else bif Nat.beq n 6 then c3 else bif Nat.beq n 17 then c4 else 0), hst.finOwn (g := (fun n => bif Nat.beq n 2 then c1 else bif Nat.beq n 4 then c2 else bif Nat.beq n 6 then c3 else bif Nat.beq n 17 then c4 else 0)) rfl ah (by decide) (by decide) rfl, hst.finOwn (g := (fun n => bif Nat.beq n 2 then c1 else bif Nat.beq n 4 then c2 else bif Nat.beq n 6 then c3 else bif Nat.beq n 17 then c4 else 0)) rfl ai (by decide) (by decide) rfl, hst.finOwn (g := (fun n => bif Nat.beq n 2 then c1 else bif Nat.beq n 4 then c2 else bif Nat.beq n 6 then c3 else bif Nat.beq n 17 then c4 else 0)) rfl aj (by decide) (by decide) rfl, hst.finOwn (g := (fun n => bif Nat.beq n 2 then c1 else bif Nat.beq n 4 then c2 else bif Nat.beq n 6 then c3 else bif Nat.beq n 17 then c4 else 0)) rfl cq (by decide) (by decide) rfl⟩
def m_slices_Index_string_string_L1 (aa : ByteArray) : List ByteArray → Nat → Option Int
  | [], ab => some (-1)
  | ac :: ad, ab => if (decide (aa = ac)) = true then none else ((m_slices_Index_string_string_L1 aa ad) (ab + 1))
termination_by structural x => x
def m_slices_Index_string_string (aa : (List ByteArray)) (ab : ByteArray) : Option Int :=
  m_slices_Index_string_string_L1 ab aa 0
theorem c_slices_Index_string_string (col : Col) (w0 : World) (a0 : Option Addr) (cap0 : Nat) (aa : (List ByteArray)) (ac : ByteArray) (h0 : Sl Rep.str col w0 a0 cap0 aa) (r : Int) (hm : m_slices_Index_string_string aa ac = some r) :
    Calls Tryz.prog 174 #[(.slice a0 aa.length cap0), (.string ac)] w0 (fun e w' => e = .returned ((.int .i64 r)) ∧ Below w0.heap.size w0 w') := by
 refine calls_of1 4 (m := 19) (args := [(.slice a0 aa.length cap0), (.string ac)]) Tryz.func174 rfl rfl rfl rfl rfl ?_
 rw [m_slices_Index_string_string.eq_1] at hm
 have hst := St.start col w0
 refine wS <| wR <| lA (.int .i64 0) <| lN <| wS <| wS <| wR <| lM (.slice a0 aa.length cap0) <| lV (.int .i64 (aa.length : Int)) (r_len Tryz.underlying23 rfl) <| lM (.int .i64 0) <| lN <| wB ?_
 replace h0 := h0.keep (Stay.start col w0)
 refine wloop (fun n f ag => ∃ (ae : Col) (ab : Nat) (ad : List ByteArray), n = ad.length ∧ aa.drop ab = ad ∧ m_slices_Index_string_string_L1 ac ad ab = some r ∧ St w0 (col0 col) ae ag ∧ Sl Rep.str ae ag a0 cap0 aa ∧ f 8 = (.int .i64 (ab : Int)) ∧ f 0 = (.slice a0 aa.length cap0) ∧ f 1 = (.string ac) ∧ f 7 = (.int .i64 (aa.length : Int)) ∧ f 1000000 = (enc [])) aa.length ⟨(col0 col), 0, aa, rfl, rfl, hm, hst, h0, rfl, rfl, rfl, rfl, rfl⟩ ?_
 clear hm; intro n f ag hI
 obtain ⟨ae, ab, ad, hn, hl, hm, hst, h0, hs8, hs0, hs1, hs7, hs1000000⟩ := hI
 subst hn
 refine .lD 8 hs8 <| .lD 0 hs0 <| .lD 1 hs1 <| .lD 7 hs7 <| .lD 1000000 hs1000000 ?_
 clear hs8 hs0 hs1 hs7 hs1000000
 cases ad with
 | nil =>
  have hk : ¬ ((ab : Int) < (aa.length : Int)) := by have := List.drop_eq_nil_iff.1 hl; omega
  have hkb := decide_eq_false hk
  rw [m_slices_Index_string_string_L1.eq_1] at hm
  refine wS <| wR <| lV (.bool (decide ((ab : Int) < (aa.length : Int)))) (r_lss (ab : Int) (aa.length : Int) rfl rfl) <| lN <| wS ?_
  refine wcondF (congrArg Value.bool hkb) ?_
  refine wexit (inB_hit ?_)
  refine wS <| wR <| lA (.int .i64 (-1)) <| lN ?_
  refine wret ?_
  cases hm
  exact ⟨rfl, rfl, hst.below⟩
 | cons af ah =>
  obtain ⟨hat, hl2_L1, hlt_L1⟩ := drop_get hl
  have hk : (ab : Int) < (aa.length : Int) := by omega
  have hkb := decide_eq_true hk
  rw [m_slices_Index_string_string_L1.eq_2] at hm
  refine wS <| wR <| lV (.bool (decide ((ab : Int) < (aa.length : Int)))) (r_lss (ab : Int) (aa.length : Int) rfl rfl) <| lN <| wS ?_
  refine wcondT (congrArg Value.bool hkb) ?_
  refine wK <| wS <| wB <| wS <| wR <| lM (.int .i64 (ab : Int)) <| lA (.int .i64 (ab : Int)) <| lN <| wS <| wR <| lM (.string ac) <| lM (.slice a0 aa.length cap0) <| lM (.int .i64 (ab : Int)) ?_
  refine lV (sptr a0 (Int.toNat (ab : Int) * 1)) (r_idx Tryz.underlying23 Tryz.sizeOf9 rfl rfl (at?_some hat).1 (at?_some hat).2.1 (h0.addr hat)) ?_
  refine lV (.string af) (r_ld Tryz.isAgg9 rfl (h0.atStr hat)) <| lV (.bool (decide (ac = af))) (r_eqlS ac af Tryz.underlying9 rfl rfl) <| lN ?_
  refine wcond (decide (ac = af)) rfl (fun hb => ?_) (fun hb => ?_)
  ·rw [if_pos hb] at hm
   clear hb
   cases hm
  rw [if_neg (by rw [hb]; decide)] at hm
  clear hb
  refine wK <| wR <| lV (.int .i64 (IntKind.i64.wrap ((ab : Int) + 1))) (r_add (ab : Int) 1 rfl rfl) <| lM (.int .i64 (IntKind.i64.wrap ((ab : Int) + 1))) <| lN ?_
  exact ⟨ah.length, by simp, ⟨ae, (ab + 1), ah, rfl, hl2_L1, hm, hst, h0, (congrArg (Value.int .i64) (wrap_succ (Nat.lt_of_lt_of_le hlt_L1 h0.1.1))), rfl, rfl, rfl, rfl⟩⟩
def m_slices_Contains_string_string (aa : (List ByteArray)) (ab : ByteArray) : Option Bool :=
  (m_slices_Index_string_string aa ab).bind fun ac => some (decide (0 ≤ ac))
theorem c_slices_Contains_string_string (col : Col) (w0 : World) (a0 : Option Addr) (cap0 : Nat) (aa : (List ByteArray)) (ab : ByteArray) (h0 : Sl Rep.str col w0 a0 cap0 aa) (r : Bool) (hm : m_slices_Contains_string_string aa ab = some r) :
    Calls Tryz.prog 147 #[(.slice a0 aa.length cap0), (.string ab)] w0 (fun e w' => e = .returned ((.bool r)) ∧ Below w0.heap.size w0 w') := by
 refine calls_of1 4 (m := 9) (args := [(.slice a0 aa.length cap0), (.string ab)]) Tryz.func147 rfl rfl rfl rfl rfl ?_
 rw [m_slices_Contains_string_string.eq_1] at hm
 have hst := St.start col w0
 refine wS <| wR <| lA (.bool false) <| lN <| wS <| wR <| lM (.slice a0 aa.length cap0) <| lM (.string ab) ?_
 obtain ⟨ac, ae, hm⟩ := bS hm
 replace h0 := h0.keep (Stay.start col w0)
 refine lc rfl rfl (r_call2 Tryz.call174 rfl rfl) (c_slices_Index_string_string (col0 col) _ a0 cap0 aa ab h0 ac ae) ?_
 rintro _ af ⟨rfl, ad⟩
 refine ⟨_, rfl, ?_⟩
 replace ad : Grow (col0 col) w0 (col0 col) af := .of_below ad
 refine lV (.bool (decide (0 ≤ ac))) (r_geq ac 0 rfl rfl) <| lA (.bool (decide (0 ≤ ac))) <| lN ?_
 refine wret ?_
 cases hm
 replace hst := hst.grow ad
 exact ⟨rfl, rfl, hst.below⟩
def m_model_twice_L1  : List ByteArray → (List (ByteArray × Int)) → Option Bool
  | [], aa => some false
  | ab :: ac, aa => if (decide (0 < ((mget aa ab).getD 0))) = true then none else ((some (mput aa ab 1)).bind fun ad => (m_model_twice_L1 ac) ad)
termination_by structural x => x
def m_model_twice (aa : (List ByteArray)) : Option Bool :=
  m_model_twice_L1 aa ([] : List (ByteArray × Int))
theorem c_model_twice (col : Col) (w0 : World) (a0 : Option Addr) (cap0 : Nat) (aa : (List ByteArray)) (h0 : Sl Rep.str col w0 a0 cap0 aa) (r : Bool) (hm : m_model_twice aa = some r) :
    Calls Tryz.prog 148 #[(.slice a0 aa.length cap0)] w0 (fun e w' => e = .returned ((.bool r)) ∧ Below w0.heap.size w0 w') := by
 refine calls_of1 2 (m := 20) (args := [(.slice a0 aa.length cap0)]) Tryz.func148 rfl rfl rfl rfl rfl ?_
 rw [m_model_twice.eq_1] at hm
 have hst := St.start col w0
 refine wS <| wR <| lA (.bool false) <| lN <| wS <| wR ?_
 refine l_makeMap (col := (col0 col)) (fk := Value.string) (fv := (Value.int .i64)) 1 rfl ?_
 intro ak av aq al ar
 refine lA (.map (some ak)) <| lN <| wS <| wS <| wR <| lM (.slice a0 aa.length cap0) <| lV (.int .i64 (aa.length : Int)) (r_len Tryz.underlying23 rfl) <| lM (.int .i64 0) <| lN <| wB ?_
 replace h0 := (h0.keep (Stay.start col w0)).gr al
 replace hst := hst.grow al
 refine wloop (fun n f ah => ∃ (af : Col) (ae : Nat) (ad : List (ByteArray × Int)) (ab : Nat) (ag : List ByteArray), n = ag.length ∧ aa.drop ab = ag ∧ m_model_twice_L1 ag ad = some r ∧ St w0 (col0 col) af ah ∧ MapO Value.string (Value.int .i64) 1 af ah ae ad ∧ Sl Rep.str af ah a0 cap0 aa ∧ f 9 = (.int .i64 (ab : Int)) ∧ f 3 = (.map (some ae)) ∧ f 7 = (.slice a0 aa.length cap0) ∧ f 8 = (.int .i64 (aa.length : Int)) ∧ f 1000000 = (enc [])) aa.length ⟨aq, ak, ([] : List (ByteArray × Int)), 0, aa, rfl, rfl, hm, hst, ar, h0, rfl, rfl, rfl, rfl, rfl⟩ ?_
 clear hm; intro n f ah hI
 obtain ⟨af, ae, ad, ab, ag, hn, hl, hm, hst, aj, h0, hs9, hs3, hs7, hs8, hs1000000⟩ := hI
 subst hn
 refine .lD 9 hs9 <| .lD 3 hs3 <| .lD 7 hs7 <| .lD 8 hs8 <| .lD 1000000 hs1000000 ?_
 clear hs9 hs3 hs7 hs8 hs1000000
 cases ag with
 | nil =>
  have hk : ¬ ((ab : Int) < (aa.length : Int)) := by have := List.drop_eq_nil_iff.1 hl; omega
  have hkb := decide_eq_false hk
  rw [m_model_twice_L1.eq_1] at hm
  refine wS <| wR <| lV (.bool (decide ((ab : Int) < (aa.length : Int)))) (r_lss (ab : Int) (aa.length : Int) rfl rfl) <| lN <| wS ?_
  refine wcondF (congrArg Value.bool hkb) ?_
  refine wexit (inB_hit ?_)
  refine wS <| wR <| lA (.bool false) <| lN ?_
  refine wret ?_
  cases hm
  exact ⟨rfl, rfl, hst.below⟩
 | cons ac am =>
  obtain ⟨hat, hl2_L1, hlt_L1⟩ := drop_get hl
  have hk : (ab : Int) < (aa.length : Int) := by omega
  have hkb := decide_eq_true hk
  rw [m_model_twice_L1.eq_2] at hm
  refine wS <| wR <| lV (.bool (decide ((ab : Int) < (aa.length : Int)))) (r_lss (ab : Int) (aa.length : Int) rfl rfl) <| lN <| wS ?_
  refine wcondT (congrArg Value.bool hkb) ?_
  refine wK <| wS <| wB <| wS <| wR ?_
  refine lV (sptr a0 (Int.toNat (ab : Int) * 1)) (r_idx Tryz.underlying23 Tryz.sizeOf9 rfl rfl (at?_some hat).1 (at?_some hat).2.1 (h0.addr hat)) ?_
  refine lV (.string ac) (r_ld Tryz.isAgg9 rfl (h0.atStr hat)) <| lA (.string ac) <| lN <| wS <| wS <| wR <| lM (.map (some ae)) <| lM (.string ac) <| lV (.int .i64 ((mget ad ac).getD 0)) (r_lookup KeyD.str aj Tryz.underlying204 Tryz.underlying9 Tryz.zeroValue3 rfl rfl) <| lV (.bool (decide (0 < ((mget ad ac).getD 0)))) (r_gtr ((mget ad ac).getD 0) 0 rfl rfl) <| lN ?_
  refine wcond (decide (0 < ((mget ad ac).getD 0))) rfl (fun hb => ?_) (fun hb => ?_)
  ·rw [if_pos hb] at hm
   clear hb
   cases hm
  rw [if_neg (by rw [hb]; decide)] at hm
  clear hb
  refine wK <| wR <| lM (.map (some ae)) <| lM (.string ac) ?_
  obtain ⟨an, ai, hm⟩ := bS hm
  have ai : an = mput ad ac 1 := (Option.some.inj ai).symm
  refine l_mapUpdate (k := ac) (v := 1) KeyD.str aj Tryz.underlying204 Tryz.underlying9 rfl rfl rfl ?_
  intro aw ao au ap
  rw [← ai] at ap
  clear ai
  clear aj
  refine lN <| wR <| lV (.int .i64 (IntKind.i64.wrap ((ab : Int) + 1))) (r_add (ab : Int) 1 rfl rfl) <| lM (.int .i64 (IntKind.i64.wrap ((ab : Int) + 1))) <| lN ?_
  replace h0 := h0.kp ao
  replace hst := hst.kp ao au
  exact ⟨am.length, by simp, ⟨af, ae, an, (ab + 1), am, rfl, hl2_L1, hm, hst, ap, h0, (congrArg (Value.int .i64) (wrap_succ (Nat.lt_of_lt_of_le hlt_L1 h0.1.1))), rfl, rfl, rfl, rfl⟩⟩
def m_model_named_J1 (ab : (ByteArray × (List ByteArray) × (List (List ByteArray)) × (List (List Int)) × (List (List ((Bool × (List Int)) × (List Int)))))) (aa : Nat) (kk_L1 : (Nat → Option Int)) (ac : Bool) : Option Int :=
  if ac = true then none else ((at? ab.2.2.1 (aa : Int)).bind fun ad => if (decide ((ad.length : Int) = 0)) = true then none else (kk_L1 (aa + 1)))
def m_model_named_L1 (aa : (ByteArray × (List ByteArray) × (List (List ByteArray)) × (List (List Int)) × (List (List ((Bool × (List Int)) × (List Int)))))) : List ByteArray → Nat → Option Int
  | [], ab => some 0
  | ad :: ac, ab => chk ((0 : Int) ≤ (ab : Int) ∧ (ab : Int) ≤ (aa.2.1.length : Int)) ((m_slices_Contains_string_string (aa.2.1.take (Int.toNat (ab : Int))) ad).bind fun ae => if ae = true then (m_model_named_J1 aa ab (m_model_named_L1 aa ac) true) else ((at? aa.2.2.1 (ab : Int)).bind fun af => (m_model_twice af).bind fun ag => m_model_named_J1 aa ab (m_model_named_L1 aa ac) ag))
termination_by structural x => x
def m_model_named (aa : (ByteArray × (List ByteArray) × (List (List ByteArray)) × (List (List Int)) × (List (List ((Bool × (List Int)) × (List Int)))))) : Option Int :=
  m_model_named_L1 aa aa.2.1 0
theorem c_model_named (col : Col) (w0 : World) (ac : Option Addr) (ad : Nat) (ai : Option Addr) (al : Nat) (ao : Option Addr) (ap : Nat) (aq : Option Addr) (ar : Nat) (aa : (ByteArray × (List ByteArray) × (List (List ByteArray)) × (List (List Int)) × (List (List ((Bool × (List Int)) × (List Int)))))) (af : Sl Rep.str col w0 ac ad aa.2.1) (ag : Sl (Rep.slice Rep.str) col w0 ai al aa.2.2.1) (am : Sl (Rep.slice (Rep.int .i64)) col w0 ao ap aa.2.2.2.1) (an : Sl (Rep.slice (Rep.pair (Rep.pair Rep.bool (Rep.slice (Rep.int .u32))) (Rep.slice (Rep.int .u32)))) col w0 aq ar aa.2.2.2.2) (r : Int) (hm : m_model_named aa = some r) :
    Calls Tryz.prog 114 #[(.agg #[(.string aa.1), (.slice ac aa.2.1.length ad), (.slice ai aa.2.2.1.length al), (.slice ao aa.2.2.2.1.length ap), (.slice aq aa.2.2.2.2.length ar)])] w0 (fun e w' => e = .returned ((.int .i64 r)) ∧ Below w0.heap.size w0 w') := by
 refine calls_of1 2 (m := 37) (args := [(.agg #[(.string aa.1), (.slice ac aa.2.1.length ad), (.slice ai aa.2.2.1.length al), (.slice ao aa.2.2.2.1.length ap), (.slice aq aa.2.2.2.2.length ar)])]) Tryz.func114 rfl rfl rfl rfl rfl ?_
 rw [m_model_named.eq_1] at hm
 have hst := St.start col w0
 refine wS <| wR ?_
 refine l_box (col := (col0 col)) (v := (.agg #[(.string aa.1), (.slice ac aa.2.1.length ad), (.slice ai aa.2.2.1.length al), (.slice ao aa.2.2.2.1.length ap), (.slice aq aa.2.2.2.2.length ar)])) 1 rfl rfl ?_
 intro au bf ba a1 ah
 replace ah : Box 28 1 ba bf au #[(.string aa.1), (.slice ac aa.2.1.length ad), (.slice ai aa.2.2.1.length al), (.slice ao aa.2.2.2.1.length ap), (.slice aq aa.2.2.2.2.length ar)] := ah
 refine lA (.int .i64 0) <| lN <| wS <| wS <| wR <| lV (.pointer ((some (⟨au, 0, none⟩ : Addr)).map (·.add 1))) (rF (sz := 1) (off := 1) Tryz.underlying28 rfl Tryz.sizeOf23 (by decide) rfl rfl ⟨_, _, rfl⟩) <| lV (.slice ac aa.2.1.length ad) (r_ld Tryz.isAgg23 rfl ((ah.atN).nth (q := 1) (v := (.slice ac aa.2.1.length ad)) rfl)) <| lV (.int .i64 (aa.2.1.length : Int)) (r_len Tryz.underlying23 rfl) <| lM (.int .i64 0) <| lN <| wB ?_
 replace af := (af.keep (Stay.start col w0)).gr a1
 replace ag := (ag.keep (Stay.start col w0)).gr a1
 replace am := (am.keep (Stay.start col w0)).gr a1
 replace an := (an.keep (Stay.start col w0)).gr a1
 replace hst := hst.grow a1
 refine wloop (fun n f av => ∃ (aj : Col) (ab : Nat) (a2 : List ByteArray), n = a2.length ∧ aa.2.1.drop ab = a2 ∧ m_model_named_L1 aa a2 ab = some r ∧ St w0 (col0 col) aj av ∧ Sl Rep.str aj av ac ad aa.2.1 ∧ Sl (Rep.slice Rep.str) aj av ai al aa.2.2.1 ∧ Sl (Rep.slice (Rep.int .i64)) aj av ao ap aa.2.2.2.1 ∧ Sl (Rep.slice (Rep.pair (Rep.pair Rep.bool (Rep.slice (Rep.int .u32))) (Rep.slice (Rep.int .u32)))) aj av aq ar aa.2.2.2.2 ∧ Box 28 1 aj av au #[(.string aa.1), (.slice ac aa.2.1.length ad), (.slice ai aa.2.2.1.length al), (.slice ao aa.2.2.2.1.length ap), (.slice aq aa.2.2.2.2.length ar)] ∧ f 8 = (.int .i64 (ab : Int)) ∧ f 1 = (.pointer (some ⟨au, 0, none⟩)) ∧ f 6 = (.slice ac aa.2.1.length ad) ∧ f 7 = (.int .i64 (aa.2.1.length : Int)) ∧ f 1000000 = (enc [])) aa.2.1.length ⟨ba, 0, aa.2.1, rfl, rfl, hm, hst, af, ag, am, an, ah, rfl, rfl, rfl, rfl, rfl⟩ ?_
 clear hm; intro n f av hI
 obtain ⟨aj, ab, a2, hn, hl, hm, hst, af, ag, am, an, ah, hs8, hs1, hs6, hs7, hs1000000⟩ := hI
 subst hn
 refine .lD 8 hs8 <| .lD 1 hs1 <| .lD 6 hs6 <| .lD 7 hs7 <| .lD 1000000 hs1000000 ?_
 clear hs8 hs1 hs6 hs7 hs1000000
 cases a2 with
 | nil =>
  have hk : ¬ ((ab : Int) < (aa.2.1.length : Int)) := by have := List.drop_eq_nil_iff.1 hl; omega
  have hkb := decide_eq_false hk
  rw [m_model_named_L1.eq_1] at hm
  refine wS <| wR <| lV (.bool (decide ((ab : Int) < (aa.2.1.length : Int)))) (r_lss (ab : Int) (aa.2.1.length : Int) rfl rfl) <| lN <| wS ?_
  refine wcondF (congrArg Value.bool hkb) ?_
  refine wexit (inB_hit ?_)
  refine wS <| wR <| lA (.int .i64 0) <| lN ?_
  refine wret ?_
  cases hm
  exact ⟨rfl, rfl, hst.below⟩
 | cons a3 a8 =>
  obtain ⟨hat, hl2_L1, hlt_L1⟩ := drop_get hl
  have hk : (ab : Int) < (aa.2.1.length : Int) := by omega
  have hkb := decide_eq_true hk
  rw [m_model_named_L1.eq_2] at hm
  refine wS <| wR <| lV (.bool (decide ((ab : Int) < (aa.2.1.length : Int)))) (r_lss (ab : Int) (aa.2.1.length : Int) rfl rfl) <| lN <| wS ?_
  refine wcondT (congrArg Value.bool hkb) ?_
  refine wK <| wS <| wB <| wS <| wR <| lM (.int .i64 (ab : Int)) ?_
  refine lV (sptr ac (Int.toNat (ab : Int) * 1)) (r_idx Tryz.underlying23 Tryz.sizeOf9 rfl rfl (at?_some hat).1 (at?_some hat).2.1 (af.addr hat)) ?_
  refine lV (.string a3) (r_ld Tryz.isAgg9 rfl (af.atStr hat)) <| lA (.int .i64 (ab : Int)) <| lA (.string a3) <| lN <| wB <| wS ?_
  refine Wp.cut (fun f az => ∃ (aw : Col) (a4 : Bool), m_model_named_J1 aa ab (m_model_named_L1 aa a8) a4 = some r ∧ St w0 (col0 col) aw az ∧ Sl Rep.str aw az ac ad aa.2.1 ∧ Sl (Rep.slice Rep.str) aw az ai al aa.2.2.1 ∧ Sl (Rep.slice (Rep.int .i64)) aw az ao ap aa.2.2.2.1 ∧ Sl (Rep.slice (Rep.pair (Rep.pair Rep.bool (Rep.slice (Rep.int .u32))) (Rep.slice (Rep.int .u32)))) aw az aq ar aa.2.2.2.2 ∧ Box 28 1 aw az au #[(.string aa.1), (.slice ac aa.2.1.length ad), (.slice ai aa.2.2.1.length al), (.slice ao aa.2.2.2.1.length ap), (.slice aq aa.2.2.2.2.length ar)] ∧ f 1 = (.pointer (some ⟨au, 0, none⟩)) ∧ f 13 = (.bool a4) ∧ f 3 = (.int .i64 (ab : Int)) ∧ f 6 = (.slice ac aa.2.1.length ad) ∧ f 7 = (.int .i64 (aa.2.1.length : Int)) ∧ f 8 = (.int .i64 (ab : Int)) ∧ f 1000000 = (enc [])) ?_ ?_
  ·intro f az hJ
   obtain ⟨aw, a4, hm, hst, af, ag, am, an, ah, hs1, hs13, hs3, hs6, hs7, hs8, hs1000000⟩ := hJ
   rw [m_model_named_J1.eq_1] at hm
   refine .lD 1 hs1 <| .lD 13 hs13 <| .lD 3 hs3 <| .lD 6 hs6 <| .lD 7 hs7 <| .lD 8 hs8 <| .lD 1000000 hs1000000 ?_
   clear hs1 hs13 hs3 hs6 hs7 hs8 hs1000000
   refine wcond (a4) rfl (fun hb => ?_) (fun hb => ?_)
   ·rw [if_pos hb] at hm
    clear hb
    cases hm
   rw [if_neg (by rw [hb]; decide)] at hm
   clear hb
   refine wS <| wR <| lV (.pointer ((some (⟨au, 0, none⟩ : Addr)).map (·.add 2))) (rF (sz := 1) (off := 2) Tryz.underlying28 rfl Tryz.sizeOf24 (by decide) rfl rfl ⟨_, _, rfl⟩) <| lV (.slice ai aa.2.2.1.length al) (r_ld Tryz.isAgg24 rfl ((ah.atN).nth (q := 2) (v := (.slice ai aa.2.2.1.length al)) rfl)) <| lM (.int .i64 (ab : Int)) ?_
   obtain ⟨a0, a5, hm⟩ := bS hm
   refine lV (sptr ai (Int.toNat (ab : Int) * 1)) (r_idx Tryz.underlying24 Tryz.sizeOf23 rfl rfl (at?_some a5).1 (at?_some a5).2.1 (ag.addr a5)) ?_
   obtain ⟨_, bg, bh⟩ := ag.atN a5
   obtain ⟨⟨bi, bj, rfl, bq⟩, _⟩ := bg
   refine lV (.slice bi a0.length bj) (r_ld Tryz.isAgg23 rfl bh.one) <| lV (.int .i64 (a0.length : Int)) (r_len Tryz.underlying23 rfl) <| lV (.bool (decide ((a0.length : Int) = 0))) (r_eql (a0.length : Int) 0 rfl rfl) <| lA (.bool (decide ((a0.length : Int) = 0))) <| lN ?_
   refine wcond (decide ((a0.length : Int) = 0)) rfl (fun hb => ?_) (fun hb => ?_)
   ·rw [if_pos hb] at hm
    clear hb
    cases hm
   rw [if_neg (by rw [hb]; decide)] at hm
   clear hb
   refine wK <| wR <| lV (.int .i64 (IntKind.i64.wrap ((ab : Int) + 1))) (r_add (ab : Int) 1 rfl rfl) <| lM (.int .i64 (IntKind.i64.wrap ((ab : Int) + 1))) <| lN ?_
   exact ⟨a8.length, by simp, ⟨aw, (ab + 1), a8, rfl, hl2_L1, hm, hst, af, ag, am, an, ah, (congrArg (Value.int .i64) (wrap_succ (Nat.lt_of_lt_of_le hlt_L1 af.1.1))), rfl, rfl, rfl, rfl⟩⟩
  refine wR <| lV (.pointer ((some (⟨au, 0, none⟩ : Addr)).map (·.add 1))) (rF (sz := 1) (off := 1) Tryz.underlying28 rfl Tryz.sizeOf23 (by decide) rfl rfl ⟨_, _, rfl⟩) <| lV (.slice ac aa.2.1.length ad) (r_ld Tryz.isAgg23 rfl ((ah.atN).nth (q := 1) (v := (.slice ac aa.2.1.length ad)) rfl)) <| lM (.int .i64 (ab : Int)) ?_
  obtain ⟨a9, hm⟩ := cS hm
  refine lv (v := .slice ac (Int.toNat (ab : Int)) ad) rfl rfl (r_sliceH Tryz.underlying23 Tryz.sizeOf9 rfl rfl a9.1 (by have := af.1.2; have := a9.2; omega)) ?_
  refine .ld (d := 17) (v := (.slice ac ((aa.2.1.take (Int.toNat (ab : Int))).length) ad)) (congrArg (fun n => Value.slice ac n ad) (List.length_take_of_le (show (Int.toNat (ab : Int)) ≤ aa.2.1.length by have := a9.2; omega)).symm) ?_
  refine lM (.string a3) ?_
  obtain ⟨ak, bk, hm⟩ := bS hm
  refine lc rfl rfl (r_call2 Tryz.call147 rfl rfl) (c_slices_Contains_string_string aj _ ac ad (aa.2.1.take (Int.toNat (ab : Int))) a3 (af.take (Int.toNat (ab : Int))) ak bk) ?_
  rintro _ bb ⟨rfl, ax⟩
  refine ⟨_, rfl, ?_⟩
  replace ax : Grow aj av aj bb := .of_below ax
  refine lM (.bool ak) ?_
  replace af := af.gr ax
  replace ag := ag.gr ax
  replace am := am.gr ax
  replace an := an.gr ax
  replace ah := ah.gr ax
  replace hst := hst.grow ax
  by_cases ae : ak = true
  ·rw [if_pos ae] at hm
   refine lp (b := ak) 20 rfl rfl rfl rfl (by rw [ae]; rfl) ?_
   refine lp (b := ak) 20 rfl rfl rfl rfl (by rw [ae]; rfl) ?_
   refine lp (b := ak) 20 rfl rfl rfl rfl (by rw [ae]; rfl) ?_
   refine lp (b := ak) 20 rfl rfl rfl rfl (by rw [ae]; rfl) ?_
   refine lp (b := ak) 20 rfl rfl rfl rfl (by rw [ae]; rfl) ?_
   refine lp (b := ak) 20 rfl rfl rfl rfl (by rw [ae]; rfl) ?_
   refine lV (.bool true) (r_pickT (congrArg Value.bool ae) rfl) <| lA (.bool true) <| lN ?_
   exact ⟨aj, true, hm, hst, af, ag, am, an, ah, rfl, rfl, rfl, rfl, rfl, rfl, rfl⟩
  rw [if_neg ae] at hm
  replace ae := Bool.eq_false_iff.2 ae
  refine lg (b := ak) 20 rfl rfl rfl (by rw [ae]; rfl) ?_
  refine lV (.pointer ((some (⟨au, 0, none⟩ : Addr)).map (·.add 2))) (rF (sz := 1) (off := 2) Tryz.underlying28 rfl Tryz.sizeOf24 (by decide) rfl rfl ⟨_, _, rfl⟩) ?_
  refine lg (b := ak) 20 rfl rfl rfl (by rw [ae]; rfl) ?_
  refine lV (.slice ai aa.2.2.1.length al) (r_ld Tryz.isAgg24 rfl ((ah.atN).nth (q := 2) (v := (.slice ai aa.2.2.1.length al)) rfl)) ?_
  refine lg (b := ak) 20 rfl rfl rfl (by rw [ae]; rfl) ?_
  refine lM (.int .i64 (ab : Int)) ?_
  refine lg (b := ak) 20 rfl rfl rfl (by rw [ae]; rfl) ?_
  obtain ⟨bc, a6, hm⟩ := bS hm
  refine lV (sptr ai (Int.toNat (ab : Int) * 1)) (r_idx Tryz.underlying24 Tryz.sizeOf23 rfl rfl (at?_some a6).1 (at?_some a6).2.1 (ag.addr a6)) ?_
  refine lg (b := ak) 20 rfl rfl rfl (by rw [ae]; rfl) ?_
  obtain ⟨_, bl, bm⟩ := ag.atN a6
  obtain ⟨⟨bd, be, rfl, bn⟩, _⟩ := bl
  refine lV (.slice bd bc.length be) (r_ld Tryz.isAgg23 rfl bm.one) ?_
  refine lg (b := ak) 20 rfl rfl rfl (by rw [ae]; rfl) ?_
  obtain ⟨a7, bo, hm⟩ := bS hm
  refine lc rfl rfl (r_call1 Tryz.call148 rfl) (c_model_twice aj _ bd be bc bn a7 bo) ?_
  rintro _ bp ⟨rfl, ay⟩
  refine ⟨_, rfl, ?_⟩
  replace ay : Grow aj bb aj bp := .of_below ay
  refine lV (.bool a7) (r_pickF (congrArg Value.bool ae) rfl) <| lA (.bool a7) <| lN ?_
  replace af := af.gr ay
  replace ag := ag.gr ay
  replace am := am.gr ay
  replace an := an.gr ay
  replace ah := ah.gr ay
  replace hst := hst.grow ay
  exact ⟨aj, a7, hm, hst, af, ag, am, an, ah, rfl, rfl, rfl, rfl, rfl, rfl, rfl⟩
def m_dag_fits_L3 (kk_L2 : (Option Int)) : List Int → (List (Int × Int)) → Option Int
  | [], aa => kk_L2 
  | ab :: ac, aa => if (decide (0 < ((mget aa ab).getD 0))) = true then none else ((some (mput aa ab 1)).bind fun ad => (m_dag_fits_L3 kk_L2 ac) ad)
termination_by structural x => x
def m_dag_fits_L2  : List (List Int) → Option Int
  | [] => some 0
  | aa :: ab => m_dag_fits_L3 (m_dag_fits_L2 ab) aa ([] : List (Int × Int))
termination_by structural x => x
def m_dag_fits_J1 (kk_L4 : (Option Int)) (aa : Bool) : Option Int :=
  if aa = true then none else kk_L4
def m_dag_fits_L4 (aa : (List (List Int))) (kk_L1 : (Option Int)) : List Int → Option Int
  | [] => kk_L1 
  | ab :: ac => if (decide (ab < 0)) = true then (m_dag_fits_J1 (m_dag_fits_L4 aa kk_L1 ac) true) else (m_dag_fits_J1 (m_dag_fits_L4 aa kk_L1 ac) (decide ((aa.length : Int) ≤ ab)))
termination_by structural x => x
def m_dag_fits_L1 (aa : (List (List Int))) : List (List Int) → Option Int
  | [] => m_dag_fits_L2 aa 
  | ab :: ac => m_dag_fits_L4 aa (m_dag_fits_L1 aa ac) ab 
termination_by structural x => x
def m_dag_fits (aa : (List (List Int))) : Option Int :=
  m_dag_fits_L1 aa aa 
theorem c_dag_fits (col : Col) (w0 : World) (a0 : Option Addr) (cap0 : Nat) (aa : (List (List Int))) (h0 : Sl (Rep.slice (Rep.int .i64)) col w0 a0 cap0 aa) (r : Int) (hm : m_dag_fits aa = some r) :
    Calls Tryz.prog 121 #[(.slice a0 aa.length cap0)] w0 (fun e w' => e = .returned ((.int .i64 r)) ∧ Below w0.heap.size w0 w') := by
 refine calls_of1 2 (m := 57) (args := [(.slice a0 aa.length cap0)]) Tryz.func121 rfl rfl rfl rfl rfl ?_
 rw [m_dag_fits.eq_1] at hm
 have hst := St.start col w0
 refine wS <| wR <| lA (.int .i64 0) <| lN <| wS <| wS <| wR <| lM (.slice a0 aa.length cap0) <| lV (.int .i64 (aa.length : Int)) (r_len Tryz.underlying25 rfl) <| lM (.int .i64 0) <| lN <| wB ?_
 replace h0 := h0.keep (Stay.start col w0)
 refine wloop (fun n f ba => ∃ (aw : Col) (ae : Nat) (ax : List (List Int)), n = ax.length ∧ aa.drop ae = ax ∧ m_dag_fits_L1 aa ax  = some r ∧ St w0 (col0 col) aw ba ∧ Sl (Rep.slice (Rep.int .i64)) aw ba a0 cap0 aa ∧ f 14 = (.int .i64 (ae : Int)) ∧ f 0 = (.slice a0 aa.length cap0) ∧ f 12 = (.slice a0 aa.length cap0) ∧ f 13 = (.int .i64 (aa.length : Int)) ∧ f 1000000 = (enc [])) aa.length ⟨(col0 col), 0, aa, rfl, rfl, hm, hst, h0, rfl, rfl, rfl, rfl, rfl⟩ ?_
 clear hm; intro n f ba hI
 obtain ⟨aw, ae, ax, hn, hl, hm, hst, h0, hs14, hs0, hs12, hs13, hs1000000⟩ := hI
 subst hn
 refine .lD 14 hs14 <| .lD 0 hs0 <| .lD 12 hs12 <| .lD 13 hs13 <| .lD 1000000 hs1000000 ?_
 clear hs14 hs0 hs12 hs13 hs1000000
 cases ax with
 | nil =>
  have hk : ¬ ((ae : Int) < (aa.length : Int)) := by have := List.drop_eq_nil_iff.1 hl; omega
  have hkb := decide_eq_false hk
  rw [m_dag_fits_L1.eq_1] at hm
  refine wS <| wR <| lV (.bool (decide ((ae : Int) < (aa.length : Int)))) (r_lss (ae : Int) (aa.length : Int) rfl rfl) <| lN <| wS ?_
  refine wcondF (congrArg Value.bool hkb) ?_
  refine wexit (inB_hit ?_)
  refine wS <| wS <| wR <| lM (.slice a0 aa.length cap0) <| lV (.int .i64 (aa.length : Int)) (r_len Tryz.underlying25 rfl) <| lM (.int .i64 0) <| lN <| wB ?_
  refine wloop (fun n f bb => ∃ (a4 : Col) (af : Nat) (ay : List (List Int)), n = ay.length ∧ aa.drop af = ay ∧ m_dag_fits_L2 ay  = some r ∧ St w0 (col0 col) a4 bb ∧ Sl (Rep.slice (Rep.int .i64)) a4 bb a0 cap0 aa ∧ f 36 = (.int .i64 (af : Int)) ∧ f 34 = (.slice a0 aa.length cap0) ∧ f 35 = (.int .i64 (aa.length : Int)) ∧ f 1000000 = (enc [])) aa.length ⟨aw, 0, aa, rfl, rfl, hm, hst, h0, rfl, rfl, rfl, rfl⟩ ?_
  clear hm; intro n f bb hI
  obtain ⟨a4, af, ay, hn, hl, hm, hst, h0, hs36, hs34, hs35, hs1000000⟩ := hI
  subst hn
  refine .lD 36 hs36 <| .lD 34 hs34 <| .lD 35 hs35 <| .lD 1000000 hs1000000 ?_
  clear hs36 hs34 hs35 hs1000000
  cases ay with
  | nil =>
   have hk : ¬ ((af : Int) < (aa.length : Int)) := by have := List.drop_eq_nil_iff.1 hl; omega
   have hkb := decide_eq_false hk
   rw [m_dag_fits_L2.eq_1] at hm
   refine wS <| wR <| lV (.bool (decide ((af : Int) < (aa.length : Int)))) (r_lss (af : Int) (aa.length : Int) rfl rfl) <| lN <| wS ?_
   refine wcondF (congrArg Value.bool hkb) ?_
   refine wexit (inB_hit ?_)
   refine wS <| wR <| lA (.int .i64 0) <| lN ?_
   refine wret ?_
   cases hm
   exact ⟨rfl, rfl, hst.below⟩
  | cons ad bc =>
   obtain ⟨hat, hl2_L2, hlt_L2⟩ := drop_get hl
   have hk : (af : Int) < (aa.length : Int) := by omega
   have hkb := decide_eq_true hk
   rw [m_dag_fits_L2.eq_2] at hm
   refine wS <| wR <| lV (.bool (decide ((af : Int) < (aa.length : Int)))) (r_lss (af : Int) (aa.length : Int) rfl rfl) <| lN <| wS ?_
   refine wcondT (congrArg Value.bool hkb) ?_
   refine wK <| wS <| wB <| wS <| wR ?_
   refine lV (sptr a0 (Int.toNat (af : Int) * 1)) (r_idx Tryz.underlying25 Tryz.sizeOf33 rfl rfl (at?_some hat).1 (at?_some hat).2.1 (h0.addr hat)) ?_
   obtain ⟨_, bl, bm⟩ := h0.atN hat
   obtain ⟨⟨ao, au, rfl, aj⟩, _⟩ := bl
   refine lV (.slice ao ad.length au) (r_ld Tryz.isAgg33 rfl bm.one) <| lA (.slice ao ad.length au) <| lN <| wS <| wR <| lM (.slice ao ad.length au) <| lV (.int .i64 (ad.length : Int)) (r_len Tryz.underlying33 rfl) ?_
   refine l_makeMapN (col := a4) (fk := (Value.int .i64)) (fv := (Value.int .i64)) 1 rfl Tryz.underlying183 rfl ?_
   intro bh bs bn bd bo
   refine lA (.map (some bh)) <| lN <| wS <| wR <| lM (.slice ao ad.length au) <| lV (.int .i64 (ad.length : Int)) (r_len Tryz.underlying33 rfl) <| lM (.int .i64 0) <| lN <| wB ?_
   replace h0 := h0.gr bd
   replace aj := aj.gr bd
   replace hst := hst.grow bd
   refine wloop (fun n f az => ∃ (ap : Col) (ah : Nat) (av : Nat) (am : List (Int × Int)) (a1 : List Int), n = a1.length ∧ ad.drop ah = a1 ∧ m_dag_fits_L3 (m_dag_fits_L2 bc) a1 am = some r ∧ St w0 (col0 col) ap az ∧ Sl (Rep.slice (Rep.int .i64)) ap az a0 cap0 aa ∧ Sl (Rep.int .i64) ap az ao au ad ∧ MapO (Value.int .i64) (Value.int .i64) 1 ap az av am ∧ f 45 = (.int .i64 (ah : Int)) ∧ f 34 = (.slice a0 aa.length cap0) ∧ f 35 = (.int .i64 (aa.length : Int)) ∧ f 36 = (.int .i64 (af : Int)) ∧ f 43 = (.slice ao ad.length au) ∧ f 44 = (.int .i64 (ad.length : Int)) ∧ f 9 = (.map (some av)) ∧ f 1000000 = (enc [])) ad.length ⟨bn, 0, bh, ([] : List (Int × Int)), ad, rfl, rfl, hm, hst, h0, aj, bo, rfl, rfl, rfl, rfl, rfl, rfl, rfl, rfl⟩ ?_
   clear hm; intro n f az hI
   obtain ⟨ap, ah, av, am, a1, hn, hl, hm, hst, h0, aj, be, hs45, hs34, hs35, hs36, hs43, hs44, hs9, hs1000000⟩ := hI
   subst hn
   refine .lD 45 hs45 <| .lD 34 hs34 <| .lD 35 hs35 <| .lD 36 hs36 <| .lD 43 hs43 <| .lD 44 hs44 <| .lD 9 hs9 <| .lD 1000000 hs1000000 ?_
   clear hs45 hs34 hs35 hs36 hs43 hs44 hs9 hs1000000
   cases a1 with
   | nil =>
    have hk : ¬ ((ah : Int) < (ad.length : Int)) := by have := List.drop_eq_nil_iff.1 hl; omega
    have hkb := decide_eq_false hk
    rw [m_dag_fits_L3.eq_1] at hm
    refine wS <| wR <| lV (.bool (decide ((ah : Int) < (ad.length : Int)))) (r_lss (ah : Int) (ad.length : Int) rfl rfl) <| lN <| wS ?_
    refine wcondF (congrArg Value.bool hkb) ?_
    refine wexit (inB_hit ?_)
    refine wR <| lV (.int .i64 (IntKind.i64.wrap ((af : Int) + 1))) (r_add (af : Int) 1 rfl rfl) <| lM (.int .i64 (IntKind.i64.wrap ((af : Int) + 1))) <| lN ?_
    exact ⟨bc.length, by simp, ⟨ap, (af + 1), bc, rfl, hl2_L2, hm, hst, h0, (congrArg (Value.int .i64) (wrap_succ (Nat.lt_of_lt_of_le hlt_L2 h0.1.1))), rfl, rfl, rfl⟩⟩
   | cons ak bi =>
    obtain ⟨hat, hl2_L3, hlt_L3⟩ := drop_get hl
    have hk : (ah : Int) < (ad.length : Int) := by omega
    have hkb := decide_eq_true hk
    rw [m_dag_fits_L3.eq_2] at hm
    refine wS <| wR <| lV (.bool (decide ((ah : Int) < (ad.length : Int)))) (r_lss (ah : Int) (ad.length : Int) rfl rfl) <| lN <| wS ?_
    refine wcondT (congrArg Value.bool hkb) ?_
    refine wK <| wS <| wB <| wS <| wR ?_
    refine lV (sptr ao (Int.toNat (ah : Int) * 1)) (r_idx Tryz.underlying33 Tryz.sizeOf3 rfl rfl (at?_some hat).1 (at?_some hat).2.1 (aj.addr hat)) ?_
    refine lV (.int .i64 ak) (r_ld Tryz.isAgg3 rfl (aj.atInt hat)) <| lA (.int .i64 ak) <| lN <| wS <| wS <| wR <| lM (.map (some av)) <| lM (.int .i64 ak) <| lV (.int .i64 ((mget am ak).getD 0)) (r_lookup KeyD.int be Tryz.underlying183 Tryz.underlying3 Tryz.zeroValue3 rfl rfl) <| lV (.bool (decide (0 < ((mget am ak).getD 0)))) (r_gtr ((mget am ak).getD 0) 0 rfl rfl) <| lN ?_
    refine wcond (decide (0 < ((mget am ak).getD 0))) rfl (fun hb => ?_) (fun hb => ?_)
    ·rw [if_pos hb] at hm
     clear hb
     cases hm
    rw [if_neg (by rw [hb]; decide)] at hm
    clear hb
    refine wK <| wR <| lM (.map (some av)) <| lM (.int .i64 ak) ?_
    obtain ⟨bj, a5, hm⟩ := bS hm
    have a5 : bj = mput am ak 1 := (Option.some.inj a5).symm
    refine l_mapUpdate (k := ak) (v := 1) KeyD.int be Tryz.underlying183 Tryz.underlying3 rfl rfl rfl ?_
    intro bt bf bp bk
    rw [← a5] at bk
    clear a5
    clear be
    refine lN <| wR <| lV (.int .i64 (IntKind.i64.wrap ((ah : Int) + 1))) (r_add (ah : Int) 1 rfl rfl) <| lM (.int .i64 (IntKind.i64.wrap ((ah : Int) + 1))) <| lN ?_
    replace h0 := h0.kp bf
    replace aj := aj.kp bf
    replace hst := hst.kp bf bp
    exact ⟨bi.length, by simp, ⟨ap, (ah + 1), av, bj, bi, rfl, hl2_L3, hm, hst, h0, aj, bk, (congrArg (Value.int .i64) (wrap_succ (Nat.lt_of_lt_of_le hlt_L3 aj.1.1))), rfl, rfl, rfl, rfl, rfl, rfl, rfl⟩⟩
 | cons ac a6 =>
  obtain ⟨hat, hl2_L1, hlt_L1⟩ := drop_get hl
  have hk : (ae : Int) < (aa.length : Int) := by omega
  have hkb := decide_eq_true hk
  rw [m_dag_fits_L1.eq_2] at hm
  refine wS <| wR <| lV (.bool (decide ((ae : Int) < (aa.length : Int)))) (r_lss (ae : Int) (aa.length : Int) rfl rfl) <| lN <| wS ?_
  refine wcondT (congrArg Value.bool hkb) ?_
  refine wK <| wS <| wB <| wS <| wR ?_
  refine lV (sptr a0 (Int.toNat (ae : Int) * 1)) (r_idx Tryz.underlying25 Tryz.sizeOf33 rfl rfl (at?_some hat).1 (at?_some hat).2.1 (h0.addr hat)) ?_
  obtain ⟨_, bq, br⟩ := h0.atN hat
  obtain ⟨⟨an, aq, rfl, al⟩, _⟩ := bq
  refine lV (.slice an ac.length aq) (r_ld Tryz.isAgg33 rfl br.one) <| lA (.slice an ac.length aq) <| lN <| wS <| wR <| lM (.slice an ac.length aq) <| lV (.int .i64 (ac.length : Int)) (r_len Tryz.underlying33 rfl) <| lM (.int .i64 0) <| lN <| wB ?_
  refine wloop (fun n f a7 => ∃ (ar : Col) (ag : Nat) (a2 : List Int), n = a2.length ∧ ac.drop ag = a2 ∧ m_dag_fits_L4 aa (m_dag_fits_L1 aa a6) a2  = some r ∧ St w0 (col0 col) ar a7 ∧ Sl (Rep.slice (Rep.int .i64)) ar a7 a0 cap0 aa ∧ Sl (Rep.int .i64) ar a7 an aq ac ∧ f 20 = (.int .i64 (ag : Int)) ∧ f 0 = (.slice a0 aa.length cap0) ∧ f 12 = (.slice a0 aa.length cap0) ∧ f 13 = (.int .i64 (aa.length : Int)) ∧ f 14 = (.int .i64 (ae : Int)) ∧ f 18 = (.slice an ac.length aq) ∧ f 19 = (.int .i64 (ac.length : Int)) ∧ f 1000000 = (enc [])) ac.length ⟨aw, 0, ac, rfl, rfl, hm, hst, h0, al, rfl, rfl, rfl, rfl, rfl, rfl, rfl, rfl⟩ ?_
  clear hm; intro n f a7 hI
  obtain ⟨ar, ag, a2, hn, hl, hm, hst, h0, al, hs20, hs0, hs12, hs13, hs14, hs18, hs19, hs1000000⟩ := hI
  subst hn
  refine .lD 20 hs20 <| .lD 0 hs0 <| .lD 12 hs12 <| .lD 13 hs13 <| .lD 14 hs14 <| .lD 18 hs18 <| .lD 19 hs19 <| .lD 1000000 hs1000000 ?_
  clear hs20 hs0 hs12 hs13 hs14 hs18 hs19 hs1000000
  cases a2 with
  | nil =>
   have hk : ¬ ((ag : Int) < (ac.length : Int)) := by have := List.drop_eq_nil_iff.1 hl; omega
   have hkb := decide_eq_false hk
   rw [m_dag_fits_L4.eq_1] at hm
   refine wS <| wR <| lV (.bool (decide ((ag : Int) < (ac.length : Int)))) (r_lss (ag : Int) (ac.length : Int) rfl rfl) <| lN <| wS ?_
   refine wcondF (congrArg Value.bool hkb) ?_
   refine wexit (inB_hit ?_)
   refine wR <| lV (.int .i64 (IntKind.i64.wrap ((ae : Int) + 1))) (r_add (ae : Int) 1 rfl rfl) <| lM (.int .i64 (IntKind.i64.wrap ((ae : Int) + 1))) <| lN ?_
   exact ⟨a6.length, by simp, ⟨ar, (ae + 1), a6, rfl, hl2_L1, hm, hst, h0, (congrArg (Value.int .i64) (wrap_succ (Nat.lt_of_lt_of_le hlt_L1 h0.1.1))), rfl, rfl, rfl, rfl⟩⟩
  | cons ab bg =>
   obtain ⟨hat, hl2_L4, hlt_L4⟩ := drop_get hl
   have hk : (ag : Int) < (ac.length : Int) := by omega
   have hkb := decide_eq_true hk
   rw [m_dag_fits_L4.eq_2] at hm
   refine wS <| wR <| lV (.bool (decide ((ag : Int) < (ac.length : Int)))) (r_lss (ag : Int) (ac.length : Int) rfl rfl) <| lN <| wS ?_
   refine wcondT (congrArg Value.bool hkb) ?_
   refine wK <| wS <| wB <| wS <| wR ?_
   refine lV (sptr an (Int.toNat (ag : Int) * 1)) (r_idx Tryz.underlying33 Tryz.sizeOf3 rfl rfl (at?_some hat).1 (at?_some hat).2.1 (al.addr hat)) ?_
   refine lV (.int .i64 ab) (r_ld Tryz.isAgg3 rfl (al.atInt hat)) <| lA (.int .i64 ab) <| lN <| wS ?_
   refine Wp.cut (fun f a8 => ∃ (a3 : Col) (a9 : Bool), m_dag_fits_J1 (m_dag_fits_L4 aa (m_dag_fits_L1 aa a6) bg) a9 = some r ∧ St w0 (col0 col) a3 a8 ∧ Sl (Rep.slice (Rep.int .i64)) a3 a8 a0 cap0 aa ∧ Sl (Rep.int .i64) a3 a8 an aq ac ∧ f 0 = (.slice a0 aa.length cap0) ∧ f 12 = (.slice a0 aa.length cap0) ∧ f 13 = (.int .i64 (aa.length : Int)) ∧ f 14 = (.int .i64 (ae : Int)) ∧ f 18 = (.slice an ac.length aq) ∧ f 19 = (.int .i64 (ac.length : Int)) ∧ f 20 = (.int .i64 (ag : Int)) ∧ f 31 = (.bool a9) ∧ f 1000000 = (enc [])) ?_ ?_
   ·intro f a8 hJ
    obtain ⟨a3, a9, hm, hst, h0, al, hs0, hs12, hs13, hs14, hs18, hs19, hs20, hs31, hs1000000⟩ := hJ
    rw [m_dag_fits_J1.eq_1] at hm
    refine .lD 0 hs0 <| .lD 12 hs12 <| .lD 13 hs13 <| .lD 14 hs14 <| .lD 18 hs18 <| .lD 19 hs19 <| .lD 20 hs20 <| .lD 31 hs31 <| .lD 1000000 hs1000000 ?_
    clear hs0 hs12 hs13 hs14 hs18 hs19 hs20 hs31 hs1000000
    refine wcond (a9) rfl (fun hb => ?_) (fun hb => ?_)
    ·rw [if_pos hb] at hm
     clear hb
     cases hm
    rw [if_neg (by rw [hb]; decide)] at hm
    clear hb
    refine wK <| wR <| lV (.int .i64 (IntKind.i64.wrap ((ag : Int) + 1))) (r_add (ag : Int) 1 rfl rfl) <| lM (.int .i64 (IntKind.i64.wrap ((ag : Int) + 1))) <| lN ?_
    exact ⟨bg.length, by simp, ⟨a3, (ag + 1), bg, rfl, hl2_L4, hm, hst, h0, al, (congrArg (Value.int .i64) (wrap_succ (Nat.lt_of_lt_of_le hlt_L4 al.1.1))), rfl, rfl, rfl, rfl, rfl, rfl, rfl⟩⟩
   refine wR <| lM (.int .i64 ab) <| lV (.bool (decide (ab < 0))) (r_lss ab 0 rfl rfl) <| lM (.bool (decide (ab < 0))) ?_
   by_cases ai : (decide (ab < 0)) = true
   ·rw [if_pos ai] at hm
    refine lp (b := decide (ab < 0)) 26 rfl rfl rfl rfl (by rw [ai]; rfl) ?_
    refine lp (b := decide (ab < 0)) 26 rfl rfl rfl rfl (by rw [ai]; rfl) ?_
    refine lp (b := decide (ab < 0)) 26 rfl rfl rfl rfl (by rw [ai]; rfl) ?_
    refine lp (b := decide (ab < 0)) 26 rfl rfl rfl rfl (by rw [ai]; rfl) ?_
    refine lV (.bool true) (r_pickT (congrArg Value.bool ai) rfl) <| lN ?_
    exact ⟨ar, true, hm, hst, h0, al, rfl, rfl, rfl, rfl, rfl, rfl, rfl, rfl, rfl⟩
   rw [if_neg ai] at hm
   replace ai := Bool.eq_false_iff.2 ai
   refine lg (b := decide (ab < 0)) 26 rfl rfl rfl (by rw [ai]; rfl) ?_
   refine lM (.int .i64 ab) ?_
   refine lg (b := decide (ab < 0)) 26 rfl rfl rfl (by rw [ai]; rfl) ?_
   refine lM (.slice a0 aa.length cap0) ?_
   refine lg (b := decide (ab < 0)) 26 rfl rfl rfl (by rw [ai]; rfl) ?_
   refine lV (.int .i64 (aa.length : Int)) (r_len Tryz.underlying25 rfl) ?_
   refine lg (b := decide (ab < 0)) 26 rfl rfl rfl (by rw [ai]; rfl) ?_
   refine lV (.bool (decide ((aa.length : Int) ≤ ab))) (r_geq ab (aa.length : Int) rfl rfl) <| lV (.bool (decide ((aa.length : Int) ≤ ab))) (r_pickF (congrArg Value.bool ai) rfl) <| lN ?_
   exact ⟨ar, (decide ((aa.length : Int) ≤ ab)), hm, hst, h0, al, rfl, rfl, rfl, rfl, rfl, rfl, rfl, rfl, rfl⟩
theorem el3_123 : ElemOk Tryz.prog 3 1 8 := ⟨Tryz.t3, _, rfl, rfl, rfl, rfl, rfl⟩
def m_dag_children_L2 (aa : Nat) (kk_L1 : (Nat → (List (List Int)) → Option (List (List Int)))) : List Int → (List (List Int)) → Option (List (List Int))
  | [], ab => kk_L1 (aa + 1) ab
  | ad :: ae, ab => (at? ab ad).bind fun ac => chk ((ac.length + [(aa : Int)].length) * 8 ≤ 140737488355328 ∧ ac.length + [(aa : Int)].length ≤ maxLen) ((m_dag_children_L2 aa kk_L1 ae) (ab.set (Int.toNat ad) (ac ++ [(aa : Int)])))
termination_by structural x => x
def m_dag_children_L1  : List (List Int) → Nat → (List (List Int)) → Option (List (List Int))
  | [], ab, aa => some aa
  | ac :: ad, ab, aa => m_dag_children_L2 ab (m_dag_children_L1 ad) ac aa
termination_by structural x => x
def m_dag_children (aa : (List (List Int))) : Option (List (List Int)) :=
  chk (aa.length * 24 ≤ 281474976710656 ∧ aa.length ≤ maxLen) (m_dag_children_L1 aa 0 (List.replicate aa.length (([] : List Int) : (List Int))))
theorem c_dag_children (c1 : Nat) (col : Col) (w0 : World) (a0 : Option Addr) (cap0 : Nat) (ab : (List (List Int))) (h0 : Sl (Rep.slice (Rep.int .i64)) col w0 a0 cap0 ab) (r : (List (List Int))) (hm : m_dag_children ab = some r) :
    Calls Tryz.prog 123 #[(.slice a0 ab.length cap0)] w0 (fun e w' => ∃ (col' : Col) (ra1 : Option Addr) (rc2 : Nat), e = .returned ((.slice ra1 r.length rc2)) ∧ Grow col w0 col' w' ∧ Own (Rep.row 3 (Rep.int .i64)) 33 c1 col' w' ra1 rc2 r) := by
 refine calls_of1 2 (m := 37) (args := [(.slice a0 ab.length cap0)]) Tryz.func123 rfl rfl rfl rfl rfl ?_
 rw [m_dag_children.eq_1] at hm
 have hst := St.start col w0
 refine wS <| wR <| lA (.slice none (([] : List (List Int)).length) 0) <| lN <| wS <| wR <| lM (.slice a0 ab.length cap0) <| lV (.int .i64 (ab.length : Int)) (r_len Tryz.underlying25 rfl) ?_
 obtain ⟨a9, hm⟩ := cS hm
 refine l_make (col := (col0 col)) (w := w0) (r := (Rep.row 3 (Rep.int .i64))) (n := ab.length) (x0 := ([] : List Int)) 1 rfl Tryz.underlying25 Tryz.t33 rfl rfl rfl rfl rfl rfl rfl a9.1 a9.2 rd_nilrow ?_
 intro ba bx bl bb bm
 refine lA (.slice ba ((List.replicate ab.length (([] : List Int) : (List Int))).length) ab.length) <| lN <| wS <| wS <| wR <| lM (.slice a0 ab.length cap0) <| lV (.int .i64 (ab.length : Int)) (r_len Tryz.underlying25 rfl) <| lM (.int .i64 0) <| lN <| wB ?_
 replace h0 := (h0.keep (Stay.start col w0)).gr bb
 replace hst := hst.grow bb
 refine wloop (fun n f az => ∃ (ao : Col) (aa : Nat) (ak : Option Addr) (al : Nat) (am : List (List Int)) (av : List (List Int)), n = av.length ∧ ab.drop aa = av ∧ m_dag_children_L1 av aa am = some r ∧ St w0 (col0 col) ao az ∧ Sl (Rep.slice (Rep.int .i64)) ao az a0 cap0 ab ∧ Own (Rep.row 3 (Rep.int .i64)) 33 1 ao az ak al am ∧ f 13 = (.int .i64 (aa : Int)) ∧ f 11 = (.slice a0 ab.length cap0) ∧ f 12 = (.int .i64 (ab.length : Int)) ∧ f 3 = (.slice ak am.length al) ∧ f 1000000 = (enc [])) ab.length ⟨bl, 0, ba, ab.length, (List.replicate ab.length (([] : List Int) : (List Int))), ab, rfl, rfl, hm, hst, h0, bm, rfl, rfl, rfl, rfl, rfl⟩ ?_
 clear hm; intro n f az hI
 obtain ⟨ao, aa, ak, al, am, av, hn, hl, hm, hst, h0, bc, hs13, hs11, hs12, hs3, hs1000000⟩ := hI
 subst hn
 refine .lD 13 hs13 <| .lD 11 hs11 <| .lD 12 hs12 <| .lD 3 hs3 <| .lD 1000000 hs1000000 ?_
 clear hs13 hs11 hs12 hs3 hs1000000
 cases av with
 | nil =>
  have hk : ¬ ((aa : Int) < (ab.length : Int)) := by have := List.drop_eq_nil_iff.1 hl; omega
  have hkb := decide_eq_false hk
  rw [m_dag_children_L1.eq_1] at hm
  refine wS <| wR <| lV (.bool (decide ((aa : Int) < (ab.length : Int)))) (r_lss (aa : Int) (ab.length : Int) rfl rfl) <| lN <| wS ?_
  refine wcondF (congrArg Value.bool hkb) ?_
  refine wexit (inB_hit ?_)
  refine wS <| wR <| lM (.slice ak am.length al) <| lA (.slice ak am.length al) <| lN ?_
  refine wret ?_
  cases hm
  exact ⟨rfl, colF w0.heap.size col ao (fun n => bif Nat.beq n 1 then c1 else 0), ak, al, rfl, hst.fin (fun n => bif Nat.beq n 1 then c1 else 0), hst.finOwn (g := (fun n => bif Nat.beq n 1 then c1 else 0)) rfl bc (by decide) (by decide) rfl⟩
 | cons ac a7 =>
  obtain ⟨hat, hl2_L1, hlt_L1⟩ := drop_get hl
  have hk : (aa : Int) < (ab.length : Int) := by omega
  have hkb := decide_eq_true hk
  rw [m_dag_children_L1.eq_2] at hm
  refine wS <| wR <| lV (.bool (decide ((aa : Int) < (ab.length : Int)))) (r_lss (aa : Int) (ab.length : Int) rfl rfl) <| lN <| wS ?_
  refine wcondT (congrArg Value.bool hkb) ?_
  refine wK <| wS <| wB <| wS <| wR <| lM (.int .i64 (aa : Int)) ?_
  refine lV (sptr a0 (Int.toNat (aa : Int) * 1)) (r_idx Tryz.underlying25 Tryz.sizeOf33 rfl rfl (at?_some hat).1 (at?_some hat).2.1 (h0.addr hat)) ?_
  obtain ⟨_, bn, bo⟩ := h0.atN hat
  obtain ⟨⟨ap, aw, rfl, ai⟩, _⟩ := bn
  refine lV (.slice ap ac.length aw) (r_ld Tryz.isAgg33 rfl bo.one) <| lA (.int .i64 (aa : Int)) <| lA (.slice ap ac.length aw) <| lN <| wS <| wR <| lM (.slice ap ac.length aw) <| lV (.int .i64 (ac.length : Int)) (r_len Tryz.underlying33 rfl) <| lM (.int .i64 0) <| lN <| wB ?_
  refine wloop (fun n f aq => ∃ (ar : Col) (ad : Nat) (ae : Option Addr) (ag : Nat) (af : List (List Int)) (ax : List Int), n = ax.length ∧ ac.drop ad = ax ∧ m_dag_children_L2 aa (m_dag_children_L1 a7) ax af = some r ∧ St w0 (col0 col) ar aq ∧ Sl (Rep.slice (Rep.int .i64)) ar aq a0 cap0 ab ∧ Sl (Rep.int .i64) ar aq ap aw ac ∧ Own (Rep.row 3 (Rep.int .i64)) 33 1 ar aq ae ag af ∧ f 20 = (.int .i64 (ad : Int)) ∧ f 11 = (.slice a0 ab.length cap0) ∧ f 12 = (.int .i64 (ab.length : Int)) ∧ f 13 = (.int .i64 (aa : Int)) ∧ f 18 = (.slice ap ac.length aw) ∧ f 19 = (.int .i64 (ac.length : Int)) ∧ f 3 = (.slice ae af.length ag) ∧ f 4 = (.int .i64 (aa : Int)) ∧ f 1000000 = (enc [])) ac.length ⟨ao, 0, ak, al, am, ac, rfl, rfl, hm, hst, h0, ai, bc, rfl, rfl, rfl, rfl, rfl, rfl, rfl, rfl, rfl⟩ ?_
  clear hm; intro n f aq hI
  obtain ⟨ar, ad, ae, ag, af, ax, hn, hl, hm, hst, h0, ai, a1, hs20, hs11, hs12, hs13, hs18, hs19, hs3, hs4, hs1000000⟩ := hI
  subst hn
  refine .lD 20 hs20 <| .lD 11 hs11 <| .lD 12 hs12 <| .lD 13 hs13 <| .lD 18 hs18 <| .lD 19 hs19 <| .lD 3 hs3 <| .lD 4 hs4 <| .lD 1000000 hs1000000 ?_
  clear hs20 hs11 hs12 hs13 hs18 hs19 hs3 hs4 hs1000000
  cases ax with
  | nil =>
   have hk : ¬ ((ad : Int) < (ac.length : Int)) := by have := List.drop_eq_nil_iff.1 hl; omega
   have hkb := decide_eq_false hk
   rw [m_dag_children_L2.eq_1] at hm
   refine wS <| wR <| lV (.bool (decide ((ad : Int) < (ac.length : Int)))) (r_lss (ad : Int) (ac.length : Int) rfl rfl) <| lN <| wS ?_
   refine wcondF (congrArg Value.bool hkb) ?_
   refine wexit (inB_hit ?_)
   refine wR <| lV (.int .i64 (IntKind.i64.wrap ((aa : Int) + 1))) (r_add (aa : Int) 1 rfl rfl) <| lM (.int .i64 (IntKind.i64.wrap ((aa : Int) + 1))) <| lN ?_
   exact ⟨a7.length, by simp, ⟨ar, (aa + 1), ae, ag, af, a7, rfl, hl2_L1, hm, hst, h0, a1, (congrArg (Value.int .i64) (wrap_succ (Nat.lt_of_lt_of_le hlt_L1 h0.1.1))), rfl, rfl, rfl, rfl⟩⟩
  | cons ah bd =>
   obtain ⟨hat, hl2_L2, hlt_L2⟩ := drop_get hl
   have hk : (ad : Int) < (ac.length : Int) := by omega
   have hkb := decide_eq_true hk
   rw [m_dag_children_L2.eq_2] at hm
   refine wS <| wR <| lV (.bool (decide ((ad : Int) < (ac.length : Int)))) (r_lss (ad : Int) (ac.length : Int) rfl rfl) <| lN <| wS ?_
   refine wcondT (congrArg Value.bool hkb) ?_
   refine wK <| wS <| wB <| wS <| wR ?_
   refine lV (sptr ap (Int.toNat (ad : Int) * 1)) (r_idx Tryz.underlying33 Tryz.sizeOf3 rfl rfl (at?_some hat).1 (at?_some hat).2.1 (ai.addr hat)) ?_
   refine lV (.int .i64 ah) (r_ld Tryz.isAgg3 rfl (ai.atInt hat)) <| lA (.int .i64 ah) <| lN <| wR <| lM (.slice ae af.length ag) <| lM (.int .i64 ah) <| lM (.slice ae af.length ag) <| lM (.int .i64 ah) ?_
   obtain ⟨an, au, hm⟩ := bS hm
   refine lV (sptr ae (Int.toNat ah * 1)) (r_idx Tryz.underlying25 Tryz.sizeOf33 rfl rfl (at?_some au).1 (at?_some au).2.1 (a1.addr au)) ?_
   obtain ⟨_, be, a8, aj, bp⟩ := a1.open_ 2 (by decide) au
   obtain ⟨bf, bg, rfl, a2⟩ := bp.row
   clear a1
   replace aj : Hole (Rep.row 3 (Rep.int .i64)) 33 1 be aq ae ag af (Int.toNat ah) [(.slice bf an.length bg)] := aj
   refine lV (.slice bf an.length bg) (r_ld Tryz.isAgg33 rfl aj.atN.one) <| lM (.int .i64 (aa : Int)) ?_
   refine l_lit (col := be) (r := (Rep.int .i64)) (xs := [(aa : Int)]) [(.int .i64 (aa : Int))] 3 rfl Tryz.underlying33 el3_123 rfl rfl rfl rfl rfl rfl (by intro v hv; simp only [List.mem_cons, List.not_mem_nil, or_false] at hv; subst hv; rfl) (RowsH.ofF (Rows.consF (r := (Rep.int .i64)) (x := (aa : Int)) (cs := [(.int .i64 (aa : Int))]) (rd_int .i64 (aa : Int)) Rows.nil0)) ?_
   intro bz bq br ay bs
   obtain ⟨bh, hm⟩ := cS hm
   replace a2 := a2.gr ay
   refine l_ext (col := br) (w := bq) (r := (Rep.int .i64)) (c := 2) (c2 := 2) (a2.ex) (bs.srcN (NB.int (k := .i64))) rfl Tryz.underlying33 el3_123 rfl rfl rfl bh.1 bh.2 (by decide) ?_
   intro bi bj b0 bk a3 a4
   clear a2
   replace aj := (aj.gr ay).kpp a3
   refine lV (sptr ae (Int.toNat ah * 1)) (r_idx Tryz.underlying25 Tryz.sizeOf33 rfl rfl (at?_some au).1 (at?_some au).2.1 (aj.addr)) ?_
   refine l_storeH (v := (.slice bi ((an ++ [(aa : Int)]).length) bj)) aj rfl Tryz.sizeOf33 rfl (by intro u hu; simp only [Value.cells, List.mem_cons, List.not_mem_nil, or_false] at hu; subst hu; rfl) rfl rfl (by decide) ?_
   intro bt a5 bu a6
   replace a6 : Hole (Rep.row 3 (Rep.int .i64)) 33 1 bk bt ae ag af (Int.toNat ah) [(.slice bi ((an ++ [(aa : Int)]).length) bj)] := a6
   clear aj
   replace a4 := a4.kp a5
   have bv := a4.new
   clear a4
   have bw := a6.close bv.has (by decide) (by decide)
   replace h0 := (((h0.kpp a8).gr ay).kpp a3).kp a5
   replace h0 := h0.recol 2 1 (by decide)
   replace ai := (((ai.kpp a8).gr ay).kpp a3).kp a5
   replace ai := ai.recol 2 1 (by decide)
   replace hst := (((hst.kpp a8).grow ay).kpp a3).kp a5 bu
   replace hst := hst.recol 2 1 (by decide) (by decide)
   clear a6
   refine .ld (d := 3) (v := (.slice ae ((af.set (Int.toNat ah) (an ++ [(aa : Int)])).length) ag)) (congrArg (fun n => Value.slice ae n ag) (show af.length = (af.set (Int.toNat ah) (an ++ [(aa : Int)])).length by simp only [List.length_set])) ?_
   refine lN <| wR <| lV (.int .i64 (IntKind.i64.wrap ((ad : Int) + 1))) (r_add (ad : Int) 1 rfl rfl) <| lM (.int .i64 (IntKind.i64.wrap ((ad : Int) + 1))) <| lN ?_
   exact ⟨bd.length, by simp, ⟨(rcC 2 1 bk), (ad + 1), ae, ag, (af.set (Int.toNat ah) (an ++ [(aa : Int)])), bd, rfl, hl2_L2, hm, hst, h0, ai, bw, (congrArg (Value.int .i64) (wrap_succ (Nat.lt_of_lt_of_le hlt_L2 ai.1.1))), rfl, rfl, rfl, rfl, rfl, rfl, rfl, rfl⟩⟩
def m_dag_heap_pop_J1 (aa : Int) (kk_L2 : (Int → Int → Option (Int × (List Int)))) (ab : Int) : Option (Int × (List Int)) :=
  kk_L2 (IntKind.i64.wrap (aa + 1)) ab
def m_dag_heap_pop_J2 (aa : Int) (ab : Int) (kk_L2 : (Int → Int → Option (Int × (List Int)))) (ac : Bool) : Option (Int × (List Int)) :=
  if ac = true then none else (m_dag_heap_pop_J1 aa kk_L2 ab)
def m_dag_heap_pop_L2 (N : Nat) (ac : (List Int)) (af : Int) (aa : List Int) (ab : Int) : Nat → Int → Int → Option (Int × (List Int))
  | 0, _, _ => none
  | ag + 1, ad, ae => if (decide (ad < 2)) = true then ((at? [IntKind.i64.wrap ((IntKind.i64.wrap (2 * ab)) + 1), IntKind.i64.wrap ((IntKind.i64.wrap (2 * ab)) + 2)] ad).bind fun ah => if (decide (ah < (IntKind.i64.wrap ((ac.length : Int) - 1)))) = true then ((at? aa ah).bind fun ai => (at? aa ae).bind fun aj => m_dag_heap_pop_J2 ad ae (m_dag_heap_pop_L2 N ac af aa ab ag) (decide (ai < aj))) else (m_dag_heap_pop_J2 ad ae (m_dag_heap_pop_L2 N ac af aa ab ag) false)) else (if (decide (ae = ab)) = true then (some (af, aa.take (Int.toNat (IntKind.i64.wrap ((ac.length : Int) - 1))))) else none)
termination_by structural x => x
def m_dag_heap_pop_L1 (N : Nat) (ab : (List Int)) (ac : Int) : Nat → (List Int) → Int → Option (Int × (List Int))
  | 0, _, _ => none
  | ae + 1, ad, aa => m_dag_heap_pop_L2 N ab ac ad aa N 0 aa
def m_dag_heap_pop (N : Nat) (aa : (List Int)) : Option (Int × (List Int)) :=
  (at? aa 0).bind fun ac => (at? aa (IntKind.i64.wrap ((aa.length : Int) - 1))).bind fun ad => (some (aa.set (Int.toNat 0) ad)).bind fun ab => chk ((0 : Int) ≤ (IntKind.i64.wrap ((aa.length : Int) - 1)) ∧ (IntKind.i64.wrap ((aa.length : Int) - 1)) ≤ (ab.length : Int)) (m_dag_heap_pop_L1 N aa ac N ab 0)
theorem c_dag_heap_pop (N : Nat) (col : Col) (w0 : World) (qc0 : Nat) (ai : Nat) (hd : dstB [qc0, ai] = true) (g0 : Nat) (aa : (List Int)) (ae : Option Addr) (ag : Nat) (ar : Own (Rep.int .i64) 3 ai col w0 ae ag aa) (hb0 : Box 184 qc0 col w0 g0 #[(.slice ae aa.length ag)]) (r : (Int × (List Int))) (hm : m_dag_heap_pop N aa = some r) :
    Calls Tryz.prog 152 #[(.pointer (some ⟨g0, 0, none⟩))] w0 (fun e w' => ∃ (col' : Col) (oa1 : Option Addr) (oc2 : Nat), e = .returned ((.int .i64 r.1)) ∧ KeepP (pS [qc0, ai]) col w0 col' w' ∧ Own (Rep.int .i64) 3 ai col' w' oa1 oc2 r.2 ∧ Box 184 qc0 col' w' g0 #[(.slice oa1 r.2.length oc2)]) := by
 refine calls_of1 2 (m := 76) (args := [(.pointer (some ⟨g0, 0, none⟩))]) Tryz.func152 rfl rfl rfl rfl rfl ?_
 rw [m_dag_heap_pop.eq_1] at hm
 have hst := St.startL (l := [qc0, ai]) rfl col w0
 replace hb0 := hb0.startL (dst_nz hd 0 rfl) (dst_ix hd 0 rfl)
 replace ar := ar.startL (dst_nz hd 1 rfl) (dst_ix hd 1 rfl)
 refine wS <| wR <| lA (.int .i64 0) <| lN <| wS <| wR <| lM (.pointer (some ⟨g0, 0, none⟩)) <| lV (.pointer (some ⟨g0, 0, none⟩)) (r_nilCheck rfl) <| lV (.slice ae aa.length ag) (r_ld Tryz.isAgg184 rfl hb0.at1) <| lA (.slice ae aa.length ag) <| lN <| wS <| wR <| lM (.slice ae aa.length ag) ?_
 obtain ⟨ao, av, hm⟩ := bS hm
 refine lV (sptr ae (Int.toNat 0 * 1)) (r_idx Tryz.underlying184 Tryz.sizeOf3 rfl rfl (at?_some av).1 (at?_some av).2.1 (ar.addr av)) ?_
 refine lV (.int .i64 ao) (r_ld Tryz.isAgg3 rfl (ar.atInt av)) <| lM (.slice ae aa.length ag) <| lV (.int .i64 (aa.length : Int)) (r_len Tryz.underlying184 rfl) <| lV (.int .i64 (IntKind.i64.wrap ((aa.length : Int) - 1))) (r_sub (aa.length : Int) 1 rfl rfl) <| lA (.int .i64 ao) <| lA (.int .i64 (IntKind.i64.wrap ((aa.length : Int) - 1))) <| lN <| wS <| wR <| lM (.slice ae aa.length ag) <| lM (.slice ae aa.length ag) <| lM (.int .i64 (IntKind.i64.wrap ((aa.length : Int) - 1))) ?_
 obtain ⟨ax, a6, hm⟩ := bS hm
 refine lV (sptr ae (Int.toNat (IntKind.i64.wrap ((aa.length : Int) - 1)) * 1)) (r_idx Tryz.underlying184 Tryz.sizeOf3 rfl rfl (at?_some a6).1 (at?_some a6).2.1 (ar.addr a6)) ?_
 refine lV (.int .i64 ax) (r_ld Tryz.isAgg3 rfl (ar.atInt a6)) ?_
 refine lV (sptr ae (Int.toNat 0 * 1)) (r_idx Tryz.underlying184 Tryz.sizeOf3 rfl rfl (at?_some av).1 (at?_some av).2.1 (ar.addr av)) ?_
 obtain ⟨aq, ay, hm⟩ := bS hm
 have ay : aq = aa.set (Int.toNat 0) ax := (Option.some.inj ay).symm
 refine l_store (x1 := ax) (v := (.int .i64 ax)) ar av rfl Tryz.sizeOf3 (rd_int .i64 ax) rfl rfl (by decide) ?_
 intro bh bf bi az
 rw [← ay] at az
 refine .ld (d := 3) (v := (.slice ae aq.length ag)) (congrArg (fun n => Value.slice ae n ag) (show aa.length = aq.length by rw [ay, List.length_set])) ?_
 replace hb0 := hb0.kp bf
 replace hb0 : Box 184 440 (colL [qc0, ai] col) bh g0 #[(.slice ae aq.length ag)] := by rw [← (show aa.length = aq.length by rw [ay, List.length_set])]; exact hb0
 clear ar
 refine lN <| wS <| wR <| lM (.pointer (some ⟨g0, 0, none⟩)) <| lM (.slice ae aq.length ag) <| lM (.int .i64 (IntKind.i64.wrap ((aa.length : Int) - 1))) ?_
 obtain ⟨be, hm⟩ := cS hm
 refine lv (v := .slice ae (Int.toNat (IntKind.i64.wrap ((aa.length : Int) - 1))) ag) rfl rfl (r_sliceH Tryz.underlying184 Tryz.sizeOf3 rfl rfl be.1 (by have := az.lecap; have := be.2; omega)) ?_
 refine .ld (d := 28) (v := (.slice ae ((aq.take (Int.toNat (IntKind.i64.wrap ((aa.length : Int) - 1)))).length) ag)) (congrArg (fun n => Value.slice ae n ag) (List.length_take_of_le (show (Int.toNat (IntKind.i64.wrap ((aa.length : Int) - 1))) ≤ aq.length by have := be.2; omega)).symm) ?_
 refine lV (.pointer (some ⟨g0, 0, none⟩)) (r_nilCheck rfl) ?_
 refine l_bstore (v := (.slice ae ((aq.take (Int.toNat (IntKind.i64.wrap ((aa.length : Int) - 1)))).length) ag)) hb0 Tryz.sizeOf184 rfl rfl (by intro u hu; simp only [Value.cells, List.mem_cons, List.not_mem_nil, or_false] at hu; subst hu; rfl) rfl rfl ?_
 intro bj bg bk aj
 clear hb0
 replace aj : Box 184 440 (colL [qc0, ai] col) bj g0 #[(.slice ae ((aq.take (Int.toNat (IntKind.i64.wrap ((aa.length : Int) - 1)))).length) ag)] := aj
 refine lN <| wS <| wR <| lA (.int .i64 0) <| lN <| wB ?_
 replace hst := (hst.kp bf bi).kp bg bk
 replace az := az.kp bg
 refine wloop (fun n f a7 => ∃ (a0 : Col) (ah : Option Addr) (al : Nat) (af : List Int) (ab : Int) (a1 : Nat), a1 = n ∧ m_dag_heap_pop_L1 N aa ao a1 af ab = some r ∧ St w0 (colL [qc0, ai] col) a0 a7 ∧ Own (Rep.int .i64) 3 441 a0 a7 ah al af ∧ Box 184 440 a0 a7 g0 #[(.slice ah ((af.take (Int.toNat (IntKind.i64.wrap ((aa.length : Int) - 1)))).length) al)] ∧ f 3 = (.slice ah af.length al) ∧ f 4 = (.int .i64 ao) ∧ f 5 = (.int .i64 (IntKind.i64.wrap ((aa.length : Int) - 1))) ∧ f 6 = (.int .i64 ab) ∧ f 1000000 = (enc [])) N ⟨(colL [qc0, ai] col), ae, ag, aq, 0, N, rfl, hm, hst, az, aj, rfl, rfl, rfl, rfl, rfl⟩ ?_
 clear hm; intro n f a7 hI
 obtain ⟨a0, ah, al, af, ab, a1, hn, hm, hst, ak, aj, hs3, hs4, hs5, hs6, hs1000000⟩ := hI
 subst hn
 refine .lD 3 hs3 <| .lD 4 hs4 <| .lD 5 hs5 <| .lD 6 hs6 <| .lD 1000000 hs1000000 ?_
 clear hs3 hs4 hs5 hs6 hs1000000
 cases a1 with
 | zero => rw [m_dag_heap_pop_L1.eq_1] at hm; cases hm
 | succ a1 =>
  rw [m_dag_heap_pop_L1.eq_2] at hm
  refine wB <| wS <| wR <| lM (.int .i64 ab) <| lA (.int .i64 ab) <| lN <| wS <| wS <| wR <| lM (.int .i64 ab) <| lV (.int .i64 (IntKind.i64.wrap (2 * ab))) (r_mul 2 ab rfl rfl) <| lV (.int .i64 (IntKind.i64.wrap ((IntKind.i64.wrap (2 * ab)) + 1))) (r_add (IntKind.i64.wrap (2 * ab)) 1 rfl rfl) <| lM (.int .i64 ab) <| lV (.int .i64 (IntKind.i64.wrap (2 * ab))) (r_mul 2 ab rfl rfl) <| lV (.int .i64 (IntKind.i64.wrap ((IntKind.i64.wrap (2 * ab)) + 2))) (r_add (IntKind.i64.wrap (2 * ab)) 2 rfl rfl) <| lV (.agg #[(.int .i64 (IntKind.i64.wrap ((IntKind.i64.wrap (2 * ab)) + 1))), (.int .i64 (IntKind.i64.wrap ((IntKind.i64.wrap (2 * ab)) + 2)))]) (r_buildA Tryz.underlying207 Tryz.sizeOf3 Tryz.zeroValue207 rfl) <| lM (.int .i64 0) <| lN <| wB ?_
  refine wloop (fun n f aw => ∃ (am : Col) (an : Int) (ap : Int) (au : Nat), au = n ∧ m_dag_heap_pop_L2 N aa ao af ab au an ap = some r ∧ St w0 (colL [qc0, ai] col) am aw ∧ Own (Rep.int .i64) 3 441 am aw ah al af ∧ Box 184 440 am aw g0 #[(.slice ah ((af.take (Int.toNat (IntKind.i64.wrap ((aa.length : Int) - 1)))).length) al)] ∧ f 3 = (.slice ah af.length al) ∧ f 37 = (.agg #[(.int .i64 (IntKind.i64.wrap ((IntKind.i64.wrap (2 * ab)) + 1))), (.int .i64 (IntKind.i64.wrap ((IntKind.i64.wrap (2 * ab)) + 2)))]) ∧ f 38 = (.int .i64 an) ∧ f 4 = (.int .i64 ao) ∧ f 5 = (.int .i64 (IntKind.i64.wrap ((aa.length : Int) - 1))) ∧ f 6 = (.int .i64 ab) ∧ f 7 = (.int .i64 ap) ∧ f 1000000 = (enc [])) N ⟨a0, 0, ab, N, rfl, hm, hst, ak, aj, rfl, rfl, rfl, rfl, rfl, rfl, rfl, rfl⟩ ?_
  clear hm; intro n f aw hI
  obtain ⟨am, an, ap, au, hn, hm, hst, ak, aj, hs3, hs37, hs38, hs4, hs5, hs6, hs7, hs1000000⟩ := hI
  subst hn
  refine .lD 3 hs3 <| .lD 37 hs37 <| .lD 38 hs38 <| .lD 4 hs4 <| .lD 5 hs5 <| .lD 6 hs6 <| .lD 7 hs7 <| .lD 1000000 hs1000000 ?_
  clear hs3 hs37 hs38 hs4 hs5 hs6 hs7 hs1000000
  cases au with
  | zero => rw [m_dag_heap_pop_L2.eq_1] at hm; cases hm
  | succ au =>
   rw [m_dag_heap_pop_L2.eq_2] at hm
   refine wS <| wR <| lV (.bool (decide (an < 2))) (r_lss an 2 rfl rfl) <| lN <| wS ?_
   refine wcond (decide (an < 2)) rfl (fun hb => ?_) (fun hb => ?_)
   ·rw [if_pos hb] at hm
    clear hb
    refine wK <| wS ?_
    refine Wp.cut (fun f a8 => ∃ (a2 : Col) (a9 : Int), m_dag_heap_pop_J1 an (m_dag_heap_pop_L2 N aa ao af ab au) a9 = some r ∧ St w0 (colL [qc0, ai] col) a2 a8 ∧ Own (Rep.int .i64) 3 441 a2 a8 ah al af ∧ Box 184 440 a2 a8 g0 #[(.slice ah ((af.take (Int.toNat (IntKind.i64.wrap ((aa.length : Int) - 1)))).length) al)] ∧ f 3 = (.slice ah af.length al) ∧ f 37 = (.agg #[(.int .i64 (IntKind.i64.wrap ((IntKind.i64.wrap (2 * ab)) + 1))), (.int .i64 (IntKind.i64.wrap ((IntKind.i64.wrap (2 * ab)) + 2)))]) ∧ f 38 = (.int .i64 an) ∧ f 4 = (.int .i64 ao) ∧ f 5 = (.int .i64 (IntKind.i64.wrap ((aa.length : Int) - 1))) ∧ f 6 = (.int .i64 ab) ∧ f 7 = (.int .i64 a9) ∧ f 1000000 = (enc [])) ?_ ?_
    ·intro f a8 hJ
     obtain ⟨a2, a9, hm, hst, ak, aj, hs3, hs37, hs38, hs4, hs5, hs6, hs7, hs1000000⟩ := hJ
     rw [m_dag_heap_pop_J1.eq_1] at hm
     refine .lD 3 hs3 <| .lD 37 hs37 <| .lD 38 hs38 <| .lD 4 hs4 <| .lD 5 hs5 <| .lD 6 hs6 <| .lD 7 hs7 <| .lD 1000000 hs1000000 ?_
     clear hs3 hs37 hs38 hs4 hs5 hs6 hs7 hs1000000
     refine wR <| lV (.int .i64 (IntKind.i64.wrap (an + 1))) (r_add an 1 rfl rfl) <| lM (.int .i64 (IntKind.i64.wrap (an + 1))) <| lN ?_
     exact ⟨au, by omega, ⟨a2, (IntKind.i64.wrap (an + 1)), a9, au, rfl, hm, hst, ak, aj, rfl, rfl, rfl, rfl, rfl, rfl, rfl, rfl⟩⟩
    refine wB <| wS <| wR ?_
    obtain ⟨ac, bl, hm⟩ := bS hm
    refine lV (.int .i64 ac) (r_indexI (l := [IntKind.i64.wrap ((IntKind.i64.wrap (2 * ab)) + 1), IntKind.i64.wrap ((IntKind.i64.wrap (2 * ab)) + 2)]) (k := .i64) Tryz.underlying207 Tryz.sizeOf3 Tryz.isAgg3 rfl rfl rfl bl) <| lA (.int .i64 ac) <| lN <| wS ?_
    refine Wp.cut (fun f ba => ∃ (a3 : Col) (bb : Bool), m_dag_heap_pop_J2 an ap (m_dag_heap_pop_L2 N aa ao af ab au) bb = some r ∧ St w0 (colL [qc0, ai] col) a3 ba ∧ Own (Rep.int .i64) 3 441 a3 ba ah al af ∧ Box 184 440 a3 ba g0 #[(.slice ah ((af.take (Int.toNat (IntKind.i64.wrap ((aa.length : Int) - 1)))).length) al)] ∧ f 3 = (.slice ah af.length al) ∧ f 37 = (.agg #[(.int .i64 (IntKind.i64.wrap ((IntKind.i64.wrap (2 * ab)) + 1))), (.int .i64 (IntKind.i64.wrap ((IntKind.i64.wrap (2 * ab)) + 2)))]) ∧ f 38 = (.int .i64 an) ∧ f 4 = (.int .i64 ao) ∧ f 5 = (.int .i64 (IntKind.i64.wrap ((aa.length : Int) - 1))) ∧ f 54 = (.bool bb) ∧ f 6 = (.int .i64 ab) ∧ f 7 = (.int .i64 ap) ∧ f 9 = (.int .i64 ac) ∧ f 1000000 = (enc [])) ?_ ?_
    ·intro f ba hJ
     obtain ⟨a3, bb, hm, hst, ak, aj, hs3, hs37, hs38, hs4, hs5, hs54, hs6, hs7, hs9, hs1000000⟩ := hJ
     rw [m_dag_heap_pop_J2.eq_1] at hm
     refine .lD 3 hs3 <| .lD 37 hs37 <| .lD 38 hs38 <| .lD 4 hs4 <| .lD 5 hs5 <| .lD 54 hs54 <| .lD 6 hs6 <| .lD 7 hs7 <| .lD 9 hs9 <| .lD 1000000 hs1000000 ?_
     clear hs3 hs37 hs38 hs4 hs5 hs54 hs6 hs7 hs9 hs1000000
     refine wcond (bb) rfl (fun hb => ?_) (fun hb => ?_)
     ·rw [if_pos hb] at hm
      clear hb
      cases hm
     rw [if_neg (by rw [hb]; decide)] at hm
     clear hb
     refine wK ?_
     exact ⟨a3, ap, hm, hst, ak, aj, rfl, rfl, rfl, rfl, rfl, rfl, rfl, rfl⟩
    refine wquiet (col := am) (by kernel_rfl) (by kernel_rfl) ?_
    refine qv (v := (.int .i64 ac)) rfl (fun _ hC => r_move rfl) ?_
    refine qv (v := (.int .i64 (IntKind.i64.wrap ((aa.length : Int) - 1)))) rfl (fun _ hC => r_move rfl) ?_
    refine qv (v := (.bool (decide (ac < (IntKind.i64.wrap ((aa.length : Int) - 1)))))) rfl (fun _ hC => r_lss ac (IntKind.i64.wrap ((aa.length : Int) - 1)) rfl rfl) ?_
    refine qv (v := (.bool (decide (ac < (IntKind.i64.wrap ((aa.length : Int) - 1)))))) rfl (fun _ hC => r_move rfl) ?_
    by_cases ad : (decide (ac < (IntKind.i64.wrap ((aa.length : Int) - 1)))) = true
    ·rw [if_pos ad] at hm
     refine qg (b := decide (ac < (IntKind.i64.wrap ((aa.length : Int) - 1)))) 44 rfl rfl rfl (by rw [ad]; rfl) ?_
     refine qv (v := (.slice ah af.length al)) rfl (fun _ hC => r_move rfl) ?_
     refine qg (b := decide (ac < (IntKind.i64.wrap ((aa.length : Int) - 1)))) 44 rfl rfl rfl (by rw [ad]; rfl) ?_
     refine qv (v := (.int .i64 ac)) rfl (fun _ hC => r_move rfl) ?_
     refine qg (b := decide (ac < (IntKind.i64.wrap ((aa.length : Int) - 1)))) 44 rfl rfl rfl (by rw [ad]; rfl) ?_
     obtain ⟨a4, bc, hm⟩ := bS hm
     refine qv (v := (sptr ah (Int.toNat ac * 1))) rfl (fun _ hC => r_idx Tryz.underlying184 Tryz.sizeOf3 rfl rfl (at?_some bc).1 (at?_some bc).2.1 (ak.addr bc)) ?_
     refine qg (b := decide (ac < (IntKind.i64.wrap ((aa.length : Int) - 1)))) 44 rfl rfl rfl (by rw [ad]; rfl) ?_
     refine qv (v := (.int .i64 a4)) rfl (fun _ hC => r_ld Tryz.isAgg3 rfl ((ak.gr (Grow.of_below (col := am) hC.below)).atInt bc)) ?_
     refine qg (b := decide (ac < (IntKind.i64.wrap ((aa.length : Int) - 1)))) 44 rfl rfl rfl (by rw [ad]; rfl) ?_
     refine qv (v := (.slice ah af.length al)) rfl (fun _ hC => r_move rfl) ?_
     refine qg (b := decide (ac < (IntKind.i64.wrap ((aa.length : Int) - 1)))) 44 rfl rfl rfl (by rw [ad]; rfl) ?_
     refine qv (v := (.int .i64 ap)) rfl (fun _ hC => r_move rfl) ?_
     refine qg (b := decide (ac < (IntKind.i64.wrap ((aa.length : Int) - 1)))) 44 rfl rfl rfl (by rw [ad]; rfl) ?_
     obtain ⟨a5, bd, hm⟩ := bS hm
     refine qv (v := (sptr ah (Int.toNat ap * 1))) rfl (fun _ hC => r_idx Tryz.underlying184 Tryz.sizeOf3 rfl rfl (at?_some bd).1 (at?_some bd).2.1 (ak.addr bd)) ?_
     refine qg (b := decide (ac < (IntKind.i64.wrap ((aa.length : Int) - 1)))) 44 rfl rfl rfl (by rw [ad]; rfl) ?_
     refine qv (v := (.int .i64 a5)) rfl (fun _ hC => r_ld Tryz.isAgg3 rfl ((ak.gr (Grow.of_below (col := am) hC.below)).atInt bd)) ?_
     refine qg (b := decide (ac < (IntKind.i64.wrap ((aa.length : Int) - 1)))) 44 rfl rfl rfl (by rw [ad]; rfl) ?_
     refine qv (v := (.bool (decide (a4 < a5)))) rfl (fun _ hC => r_lss a4 a5 rfl rfl) ?_
     refine qv (v := (.bool (decide (a4 < a5)))) rfl (fun _ hC => r_pickT (congrArg Value.bool ad) rfl) ?_
     refine qnil ?_
     intro bm hC
     replace hC : Grow am aw am bm := .of_below hC.below
     replace ak := ak.gr hC
     replace aj := aj.gr hC
     replace hst := hst.grow hC
     exact ⟨am, (decide (a4 < a5)), hm, hst, ak, aj, rfl, rfl, rfl, rfl, rfl, rfl, rfl, rfl, rfl, rfl⟩
    rw [if_neg ad] at hm
    replace ad := Bool.eq_false_iff.2 ad
    refine qp (b := decide (ac < (IntKind.i64.wrap ((aa.length : Int) - 1)))) 44 rfl rfl rfl rfl (by rw [ad]; rfl) ?_
    refine qp (b := decide (ac < (IntKind.i64.wrap ((aa.length : Int) - 1)))) 44 rfl rfl rfl rfl (by rw [ad]; rfl) ?_
    refine qp (b := decide (ac < (IntKind.i64.wrap ((aa.length : Int) - 1)))) 44 rfl rfl rfl rfl (by rw [ad]; rfl) ?_
    refine qp (b := decide (ac < (IntKind.i64.wrap ((aa.length : Int) - 1)))) 44 rfl rfl rfl rfl (by rw [ad]; rfl) ?_
    refine qp (b := decide (ac < (IntKind.i64.wrap ((aa.length : Int) - 1)))) 44 rfl rfl rfl rfl (by rw [ad]; rfl) ?_
    refine qp (b := decide (ac < (IntKind.i64.wrap ((aa.length : Int) - 1)))) 44 rfl rfl rfl rfl (by rw [ad]; rfl) ?_
    refine qp (b := decide (ac < (IntKind.i64.wrap ((aa.length : Int) - 1)))) 44 rfl rfl rfl rfl (by rw [ad]; rfl) ?_
    refine qp (b := decide (ac < (IntKind.i64.wrap ((aa.length : Int) - 1)))) 44 rfl rfl rfl rfl (by rw [ad]; rfl) ?_
    refine qp (b := decide (ac < (IntKind.i64.wrap ((aa.length : Int) - 1)))) 44 rfl rfl rfl rfl (by rw [ad]; rfl) ?_
    refine qv (v := (.bool false)) rfl (fun _ hC => r_pickF (congrArg Value.bool ad) rfl) ?_
    refine qnil ?_
    intro bn hC
    replace hC : Grow am aw am bn := .of_below hC.below
    replace ak := ak.gr hC
    replace aj := aj.gr hC
    replace hst := hst.grow hC
    exact ⟨am, false, hm, hst, ak, aj, rfl, rfl, rfl, rfl, rfl, rfl, rfl, rfl, rfl, rfl⟩
   rw [if_neg (by rw [hb]; decide)] at hm
   clear hb
   refine wexit (inB_hit ?_)
   refine wS <| wS <| wR <| lM (.int .i64 ap) <| lM (.int .i64 ab) <| lV (.bool (decide (ap = ab))) (r_eql ap ab rfl rfl) <| lN ?_
   refine wcond (decide (ap = ab)) rfl (fun hb => ?_) (fun hb => ?_)
   ·rw [if_pos hb] at hm
    clear hb
    refine wS <| wR <| lM (.int .i64 ao) <| lA (.int .i64 ao) <| lN ?_
    refine wret ?_
    cases hm
    exact ⟨rfl, colFL w0.heap.size [qc0, ai] col am (fun n => bif Nat.beq n 441 then ai else bif Nat.beq n 440 then qc0 else 0), ah, al, rfl, hst.finL rfl (fun n => bif Nat.beq n 441 then ai else bif Nat.beq n 440 then qc0 else 0), hst.finOwnL (g := (fun n => bif Nat.beq n 441 then ai else bif Nat.beq n 440 then qc0 else 0)) rfl (ak.take (Int.toNat (IntKind.i64.wrap ((aa.length : Int) - 1)))) (by decide) (by decide) rfl, hst.finBoxL (g := (fun n => bif Nat.beq n 441 then ai else bif Nat.beq n 440 then qc0 else 0)) aj (by decide) (by decide) rfl⟩
   rw [if_neg (by rw [hb]; decide)] at hm
   clear hb
   cases hm
theorem el3_151 : ElemOk Tryz.prog 3 1 8 := ⟨Tryz.t3, _, rfl, rfl, rfl, rfl, rfl⟩
def m_dag_heap_push_J1 (aa : List Int) (ab : Bool) : Option (List Int) :=
  if ab = true then none else (some aa)
def m_dag_heap_push_L1 (N : Nat)  : Nat → (List Int) → Int → Option (List Int)
  | 0, _, _ => none
  | ae + 1, aa, ab => if (decide (0 < ab)) = true then ((at? aa ab).bind fun ac => (at? aa (IntKind.i64.wrap (Int.tdiv (IntKind.i64.wrap (ab - 1)) 2))).bind fun ad => m_dag_heap_push_J1 aa (decide (ac < ad))) else (m_dag_heap_push_J1 aa false)
def m_dag_heap_push (N : Nat) (aa : (List Int)) (ab : Int) : Option (List Int) :=
  chk ((aa.length + [ab].length) * 8 ≤ 140737488355328 ∧ aa.length + [ab].length ≤ maxLen) (m_dag_heap_push_L1 N N (aa ++ [ab]) (IntKind.i64.wrap (((aa ++ [ab]).length : Int) - 1)))
theorem c_dag_heap_push (N : Nat) (col : Col) (w0 : World) (qc0 : Nat) (af : Nat) (hd : dstB [qc0, af] = true) (g0 : Nat) (ag : (List Int)) (a0 : Option Addr) (a1 : Nat) (ac : Int) (al : Own (Rep.int .i64) 3 af col w0 a0 a1 ag) (hb0 : Box 184 qc0 col w0 g0 #[(.slice a0 ag.length a1)]) (r : (List Int)) (hm : m_dag_heap_push N ag ac = some r) :
    Calls Tryz.prog 151 #[(.pointer (some ⟨g0, 0, none⟩)), (.int .i64 ac)] w0 (fun e w' => ∃ (col' : Col) (oa1 : Option Addr) (oc2 : Nat), e = .returned (.tuple #[]) ∧ KeepP (pS [qc0, af]) col w0 col' w' ∧ Own (Rep.int .i64) 3 af col' w' oa1 oc2 r ∧ Box 184 qc0 col' w' g0 #[(.slice oa1 r.length oc2)]) := by
 refine calls_of0  (m := 66) (args := [(.pointer (some ⟨g0, 0, none⟩)), (.int .i64 ac)]) Tryz.func151 rfl rfl rfl rfl ?_
 rw [m_dag_heap_push.eq_1] at hm
 have hst := St.startL (l := [qc0, af]) rfl col w0
 replace hb0 := hb0.startL (dst_nz hd 0 rfl) (dst_ix hd 0 rfl)
 replace al := al.startL (dst_nz hd 1 rfl) (dst_ix hd 1 rfl)
 refine wS <| wR <| lM (.pointer (some ⟨g0, 0, none⟩)) <| lM (.pointer (some ⟨g0, 0, none⟩)) <| lV (.pointer (some ⟨g0, 0, none⟩)) (r_nilCheck rfl) <| lV (.slice a0 ag.length a1) (r_ld Tryz.isAgg184 rfl hb0.at1) <| lM (.int .i64 ac) ?_
 refine l_lit (col := (colL [qc0, af] col)) (r := (Rep.int .i64)) (xs := [ac]) [(.int .i64 ac)] 1 rfl Tryz.underlying184 el3_151 rfl rfl rfl rfl rfl rfl (by intro v hv; simp only [List.mem_cons, List.not_mem_nil, or_false] at hv; subst hv; rfl) (RowsH.ofF (Rows.consF (r := (Rep.int .i64)) (x := ac) (cs := [(.int .i64 ac)]) (rd_int .i64 ac) Rows.nil0)) ?_
 intro bf a7 a8 a2 a9
 obtain ⟨a3, hm⟩ := cS hm
 replace al := al.gr a2
 refine l_ext (col := a8) (w := a7) (r := (Rep.int .i64)) (c := 441) (c2 := 441) (al.ex) (a9.srcN (NB.int (k := .i64))) rfl Tryz.underlying184 el3_151 rfl rfl rfl a3.1 a3.2 (by decide) ?_
 intro ar au bg a4 a5 av
 clear al
 refine lV (.pointer (some ⟨g0, 0, none⟩)) (r_nilCheck rfl) ?_
 replace hb0 := (hb0.gr a2).kpp a5
 refine l_bstore (v := (.slice ar ((ag ++ [ac]).length) au)) hb0 Tryz.sizeOf184 rfl rfl (by intro u hu; simp only [Value.cells, List.mem_cons, List.not_mem_nil, or_false] at hu; subst hu; rfl) rfl rfl ?_
 intro ba a6 bb ad
 clear hb0
 replace ad : Box 184 440 a4 ba g0 #[(.slice ar ((ag ++ [ac]).length) au)] := ad
 replace av := av.kp a6
 have bc := av.new
 clear av
 refine lN <| wS <| wR <| lM (.pointer (some ⟨g0, 0, none⟩)) <| lV (.pointer (some ⟨g0, 0, none⟩)) (r_nilCheck rfl) <| lV (.slice ar ((ag ++ [ac]).length) au) (r_ld Tryz.isAgg184 rfl ad.at1) <| lV (.int .i64 ((ag ++ [ac]).length : Int)) (r_len Tryz.underlying184 rfl) <| lV (.int .i64 (IntKind.i64.wrap (((ag ++ [ac]).length : Int) - 1))) (r_sub ((ag ++ [ac]).length : Int) 1 rfl rfl) <| lA (.int .i64 (IntKind.i64.wrap (((ag ++ [ac]).length : Int) - 1))) <| lN <| wB ?_
 replace hst := ((hst.grow a2).kpp a5).kp a6 bb
 refine wloop (fun n f am => ∃ (ae : Col) (ai : Option Addr) (ak : Nat) (aj : List Int) (aa : Int) (an : Nat), an = n ∧ m_dag_heap_push_L1 N an aj aa = some r ∧ St w0 (colL [qc0, af] col) ae am ∧ Own (Rep.int .i64) 3 441 ae am ai ak aj ∧ Box 184 440 ae am g0 #[(.slice ai aj.length ak)] ∧ f 0 = (.pointer (some ⟨g0, 0, none⟩)) ∧ f 4 = (.int .i64 aa) ∧ f 1000000 = (enc [])) N ⟨a4, ar, au, (ag ++ [ac]), (IntKind.i64.wrap (((ag ++ [ac]).length : Int) - 1)), N, rfl, hm, hst, bc, ad, rfl, rfl, rfl⟩ ?_
 clear hm; intro n f am hI
 obtain ⟨ae, ai, ak, aj, aa, an, hn, hm, hst, ah, ad, hs0, hs4, hs1000000⟩ := hI
 subst hn
 refine .lD 0 hs0 <| .lD 4 hs4 <| .lD 1000000 hs1000000 ?_
 clear hs0 hs4 hs1000000
 cases an with
 | zero => rw [m_dag_heap_push_L1.eq_1] at hm; cases hm
 | succ an =>
  rw [m_dag_heap_push_L1.eq_2] at hm
  refine wS <| wS ?_
  refine Wp.cut (fun f aw => ∃ (ao : Col) (ax : Bool), m_dag_heap_push_J1 aj ax = some r ∧ St w0 (colL [qc0, af] col) ao aw ∧ Own (Rep.int .i64) 3 441 ao aw ai ak aj ∧ Box 184 440 ao aw g0 #[(.slice ai aj.length ak)] ∧ f 0 = (.pointer (some ⟨g0, 0, none⟩)) ∧ f 36 = (.bool ax) ∧ f 4 = (.int .i64 aa) ∧ f 1000000 = (enc [])) ?_ ?_
  ·intro f aw hJ
   obtain ⟨ao, ax, hm, hst, ah, ad, hs0, hs36, hs4, hs1000000⟩ := hJ
   rw [m_dag_heap_push_J1.eq_1] at hm
   refine .lD 0 hs0 <| .lD 36 hs36 <| .lD 4 hs4 <| .lD 1000000 hs1000000 ?_
   clear hs0 hs36 hs4 hs1000000
   refine wcond (ax) rfl (fun hb => ?_) (fun hb => ?_)
   ·rw [if_pos hb] at hm
    clear hb
    cases hm
   rw [if_neg (by rw [hb]; decide)] at hm
   clear hb
   refine wexit (inB_hit ?_)
   cases hm
   exact ⟨rfl, colFL w0.heap.size [qc0, af] col ao (fun n => bif Nat.beq n 441 then af else bif Nat.beq n 440 then qc0 else 0), ai, ak, rfl, hst.finL rfl (fun n => bif Nat.beq n 441 then af else bif Nat.beq n 440 then qc0 else 0), hst.finOwnL (g := (fun n => bif Nat.beq n 441 then af else bif Nat.beq n 440 then qc0 else 0)) rfl ah (by decide) (by decide) rfl, hst.finBoxL (g := (fun n => bif Nat.beq n 441 then af else bif Nat.beq n 440 then qc0 else 0)) ad (by decide) (by decide) rfl⟩
  refine wquiet (col := ae) (by kernel_rfl) (by kernel_rfl) ?_
  refine qv (v := (.int .i64 aa)) rfl (fun _ hC => r_move rfl) ?_
  refine qv (v := (.bool (decide (0 < aa)))) rfl (fun _ hC => r_gtr aa 0 rfl rfl) ?_
  refine qv (v := (.bool (decide (0 < aa)))) rfl (fun _ hC => r_move rfl) ?_
  by_cases ab : (decide (0 < aa)) = true
  ·rw [if_pos ab] at hm
   refine qg (b := decide (0 < aa)) 20 rfl rfl rfl (by rw [ab]; rfl) ?_
   refine qv (v := (.pointer (some ⟨g0, 0, none⟩))) rfl (fun _ hC => r_move rfl) ?_
   refine qg (b := decide (0 < aa)) 20 rfl rfl rfl (by rw [ab]; rfl) ?_
   refine qv (v := (.pointer (some ⟨g0, 0, none⟩))) rfl (fun _ hC => r_nilCheck rfl) ?_
   refine qg (b := decide (0 < aa)) 20 rfl rfl rfl (by rw [ab]; rfl) ?_
   refine qv (v := (.slice ai aj.length ak)) rfl (fun _ hC => r_ld Tryz.isAgg184 rfl (ad.at1.gr (Grow.of_below (col := ae) hC.below))) ?_
   refine qg (b := decide (0 < aa)) 20 rfl rfl rfl (by rw [ab]; rfl) ?_
   refine qv (v := (.int .i64 aa)) rfl (fun _ hC => r_move rfl) ?_
   refine qg (b := decide (0 < aa)) 20 rfl rfl rfl (by rw [ab]; rfl) ?_
   obtain ⟨ap, ay, hm⟩ := bS hm
   refine qv (v := (sptr ai (Int.toNat aa * 1))) rfl (fun _ hC => r_idx Tryz.underlying184 Tryz.sizeOf3 rfl rfl (at?_some ay).1 (at?_some ay).2.1 (ah.addr ay)) ?_
   refine qg (b := decide (0 < aa)) 20 rfl rfl rfl (by rw [ab]; rfl) ?_
   refine qv (v := (.int .i64 ap)) rfl (fun _ hC => r_ld Tryz.isAgg3 rfl ((ah.gr (Grow.of_below (col := ae) hC.below)).atInt ay)) ?_
   refine qg (b := decide (0 < aa)) 20 rfl rfl rfl (by rw [ab]; rfl) ?_
   refine qv (v := (.pointer (some ⟨g0, 0, none⟩))) rfl (fun _ hC => r_move rfl) ?_
   refine qg (b := decide (0 < aa)) 20 rfl rfl rfl (by rw [ab]; rfl) ?_
   refine qv (v := (.pointer (some ⟨g0, 0, none⟩))) rfl (fun _ hC => r_nilCheck rfl) ?_
   refine qg (b := decide (0 < aa)) 20 rfl rfl rfl (by rw [ab]; rfl) ?_
   refine qv (v := (.slice ai aj.length ak)) rfl (fun _ hC => r_ld Tryz.isAgg184 rfl (ad.at1.gr (Grow.of_below (col := ae) hC.below))) ?_
   refine qg (b := decide (0 < aa)) 20 rfl rfl rfl (by rw [ab]; rfl) ?_
   refine qv (v := (.int .i64 aa)) rfl (fun _ hC => r_move rfl) ?_
   refine qg (b := decide (0 < aa)) 20 rfl rfl rfl (by rw [ab]; rfl) ?_
   refine qv (v := (.int .i64 (IntKind.i64.wrap (aa - 1)))) rfl (fun _ hC => r_sub aa 1 rfl rfl) ?_
   refine qg (b := decide (0 < aa)) 20 rfl rfl rfl (by rw [ab]; rfl) ?_
   refine qv (v := (.int .i64 (IntKind.i64.wrap (Int.tdiv (IntKind.i64.wrap (aa - 1)) 2)))) rfl (fun _ hC => r_quo (IntKind.i64.wrap (aa - 1)) 2 rfl rfl (by decide)) ?_
   refine qg (b := decide (0 < aa)) 20 rfl rfl rfl (by rw [ab]; rfl) ?_
   obtain ⟨aq, az, hm⟩ := bS hm
   refine qv (v := (sptr ai (Int.toNat (IntKind.i64.wrap (Int.tdiv (IntKind.i64.wrap (aa - 1)) 2)) * 1))) rfl (fun _ hC => r_idx Tryz.underlying184 Tryz.sizeOf3 rfl rfl (at?_some az).1 (at?_some az).2.1 (ah.addr az)) ?_
   refine qg (b := decide (0 < aa)) 20 rfl rfl rfl (by rw [ab]; rfl) ?_
   refine qv (v := (.int .i64 aq)) rfl (fun _ hC => r_ld Tryz.isAgg3 rfl ((ah.gr (Grow.of_below (col := ae) hC.below)).atInt az)) ?_
   refine qg (b := decide (0 < aa)) 20 rfl rfl rfl (by rw [ab]; rfl) ?_
   refine qv (v := (.bool (decide (ap < aq)))) rfl (fun _ hC => r_lss ap aq rfl rfl) ?_
   refine qv (v := (.bool (decide (ap < aq)))) rfl (fun _ hC => r_pickT (congrArg Value.bool ab) rfl) ?_
   refine qnil ?_
   intro bd hC
   replace hC : Grow ae am ae bd := .of_below hC.below
   replace ah := ah.gr hC
   replace ad := ad.gr hC
   replace hst := hst.grow hC
   exact ⟨ae, (decide (ap < aq)), hm, hst, ah, ad, rfl, rfl, rfl, rfl⟩
  rw [if_neg ab] at hm
  replace ab := Bool.eq_false_iff.2 ab
  refine qp (b := decide (0 < aa)) 20 rfl rfl rfl rfl (by rw [ab]; rfl) ?_
  refine qp (b := decide (0 < aa)) 20 rfl rfl rfl rfl (by rw [ab]; rfl) ?_
  refine qp (b := decide (0 < aa)) 20 rfl rfl rfl rfl (by rw [ab]; rfl) ?_
  refine qp (b := decide (0 < aa)) 20 rfl rfl rfl rfl (by rw [ab]; rfl) ?_
  refine qp (b := decide (0 < aa)) 20 rfl rfl rfl rfl (by rw [ab]; rfl) ?_
  refine qp (b := decide (0 < aa)) 20 rfl rfl rfl rfl (by rw [ab]; rfl) ?_
  refine qp (b := decide (0 < aa)) 20 rfl rfl rfl rfl (by rw [ab]; rfl) ?_
  refine qp (b := decide (0 < aa)) 20 rfl rfl rfl rfl (by rw [ab]; rfl) ?_
  refine qp (b := decide (0 < aa)) 20 rfl rfl rfl rfl (by rw [ab]; rfl) ?_
  refine qp (b := decide (0 < aa)) 20 rfl rfl rfl rfl (by rw [ab]; rfl) ?_
  refine qp (b := decide (0 < aa)) 20 rfl rfl rfl rfl (by rw [ab]; rfl) ?_
  refine qp (b := decide (0 < aa)) 20 rfl rfl rfl rfl (by rw [ab]; rfl) ?_
  refine qp (b := decide (0 < aa)) 20 rfl rfl rfl rfl (by rw [ab]; rfl) ?_
  refine qp (b := decide (0 < aa)) 20 rfl rfl rfl rfl (by rw [ab]; rfl) ?_
  refine qp (b := decide (0 < aa)) 20 rfl rfl rfl rfl (by rw [ab]; rfl) ?_
  refine qv (v := (.bool false)) rfl (fun _ hC => r_pickF (congrArg Value.bool ab) rfl) ?_
  refine qnil ?_
  intro be hC
  replace hC : Grow ae am ae be := .of_below hC.below
  replace ah := ah.gr hC
  replace ad := ad.gr hC
  replace hst := hst.grow hC
  exact ⟨ae, false, hm, hst, ah, ad, rfl, rfl, rfl, rfl⟩
theorem el3_122 : ElemOk Tryz.prog 3 1 8 := ⟨Tryz.t3, _, rfl, rfl, rfl, rfl, rfl⟩
def m_dag_sorted_J1 (kk_L3 : ((List Int) → (List Int) → Option (List Int))) (aa : List Int) (ab : List Int) : Option (List Int) :=
  kk_L3 aa ab
def m_dag_sorted_L3 (N : Nat) (ad : List Int) (kk_L2 : ((List Int) → (List Int) → (List Int) → Option (List Int))) (ae : (Int × (List Int))) : List Int → (List Int) → (List Int) → Option (List Int)
  | [], aa, ac => kk_L2 aa ac (ad ++ [ae.1])
  | ab :: ag, aa, ac => (at? aa ab).bind fun ah => (some (aa.set (Int.toNat ab) (IntKind.i64.wrap (ah - 1)))).bind fun af => (at? af ab).bind fun ai => if (decide (ai = 0)) = true then ((m_dag_heap_push N ac ab).bind fun aj => m_dag_sorted_J1 (m_dag_sorted_L3 N ad kk_L2 ae ag) af aj) else none
termination_by structural x => x
def m_dag_sorted_L2 (N : Nat) (ac : (List (List Int))) : Nat → (List Int) → (List Int) → (List Int) → Option (List Int)
  | 0, _, _, _ => none
  | ae + 1, af, ad, ab => if (decide (0 < (ad.length : Int))) = true then ((m_dag_heap_pop N ad).bind fun aa => chk ((ab.length + [aa.1].length) * 8 ≤ 140737488355328 ∧ ab.length + [aa.1].length ≤ maxLen) ((at? ac aa.1).bind fun ag => m_dag_sorted_L3 N ab (m_dag_sorted_L2 N ac ae) aa ag af aa.2)) else (some ab)
termination_by structural x => x
def m_dag_sorted_J2 (aa : Nat) (kk_L1 : (Nat → (List Int) → (List Int) → Option (List Int))) (ab : List Int) (ac : List Int) : Option (List Int) :=
  kk_L1 (aa + 1) ab ac
def m_dag_sorted_L1 (N : Nat) (ad : (List (List Int))) : List (List Int) → Nat → (List Int) → (List Int) → Option (List Int)
  | [], aa, ab, ac => m_dag_sorted_L2 N ad N ab ac ([] : List Int)
  | ae :: af, aa, ab, ac => (at? ab (aa : Int)).bind fun ai => (some (ab.set (Int.toNat (aa : Int)) (ae.length : Int))).bind fun ag => if (decide ((ae.length : Int) = 0)) = true then ((m_dag_heap_push N ac (aa : Int)).bind fun ah => m_dag_sorted_J2 aa (m_dag_sorted_L1 N ad af) ag ah) else (m_dag_sorted_J2 aa (m_dag_sorted_L1 N ad af) ag ac)
termination_by structural x => x
def m_dag_sorted (N : Nat) (aa : (List (List Int))) (ab : (List (List Int))) : Option (List Int) :=
  chk (aa.length * 8 ≤ 281474976710656 ∧ aa.length ≤ maxLen) (m_dag_sorted_L1 N ab aa 0 (List.replicate aa.length (0 : Int)) ([] : List Int))
theorem c_dag_sorted (N : Nat) (c1 : Nat) (col : Col) (w0 : World) (a0 : Option Addr) (cap0 : Nat) (aa : (List (List Int))) (a1 : Option Addr) (cap1 : Nat) (ac : (List (List Int))) (h0 : Sl (Rep.slice (Rep.int .i64)) col w0 a0 cap0 aa) (h1 : Sl (Rep.slice (Rep.int .i64)) col w0 a1 cap1 ac) (r : (List Int)) (hm : m_dag_sorted N aa ac = some r) :
    Calls Tryz.prog 122 #[(.slice a0 aa.length cap0), (.slice a1 ac.length cap1)] w0 (fun e w' => ∃ (col' : Col) (ra1 : Option Addr) (rc2 : Nat), e = .returned ((.slice ra1 r.length rc2)) ∧ Grow col w0 col' w' ∧ Own (Rep.int .i64) 3 c1 col' w' ra1 rc2 r) := by
 refine calls_of1 4 (m := 66) (args := [(.slice a0 aa.length cap0), (.slice a1 ac.length cap1)]) Tryz.func122 rfl rfl rfl rfl rfl ?_
 rw [m_dag_sorted.eq_1] at hm
 have hst := St.start col w0
 refine wS <| wR <| lA (.slice none (([] : List Int).length) 0) <| lN <| wS <| wR <| lM (.slice a0 aa.length cap0) <| lV (.int .i64 (aa.length : Int)) (r_len Tryz.underlying25 rfl) ?_
 obtain ⟨c6, hm⟩ := cS hm
 refine l_make (col := (col0 col)) (w := w0) (r := (Rep.int .i64)) (n := aa.length) (x0 := 0) 1 rfl Tryz.underlying33 Tryz.t3 rfl rfl rfl rfl rfl rfl rfl c6.1 c6.2 (rd_int .i64 0) ?_
 intro c7 ea dd cy cz
 refine lA (.slice c7 ((List.replicate aa.length (0 : Int)).length) aa.length) <| lN <| wS <| wR ?_
 refine l_alloc (col := dd) (v := (.slice none (([] : List Int).length) 0)) 2 rfl Tryz.zeroValue184 ?_
 intro ai de c8 cb af
 replace af : Box 184 2 c8 de ai #[(.slice none (([] : List Int).length) 0)] := af
 refine lN <| wS <| wS <| wR <| lM (.slice a0 aa.length cap0) <| lV (.int .i64 (aa.length : Int)) (r_len Tryz.underlying25 rfl) <| lM (.int .i64 0) <| lN <| wB ?_
 replace h0 := ((h0.keep (Stay.start col w0)).gr cy).gr cb
 replace h1 := ((h1.keep (Stay.start col w0)).gr cy).gr cb
 replace hst := (hst.grow cy).grow cb
 replace cz := cz.gr cb
 refine wloop (fun n f a8 => ∃ (an : Col) (ab : Nat) (ao : Option Addr) (av : Nat) (a2 : List Int) (bf : Option Addr) (bg : Nat) (a9 : List Int) (bq : List (List Int)), n = bq.length ∧ aa.drop ab = bq ∧ m_dag_sorted_L1 N ac bq ab a2 a9 = some r ∧ St w0 (col0 col) an a8 ∧ Sl (Rep.slice (Rep.int .i64)) an a8 a1 cap1 ac ∧ Sl (Rep.slice (Rep.int .i64)) an a8 a0 cap0 aa ∧ Own (Rep.int .i64) 3 1 an a8 ao av a2 ∧ Own (Rep.int .i64) 3 3 an a8 bf bg a9 ∧ Box 184 2 an a8 ai #[(.slice bf a9.length bg)] ∧ f 18 = (.int .i64 (ab : Int)) ∧ f 1 = (.slice a1 ac.length cap1) ∧ f 16 = (.slice a0 aa.length cap0) ∧ f 17 = (.int .i64 (aa.length : Int)) ∧ f 5 = (.slice ao a2.length av) ∧ f 6 = (.pointer (some ⟨ai, 0, none⟩)) ∧ f 1000000 = (enc [])) aa.length ⟨c8, 0, c7, aa.length, (List.replicate aa.length (0 : Int)), none, 0, ([] : List Int), aa, rfl, rfl, hm, hst, h1, h0, cz, Own.nil, af, rfl, rfl, rfl, rfl, rfl, rfl, rfl⟩ ?_
 clear hm; intro n f a8 hI
 obtain ⟨an, ab, ao, av, a2, bf, bg, a9, bq, hn, hl, hm, hst, h1, h0, cc, bh, af, hs18, hs1, hs16, hs17, hs5, hs6, hs1000000⟩ := hI
 subst hn
 refine .lD 18 hs18 <| .lD 1 hs1 <| .lD 16 hs16 <| .lD 17 hs17 <| .lD 5 hs5 <| .lD 6 hs6 <| .lD 1000000 hs1000000 ?_
 clear hs18 hs1 hs16 hs17 hs5 hs6 hs1000000
 cases bq with
 | nil =>
  have hk : ¬ ((ab : Int) < (aa.length : Int)) := by have := List.drop_eq_nil_iff.1 hl; omega
  have hkb := decide_eq_false hk
  rw [m_dag_sorted_L1.eq_1] at hm
  refine wS <| wR <| lV (.bool (decide ((ab : Int) < (aa.length : Int)))) (r_lss (ab : Int) (aa.length : Int) rfl rfl) <| lN <| wS ?_
  refine wcondF (congrArg Value.bool hkb) ?_
  refine wexit (inB_hit ?_)
  refine wS <| wR <| lA (.slice none (([] : List Int).length) 0) <| lN <| wS <| wB ?_
  refine wloop (fun n f ba => ∃ (aw : Col) (cd : Option Addr) (ce : Nat) (br : List Int) (bs : Option Addr) (bt : Nat) (ap : List Int) (bb : Option Addr) (bc : Nat) (ag : List Int) (ax : Nat), ax = n ∧ m_dag_sorted_L2 N ac ax br ap ag = some r ∧ St w0 (col0 col) aw ba ∧ Sl (Rep.slice (Rep.int .i64)) aw ba a1 cap1 ac ∧ Own (Rep.int .i64) 3 1 aw ba cd ce br ∧ Own (Rep.int .i64) 3 3 aw ba bs bt ap ∧ Box 184 2 aw ba ai #[(.slice bs ap.length bt)] ∧ Own (Rep.int .i64) 3 4 aw ba bb bc ag ∧ f 1 = (.slice a1 ac.length cap1) ∧ f 5 = (.slice cd br.length ce) ∧ f 6 = (.pointer (some ⟨ai, 0, none⟩)) ∧ f 9 = (.slice bb ag.length bc) ∧ f 1000000 = (enc [])) N ⟨an, ao, av, a2, bf, bg, a9, none, 0, ([] : List Int), N, rfl, hm, hst, h1, cc, bh, af, Own.nil, rfl, rfl, rfl, rfl, rfl⟩ ?_
  clear hm; intro n f ba hI
  obtain ⟨aw, cd, ce, br, bs, bt, ap, bb, bc, ag, ax, hn, hm, hst, h1, c0, c9, af, bu, hs1, hs5, hs6, hs9, hs1000000⟩ := hI
  subst hn
  refine .lD 1 hs1 <| .lD 5 hs5 <| .lD 6 hs6 <| .lD 9 hs9 <| .lD 1000000 hs1000000 ?_
  clear hs1 hs5 hs6 hs9 hs1000000
  cases ax with
  | zero => rw [m_dag_sorted_L2.eq_1] at hm; cases hm
  | succ ax =>
   rw [m_dag_sorted_L2.eq_2] at hm
   refine wS <| wS <| wR <| lV (.slice bs ap.length bt) (r_ld Tryz.isAgg184 rfl af.at1) <| lV (.int .i64 (ap.length : Int)) (r_len Tryz.underlying184 rfl) <| lV (.bool (decide (0 < (ap.length : Int)))) (r_gtr (ap.length : Int) 0 rfl rfl) <| lN ?_
   refine wcond (decide (0 < (ap.length : Int))) rfl (fun hb => ?_) (fun hb => ?_)
   ·rw [if_pos hb] at hm
    clear hb
    refine wK <| wB <| wS <| wR ?_
    obtain ⟨ad, df, hm⟩ := bS hm
    refine lc rfl rfl (r_call1 Tryz.call152 rfl) (c_dag_heap_pop N aw _ 2 3 rfl ai ap bs bt c9 af ad df) ?_
    rintro _ eb ⟨dg, dh, di, rfl, cf, c3, am⟩
    refine ⟨_, rfl, ?_⟩
    clear c9
    clear af
    refine lA (.int .i64 ad.1) <| lN <| wS <| wR <| lM (.slice bb ag.length bc) <| lM (.int .i64 ad.1) ?_
    refine l_lit (col := dg) (r := (Rep.int .i64)) (xs := [ad.1]) [(.int .i64 ad.1)] 5 rfl Tryz.underlying33 el3_122 rfl rfl rfl rfl rfl rfl (by intro v hv; simp only [List.mem_cons, List.not_mem_nil, or_false] at hv; subst hv; rfl) (RowsH.ofF (Rows.consF (r := (Rep.int .i64)) (x := ad.1) (cs := [(.int .i64 ad.1)]) (rd_int .i64 ad.1) Rows.nil0)) ?_
    intro ec dj dk bi dl
    obtain ⟨da, hm⟩ := cS hm
    replace bu := (bu.kpp cf).gr bi
    refine l_appendM (col := dk) (w := dj) (r := (Rep.int .i64)) (c := 4) (c2 := 4) (xs := ag) (ys := [ad.1]) bu (dl.srcN (NB.int (k := .i64))) rfl Tryz.underlying33 el3_122 rfl rfl rfl da.1 da.2 (by decide) ?_
    intro bj bk ed dm bv aq
    clear bu
    refine lA (.slice bj ((ag ++ [ad.1]).length) bk) <| lN <| wS <| wR <| lM (.slice a1 ac.length cap1) <| lM (.int .i64 ad.1) ?_
    obtain ⟨ae, cg, hm⟩ := bS hm
    replace h1 := ((h1.kpp cf).gr bi).kpp bv
    refine lV (sptr a1 (Int.toNat ad.1 * 1)) (r_idx Tryz.underlying25 Tryz.sizeOf33 rfl rfl (at?_some cg).1 (at?_some cg).2.1 (h1.addr cg)) ?_
    obtain ⟨_, dn, dp⟩ := h1.atN cg
    obtain ⟨⟨bl, bw, rfl, ak⟩, _⟩ := dn
    refine lV (.slice bl ae.length bw) (r_ld Tryz.isAgg33 rfl dp.one) <| lV (.int .i64 (ae.length : Int)) (r_len Tryz.underlying33 rfl) <| lM (.int .i64 0) <| lN <| wB ?_
    replace c0 := ((c0.kpp cf).gr bi).kpp bv
    replace hst := ((hst.kpp cf).grow bi).kpp bv
    replace c3 := (c3.gr bi).kpp bv
    replace am := (am.gr bi).kpp bv
    refine wloop (fun n f a3 => ∃ (ar : Col) (ah : Nat) (al : Option Addr) (ay : Nat) (a4 : List Int) (bx : Option Addr) (bz : Nat) (bm : List Int) (b0 : List Int), n = b0.length ∧ ae.drop ah = b0 ∧ m_dag_sorted_L3 N ag (m_dag_sorted_L2 N ac ax) ad b0 a4 bm = some r ∧ St w0 (col0 col) ar a3 ∧ Sl (Rep.slice (Rep.int .i64)) ar a3 a1 cap1 ac ∧ Sl (Rep.int .i64) ar a3 bl bw ae ∧ Own (Rep.int .i64) 3 1 ar a3 al ay a4 ∧ Own (Rep.int .i64) 3 3 ar a3 bx bz bm ∧ Box 184 2 ar a3 ai #[(.slice bx bm.length bz)] ∧ Own (Rep.int .i64) 3 4 ar a3 bj bk (ag ++ [ad.1]) ∧ f 47 = (.int .i64 (ah : Int)) ∧ f 1 = (.slice a1 ac.length cap1) ∧ f 45 = (.slice bl ae.length bw) ∧ f 46 = (.int .i64 (ae.length : Int)) ∧ f 5 = (.slice al a4.length ay) ∧ f 6 = (.pointer (some ⟨ai, 0, none⟩)) ∧ f 9 = (.slice bj ((ag ++ [ad.1]).length) bk) ∧ f 1000000 = (enc [])) ae.length ⟨dm, 0, cd, ce, br, dh, di, ad.2, ae, rfl, rfl, hm, hst, h1, ak, c0, c3, am, aq, rfl, rfl, rfl, rfl, rfl, rfl, rfl, rfl⟩ ?_
    clear hm; intro n f a3 hI
    obtain ⟨ar, ah, al, ay, a4, bx, bz, bm, b0, hn, hl, hm, hst, h1, ak, bn, b1, am, aq, hs47, hs1, hs45, hs46, hs5, hs6, hs9, hs1000000⟩ := hI
    subst hn
    refine .lD 47 hs47 <| .lD 1 hs1 <| .lD 45 hs45 <| .lD 46 hs46 <| .lD 5 hs5 <| .lD 6 hs6 <| .lD 9 hs9 <| .lD 1000000 hs1000000 ?_
    clear hs47 hs1 hs45 hs46 hs5 hs6 hs9 hs1000000
    cases b0 with
    | nil =>
     have hk : ¬ ((ah : Int) < (ae.length : Int)) := by have := List.drop_eq_nil_iff.1 hl; omega
     have hkb := decide_eq_false hk
     rw [m_dag_sorted_L3.eq_1] at hm
     refine wS <| wR <| lV (.bool (decide ((ah : Int) < (ae.length : Int)))) (r_lss (ah : Int) (ae.length : Int) rfl rfl) <| lN <| wS ?_
     refine wcondF (congrArg Value.bool hkb) ?_
     refine wexit (inB_hit ?_)
     exact ⟨ax, by omega, ⟨ar, al, ay, a4, bx, bz, bm, bj, bk, (ag ++ [ad.1]), ax, rfl, hm, hst, h1, bn, b1, am, aq, rfl, rfl, rfl, rfl, rfl⟩⟩
    | cons au c4 =>
     obtain ⟨hat, hl2_L3, hlt_L3⟩ := drop_get hl
     have hk : (ah : Int) < (ae.length : Int) := by omega
     have hkb := decide_eq_true hk
     rw [m_dag_sorted_L3.eq_2] at hm
     refine wS <| wR <| lV (.bool (decide ((ah : Int) < (ae.length : Int)))) (r_lss (ah : Int) (ae.length : Int) rfl rfl) <| lN <| wS ?_
     refine wcondT (congrArg Value.bool hkb) ?_
     refine wK <| wS ?_
     refine Wp.cut (fun f a5 => ∃ (az : Col) (ch : Option Addr) (ci : Nat) (b2 : List Int) (cj : Option Addr) (ck : Nat) (b3 : List Int), m_dag_sorted_J1 (m_dag_sorted_L3 N ag (m_dag_sorted_L2 N ac ax) ad c4) b2 b3 = some r ∧ St w0 (col0 col) az a5 ∧ Sl (Rep.slice (Rep.int .i64)) az a5 a1 cap1 ac ∧ Sl (Rep.int .i64) az a5 bl bw ae ∧ Own (Rep.int .i64) 3 1 az a5 ch ci b2 ∧ Own (Rep.int .i64) 3 3 az a5 cj ck b3 ∧ Box 184 2 az a5 ai #[(.slice cj b3.length ck)] ∧ Own (Rep.int .i64) 3 4 az a5 bj bk (ag ++ [ad.1]) ∧ f 1 = (.slice a1 ac.length cap1) ∧ f 45 = (.slice bl ae.length bw) ∧ f 46 = (.int .i64 (ae.length : Int)) ∧ f 47 = (.int .i64 (ah : Int)) ∧ f 5 = (.slice ch b2.length ci) ∧ f 6 = (.pointer (some ⟨ai, 0, none⟩)) ∧ f 9 = (.slice bj ((ag ++ [ad.1]).length) bk) ∧ f 1000000 = (enc [])) ?_ ?_
     ·intro f a5 hJ
      obtain ⟨az, ch, ci, b2, cj, ck, b3, hm, hst, h1, ak, dq, dr, am, aq, hs1, hs45, hs46, hs47, hs5, hs6, hs9, hs1000000⟩ := hJ
      rw [m_dag_sorted_J1.eq_1] at hm
      refine .lD 1 hs1 <| .lD 45 hs45 <| .lD 46 hs46 <| .lD 47 hs47 <| .lD 5 hs5 <| .lD 6 hs6 <| .lD 9 hs9 <| .lD 1000000 hs1000000 ?_
      clear hs1 hs45 hs46 hs47 hs5 hs6 hs9 hs1000000
      refine wR <| lV (.int .i64 (IntKind.i64.wrap ((ah : Int) + 1))) (r_add (ah : Int) 1 rfl rfl) <| lM (.int .i64 (IntKind.i64.wrap ((ah : Int) + 1))) <| lN ?_
      exact ⟨c4.length, by simp, ⟨az, (ah + 1), ch, ci, b2, cj, ck, b3, c4, rfl, hl2_L3, hm, hst, h1, ak, dq, dr, am, aq, (congrArg (Value.int .i64) (wrap_succ (Nat.lt_of_lt_of_le hlt_L3 ak.1.1))), rfl, rfl, rfl, rfl, rfl, rfl, rfl⟩⟩
     refine wB <| wS <| wR ?_
     refine lV (sptr bl (Int.toNat (ah : Int) * 1)) (r_idx Tryz.underlying33 Tryz.sizeOf3 rfl rfl (at?_some hat).1 (at?_some hat).2.1 (ak.addr hat)) ?_
     refine lV (.int .i64 au) (r_ld Tryz.isAgg3 rfl (ak.atInt hat)) <| lA (.int .i64 au) <| lN <| wS <| wR <| lM (.slice al a4.length ay) <| lM (.int .i64 au) ?_
     obtain ⟨bd, a6, hm⟩ := bS hm
     refine lV (sptr al (Int.toNat au * 1)) (r_idx Tryz.underlying33 Tryz.sizeOf3 rfl rfl (at?_some a6).1 (at?_some a6).2.1 (bn.addr a6)) ?_
     refine lV (.int .i64 bd) (r_ld Tryz.isAgg3 rfl (bn.atInt a6)) <| lV (.int .i64 (IntKind.i64.wrap (bd - 1))) (r_sub bd 1 rfl rfl) ?_
     refine lV (sptr al (Int.toNat au * 1)) (r_idx Tryz.underlying33 Tryz.sizeOf3 rfl rfl (at?_some a6).1 (at?_some a6).2.1 (bn.addr a6)) ?_
     obtain ⟨b4, cl, hm⟩ := bS hm
     have cl : b4 = a4.set (Int.toNat au) (IntKind.i64.wrap (bd - 1)) := (Option.some.inj cl).symm
     refine l_store (x1 := IntKind.i64.wrap (bd - 1)) (v := (.int .i64 (IntKind.i64.wrap (bd - 1)))) bn a6 rfl Tryz.sizeOf3 (rd_int .i64 (IntKind.i64.wrap (bd - 1))) rfl rfl (by decide) ?_
     intro ee bo ds bp
     rw [← cl] at bp
     refine .ld (d := 5) (v := (.slice al b4.length ay)) (congrArg (fun n => Value.slice al n ay) (show a4.length = b4.length by rw [cl, List.length_set])) ?_
     clear bn
     refine lN <| wS <| wR <| lM (.slice al b4.length ay) <| lM (.int .i64 au) ?_
     obtain ⟨cm, cn, hm⟩ := bS hm
     refine lV (sptr al (Int.toNat au * 1)) (r_idx Tryz.underlying33 Tryz.sizeOf3 rfl rfl (at?_some cn).1 (at?_some cn).2.1 (bp.addr cn)) ?_
     refine lV (.int .i64 cm) (r_ld Tryz.isAgg3 rfl (bp.atInt cn)) <| lV (.bool (decide (cm = 0))) (r_eql cm 0 rfl rfl) <| lN ?_
     replace h1 := h1.kp bo
     replace ak := ak.kp bo
     replace b1 := b1.kp bo
     replace aq := aq.kp bo
     replace am := am.kp bo
     replace hst := hst.kp bo ds
     refine wcond (decide (cm = 0)) rfl (fun hb => ?_) (fun hb => ?_)
     ·rw [if_pos hb] at hm
      clear hb
      refine wR <| lM (.int .i64 au) ?_
      obtain ⟨db, dt, hm⟩ := bS hm
      refine lc rfl rfl (r_call2 Tryz.call151 rfl rfl) (c_dag_heap_push N ar _ 2 3 rfl ai bm bx bz au b1 am db dt) ?_
      rintro _ ef ⟨du, dv, dw, rfl, b5, dx, dy⟩
      refine ⟨_, rfl, ?_⟩
      clear b1
      clear am
      refine lN ?_
      replace h1 := h1.kpp b5
      replace ak := ak.kpp b5
      replace bp := bp.kpp b5
      replace aq := aq.kpp b5
      replace hst := hst.kpp b5
      exact ⟨du, al, ay, b4, dv, dw, db, hm, hst, h1, ak, bp, dx, dy, aq, rfl, rfl, rfl, rfl, rfl, rfl, rfl, rfl⟩
     rw [if_neg (by rw [hb]; decide)] at hm
     clear hb
     cases hm
   rw [if_neg (by rw [hb]; decide)] at hm
   clear hb
   refine wexit (inB_hit ?_)
   refine wS <| wR <| lM (.slice bb ag.length bc) <| lA (.slice bb ag.length bc) <| lN ?_
   refine wret ?_
   cases hm
   exact ⟨rfl, colF w0.heap.size col aw (fun n => bif Nat.beq n 4 then c1 else 0), bb, bc, rfl, hst.fin (fun n => bif Nat.beq n 4 then c1 else 0), hst.finOwn (g := (fun n => bif Nat.beq n 4 then c1 else 0)) rfl bu (by decide) (by decide) rfl⟩
 | cons aj c5 =>
  obtain ⟨hat, hl2_L1, hlt_L1⟩ := drop_get hl
  have hk : (ab : Int) < (aa.length : Int) := by omega
  have hkb := decide_eq_true hk
  rw [m_dag_sorted_L1.eq_2] at hm
  refine wS <| wR <| lV (.bool (decide ((ab : Int) < (aa.length : Int)))) (r_lss (ab : Int) (aa.length : Int) rfl rfl) <| lN <| wS ?_
  refine wcondT (congrArg Value.bool hkb) ?_
  refine wK <| wS ?_
  refine Wp.cut (fun f be => ∃ (a7 : Col) (co : Option Addr) (cp : Nat) (b6 : List Int) (cq : Option Addr) (cr : Nat) (b7 : List Int), m_dag_sorted_J2 ab (m_dag_sorted_L1 N ac c5) b6 b7 = some r ∧ St w0 (col0 col) a7 be ∧ Sl (Rep.slice (Rep.int .i64)) a7 be a1 cap1 ac ∧ Sl (Rep.slice (Rep.int .i64)) a7 be a0 cap0 aa ∧ Own (Rep.int .i64) 3 1 a7 be co cp b6 ∧ Own (Rep.int .i64) 3 3 a7 be cq cr b7 ∧ Box 184 2 a7 be ai #[(.slice cq b7.length cr)] ∧ f 1 = (.slice a1 ac.length cap1) ∧ f 16 = (.slice a0 aa.length cap0) ∧ f 17 = (.int .i64 (aa.length : Int)) ∧ f 18 = (.int .i64 (ab : Int)) ∧ f 5 = (.slice co b6.length cp) ∧ f 6 = (.pointer (some ⟨ai, 0, none⟩)) ∧ f 1000000 = (enc [])) ?_ ?_
  ·intro f be hJ
   obtain ⟨a7, co, cp, b6, cq, cr, b7, hm, hst, h1, h0, dz, d0, af, hs1, hs16, hs17, hs18, hs5, hs6, hs1000000⟩ := hJ
   rw [m_dag_sorted_J2.eq_1] at hm
   refine .lD 1 hs1 <| .lD 16 hs16 <| .lD 17 hs17 <| .lD 18 hs18 <| .lD 5 hs5 <| .lD 6 hs6 <| .lD 1000000 hs1000000 ?_
   clear hs1 hs16 hs17 hs18 hs5 hs6 hs1000000
   refine wR <| lV (.int .i64 (IntKind.i64.wrap ((ab : Int) + 1))) (r_add (ab : Int) 1 rfl rfl) <| lM (.int .i64 (IntKind.i64.wrap ((ab : Int) + 1))) <| lN ?_
   exact ⟨c5.length, by simp, ⟨a7, (ab + 1), co, cp, b6, cq, cr, b7, c5, rfl, hl2_L1, hm, hst, h1, h0, dz, d0, af, (congrArg (Value.int .i64) (wrap_succ (Nat.lt_of_lt_of_le hlt_L1 h0.1.1))), rfl, rfl, rfl, rfl, rfl, rfl⟩⟩
  refine wB <| wS <| wR <| lM (.int .i64 (ab : Int)) ?_
  refine lV (sptr a0 (Int.toNat (ab : Int) * 1)) (r_idx Tryz.underlying25 Tryz.sizeOf33 rfl rfl (at?_some hat).1 (at?_some hat).2.1 (h0.addr hat)) ?_
  obtain ⟨_, d1, d2⟩ := h0.atN hat
  obtain ⟨⟨ct, cu, rfl, eg⟩, _⟩ := d1
  refine lV (.slice ct aj.length cu) (r_ld Tryz.isAgg33 rfl d2.one) <| lA (.int .i64 (ab : Int)) <| lA (.slice ct aj.length cu) <| lN <| wS <| wR <| lM (.slice ao a2.length av) <| lM (.int .i64 (ab : Int)) <| lM (.slice ct aj.length cu) <| lV (.int .i64 (aj.length : Int)) (r_len Tryz.underlying33 rfl) ?_
  obtain ⟨eh, cv, hm⟩ := bS hm
  refine lV (sptr ao (Int.toNat (ab : Int) * 1)) (r_idx Tryz.underlying33 Tryz.sizeOf3 rfl rfl (at?_some cv).1 (at?_some cv).2.1 (cc.addr cv)) ?_
  obtain ⟨b8, cw, hm⟩ := bS hm
  have cw : b8 = a2.set (Int.toNat (ab : Int)) (aj.length : Int) := (Option.some.inj cw).symm
  refine l_store (x1 := (aj.length : Int)) (v := (.int .i64 (aj.length : Int))) cc cv rfl Tryz.sizeOf3 (rd_int .i64 (aj.length : Int)) rfl rfl (by decide) ?_
  intro ei b9 d3 ca
  rw [← cw] at ca
  refine .ld (d := 5) (v := (.slice ao b8.length av)) (congrArg (fun n => Value.slice ao n av) (show a2.length = b8.length by rw [cw, List.length_set])) ?_
  clear cc
  refine lN <| wS <| wR <| lM (.slice ct aj.length cu) <| lV (.int .i64 (aj.length : Int)) (r_len Tryz.underlying33 rfl) <| lV (.bool (decide ((aj.length : Int) = 0))) (r_eql (aj.length : Int) 0 rfl rfl) <| lN ?_
  replace h1 := h1.kp b9
  replace h0 := h0.kp b9
  replace bh := bh.kp b9
  replace af := af.kp b9
  replace hst := hst.kp b9 d3
  refine wcond (decide ((aj.length : Int) = 0)) rfl (fun hb => ?_) (fun hb => ?_)
  ·rw [if_pos hb] at hm
   clear hb
   refine wR <| lM (.int .i64 (ab : Int)) ?_
   obtain ⟨dc, d4, hm⟩ := bS hm
   refine lc rfl rfl (r_call2 Tryz.call151 rfl rfl) (c_dag_heap_push N an _ 2 3 rfl ai a9 bf bg (ab : Int) bh af dc d4) ?_
   rintro _ ej ⟨d5, d6, d7, rfl, cx, d8, d9⟩
   refine ⟨_, rfl, ?_⟩
   clear bh
   clear af
   refine lN ?_
   replace h1 := h1.kpp cx
   replace h0 := h0.kpp cx
   replace ca := ca.kpp cx
   replace hst := hst.kpp cx
   exact ⟨d5, ao, av, b8, d6, d7, dc, hm, hst, h1, h0, ca, d8, d9, rfl, rfl, rfl, rfl, rfl, rfl, rfl⟩
  rw [if_neg (by rw [hb]; decide)] at hm
  clear hb
  refine wK ?_
  exact ⟨an, ao, av, b8, bf, bg, a9, hm, hst, h1, h0, ca, bh, af, rfl, rfl, rfl, rfl, rfl, rfl, rfl⟩
def m_dag_Order (N : Nat) (aa : (List (List Int))) : Option ((List Int) × Int) :=
  (m_dag_fits aa).bind fun ac => if (!decide (ac = 0)) = true then none else ((m_dag_children aa).bind fun ad => (m_dag_sorted N aa ad).bind fun ab => if (decide ((ab.length : Int) < (aa.length : Int))) = true then none else (some (ab, 0)))
theorem c_dag_Order (N : Nat) (c1 : Nat) (col : Col) (w0 : World) (a0 : Option Addr) (cap0 : Nat) (aa : (List (List Int))) (h0 : Sl (Rep.slice (Rep.int .i64)) col w0 a0 cap0 aa) (r : ((List Int) × Int)) (hm : m_dag_Order N aa = some r) :
    Calls Tryz.prog 70 #[(.slice a0 aa.length cap0)] w0 (fun e w' => ∃ (col' : Col) (ra1 : Option Addr) (rc2 : Nat), e = .returned (.tuple #[(.slice ra1 r.1.length rc2), (.int .i64 r.2)]) ∧ Grow col w0 col' w' ∧ Own (Rep.int .i64) 3 c1 col' w' ra1 rc2 r.1) := by
 refine calls_of2 2 3 (m := 21) (args := [(.slice a0 aa.length cap0)]) Tryz.func70 rfl rfl rfl rfl rfl ?_
 rw [m_dag_Order.eq_1] at hm
 have hst := St.start col w0
 refine wS <| wR <| lA (.slice none (([] : List Int).length) 0) <| lA (.int .i64 0) <| lN <| wS <| wS <| wR <| lM (.slice a0 aa.length cap0) ?_
 obtain ⟨ac, al, hm⟩ := bS hm
 replace h0 := h0.keep (Stay.start col w0)
 refine lc rfl rfl (r_call1 Tryz.call121 rfl) (c_dag_fits (col0 col) _ a0 cap0 aa h0 ac al) ?_
 rintro _ am ⟨rfl, af⟩
 refine ⟨_, rfl, ?_⟩
 replace af : Grow (col0 col) w0 (col0 col) am := .of_below af
 refine lA (.int .i64 ac) <| lN <| wS <| wR <| lM (.int .i64 ac) <| lV (.bool (!decide (ac = 0))) (r_neq ac 0 rfl rfl) <| lN ?_
 replace h0 := h0.gr af
 replace hst := hst.grow af
 refine wcond (!decide (ac = 0)) rfl (fun hb => ?_) (fun hb => ?_)
 ·rw [if_pos hb] at hm
  clear hb
  cases hm
 rw [if_neg (by rw [hb]; decide)] at hm
 clear hb
 refine wK <| wS <| wR <| lM (.slice a0 aa.length cap0) <| lM (.slice a0 aa.length cap0) ?_
 obtain ⟨aj, an, hm⟩ := bS hm
 refine lc rfl rfl (r_call1 Tryz.call123 rfl) (c_dag_children 1 (col0 col) _ a0 cap0 aa h0 aj an) ?_
 rintro _ ao ⟨ag, ap, aq, rfl, ak, ar⟩
 refine ⟨_, rfl, ?_⟩
 obtain ⟨ab, au, hm⟩ := bS hm
 replace h0 := h0.gr ak
 refine lc rfl rfl (r_call2 Tryz.call122 rfl rfl) (c_dag_sorted N 2 (frC 1 ag) _ a0 cap0 aa ap aq aj (h0.froz 1) (ar.toSlF (Froz.row (Froz.int .i64))) ab au) ?_
 rintro _ ax ⟨av, ad, ae, rfl, ah, ai⟩
 refine ⟨_, rfl, ?_⟩
 replace ai := ai.thaw (flat_int .i64) ah ((Fz.refl (col := ag)).froz 1) (by decide)
 replace ah := ah.thawR (col := ag)
 generalize colR ao.heap.size ag av = aw at *
 refine lA (.slice ad ab.length ae) <| lN <| wS <| wS <| wR <| lM (.slice ad ab.length ae) <| lV (.int .i64 (ab.length : Int)) (r_len Tryz.underlying33 rfl) <| lM (.slice a0 aa.length cap0) <| lV (.int .i64 (aa.length : Int)) (r_len Tryz.underlying25 rfl) <| lV (.bool (decide ((ab.length : Int) < (aa.length : Int)))) (r_lss (ab.length : Int) (aa.length : Int) rfl rfl) <| lN ?_
 replace hst := (hst.grow ak).grow ah
 refine wcond (decide ((ab.length : Int) < (aa.length : Int))) rfl (fun hb => ?_) (fun hb => ?_)
 ·rw [if_pos hb] at hm
  clear hb
  cases hm
 rw [if_neg (by rw [hb]; decide)] at hm
 clear hb
 refine wK <| wS <| wR <| lM (.slice ad ab.length ae) <| lA (.slice ad ab.length ae) <| lA (.int .i64 0) <| lN ?_
 refine wret ?_
 cases hm
 exact ⟨rfl, colF w0.heap.size col aw (fun n => bif Nat.beq n 2 then c1 else 0), ad, ae, rfl, hst.fin (fun n => bif Nat.beq n 2 then c1 else 0), hst.finOwn (g := (fun n => bif Nat.beq n 2 then c1 else 0)) rfl ai (by decide) (by decide) rfl⟩
def m_dag_Check (N : Nat) (aa : (List (List Int))) : Option Int :=
  (m_dag_Order N aa).bind fun ab => some ab.2
theorem c_dag_Check (N : Nat) (col : Col) (w0 : World) (a0 : Option Addr) (cap0 : Nat) (ab : (List (List Int))) (h0 : Sl (Rep.slice (Rep.int .i64)) col w0 a0 cap0 ab) (r : Int) (hm : m_dag_Check N ab = some r) :
    Calls Tryz.prog 115 #[(.slice a0 ab.length cap0)] w0 (fun e w' => e = .returned ((.int .i64 r)) ∧ Below w0.heap.size w0 w') := by
 refine calls_of1 2 (m := 11) (args := [(.slice a0 ab.length cap0)]) Tryz.func115 rfl rfl rfl rfl rfl ?_
 rw [m_dag_Check.eq_1] at hm
 have hst := St.start col w0
 refine wS <| wR <| lA (.int .i64 0) <| lN <| wS <| wR <| lM (.slice a0 ab.length cap0) ?_
 obtain ⟨aa, ae, hm⟩ := bS hm
 replace h0 := h0.keep (Stay.start col w0)
 refine lc rfl rfl (r_call1 Tryz.call70 rfl) (c_dag_Order N 1 (col0 col) _ a0 cap0 ab h0 aa ae) ?_
 rintro _ ag ⟨ah, ac, ad, rfl, af, ai⟩
 refine ⟨_, rfl, ?_⟩
 refine lM (.tuple #[(.slice ac aa.1.length ad), (.int .i64 aa.2)]) <| lV (.slice ac aa.1.length ad) (r_extract rfl rfl) <| lV (.int .i64 aa.2) (r_extract rfl rfl) <| lA (.slice ac aa.1.length ad) <| lA (.int .i64 aa.2) <| lN <| wS <| wR <| lM (.int .i64 aa.2) <| lA (.int .i64 aa.2) <| lN ?_
 refine wret ?_
 cases hm
 replace hst := hst.grow af
 exact ⟨rfl, rfl, hst.below⟩
def m_nat_trim_J1 (aa : List Int) (kk_L1 : ((List Int) → Option (List Int))) (ab : Bool) : Option (List Int) :=
  if ab = true then (chk ((0 : Int) ≤ (IntKind.i64.wrap ((aa.length : Int) - 1)) ∧ (IntKind.i64.wrap ((aa.length : Int) - 1)) ≤ (aa.length : Int)) (kk_L1 (aa.take (Int.toNat (IntKind.i64.wrap ((aa.length : Int) - 1)))))) else (some aa)
def m_nat_trim_L1 (N : Nat)  : Nat → (List Int) → Option (List Int)
  | 0, _ => none
  | ab + 1, aa => if (decide (0 < (aa.length : Int))) = true then ((at? aa (IntKind.i64.wrap ((aa.length : Int) - 1))).bind fun ac => m_nat_trim_J1 aa (m_nat_trim_L1 N ab) (decide (ac = 0))) else (m_nat_trim_J1 aa (m_nat_trim_L1 N ab) false)
termination_by structural x => x
def m_nat_trim (N : Nat) (aa : (List Int)) : Option (List Int) :=
  m_nat_trim_L1 N N aa
theorem c_nat_trim (N : Nat) (col : Col) (w0 : World) (a0 : Option Addr) (cap0 : Nat) (ag : (List Int)) (h0 : Sl (Rep.int .u32) col w0 a0 cap0 ag) (r : (List Int)) (hm : m_nat_trim N ag = some r) :
    Calls Tryz.prog 88 #[(.slice a0 ag.length cap0)] w0 (fun e w' => ∃ (col' : Col) (ra1 : Option Addr) (rc2 : Nat), e = .returned ((.slice ra1 r.length rc2)) ∧ Grow col w0 col' w' ∧ Sl (Rep.int .u32) col' w' ra1 rc2 r) := by
 refine calls_of1 2 (m := 21) (args := [(.slice a0 ag.length cap0)]) Tryz.func88 rfl rfl rfl rfl rfl ?_
 rw [m_nat_trim.eq_1] at hm
 have hst := St.start col w0
 refine wS <| wR <| lA (.slice none (([] : List Int).length) 0) <| lN <| wS <| wB ?_
 replace h0 := h0.keep (Stay.start col w0)
 refine wloop (fun n f am => ∃ (ah : Col) (ac : Option Addr) (ad : Nat) (aa : List Int) (ae : Nat), ae = n ∧ m_nat_trim_L1 N ae aa = some r ∧ St w0 (col0 col) ah am ∧ Sl (Rep.int .u32) ah am ac ad aa ∧ f 0 = (.slice ac aa.length ad) ∧ f 1000000 = (enc [])) N ⟨(col0 col), a0, cap0, ag, N, rfl, hm, hst, h0, rfl, rfl⟩ ?_
 clear hm; intro n f am hI
 obtain ⟨ah, ac, ad, aa, ae, hn, hm, hst, af, hs0, hs1000000⟩ := hI
 subst hn
 refine .lD 0 hs0 <| .lD 1000000 hs1000000 ?_
 clear hs0 hs1000000
 cases ae with
 | zero => rw [m_nat_trim_L1.eq_1] at hm; cases hm
 | succ ae =>
  rw [m_nat_trim_L1.eq_2] at hm
  refine wS <| wS ?_
  refine Wp.cut (fun f an => ∃ (ai : Col) (ak : Bool), m_nat_trim_J1 aa (m_nat_trim_L1 N ae) ak = some r ∧ St w0 (col0 col) ai an ∧ Sl (Rep.int .u32) ai an ac ad aa ∧ f 0 = (.slice ac aa.length ad) ∧ f 14 = (.bool ak) ∧ f 1000000 = (enc [])) ?_ ?_
  ·intro f an hJ
   obtain ⟨ai, ak, hm, hst, af, hs0, hs14, hs1000000⟩ := hJ
   rw [m_nat_trim_J1.eq_1] at hm
   refine .lD 0 hs0 <| .lD 14 hs14 <| .lD 1000000 hs1000000 ?_
   clear hs0 hs14 hs1000000
   refine wcond (ak) rfl (fun hb => ?_) (fun hb => ?_)
   ·rw [if_pos hb] at hm
    clear hb
    refine wK <| wB <| wR <| lM (.slice ac aa.length ad) <| lM (.slice ac aa.length ad) <| lV (.int .i64 (aa.length : Int)) (r_len Tryz.underlying36 rfl) <| lV (.int .i64 (IntKind.i64.wrap ((aa.length : Int) - 1))) (r_sub (aa.length : Int) 1 rfl rfl) ?_
    obtain ⟨ao, hm⟩ := cS hm
    refine lv (v := .slice ac (Int.toNat (IntKind.i64.wrap ((aa.length : Int) - 1))) ad) rfl rfl (r_sliceH Tryz.underlying36 Tryz.sizeOf114 rfl rfl ao.1 (by have := af.1.2; have := ao.2; omega)) ?_
    refine .ld (d := 19) (v := (.slice ac ((aa.take (Int.toNat (IntKind.i64.wrap ((aa.length : Int) - 1)))).length) ad)) (congrArg (fun n => Value.slice ac n ad) (List.length_take_of_le (show (Int.toNat (IntKind.i64.wrap ((aa.length : Int) - 1))) ≤ aa.length by have := ao.2; omega)).symm) ?_
    refine lA (.slice ac ((aa.take (Int.toNat (IntKind.i64.wrap ((aa.length : Int) - 1)))).length) ad) <| lN ?_
    exact ⟨ae, by omega, ⟨ai, ac, ad, (aa.take (Int.toNat (IntKind.i64.wrap ((aa.length : Int) - 1)))), ae, rfl, hm, hst, (af.take (Int.toNat (IntKind.i64.wrap ((aa.length : Int) - 1)))), rfl, rfl⟩⟩
   rw [if_neg (by rw [hb]; decide)] at hm
   clear hb
   refine wexit (inB_hit ?_)
   refine wS <| wR <| lM (.slice ac aa.length ad) <| lA (.slice ac aa.length ad) <| lN ?_
   refine wret ?_
   cases hm
   exact ⟨rfl, colF w0.heap.size col ai (fun n => 0), ac, ad, rfl, hst.fin (fun n => 0), hst.finSl (g := (fun n => 0)) rfl af⟩
  refine wR <| lM (.slice ac aa.length ad) <| lV (.int .i64 (aa.length : Int)) (r_len Tryz.underlying36 rfl) <| lV (.bool (decide (0 < (aa.length : Int)))) (r_gtr (aa.length : Int) 0 rfl rfl) <| lM (.bool (decide (0 < (aa.length : Int)))) ?_
  by_cases ab : (decide (0 < (aa.length : Int))) = true
  ·rw [if_pos ab] at hm
   refine lg (b := decide (0 < (aa.length : Int))) 6 rfl rfl rfl (by rw [ab]; rfl) ?_
   refine lM (.slice ac aa.length ad) ?_
   refine lg (b := decide (0 < (aa.length : Int))) 6 rfl rfl rfl (by rw [ab]; rfl) ?_
   refine lM (.slice ac aa.length ad) ?_
   refine lg (b := decide (0 < (aa.length : Int))) 6 rfl rfl rfl (by rw [ab]; rfl) ?_
   refine lV (.int .i64 (aa.length : Int)) (r_len Tryz.underlying36 rfl) ?_
   refine lg (b := decide (0 < (aa.length : Int))) 6 rfl rfl rfl (by rw [ab]; rfl) ?_
   refine lV (.int .i64 (IntKind.i64.wrap ((aa.length : Int) - 1))) (r_sub (aa.length : Int) 1 rfl rfl) ?_
   refine lg (b := decide (0 < (aa.length : Int))) 6 rfl rfl rfl (by rw [ab]; rfl) ?_
   obtain ⟨aj, al, hm⟩ := bS hm
   refine lV (sptr ac (Int.toNat (IntKind.i64.wrap ((aa.length : Int) - 1)) * 1)) (r_idx Tryz.underlying36 Tryz.sizeOf114 rfl rfl (at?_some al).1 (at?_some al).2.1 (af.addr al)) ?_
   refine lg (b := decide (0 < (aa.length : Int))) 6 rfl rfl rfl (by rw [ab]; rfl) ?_
   refine lV (.int .u32 aj) (r_ld Tryz.isAgg114 rfl (af.atInt al)) ?_
   refine lg (b := decide (0 < (aa.length : Int))) 6 rfl rfl rfl (by rw [ab]; rfl) ?_
   refine lV (.bool (decide (aj = 0))) (r_eql aj 0 rfl rfl) <| lV (.bool (decide (aj = 0))) (r_pickT (congrArg Value.bool ab) rfl) <| lN ?_
   exact ⟨ah, (decide (aj = 0)), hm, hst, af, rfl, rfl, rfl⟩
  rw [if_neg ab] at hm
  replace ab := Bool.eq_false_iff.2 ab
  refine lp (b := decide (0 < (aa.length : Int))) 6 rfl rfl rfl rfl (by rw [ab]; rfl) ?_
  refine lp (b := decide (0 < (aa.length : Int))) 6 rfl rfl rfl rfl (by rw [ab]; rfl) ?_
  refine lp (b := decide (0 < (aa.length : Int))) 6 rfl rfl rfl rfl (by rw [ab]; rfl) ?_
  refine lp (b := decide (0 < (aa.length : Int))) 6 rfl rfl rfl rfl (by rw [ab]; rfl) ?_
  refine lp (b := decide (0 < (aa.length : Int))) 6 rfl rfl rfl rfl (by rw [ab]; rfl) ?_
  refine lp (b := decide (0 < (aa.length : Int))) 6 rfl rfl rfl rfl (by rw [ab]; rfl) ?_
  refine lp (b := decide (0 < (aa.length : Int))) 6 rfl rfl rfl rfl (by rw [ab]; rfl) ?_
  refine lV (.bool false) (r_pickF (congrArg Value.bool ab) rfl) <| lN ?_
  exact ⟨ah, false, hm, hst, af, rfl, rfl, rfl⟩

end Go.Proofs.YtonkjfnjadofpaaGreat
