/-
  What functions of the program compute, as plain Lean functions (m_..), and proofs that they compute it (c_..). Printed by a program of the author; no conditions.
-/
import Derived.Test.YtonkjfnjadofpaaGreatLearnNamesBFloat
import Derived.Test.YtonkjfnjadofpaaGreatProg
import Derived.Test.YtonkjfnjadofpaaGreatLearnNamesBThree
set_option linter.unusedVariables false
set_option maxRecDepth 100000
set_option maxHeartbeats 2000000
namespace Go.Proofs.YtonkjfnjadofpaaGreat
open Go Go.RowKit

def m_nat_trim_J1 (aa : List Int) (kk_L1 : ((List Int) → Option (List Int))) (ab : Bool) : Option (List Int) :=
  if ab = true then (chk ((0 : Int) ≤ (IntKind.i64.wrap ((aa.length : Int) - 1)) ∧ (IntKind.i64.wrap ((aa.length : Int) - 1)) ≤ (aa.length : Int)) (kk_L1 (aa.take (Int.toNat (IntKind.i64.wrap ((aa.length : Int) - 1)))))) else (some aa)
def m_nat_trim_L1 (N : Nat)  : Nat → (List Int) → Option (List Int)
  | 0, _ => none
  | ab + 1, aa => if (decide (0 < (aa.length : Int))) = true then ((at? aa (IntKind.i64.wrap ((aa.length : Int) - 1))).bind fun ac => m_nat_trim_J1 aa (m_nat_trim_L1 N ab) (decide (ac = 0))) else (m_nat_trim_J1 aa (m_nat_trim_L1 N ab) false)
termination_by structural x => x
def m_nat_trim (N : Nat) (aa : (List Int)) : Option (List Int) :=
  m_nat_trim_L1 N N aa
theorem c_nat_trim (N : Nat) (col : Col) (w0 : World) (a0 : Option Addr) (cap0 : Nat) (ag : (List Int)) (h0 : Sl (Rep.int .u32) col w0 a0 cap0 ag) (r : (List Int)) (hm : m_nat_trim N ag = some r) :
    Calls Tryz.prog 88 #[(.slice a0 ag.length cap0)] w0 (fun e w' => ∃ (col' : Col) (ra1 : Option Addr) (rc2 : Nat), e = .returned ((.slice ra1 r.length rc2)) ∧ Grow col w0 col' w' ∧ Sl (Rep.int .u32) col' w' ra1 rc2 r) := by
 refine calls_of1 2 (m := 21) (args := [(.slice a0 ag.length cap0)]) Tryz.func88 rfl rfl rfl rfl rfl ?_
 rw [m_nat_trim.eq_1] at hm
 have hst := St.start col w0
 refine wS <| wR <| lA (.slice none (([] : List Int).length) 0) <| lN <| wS <| wB ?_
 replace h0 := h0.keep (Stay.start col w0)
 refine wloop (fun n f am => ∃ (ah : Col) (ac : Option Addr) (ad : Nat) (aa : List Int) (ae : Nat), ae = n ∧ m_nat_trim_L1 N ae aa = some r ∧ St w0 (col0 col) ah am ∧ Sl (Rep.int .u32) ah am ac ad aa ∧ f 0 = (.slice ac aa.length ad) ∧ f 1000000 = (enc [])) N ⟨(col0 col), a0, cap0, ag, N, rfl, hm, hst, h0, rfl, rfl⟩ ?_
 clear hm; intro n f am hI
 obtain ⟨ah, ac, ad, aa, ae, hn, hm, hst, af, hs0, hs1000000⟩ := hI
 subst hn
 refine .lD 0 hs0 <| .lD 1000000 hs1000000 ?_
 clear hs0 hs1000000
 cases ae with
 | zero => rw [m_nat_trim_L1.eq_1] at hm; cases hm
 | succ ae =>
  rw [m_nat_trim_L1.eq_2] at hm
  refine wS <| wS ?_
  refine Wp.cut (fun f an => ∃ (ai : Col) (ak : Bool), m_nat_trim_J1 aa (m_nat_trim_L1 N ae) ak = some r ∧ St w0 (col0 col) ai an ∧ Sl (Rep.int .u32) ai an ac ad aa ∧ f 0 = (.slice ac aa.length ad) ∧ f 14 = (.bool ak) ∧ f 1000000 = (enc [])) ?_ ?_
  ·intro f an hJ
   obtain ⟨ai, ak, hm, hst, af, hs0, hs14, hs1000000⟩ := hJ
   rw [m_nat_trim_J1.eq_1] at hm
   refine .lD 0 hs0 <| .lD 14 hs14 <| .lD 1000000 hs1000000 ?_
   clear hs0 hs14 hs1000000
   refine wcond (ak) rfl (fun hb => ?_) (fun hb => ?_)
   ·rw [if_pos hb] at hm
    clear hb
    refine wK <| wB <| wR <| lM (.slice ac aa.length ad) <| lM (.slice ac aa.length ad) <| lV (.int .i64 (aa.length : Int)) (r_len Tryz.underlying36 rfl) <| lV (.int .i64 (IntKind.i64.wrap ((aa.length : Int) - 1))) (r_sub (aa.length : Int) 1 rfl rfl) ?_
    obtain ⟨ao, hm⟩ := cS hm
    refine lv (v := .slice ac (Int.toNat (IntKind.i64.wrap ((aa.length : Int) - 1))) ad) rfl rfl (r_sliceH Tryz.underlying36 Tryz.sizeOf114 rfl rfl ao.1 (by have := af.1.2; have := ao.2; omega)) ?_
    refine .ld (d := 19) (v := (.slice ac ((aa.take (Int.toNat (IntKind.i64.wrap ((aa.length : Int) - 1)))).length) ad)) (congrArg (fun n => Value.slice ac n ad) (List.length_take_of_le (show (Int.toNat (IntKind.i64.wrap ((aa.length : Int) - 1))) ≤ aa.length by have := ao.2; omega)).symm) ?_
    refine lA (.slice ac ((aa.take (Int.toNat (IntKind.i64.wrap ((aa.length : Int) - 1)))).length) ad) <| lN ?_
    exact ⟨ae, by omega, ⟨ai, ac, ad, (aa.take (Int.toNat (IntKind.i64.wrap ((aa.length : Int) - 1)))), ae, rfl, hm, hst, (af.take (Int.toNat (IntKind.i64.wrap ((aa.length : Int) - 1)))), rfl, rfl⟩⟩
   rw [if_neg (by rw [hb]; decide)] at hm
   clear hb
   refine wexit (inB_hit ?_)
   refine wS <| wR <| lM (.slice ac aa.length ad) <| lA (.slice ac aa.length ad) <| lN ?_
   refine wret ?_
   cases hm
   exact ⟨rfl, colF w0.heap.size col ai (fun n => 0), ac, ad, rfl, hst.fin (fun n => 0), hst.finSl (g := (fun n => 0)) rfl af⟩
  refine wR <| lM (.slice ac aa.length ad) <| lV (.int .i64 (aa.length : Int)) (r_len Tryz.underlying36 rfl) <| lV (.bool (decide (0 < (aa.length : Int)))) (r_gtr (aa.length : Int) 0 rfl rfl) <| lM (.bool (decide (0 < (aa.length : Int)))) ?_
  by_cases ab : (decide (0 < (aa.length : Int))) = true
  ·rw [if_pos ab] at hm
   refine lg (b := decide (0 < (aa.length : Int))) 6 rfl rfl rfl (by rw [ab]; rfl) ?_
   refine lM (.slice ac aa.length ad) ?_
   refine lg (b := decide (0 < (aa.length : Int))) 6 rfl rfl rfl (by rw [ab]; rfl) ?_
   refine lM (.slice ac aa.length ad) ?_
   refine lg (b := decide (0 < (aa.length : Int))) 6 rfl rfl rfl (by rw [ab]; rfl) ?_
   refine lV (.int .i64 (aa.length : Int)) (r_len Tryz.underlying36 rfl) ?_
   refine lg (b := decide (0 < (aa.length : Int))) 6 rfl rfl rfl (by rw [ab]; rfl) ?_
   refine lV (.int .i64 (IntKind.i64.wrap ((aa.length : Int) - 1))) (r_sub (aa.length : Int) 1 rfl rfl) ?_
   refine lg (b := decide (0 < (aa.length : Int))) 6 rfl rfl rfl (by rw [ab]; rfl) ?_
   obtain ⟨aj, al, hm⟩ := bS hm
   refine lV (sptr ac (Int.toNat (IntKind.i64.wrap ((aa.length : Int) - 1)) * 1)) (r_idx Tryz.underlying36 Tryz.sizeOf114 rfl rfl (at?_some al).1 (at?_some al).2.1 (af.addr al)) ?_
   refine lg (b := decide (0 < (aa.length : Int))) 6 rfl rfl rfl (by rw [ab]; rfl) ?_
   refine lV (.int .u32 aj) (r_ld Tryz.isAgg114 rfl (af.atInt al)) ?_
   refine lg (b := decide (0 < (aa.length : Int))) 6 rfl rfl rfl (by rw [ab]; rfl) ?_
   refine lV (.bool (decide (aj = 0))) (r_eql aj 0 rfl rfl) <| lV (.bool (decide (aj = 0))) (r_pickT (congrArg Value.bool ab) rfl) <| lN ?_
   exact ⟨ah, (decide (aj = 0)), hm, hst, af, rfl, rfl, rfl⟩
  rw [if_neg ab] at hm
  replace ab := Bool.eq_false_iff.2 ab
  refine lp (b := decide (0 < (aa.length : Int))) 6 rfl rfl rfl rfl (by rw [ab]; rfl) ?_
  refine lp (b := decide (0 < (aa.length : Int))) 6 rfl rfl rfl rfl (by rw [ab]; rfl) ?_
  refine lp (b := decide (0 < (aa.length : Int))) 6 rfl rfl rfl rfl (by rw [ab]; rfl) ?_
  refine lp (b := decide (0 < (aa.length : Int))) 6 rfl rfl rfl rfl (by rw [ab]; rfl) ?_
  refine lp (b := decide (0 < (aa.length : Int))) 6 rfl rfl rfl rfl (by rw [ab]; rfl) ?_
  refine lp (b := decide (0 < (aa.length : Int))) 6 rfl rfl rfl rfl (by rw [ab]; rfl) ?_
  refine lp (b := decide (0 < (aa.length : Int))) 6 rfl rfl rfl rfl (by rw [ab]; rfl) ?_
  refine lV (.bool false) (r_pickF (congrArg Value.bool ab) rfl) <| lN ?_
  exact ⟨ah, false, hm, hst, af, rfl, rfl, rfl⟩
theorem el114_130 : ElemOk Tryz.prog 114 1 4 := ⟨Tryz.t114, _, rfl, rfl, rfl, rfl, rfl⟩
def m_slices_Clone_api_Nat_uint32 (aa : (List Int)) : Option (List Int) :=
  chk ((([] : List Int).length + aa.length) * 4 ≤ 140737488355328 ∧ ([] : List Int).length + aa.length ≤ maxLen) (some (([] : List Int) ++ aa))
theorem c_slices_Clone_api_Nat_uint32 (c1 : Nat) (col : Col) (w0 : World) (a0 : Option Addr) (cap0 : Nat) (aa : (List Int)) (h0 : Sl (Rep.int .u32) col w0 a0 cap0 aa) (r : (List Int)) (hm : m_slices_Clone_api_Nat_uint32 aa = some r) :
    Calls Tryz.prog 130 #[(.slice a0 aa.length cap0)] w0 (fun e w' => ∃ (col' : Col) (ra1 : Option Addr) (rc2 : Nat), e = .returned ((.slice ra1 r.length rc2)) ∧ Grow col w0 col' w' ∧ Own (Rep.int .u32) 114 c1 col' w' ra1 rc2 r) := by
 refine calls_of1 2 (m := 8) (args := [(.slice a0 aa.length cap0)]) Tryz.func130 rfl rfl rfl rfl rfl ?_
 rw [m_slices_Clone_api_Nat_uint32.eq_1] at hm
 have hst := St.start col w0
 refine wS <| wR <| lA (.slice none (([] : List Int).length) 0) <| lN <| wS <| wS <| wR <| lM (.slice a0 aa.length cap0) ?_
 replace h0 := h0.keep (Stay.start col w0)
 rcases nil_or h0 with ab | ab
 ·replace hm : some ([] : List Int) = some r := by have h0 := ab.2; subst h0; simpa [chk, maxLen] using hm
  refine lv (v := .bool a0.isNone) rfl rfl (r_eqlNil Tryz.underlying36 rfl) ?_
  refine .ld (d := 4) (v := .bool true) (congrArg Value.bool ab.1) ?_
  refine lN ?_
  refine wcondT rfl ?_
  refine wS <| wR <| lA (.slice none (([] : List Int).length) 0) <| lN ?_
  refine wret ?_
  cases hm
  exact ⟨rfl, colF w0.heap.size col (col0 col) (fun n => 0), none, 0, rfl, hst.fin (fun n => 0), Own.nil⟩
 refine lv (v := .bool a0.isNone) rfl rfl (r_eqlNil Tryz.underlying36 rfl) ?_
 refine .ld (d := 4) (v := .bool false) (congrArg Value.bool ab) ?_
 refine lN ?_
 refine wcondF rfl ?_
 refine wK <| wS <| wR ?_
 refine l_lit0 (col := (col0 col)) (r := (Rep.int .u32)) 1 rfl Tryz.underlying36 el114_130 rfl ?_
 intro am ah ai ac ad
 refine lM (.slice a0 aa.length cap0) ?_
 obtain ⟨ae, hm⟩ := cS hm
 replace h0 := h0.gr ac
 refine l_appendM (col := ai) (w := ah) (r := (Rep.int .u32)) (c := 1) (c2 := 1) (xs := ([] : List Int)) (ys := aa) ad h0.srcC rfl Tryz.underlying36 el114_130 rfl rfl rfl ae.1 ae.2 (by decide) ?_
 intro af ag an aj ak al
 clear ad
 refine lA (.slice af ((([] : List Int) ++ aa).length) ag) <| lN ?_
 refine wret ?_
 cases hm
 replace hst := (hst.grow ac).kpp ak
 exact ⟨rfl, colF w0.heap.size col aj (fun n => bif Nat.beq n 1 then c1 else 0), af, ag, rfl, hst.fin (fun n => bif Nat.beq n 1 then c1 else 0), hst.finOwn (g := (fun n => bif Nat.beq n 1 then c1 else 0)) rfl al (by decide) (by decide) rfl⟩
def m_nat_own (N : Nat) (ab : (List Int)) : Option (List Int) :=
  (m_nat_trim N ab).bind fun aa => if (decide ((aa.length : Int) = 0)) = true then (some ([] : List Int)) else ((m_slices_Clone_api_Nat_uint32 aa).bind fun ac => some ac)
theorem c_nat_own (N : Nat) (c1 : Nat) (col : Col) (w0 : World) (a0 : Option Addr) (cap0 : Nat) (ab : (List Int)) (h0 : Sl (Rep.int .u32) col w0 a0 cap0 ab) (r : (List Int)) (hm : m_nat_own N ab = some r) :
    Calls Tryz.prog 89 #[(.slice a0 ab.length cap0)] w0 (fun e w' => ∃ (col' : Col) (ra1 : Option Addr) (rc2 : Nat), e = .returned ((.slice ra1 r.length rc2)) ∧ Grow col w0 col' w' ∧ Own (Rep.int .u32) 114 c1 col' w' ra1 rc2 r) := by
 refine calls_of1 2 (m := 10) (args := [(.slice a0 ab.length cap0)]) Tryz.func89 rfl rfl rfl rfl rfl ?_
 rw [m_nat_own.eq_1] at hm
 have hst := St.start col w0
 refine wS <| wR <| lA (.slice none (([] : List Int).length) 0) <| lN <| wS <| wR <| lM (.slice a0 ab.length cap0) ?_
 obtain ⟨aa, ai, hm⟩ := bS hm
 replace h0 := h0.keep (Stay.start col w0)
 refine lc rfl rfl (r_call1 Tryz.call88 rfl) (c_nat_trim N (col0 col) _ a0 cap0 ab h0 aa ai) ?_
 rintro _ ap ⟨ae, ac, ad, rfl, aj, ak⟩
 refine ⟨_, rfl, ?_⟩
 refine lA (.slice ac aa.length ad) <| lN <| wS <| wS <| wR <| lM (.slice ac aa.length ad) <| lV (.int .i64 (aa.length : Int)) (r_len Tryz.underlying36 rfl) <| lV (.bool (decide ((aa.length : Int) = 0))) (r_eql (aa.length : Int) 0 rfl rfl) <| lN ?_
 replace hst := hst.grow aj
 refine wcond (decide ((aa.length : Int) = 0)) rfl (fun hb => ?_) (fun hb => ?_)
 ·rw [if_pos hb] at hm
  clear hb
  refine wS <| wR <| lA (.slice none (([] : List Int).length) 0) <| lN ?_
  refine wret ?_
  cases hm
  exact ⟨rfl, colF w0.heap.size col ae (fun n => 0), none, 0, rfl, hst.fin (fun n => 0), Own.nil⟩
 rw [if_neg (by rw [hb]; decide)] at hm
 clear hb
 refine wK <| wS <| wR <| lM (.slice ac aa.length ad) ?_
 obtain ⟨af, al, hm⟩ := bS hm
 refine lc rfl rfl (r_call1 Tryz.call130 rfl) (c_slices_Clone_api_Nat_uint32 1 ae _ ac ad aa ak af al) ?_
 rintro _ aq ⟨am, ag, ah, rfl, an, ao⟩
 refine ⟨_, rfl, ?_⟩
 refine lA (.slice ag af.length ah) <| lN ?_
 refine wret ?_
 cases hm
 replace hst := hst.grow an
 exact ⟨rfl, colF w0.heap.size col am (fun n => bif Nat.beq n 1 then c1 else 0), ag, ah, rfl, hst.fin (fun n => bif Nat.beq n 1 then c1 else 0), hst.finOwn (g := (fun n => bif Nat.beq n 1 then c1 else 0)) rfl ao (by decide) (by decide) rfl⟩
theorem el114_59 : ElemOk Tryz.prog 114 1 4 := ⟨Tryz.t114, _, rfl, rfl, rfl, rfl, rfl⟩
def m_nat_Of (N : Nat) (aa : Int) : Option (List Int) :=
  (m_nat_own N [IntKind.u32.wrap aa, IntKind.u32.wrap (ishr .u64 aa 32)]).bind fun ab => some ab
theorem c_nat_Of (N : Nat) (c1 : Nat) (col : Col) (w0 : World) (aa : Int) (r : (List Int)) (hm : m_nat_Of N aa = some r) :
    Calls Tryz.prog 59 #[(.int .u64 aa)] w0 (fun e w' => ∃ (col' : Col) (ra1 : Option Addr) (rc2 : Nat), e = .returned ((.slice ra1 r.length rc2)) ∧ Grow col w0 col' w' ∧ Own (Rep.int .u32) 114 c1 col' w' ra1 rc2 r) := by
 refine calls_of1 2 (m := 10) (args := [(.int .u64 aa)]) Tryz.func59 rfl rfl rfl rfl rfl ?_
 rw [m_nat_Of.eq_1] at hm
 have hst := St.start col w0
 refine wS <| wR <| lA (.slice none (([] : List Int).length) 0) <| lN <| wS <| wR <| lM (.int .u64 aa) <| lV (.int .u32 (IntKind.u32.wrap aa)) (r_conv aa ⟨_, Tryz.underlying108⟩ Tryz.underlying114 rfl) <| lM (.int .u64 aa) <| lV (.int .u64 (ishr .u64 aa 32)) (r_shr aa 32 rfl rfl (by decide)) <| lV (.int .u32 (IntKind.u32.wrap (ishr .u64 aa 32))) (r_conv (ishr .u64 aa 32) ⟨_, Tryz.underlying108⟩ Tryz.underlying114 rfl) ?_
 refine l_lit (col := (col0 col)) (r := (Rep.int .u32)) (xs := [IntKind.u32.wrap aa, IntKind.u32.wrap (ishr .u64 aa 32)]) [(.int .u32 (IntKind.u32.wrap aa)), (.int .u32 (IntKind.u32.wrap (ishr .u64 aa 32)))] 1 rfl Tryz.underlying36 el114_59 rfl rfl rfl rfl rfl rfl (by intro v hv; simp only [List.mem_cons, List.not_mem_nil, or_false] at hv; rcases hv with rfl | rfl <;> rfl) (RowsH.ofF (Rows.consF (r := (Rep.int .u32)) (x := IntKind.u32.wrap aa) (cs := [(.int .u32 (IntKind.u32.wrap aa))]) (rd_int .u32 (IntKind.u32.wrap aa)) (Rows.consF (r := (Rep.int .u32)) (x := IntKind.u32.wrap (ishr .u64 aa 32)) (cs := [(.int .u32 (IntKind.u32.wrap (ishr .u64 aa 32)))]) (rd_int .u32 (IntKind.u32.wrap (ishr .u64 aa 32))) Rows.nil0))) ?_
 intro ah ai ab aj ak
 obtain ⟨ae, al, hm⟩ := bS hm
 refine lc rfl rfl (r_call1 Tryz.call89 rfl) (c_nat_own N 2 (frC 1 ab) _ ah 2 [IntKind.u32.wrap aa, IntKind.u32.wrap (ishr .u64 aa 32)] (ak.toSlF (Froz.int .u32)) ae al) ?_
 rintro _ ao ⟨am, af, ag, rfl, ac, ad⟩
 refine ⟨_, rfl, ?_⟩
 replace ad := ad.thaw (flat_int .u32) ac ((Fz.refl (col := ab)).froz 1) (by decide)
 replace ac := ac.thawR (col := ab)
 generalize colR ai.heap.size ab am = an at *
 refine lA (.slice af ae.length ag) <| lN ?_
 refine wret ?_
 cases hm
 replace hst := (hst.grow aj).grow ac
 exact ⟨rfl, colF w0.heap.size col an (fun n => bif Nat.beq n 2 then c1 else 0), af, ag, rfl, hst.fin (fun n => bif Nat.beq n 2 then c1 else 0), hst.finOwn (g := (fun n => bif Nat.beq n 2 then c1 else 0)) rfl ad (by decide) (by decide) rfl⟩
def m_nat_Norm (N : Nat) (aa : (List Int)) : Option (List Int) :=
  (m_nat_own N aa).bind fun ab => some ab
theorem c_nat_Norm (N : Nat) (c1 : Nat) (col : Col) (w0 : World) (a0 : Option Addr) (cap0 : Nat) (aa : (List Int)) (h0 : Sl (Rep.int .u32) col w0 a0 cap0 aa) (r : (List Int)) (hm : m_nat_Norm N aa = some r) :
    Calls Tryz.prog 106 #[(.slice a0 aa.length cap0)] w0 (fun e w' => ∃ (col' : Col) (ra1 : Option Addr) (rc2 : Nat), e = .returned ((.slice ra1 r.length rc2)) ∧ Grow col w0 col' w' ∧ Own (Rep.int .u32) 114 c1 col' w' ra1 rc2 r) := by
 refine calls_of1 2 (m := 5) (args := [(.slice a0 aa.length cap0)]) Tryz.func106 rfl rfl rfl rfl rfl ?_
 rw [m_nat_Norm.eq_1] at hm
 have hst := St.start col w0
 refine wS <| wR <| lA (.slice none (([] : List Int).length) 0) <| lN <| wS <| wR <| lM (.slice a0 aa.length cap0) ?_
 obtain ⟨ab, ae, hm⟩ := bS hm
 replace h0 := h0.keep (Stay.start col w0)
 refine lc rfl rfl (r_call1 Tryz.call89 rfl) (c_nat_own N 1 (col0 col) _ a0 cap0 aa h0 ab ae) ?_
 rintro _ ai ⟨af, ac, ad, rfl, ag, ah⟩
 refine ⟨_, rfl, ?_⟩
 refine lA (.slice ac ab.length ad) <| lN ?_
 refine wret ?_
 cases hm
 replace hst := hst.grow ag
 exact ⟨rfl, colF w0.heap.size col af (fun n => bif Nat.beq n 1 then c1 else 0), ac, ad, rfl, hst.fin (fun n => bif Nat.beq n 1 then c1 else 0), hst.finOwn (g := (fun n => bif Nat.beq n 1 then c1 else 0)) rfl ah (by decide) (by decide) rfl⟩
def m_whole_of_J1 (aa : Bool) (ab : List Int) : Option (Bool × (List Int)) :=
  some (aa, ab)
def m_whole_of (N : Nat) (ab : Bool) (ac : (List Int)) : Option (Bool × (List Int)) :=
  (m_nat_Norm N ac).bind fun aa => if ab = true then (m_whole_of_J1 (decide (0 < (aa.length : Int))) aa) else (m_whole_of_J1 false aa)
theorem c_whole_of (N : Nat) (c1 : Nat) (col : Col) (w0 : World) (ab : Bool) (a1 : Option Addr) (cap1 : Nat) (ah : (List Int)) (h1 : Sl (Rep.int .u32) col w0 a1 cap1 ah) (r : (Bool × (List Int))) (hm : m_whole_of N ab ah = some r) :
    Calls Tryz.prog 112 #[(.bool ab), (.slice a1 ah.length cap1)] w0 (fun e w' => ∃ (col' : Col) (ra1 : Option Addr) (rc2 : Nat), e = .returned ((.agg #[(.bool r.1), (.slice ra1 r.2.length rc2)])) ∧ Grow col w0 col' w' ∧ Own (Rep.int .u32) 114 c1 col' w' ra1 rc2 r.2) := by
 refine calls_ofR (m := 16) (args := [(.bool ab), (.slice a1 ah.length cap1)]) Tryz.func112 rfl rfl rfl ?_
 rw [m_whole_of.eq_1] at hm
 have hst := St.start col w0
 refine wS <| wR ?_
 refine l_alloc (col := (col0 col)) (v := (.agg #[(.bool false), (.slice none (([] : List Int).length) 0)])) 1 rfl Tryz.zeroValue38 ?_
 intro ai az au av af
 replace af : Box 38 1 au az ai #[(.bool false), (.slice none (([] : List Int).length) 0)] := af
 refine lN <| wS <| wR <| lM (.slice a1 ah.length cap1) ?_
 obtain ⟨aa, a0, hm⟩ := bS hm
 replace h1 := (h1.keep (Stay.start col w0)).gr av
 refine lc rfl rfl (r_call1 Tryz.call106 rfl) (c_nat_Norm N 2 au _ a1 cap1 ah h1 aa a0) ?_
 rintro _ a7 ⟨am, ac, ad, rfl, aw, ag⟩
 refine ⟨_, rfl, ?_⟩
 refine lA (.slice ac aa.length ad) <| lN <| wS ?_
 replace hst := (hst.grow av).grow aw
 replace af := af.gr aw
 refine Wp.cut (fun f an => ∃ (aj : Col) (ar : Bool) (ao : Option Addr) (ap : Nat) (aq : List Int), m_whole_of_J1 ar aq = some r ∧ St w0 (col0 col) aj an ∧ Own (Rep.int .u32) 114 3 aj an ao ap aq ∧ Box 38 1 aj an ai #[(.bool ar), (.slice ao aq.length ap)] ∧ f 4 = (.pointer (some ⟨ai, 0, none⟩)) ∧ f 1000000 = (enc [])) ?_ ?_
 ·intro f an hJ
  obtain ⟨aj, ar, ao, ap, aq, hm, hst, a2, af, hs4, hs1000000⟩ := hJ
  rw [m_whole_of_J1.eq_1] at hm
  refine .lD 4 hs4 <| .lD 1000000 hs1000000 ?_
  clear hs4 hs1000000
  refine wret ?_
  cases hm
  exact ⟨rfl, _, res_a rfl rfl Tryz.isAgg38 Tryz.sizeOf38 rfl rfl af.atN, colF w0.heap.size col aj (fun n => bif Nat.beq n 3 then c1 else 0), ao, ap, rfl, hst.fin (fun n => bif Nat.beq n 3 then c1 else 0), hst.finOwn (g := (fun n => bif Nat.beq n 3 then c1 else 0)) rfl a2 (by decide) (by decide) rfl⟩
 refine wR <| lM (.bool ab) <| lM (.bool ab) ?_
 by_cases ae : ab = true
 ·rw [if_pos ae] at hm
  refine lg (b := ab) 9 rfl rfl rfl (by rw [ae]; rfl) ?_
  refine lM (.slice ac aa.length ad) ?_
  refine lg (b := ab) 9 rfl rfl rfl (by rw [ae]; rfl) ?_
  refine lV (.int .i64 (aa.length : Int)) (r_len Tryz.underlying36 rfl) ?_
  refine lg (b := ab) 9 rfl rfl rfl (by rw [ae]; rfl) ?_
  refine lV (.bool (decide (0 < (aa.length : Int)))) (r_gtr (aa.length : Int) 0 rfl rfl) <| lV (.bool (decide (0 < (aa.length : Int)))) (r_pickT (congrArg Value.bool ae) rfl) <| lM (.slice ac aa.length ad) <| lV (.agg #[(.bool (decide (0 < (aa.length : Int)))), (.slice ac aa.length ad)]) (r_build (l := [_, _]) (qs := [(0, 1), (1, 1)]) Tryz.underlying38 Tryz.zeroValue38 ⟨rfl, Tryz.sizeOf4, rfl, Tryz.sizeOf36, trivial⟩ rfl) ?_
  refine l_bstore (v := (.agg #[(.bool (decide (0 < (aa.length : Int)))), (.slice ac aa.length ad)])) af Tryz.sizeOf38 rfl rfl (by intro u hu; simp only [Value.cells, List.mem_cons, List.not_mem_nil, or_false] at hu; rcases hu with rfl | rfl <;> rfl) rfl rfl ?_
  intro a3 ax a4 ak
  clear af
  replace ak : Box 38 1 am a3 ai #[(.bool (decide (0 < (aa.length : Int)))), (.slice ac aa.length ad)] := ak
  refine lN ?_
  replace ag := ag.kp ax
  replace ag := ag.recolSelf 3 (by decide)
  replace ak := ak.recol 2 3 (by decide)
  replace hst := hst.kp ax a4
  replace hst := hst.recol 2 3 (by decide) (by decide)
  exact ⟨(rcC 2 3 am), (decide (0 < (aa.length : Int))), ac, ad, aa, hm, hst, ag, ak, rfl, rfl⟩
 rw [if_neg ae] at hm
 replace ae := Bool.eq_false_iff.2 ae
 refine lp (b := ab) 9 rfl rfl rfl rfl (by rw [ae]; rfl) ?_
 refine lp (b := ab) 9 rfl rfl rfl rfl (by rw [ae]; rfl) ?_
 refine lp (b := ab) 9 rfl rfl rfl rfl (by rw [ae]; rfl) ?_
 refine lV (.bool false) (r_pickF (congrArg Value.bool ae) rfl) <| lM (.slice ac aa.length ad) <| lV (.agg #[(.bool false), (.slice ac aa.length ad)]) (r_build (l := [_, _]) (qs := [(0, 1), (1, 1)]) Tryz.underlying38 Tryz.zeroValue38 ⟨rfl, Tryz.sizeOf4, rfl, Tryz.sizeOf36, trivial⟩ rfl) ?_
 refine l_bstore (v := (.agg #[(.bool false), (.slice ac aa.length ad)])) af Tryz.sizeOf38 rfl rfl (by intro u hu; simp only [Value.cells, List.mem_cons, List.not_mem_nil, or_false] at hu; rcases hu with rfl | rfl <;> rfl) rfl rfl ?_
 intro a5 ay a6 al
 clear af
 replace al : Box 38 1 am a5 ai #[(.bool false), (.slice ac aa.length ad)] := al
 refine lN ?_
 replace ag := ag.kp ay
 replace ag := ag.recolSelf 3 (by decide)
 replace al := al.recol 2 3 (by decide)
 replace hst := hst.kp ay a6
 replace hst := hst.recol 2 3 (by decide) (by decide)
 exact ⟨(rcC 2 3 am), false, ac, ad, aa, hm, hst, ag, al, rfl, rfl⟩
def m_whole_Of (N : Nat) (aa : Int) : Option (Bool × (List Int)) :=
  if (decide (aa < 0)) = true then ((m_nat_Of N (IntKind.u64.wrap (-(IntKind.u64.wrap aa)))).bind fun ad => (m_whole_of N true ad).bind fun ab => some (ab.1, ab.2)) else ((m_nat_Of N (IntKind.u64.wrap aa)).bind fun ae => (m_whole_of N false ae).bind fun ac => some (ac.1, ac.2))
theorem c_whole_Of (N : Nat) (c1 : Nat) (col : Col) (w0 : World) (aa : Int) (r : (Bool × (List Int))) (hm : m_whole_Of N aa = some r) :
    Calls Tryz.prog 82 #[(.int .i64 aa)] w0 (fun e w' => ∃ (col' : Col) (ra1 : Option Addr) (rc2 : Nat), e = .returned ((.agg #[(.bool r.1), (.slice ra1 r.2.length rc2)])) ∧ Grow col w0 col' w' ∧ Own (Rep.int .u32) 114 c1 col' w' ra1 rc2 r.2) := by
 refine calls_ofR (m := 14) (args := [(.int .i64 aa)]) Tryz.func82 rfl rfl rfl ?_
 rw [m_whole_Of.eq_1] at hm
 have hst := St.start col w0
 refine wS <| wR ?_
 refine l_alloc (col := (col0 col)) (v := (.agg #[(.bool false), (.slice none (([] : List Int).length) 0)])) 1 rfl Tryz.zeroValue38 ?_
 intro ak a2 al a3 ab
 replace ab : Box 38 1 al a2 ak #[(.bool false), (.slice none (([] : List Int).length) 0)] := ab
 refine lN <| wS <| wS <| wR <| lM (.int .i64 aa) <| lV (.bool (decide (aa < 0))) (r_lss aa 0 rfl rfl) <| lN ?_
 replace hst := hst.grow a3
 refine wcond (decide (aa < 0)) rfl (fun hb => ?_) (fun hb => ?_)
 ·rw [if_pos hb] at hm
  clear hb
  refine wS <| wR <| lM (.int .i64 aa) <| lV (.int .u64 (IntKind.u64.wrap aa)) (r_conv aa ⟨_, Tryz.underlying3⟩ Tryz.underlying108 rfl) <| lV (.int .u64 (IntKind.u64.wrap (-(IntKind.u64.wrap aa)))) (r_neg (IntKind.u64.wrap aa) rfl) ?_
  obtain ⟨au, a4, hm⟩ := bS hm
  refine lc rfl rfl (r_call1 Tryz.call59 rfl) (c_nat_Of N 2 al _ (IntKind.u64.wrap (-(IntKind.u64.wrap aa))) au a4) ?_
  rintro _ a5 ⟨ai, a6, a7, rfl, av, a8⟩
  refine ⟨_, rfl, ?_⟩
  obtain ⟨ac, a9, hm⟩ := bS hm
  refine lc rfl rfl (r_call2 Tryz.call112 rfl rfl) (c_whole_of N 3 (frC 2 ai) _ true a6 a7 au (a8.toSlF (Froz.int .u32)) ac a9) ?_
  rintro _ bm ⟨ba, am, an, rfl, ad, ae⟩
  refine ⟨_, rfl, ?_⟩
  replace ae := ae.thaw (flat_int .u32) ad ((Fz.refl (col := ai)).froz 2) (by decide)
  replace ad := ad.thawR (col := ai)
  generalize colR a5.heap.size ai ba = aw at *
  replace ab := (ab.gr av).gr ad
  refine l_bstore (v := (.agg #[(.bool ac.1), (.slice am ac.2.length an)])) ab Tryz.sizeOf38 rfl rfl (by intro u hu; simp only [Value.cells, List.mem_cons, List.not_mem_nil, or_false] at hu; rcases hu with rfl | rfl <;> rfl) rfl rfl ?_
  intro bb ax bc ao
  clear ab
  replace ao : Box 38 1 aw bb ak #[(.bool ac.1), (.slice am ac.2.length an)] := ao
  refine lN ?_
  refine wret ?_
  cases hm
  replace hst := ((hst.grow av).grow ad).kp ax bc
  replace ae := ae.kp ax
  exact ⟨rfl, _, res_a rfl rfl Tryz.isAgg38 Tryz.sizeOf38 rfl rfl ao.atN, colF w0.heap.size col aw (fun n => bif Nat.beq n 3 then c1 else 0), am, an, rfl, hst.fin (fun n => bif Nat.beq n 3 then c1 else 0), hst.finOwn (g := (fun n => bif Nat.beq n 3 then c1 else 0)) rfl ae (by decide) (by decide) rfl⟩
 rw [if_neg (by rw [hb]; decide)] at hm
 clear hb
 refine wK <| wS <| wR <| lM (.int .i64 aa) <| lV (.int .u64 (IntKind.u64.wrap aa)) (r_conv aa ⟨_, Tryz.underlying3⟩ Tryz.underlying108 rfl) ?_
 obtain ⟨ay, bd, hm⟩ := bS hm
 refine lc rfl rfl (r_call1 Tryz.call59 rfl) (c_nat_Of N 4 al _ (IntKind.u64.wrap aa) ay bd) ?_
 rintro _ be ⟨aj, bf, bg, rfl, az, bh⟩
 refine ⟨_, rfl, ?_⟩
 obtain ⟨af, bi, hm⟩ := bS hm
 refine lc rfl rfl (r_call2 Tryz.call112 rfl rfl) (c_whole_of N 5 (frC 4 aj) _ false bf bg ay (bh.toSlF (Froz.int .u32)) af bi) ?_
 rintro _ bn ⟨bj, ap, aq, rfl, ag, ah⟩
 refine ⟨_, rfl, ?_⟩
 replace ah := ah.thaw (flat_int .u32) ag ((Fz.refl (col := aj)).froz 4) (by decide)
 replace ag := ag.thawR (col := aj)
 generalize colR be.heap.size aj bj = a0 at *
 replace ab := (ab.gr az).gr ag
 refine l_bstore (v := (.agg #[(.bool af.1), (.slice ap af.2.length aq)])) ab Tryz.sizeOf38 rfl rfl (by intro u hu; simp only [Value.cells, List.mem_cons, List.not_mem_nil, or_false] at hu; rcases hu with rfl | rfl <;> rfl) rfl rfl ?_
 intro bk a1 bl ar
 clear ab
 replace ar : Box 38 1 a0 bk ak #[(.bool af.1), (.slice ap af.2.length aq)] := ar
 refine lN ?_
 refine wret ?_
 cases hm
 replace hst := ((hst.grow az).grow ag).kp a1 bl
 replace ah := ah.kp a1
 exact ⟨rfl, _, res_a rfl rfl Tryz.isAgg38 Tryz.sizeOf38 rfl rfl ar.atN, colF w0.heap.size col a0 (fun n => bif Nat.beq n 5 then c1 else 0), ap, aq, rfl, hst.fin (fun n => bif Nat.beq n 5 then c1 else 0), hst.finOwn (g := (fun n => bif Nat.beq n 5 then c1 else 0)) rfl ah (by decide) (by decide) rfl⟩
def m_math_bits_Len32_J2 (aa : Int) (ab : Int) : Option Int :=
  (bat? (⟨#[0, 1, 2, 2, 3, 3, 3, 3, 4, 4, 4, 4, 4, 4, 4, 4, 5, 5, 5, 5, 5, 5, 5, 5, 5, 5, 5, 5, 5, 5, 5, 5, 6, 6, 6, 6, 6, 6, 6, 6, 6, 6, 6, 6, 6, 6, 6, 6, 6, 6, 6, 6, 6, 6, 6, 6, 6, 6, 6, 6, 6, 6, 6, 6, 7, 7, 7, 7, 7, 7, 7, 7, 7, 7, 7, 7, 7, 7, 7, 7, 7, 7, 7, 7, 7, 7, 7, 7, 7, 7, 7, 7, 7, 7, 7, 7, 7, 7, 7, 7, 7, 7, 7, 7, 7, 7, 7, 7, 7, 7, 7, 7, 7, 7, 7, 7, 7, 7, 7, 7, 7, 7, 7, 7, 7, 7, 7, 7, 8, 8, 8, 8, 8, 8, 8, 8, 8, 8, 8, 8, 8, 8, 8, 8, 8, 8, 8, 8, 8, 8, 8, 8, 8, 8, 8, 8, 8, 8, 8, 8, 8, 8, 8, 8, 8, 8, 8, 8, 8, 8, 8, 8, 8, 8, 8, 8, 8, 8, 8, 8, 8, 8, 8, 8, 8, 8, 8, 8, 8, 8, 8, 8, 8, 8, 8, 8, 8, 8, 8, 8, 8, 8, 8, 8, 8, 8, 8, 8, 8, 8, 8, 8, 8, 8, 8, 8, 8, 8, 8, 8, 8, 8, 8, 8, 8, 8, 8, 8, 8, 8, 8, 8, 8, 8, 8, 8, 8, 8, 8, 8, 8, 8, 8, 8, 8, 8, 8, 8, 8, 8, 8, 8, 8, 8, 8, 8]⟩) (IntKind.u8.wrap aa)).bind fun ac => some (IntKind.i64.wrap (ab + (IntKind.i64.wrap ac)))
def m_math_bits_Len32_J1 (aa : Int) (ab : Int) : Option Int :=
  if (decide (256 ≤ aa)) = true then none else (m_math_bits_Len32_J2 aa ab)
def m_math_bits_Len32 (aa : Int) : Option Int :=
  if (decide (65536 ≤ aa)) = true then none else (m_math_bits_Len32_J1 aa 0)
theorem c_math_bits_Len32 (col : Col) (w0 : World) (aa : Int) (r : Int) (hm : m_math_bits_Len32 aa = some r) :
    Calls Tryz.prog 110 #[(.int .u32 aa)] w0 (fun e w' => e = .returned ((.int .i64 r)) ∧ Below w0.heap.size w0 w') := by
 refine calls_of1 2 (m := 19) (args := [(.int .u32 aa)]) Tryz.func110 rfl rfl rfl rfl rfl ?_
 rw [m_math_bits_Len32.eq_1] at hm
 have hst := St.start col w0
 refine wS <| wR <| lA (.int .i64 0) <| lN <| wS ?_
 refine Wp.cut (fun f ah => ∃ (ag : Col) (ab : Int) (af : Int), m_math_bits_Len32_J1 ab af = some r ∧ St w0 (col0 col) ag ah ∧ f 0 = (.int .u32 ab) ∧ f 2 = (.int .i64 af) ∧ f 1000000 = (enc [])) ?_ ?_
 ·intro f ah hJ
  obtain ⟨ag, ab, af, hm, hst, hs0, hs2, hs1000000⟩ := hJ
  rw [m_math_bits_Len32_J1.eq_1] at hm
  refine .lD 0 hs0 <| .lD 2 hs2 <| .lD 1000000 hs1000000 ?_
  clear hs0 hs2 hs1000000
  refine wS ?_
  refine Wp.cut (fun f ai => ∃ (aj : Col) (ad : Int) (ac : Int), m_math_bits_Len32_J2 ad ac = some r ∧ St w0 (col0 col) aj ai ∧ f 0 = (.int .u32 ad) ∧ f 2 = (.int .i64 ac) ∧ f 1000000 = (enc [])) ?_ ?_
  ·intro f ai hJ
   obtain ⟨aj, ad, ac, hm, hst, hs0, hs2, hs1000000⟩ := hJ
   rw [m_math_bits_Len32_J2.eq_1] at hm
   refine .lD 0 hs0 <| .lD 2 hs2 <| .lD 1000000 hs1000000 ?_
   clear hs0 hs2 hs1000000
   refine wS <| wR <| lM (.int .i64 ac) <| lM (.int .u32 ad) <| lV (.int .u8 (IntKind.u8.wrap ad)) (r_conv ad ⟨_, Tryz.underlying114⟩ Tryz.underlying5 rfl) ?_
   obtain ⟨ae, ak, hm⟩ := bS hm
   refine lV (.int .u8 ae) (r_indexS (s := (⟨#[0, 1, 2, 2, 3, 3, 3, 3, 4, 4, 4, 4, 4, 4, 4, 4, 5, 5, 5, 5, 5, 5, 5, 5, 5, 5, 5, 5, 5, 5, 5, 5, 6, 6, 6, 6, 6, 6, 6, 6, 6, 6, 6, 6, 6, 6, 6, 6, 6, 6, 6, 6, 6, 6, 6, 6, 6, 6, 6, 6, 6, 6, 6, 6, 7, 7, 7, 7, 7, 7, 7, 7, 7, 7, 7, 7, 7, 7, 7, 7, 7, 7, 7, 7, 7, 7, 7, 7, 7, 7, 7, 7, 7, 7, 7, 7, 7, 7, 7, 7, 7, 7, 7, 7, 7, 7, 7, 7, 7, 7, 7, 7, 7, 7, 7, 7, 7, 7, 7, 7, 7, 7, 7, 7, 7, 7, 7, 7, 8, 8, 8, 8, 8, 8, 8, 8, 8, 8, 8, 8, 8, 8, 8, 8, 8, 8, 8, 8, 8, 8, 8, 8, 8, 8, 8, 8, 8, 8, 8, 8, 8, 8, 8, 8, 8, 8, 8, 8, 8, 8, 8, 8, 8, 8, 8, 8, 8, 8, 8, 8, 8, 8, 8, 8, 8, 8, 8, 8, 8, 8, 8, 8, 8, 8, 8, 8, 8, 8, 8, 8, 8, 8, 8, 8, 8, 8, 8, 8, 8, 8, 8, 8, 8, 8, 8, 8, 8, 8, 8, 8, 8, 8, 8, 8, 8, 8, 8, 8, 8, 8, 8, 8, 8, 8, 8, 8, 8, 8, 8, 8, 8, 8, 8, 8, 8, 8, 8, 8, 8, 8, 8, 8, 8, 8, 8, 8]⟩)) Tryz.underlying9 rfl rfl ak) <| lV (.int .i64 (IntKind.i64.wrap ae)) (r_conv ae ⟨_, Tryz.underlying5⟩ Tryz.underlying3 rfl) <| lV (.int .i64 (IntKind.i64.wrap (ac + (IntKind.i64.wrap ae)))) (r_add ac (IntKind.i64.wrap ae) rfl rfl) <| lA (.int .i64 (IntKind.i64.wrap (ac + (IntKind.i64.wrap ae)))) <| lN ?_
   refine wret ?_
   cases hm
   exact ⟨rfl, rfl, hst.below⟩
  refine wS <| wR <| lM (.int .u32 ab) <| lV (.bool (decide (256 ≤ ab))) (r_geq ab 256 rfl rfl) <| lN ?_
  refine wcond (decide (256 ≤ ab)) rfl (fun hb => ?_) (fun hb => ?_)
  ·rw [if_pos hb] at hm
   clear hb
   cases hm
  rw [if_neg (by rw [hb]; decide)] at hm
  clear hb
  refine wK ?_
  exact ⟨ag, ab, af, hm, hst, rfl, rfl, rfl⟩
 refine wS <| wR <| lM (.int .u32 aa) <| lV (.bool (decide (65536 ≤ aa))) (r_geq aa 65536 rfl rfl) <| lN ?_
 refine wcond (decide (65536 ≤ aa)) rfl (fun hb => ?_) (fun hb => ?_)
 ·rw [if_pos hb] at hm
  clear hb
  cases hm
 rw [if_neg (by rw [hb]; decide)] at hm
 clear hb
 refine wK ?_
 exact ⟨(col0 col), aa, 0, hm, hst, rfl, rfl, rfl⟩
def m_nat_Bits (N : Nat) (ab : (List Int)) : Option Int :=
  (m_nat_trim N ab).bind fun aa => if (decide ((aa.length : Int) = 0)) = true then (some 0) else ((at? aa (IntKind.i64.wrap ((aa.length : Int) - 1))).bind fun ac => (m_math_bits_Len32 ac).bind fun ad => some (IntKind.i64.wrap ((IntKind.i64.wrap (32 * (IntKind.i64.wrap ((aa.length : Int) - 1)))) + ad)))
theorem c_nat_Bits (N : Nat) (col : Col) (w0 : World) (a0 : Option Addr) (cap0 : Nat) (ab : (List Int)) (h0 : Sl (Rep.int .u32) col w0 a0 cap0 ab) (r : Int) (hm : m_nat_Bits N ab = some r) :
    Calls Tryz.prog 62 #[(.slice a0 ab.length cap0)] w0 (fun e w' => e = .returned ((.int .i64 r)) ∧ Below w0.heap.size w0 w') := by
 refine calls_of1 2 (m := 20) (args := [(.slice a0 ab.length cap0)]) Tryz.func62 rfl rfl rfl rfl rfl ?_
 rw [m_nat_Bits.eq_1] at hm
 have hst := St.start col w0
 refine wS <| wR <| lA (.int .i64 0) <| lN <| wS <| wR <| lM (.slice a0 ab.length cap0) ?_
 obtain ⟨aa, ak, hm⟩ := bS hm
 replace h0 := h0.keep (Stay.start col w0)
 refine lc rfl rfl (r_call1 Tryz.call88 rfl) (c_nat_trim N (col0 col) _ a0 cap0 ab h0 aa ak) ?_
 rintro _ al ⟨ag, ac, ad, rfl, am, ai⟩
 refine ⟨_, rfl, ?_⟩
 refine lA (.slice ac aa.length ad) <| lN <| wS <| wS <| wR <| lM (.slice ac aa.length ad) <| lV (.int .i64 (aa.length : Int)) (r_len Tryz.underlying36 rfl) <| lV (.bool (decide ((aa.length : Int) = 0))) (r_eql (aa.length : Int) 0 rfl rfl) <| lN ?_
 replace hst := hst.grow am
 refine wcond (decide ((aa.length : Int) = 0)) rfl (fun hb => ?_) (fun hb => ?_)
 ·rw [if_pos hb] at hm
  clear hb
  refine wS <| wR <| lA (.int .i64 0) <| lN ?_
  refine wret ?_
  cases hm
  exact ⟨rfl, rfl, hst.below⟩
 rw [if_neg (by rw [hb]; decide)] at hm
 clear hb
 refine wK <| wS <| wR <| lM (.slice ac aa.length ad) <| lV (.int .i64 (aa.length : Int)) (r_len Tryz.underlying36 rfl) <| lV (.int .i64 (IntKind.i64.wrap ((aa.length : Int) - 1))) (r_sub (aa.length : Int) 1 rfl rfl) <| lV (.int .i64 (IntKind.i64.wrap (32 * (IntKind.i64.wrap ((aa.length : Int) - 1))))) (r_mul 32 (IntKind.i64.wrap ((aa.length : Int) - 1)) rfl rfl) <| lM (.slice ac aa.length ad) <| lM (.slice ac aa.length ad) <| lV (.int .i64 (aa.length : Int)) (r_len Tryz.underlying36 rfl) <| lV (.int .i64 (IntKind.i64.wrap ((aa.length : Int) - 1))) (r_sub (aa.length : Int) 1 rfl rfl) ?_
 obtain ⟨aj, ae, hm⟩ := bS hm
 refine lV (sptr ac (Int.toNat (IntKind.i64.wrap ((aa.length : Int) - 1)) * 1)) (r_idx Tryz.underlying36 Tryz.sizeOf114 rfl rfl (at?_some ae).1 (at?_some ae).2.1 (ai.addr ae)) ?_
 refine lV (.int .u32 aj) (r_ld Tryz.isAgg114 rfl (ai.atInt ae)) ?_
 obtain ⟨af, an, hm⟩ := bS hm
 refine lc rfl rfl (r_call1 Tryz.call110 rfl) (c_math_bits_Len32 ag _ aj af an) ?_
 rintro _ ao ⟨rfl, ah⟩
 refine ⟨_, rfl, ?_⟩
 replace ah : Grow ag al ag ao := .of_below ah
 refine lV (.int .i64 (IntKind.i64.wrap ((IntKind.i64.wrap (32 * (IntKind.i64.wrap ((aa.length : Int) - 1)))) + af))) (r_add (IntKind.i64.wrap (32 * (IntKind.i64.wrap ((aa.length : Int) - 1)))) af rfl rfl) <| lA (.int .i64 (IntKind.i64.wrap ((IntKind.i64.wrap (32 * (IntKind.i64.wrap ((aa.length : Int) - 1)))) + af))) <| lN ?_
 refine wret ?_
 cases hm
 replace hst := hst.grow ah
 exact ⟨rfl, rfl, hst.below⟩
def m_whole_Sign (N : Nat) (aa : (Bool × (List Int))) : Option Int :=
  (m_nat_Bits N aa.2).bind fun ab => if (decide (ab = 0)) = true then (some 0) else (if aa.1 = true then (some (-1)) else (some 1))
theorem c_whole_Sign (N : Nat) (col : Col) (w0 : World) (ab : Option Addr) (ac : Nat) (aa : (Bool × (List Int))) (ah : Sl (Rep.int .u32) col w0 ab ac aa.2) (r : Int) (hm : m_whole_Sign N aa = some r) :
    Calls Tryz.prog 76 #[(.agg #[(.bool aa.1), (.slice ab aa.2.length ac)])] w0 (fun e w' => e = .returned ((.int .i64 r)) ∧ Below w0.heap.size w0 w') := by
 refine calls_of1 2 (m := 11) (args := [(.agg #[(.bool aa.1), (.slice ab aa.2.length ac)])]) Tryz.func76 rfl rfl rfl rfl rfl ?_
 rw [m_whole_Sign.eq_1] at hm
 have hst := St.start col w0
 refine wS <| wR ?_
 refine l_box (col := (col0 col)) (v := (.agg #[(.bool aa.1), (.slice ab aa.2.length ac)])) 1 rfl rfl ?_
 intro ai aj af ak ad
 replace ad : Box 38 1 af aj ai #[(.bool aa.1), (.slice ab aa.2.length ac)] := ad
 refine lA (.int .i64 0) <| lN <| wS <| wB <| wS <| wR <| lV (.pointer ((some (⟨ai, 0, none⟩ : Addr)).map (·.add 1))) (rF (sz := 1) (off := 1) Tryz.underlying38 rfl Tryz.sizeOf36 (by decide) rfl rfl ⟨_, _, rfl⟩) <| lV (.slice ab aa.2.length ac) (r_ld Tryz.isAgg36 rfl ((ad.atN).nth (q := 1) (v := (.slice ab aa.2.length ac)) rfl)) ?_
 obtain ⟨ae, al, hm⟩ := bS hm
 replace ah := (ah.keep (Stay.start col w0)).gr ak
 refine lc rfl rfl (r_call1 Tryz.call62 rfl) (c_nat_Bits N af _ ab ac aa.2 ah ae al) ?_
 rintro _ am ⟨rfl, ag⟩
 refine ⟨_, rfl, ?_⟩
 replace ag : Grow af aj af am := .of_below ag
 refine lV (.bool (decide (ae = 0))) (r_eql ae 0 rfl rfl) <| lA (.bool (decide (ae = 0))) <| lN ?_
 replace hst := (hst.grow ak).grow ag
 replace ad := ad.gr ag
 refine wcond (decide (ae = 0)) rfl (fun hb => ?_) (fun hb => ?_)
 ·rw [if_pos hb] at hm
  clear hb
  refine wS <| wR <| lA (.int .i64 0) <| lN ?_
  refine wret ?_
  cases hm
  exact ⟨rfl, rfl, hst.below⟩
 rw [if_neg (by rw [hb]; decide)] at hm
 clear hb
 refine wS <| wR <| lV (.pointer ((some (⟨ai, 0, none⟩ : Addr)).map (·.add 0))) (rF (sz := 1) (off := 0) Tryz.underlying38 rfl Tryz.sizeOf4 (by decide) rfl rfl ⟨_, _, rfl⟩) <| lV (.bool aa.1) (r_ld Tryz.isAgg4 rfl ((ad.atN).nth (q := 0) (v := (.bool aa.1)) rfl)) <| lA (.bool aa.1) <| lN ?_
 refine wcond (aa.1) rfl (fun hb => ?_) (fun hb => ?_)
 ·rw [if_pos hb] at hm
  clear hb
  refine wS <| wR <| lA (.int .i64 (-1)) <| lN ?_
  refine wret ?_
  cases hm
  exact ⟨rfl, rfl, hst.below⟩
 rw [if_neg (by rw [hb]; decide)] at hm
 clear hb
 refine wK <| wS <| wR <| lA (.int .i64 1) <| lN ?_
 refine wret ?_
 cases hm
 exact ⟨rfl, rfl, hst.below⟩
def m_nat_Cmp_L1 (N : Nat) (ab : (List Int)) (ac : (List Int)) : Nat → Int → Option Int
  | 0, _ => none
  | af + 1, aa => if (decide (0 ≤ aa)) = true then ((at? ab aa).bind fun ad => (at? ac aa).bind fun ae => if (decide (ad < ae)) = true then (some (-1)) else (if (decide (ae < ad)) = true then (some 1) else ((m_nat_Cmp_L1 N ab ac af) (IntKind.i64.wrap (aa - 1))))) else (some 0)
termination_by structural x => x
def m_nat_Cmp (N : Nat) (ac : (List Int)) (ad : (List Int)) : Option Int :=
  (m_nat_trim N ac).bind fun aa => (m_nat_trim N ad).bind fun ab => if (!decide ((aa.length : Int) = (ab.length : Int))) = true then (if (decide ((aa.length : Int) < (ab.length : Int))) = true then (some (-1)) else none) else (m_nat_Cmp_L1 N aa ab N (IntKind.i64.wrap ((aa.length : Int) - 1)))
theorem c_nat_Cmp (N : Nat) (col : Col) (w0 : World) (a0 : Option Addr) (cap0 : Nat) (ap : (List Int)) (a1 : Option Addr) (cap1 : Nat) (aq : (List Int)) (h0 : Sl (Rep.int .u32) col w0 a0 cap0 ap) (h1 : Sl (Rep.int .u32) col w0 a1 cap1 aq) (r : Int) (hm : m_nat_Cmp N ap aq = some r) :
    Calls Tryz.prog 58 #[(.slice a0 ap.length cap0), (.slice a1 aq.length cap1)] w0 (fun e w' => e = .returned ((.int .i64 r)) ∧ Below w0.heap.size w0 w') := by
 refine calls_of1 4 (m := 45) (args := [(.slice a0 ap.length cap0), (.slice a1 aq.length cap1)]) Tryz.func58 rfl rfl rfl rfl rfl ?_
 rw [m_nat_Cmp.eq_1] at hm
 have hst := St.start col w0
 refine wS <| wR <| lA (.int .i64 0) <| lN <| wS <| wR <| lM (.slice a0 ap.length cap0) ?_
 obtain ⟨aa, ax, hm⟩ := bS hm
 replace h0 := h0.keep (Stay.start col w0)
 refine lc rfl rfl (r_call1 Tryz.call88 rfl) (c_nat_trim N (col0 col) _ a0 cap0 ap h0 aa ax) ?_
 rintro _ a4 ⟨ay, ag, ai, rfl, au, ae⟩
 refine ⟨_, rfl, ?_⟩
 refine lM (.slice a1 aq.length cap1) ?_
 obtain ⟨ac, az, hm⟩ := bS hm
 replace h1 := (h1.keep (Stay.start col w0)).gr au
 refine lc rfl rfl (r_call1 Tryz.call88 rfl) (c_nat_trim N ay _ a1 cap1 aq h1 ac az) ?_
 rintro _ a5 ⟨a2, ah, an, rfl, av, af⟩
 refine ⟨_, rfl, ?_⟩
 refine lA (.slice ag aa.length ai) <| lA (.slice ah ac.length an) <| lN <| wS <| wS <| wR <| lM (.slice ag aa.length ai) <| lV (.int .i64 (aa.length : Int)) (r_len Tryz.underlying36 rfl) <| lM (.slice ah ac.length an) <| lV (.int .i64 (ac.length : Int)) (r_len Tryz.underlying36 rfl) <| lV (.bool (!decide ((aa.length : Int) = (ac.length : Int)))) (r_neq (aa.length : Int) (ac.length : Int) rfl rfl) <| lN ?_
 replace hst := (hst.grow au).grow av
 replace ae := ae.gr av
 refine wcond (!decide ((aa.length : Int) = (ac.length : Int))) rfl (fun hb => ?_) (fun hb => ?_)
 ·rw [if_pos hb] at hm
  clear hb
  refine wS <| wS <| wR <| lM (.slice ag aa.length ai) <| lV (.int .i64 (aa.length : Int)) (r_len Tryz.underlying36 rfl) <| lM (.slice ah ac.length an) <| lV (.int .i64 (ac.length : Int)) (r_len Tryz.underlying36 rfl) <| lV (.bool (decide ((aa.length : Int) < (ac.length : Int)))) (r_lss (aa.length : Int) (ac.length : Int) rfl rfl) <| lN ?_
  refine wcond (decide ((aa.length : Int) < (ac.length : Int))) rfl (fun hb => ?_) (fun hb => ?_)
  ·rw [if_pos hb] at hm
   clear hb
   refine wS <| wR <| lA (.int .i64 (-1)) <| lN ?_
   refine wret ?_
   cases hm
   exact ⟨rfl, rfl, hst.below⟩
  rw [if_neg (by rw [hb]; decide)] at hm
  clear hb
  cases hm
 rw [if_neg (by rw [hb]; decide)] at hm
 clear hb
 refine wK <| wS <| wS <| wR <| lM (.slice ag aa.length ai) <| lV (.int .i64 (aa.length : Int)) (r_len Tryz.underlying36 rfl) <| lV (.int .i64 (IntKind.i64.wrap ((aa.length : Int) - 1))) (r_sub (aa.length : Int) 1 rfl rfl) <| lA (.int .i64 (IntKind.i64.wrap ((aa.length : Int) - 1))) <| lN <| wB ?_
 refine wloop (fun n f ar => ∃ (ad : Col) (ab : Int) (ao : Nat), ao = n ∧ m_nat_Cmp_L1 N aa ac ao ab = some r ∧ St w0 (col0 col) ad ar ∧ Sl (Rep.int .u32) ad ar ag ai aa ∧ Sl (Rep.int .u32) ad ar ah an ac ∧ f 0 = (.slice ag aa.length ai) ∧ f 1 = (.slice ah ac.length an) ∧ f 5 = (.int .i64 ab) ∧ f 1000000 = (enc [])) N ⟨a2, (IntKind.i64.wrap ((aa.length : Int) - 1)), N, rfl, hm, hst, ae, af, rfl, rfl, rfl, rfl⟩ ?_
 clear hm; intro n f ar hI
 obtain ⟨ad, ab, ao, hn, hm, hst, ae, af, hs0, hs1, hs5, hs1000000⟩ := hI
 subst hn
 refine .lD 0 hs0 <| .lD 1 hs1 <| .lD 5 hs5 <| .lD 1000000 hs1000000 ?_
 clear hs0 hs1 hs5 hs1000000
 cases ao with
 | zero => rw [m_nat_Cmp_L1.eq_1] at hm; cases hm
 | succ ao =>
  rw [m_nat_Cmp_L1.eq_2] at hm
  refine wS <| wS <| wR <| lM (.int .i64 ab) <| lV (.bool (decide (0 ≤ ab))) (r_geq ab 0 rfl rfl) <| lN ?_
  refine wcond (decide (0 ≤ ab)) rfl (fun hb => ?_) (fun hb => ?_)
  ·rw [if_pos hb] at hm
   clear hb
   refine wK <| wS <| wB <| wS <| wS ?_
   refine wquiet (col := ad) (by kernel_rfl) (by kernel_rfl) ?_
   refine qv (v := (.slice ag aa.length ai)) rfl (fun _ hC => r_move rfl) ?_
   refine qv (v := (.int .i64 ab)) rfl (fun _ hC => r_move rfl) ?_
   obtain ⟨aj, ak, hm⟩ := bS hm
   refine qv (v := (sptr ag (Int.toNat ab * 1))) rfl (fun _ hC => r_idx Tryz.underlying36 Tryz.sizeOf114 rfl rfl (at?_some ak).1 (at?_some ak).2.1 (ae.addr ak)) ?_
   refine qv (v := (.int .u32 aj)) rfl (fun _ hC => r_ld Tryz.isAgg114 rfl ((ae.gr (Grow.of_below (col := ad) hC.below)).atInt ak)) ?_
   refine qv (v := (.slice ah ac.length an)) rfl (fun _ hC => r_move rfl) ?_
   refine qv (v := (.int .i64 ab)) rfl (fun _ hC => r_move rfl) ?_
   obtain ⟨al, am, hm⟩ := bS hm
   refine qv (v := (sptr ah (Int.toNat ab * 1))) rfl (fun _ hC => r_idx Tryz.underlying36 Tryz.sizeOf114 rfl rfl (at?_some am).1 (at?_some am).2.1 (af.addr am)) ?_
   refine qv (v := (.int .u32 al)) rfl (fun _ hC => r_ld Tryz.isAgg114 rfl ((af.gr (Grow.of_below (col := ad) hC.below)).atInt am)) ?_
   refine qv (v := (.bool (decide (aj < al)))) rfl (fun _ hC => r_lss aj al rfl rfl) ?_
   refine qnil ?_
   intro aw hC
   replace hC : Grow ad ar ad aw := .of_below hC.below
   replace ae := ae.gr hC
   replace af := af.gr hC
   replace hst := hst.grow hC
   refine wcond (decide (aj < al)) rfl (fun hb => ?_) (fun hb => ?_)
   ·rw [if_pos hb] at hm
    clear hb
    refine wS <| wR <| lA (.int .i64 (-1)) <| lN ?_
    refine wret ?_
    cases hm
    exact ⟨rfl, rfl, hst.below⟩
   rw [if_neg (by rw [hb]; decide)] at hm
   clear hb
   refine wK <| wS ?_
   refine wquiet (col := ad) (by kernel_rfl) (by kernel_rfl) ?_
   refine qv (v := (.slice ag aa.length ai)) rfl (fun _ hC => r_move rfl) ?_
   refine qv (v := (.int .i64 ab)) rfl (fun _ hC => r_move rfl) ?_
   refine qv (v := (sptr ag (Int.toNat ab * 1))) rfl (fun _ hC => r_idx Tryz.underlying36 Tryz.sizeOf114 rfl rfl (at?_some ak).1 (at?_some ak).2.1 (ae.addr ak)) ?_
   refine qv (v := (.int .u32 aj)) rfl (fun _ hC => r_ld Tryz.isAgg114 rfl ((ae.gr (Grow.of_below (col := ad) hC.below)).atInt ak)) ?_
   refine qv (v := (.slice ah ac.length an)) rfl (fun _ hC => r_move rfl) ?_
   refine qv (v := (.int .i64 ab)) rfl (fun _ hC => r_move rfl) ?_
   refine qv (v := (sptr ah (Int.toNat ab * 1))) rfl (fun _ hC => r_idx Tryz.underlying36 Tryz.sizeOf114 rfl rfl (at?_some am).1 (at?_some am).2.1 (af.addr am)) ?_
   refine qv (v := (.int .u32 al)) rfl (fun _ hC => r_ld Tryz.isAgg114 rfl ((af.gr (Grow.of_below (col := ad) hC.below)).atInt am)) ?_
   refine qv (v := (.bool (decide (al < aj)))) rfl (fun _ hC => r_gtr aj al rfl rfl) ?_
   refine qnil ?_
   intro a3 hC
   replace hC : Grow ad aw ad a3 := .of_below hC.below
   replace ae := ae.gr hC
   replace af := af.gr hC
   replace hst := hst.grow hC
   refine wcond (decide (al < aj)) rfl (fun hb => ?_) (fun hb => ?_)
   ·rw [if_pos hb] at hm
    clear hb
    refine wS <| wR <| lA (.int .i64 1) <| lN ?_
    refine wret ?_
    cases hm
    exact ⟨rfl, rfl, hst.below⟩
   rw [if_neg (by rw [hb]; decide)] at hm
   clear hb
   refine wK <| wR <| lM (.int .i64 ab) <| lV (.int .i64 (IntKind.i64.wrap (ab - 1))) (r_sub ab 1 rfl rfl) <| lA (.int .i64 (IntKind.i64.wrap (ab - 1))) <| lN ?_
   exact ⟨ao, by omega, ⟨ad, (IntKind.i64.wrap (ab - 1)), ao, rfl, hm, hst, ae, af, rfl, rfl, rfl, rfl⟩⟩
  rw [if_neg (by rw [hb]; decide)] at hm
  clear hb
  refine wexit (inB_hit ?_)
  refine wS <| wR <| lA (.int .i64 0) <| lN ?_
  refine wret ?_
  cases hm
  exact ⟨rfl, rfl, hst.below⟩
def m_nat_small_L1 (N : Nat) (aa : Int) : Nat → (List Int) → Int → Int → Option (Int × (List Int))
  | 0, _, _, _ => none
  | af + 1, ac, ad, ab => if (decide (0 ≤ ab)) = true then ((at? ac ab).bind fun ae => chk ((IntKind.u64.wrap aa) ≠ 0) ((some (ac.set (Int.toNat ab) (IntKind.u32.wrap (IntKind.u64.wrap (Int.tdiv (ior .u64 (ishl .u64 ad 32) (IntKind.u64.wrap ae)) (IntKind.u64.wrap aa)))))).bind fun ag => chk ((IntKind.u64.wrap aa) ≠ 0) ((m_nat_small_L1 N aa af) ag (Int.tmod (ior .u64 (ishl .u64 ad 32) (IntKind.u64.wrap ae)) (IntKind.u64.wrap aa)) (IntKind.i64.wrap (ab - 1))))) else (some (IntKind.u32.wrap ad, ac))
termination_by structural x => x
def m_nat_small (N : Nat) (aa : (List Int)) (ab : Int) : Option (Int × (List Int)) :=
  m_nat_small_L1 N ab N aa 0 (IntKind.i64.wrap ((aa.length : Int) - 1))
theorem c_nat_small (N : Nat) (col : Col) (w0 : World) (qc0 : Nat) (hd : dstB [qc0] = true) (a0 : Option Addr) (cap0 : Nat) (ae : (List Int)) (ab : Int) (h0 : Own (Rep.int .u32) 114 qc0 col w0 a0 cap0 ae) (r : (Int × (List Int))) (hm : m_nat_small N ae ab = some r) :
    Calls Tryz.prog 107 #[(.slice a0 ae.length cap0), (.int .u32 ab)] w0 (fun e w' => ∃ (col' : Col), e = .returned ((.int .u32 r.1)) ∧ KeepP (pS [qc0]) col w0 col' w' ∧ Own (Rep.int .u32) 114 qc0 col' w' a0 cap0 r.2 ∧ r.2.length = ae.length) := by
 refine calls_of1 4 (m := 36) (args := [(.slice a0 ae.length cap0), (.int .u32 ab)]) Tryz.func107 rfl rfl rfl rfl rfl ?_
 rw [m_nat_small.eq_1] at hm
 have hst := St.startL (l := [qc0]) rfl col w0
 replace h0 := h0.startL (dst_nz hd 0 rfl) (dst_ix hd 0 rfl)
 refine wS <| wR <| lA (.int .u32 0) <| lN <| wS <| wR <| lA (.int .u64 0) <| lN <| wS <| wS <| wR <| lM (.slice a0 ae.length cap0) <| lV (.int .i64 (ae.length : Int)) (r_len Tryz.underlying36 rfl) <| lV (.int .i64 (IntKind.i64.wrap ((ae.length : Int) - 1))) (r_sub (ae.length : Int) 1 rfl rfl) <| lA (.int .i64 (IntKind.i64.wrap ((ae.length : Int) - 1))) <| lN <| wB ?_
 refine wloop (fun n f am => ∃ (ak : Col) (af : List Int) (aa : Int) (ad : Int) (ah : Nat), ah = n ∧ m_nat_small_L1 N ab ah af aa ad = some r ∧ St w0 (colL [qc0] col) ak am ∧ Own (Rep.int .u32) 114 440 ak am a0 cap0 af ∧ af.length = ae.length ∧ af.length = ae.length ∧ f 0 = (.slice a0 af.length cap0) ∧ f 1 = (.int .u32 ab) ∧ f 5 = (.int .u64 aa) ∧ f 6 = (.int .i64 ad) ∧ f 1000000 = (enc [])) N ⟨(colL [qc0] col), ae, 0, (IntKind.i64.wrap ((ae.length : Int) - 1)), N, rfl, hm, hst, h0, rfl, rfl, rfl, rfl, rfl, rfl, rfl⟩ ?_
 clear hm; intro n f am hI
 obtain ⟨ak, af, aa, ad, ah, hn, hm, hst, ai, ap, aq, hs0, hs1, hs5, hs6, hs1000000⟩ := hI
 subst hn
 refine .lD 0 hs0 <| .lD 1 hs1 <| .lD 5 hs5 <| .lD 6 hs6 <| .lD 1000000 hs1000000 ?_
 clear hs0 hs1 hs5 hs6 hs1000000
 cases ah with
 | zero => rw [m_nat_small_L1.eq_1] at hm; cases hm
 | succ ah =>
  rw [m_nat_small_L1.eq_2] at hm
  refine wS <| wS <| wR <| lM (.int .i64 ad) <| lV (.bool (decide (0 ≤ ad))) (r_geq ad 0 rfl rfl) <| lN ?_
  refine wcond (decide (0 ≤ ad)) rfl (fun hb => ?_) (fun hb => ?_)
  ·rw [if_pos hb] at hm
   clear hb
   refine wK <| wS <| wB <| wS <| wR <| lM (.int .u64 aa) <| lV (.int .u64 (ishl .u64 aa 32)) (r_shl aa 32 rfl rfl (by decide)) <| lM (.slice a0 af.length cap0) <| lM (.int .i64 ad) ?_
   obtain ⟨ac, ag, hm⟩ := bS hm
   refine lV (sptr a0 (Int.toNat ad * 1)) (r_idx Tryz.underlying36 Tryz.sizeOf114 rfl rfl (at?_some ag).1 (at?_some ag).2.1 (ai.addr ag)) ?_
   refine lV (.int .u32 ac) (r_ld Tryz.isAgg114 rfl (ai.atInt ag)) <| lV (.int .u64 (IntKind.u64.wrap ac)) (r_conv ac ⟨_, Tryz.underlying114⟩ Tryz.underlying108 rfl) <| lV (.int .u64 (ior .u64 (ishl .u64 aa 32) (IntKind.u64.wrap ac))) (r_or (ishl .u64 aa 32) (IntKind.u64.wrap ac) rfl rfl) <| lA (.int .u64 (ior .u64 (ishl .u64 aa 32) (IntKind.u64.wrap ac))) <| lN <| wS <| wR <| lM (.slice a0 af.length cap0) <| lM (.int .i64 ad) <| lM (.int .u64 (ior .u64 (ishl .u64 aa 32) (IntKind.u64.wrap ac))) <| lM (.int .u32 ab) <| lV (.int .u64 (IntKind.u64.wrap ab)) (r_conv ab ⟨_, Tryz.underlying114⟩ Tryz.underlying108 rfl) ?_
   obtain ⟨ar, hm⟩ := cS hm
   refine lV (.int .u64 (IntKind.u64.wrap (Int.tdiv (ior .u64 (ishl .u64 aa 32) (IntKind.u64.wrap ac)) (IntKind.u64.wrap ab)))) (r_quo (ior .u64 (ishl .u64 aa 32) (IntKind.u64.wrap ac)) (IntKind.u64.wrap ab) rfl rfl ar) <| lV (.int .u32 (IntKind.u32.wrap (IntKind.u64.wrap (Int.tdiv (ior .u64 (ishl .u64 aa 32) (IntKind.u64.wrap ac)) (IntKind.u64.wrap ab))))) (r_conv (IntKind.u64.wrap (Int.tdiv (ior .u64 (ishl .u64 aa 32) (IntKind.u64.wrap ac)) (IntKind.u64.wrap ab))) ⟨_, Tryz.underlying108⟩ Tryz.underlying114 rfl) ?_
   refine lV (sptr a0 (Int.toNat ad * 1)) (r_idx Tryz.underlying36 Tryz.sizeOf114 rfl rfl (at?_some ag).1 (at?_some ag).2.1 (ai.addr ag)) ?_
   obtain ⟨aj, al, hm⟩ := bS hm
   have al : aj = af.set (Int.toNat ad) (IntKind.u32.wrap (IntKind.u64.wrap (Int.tdiv (ior .u64 (ishl .u64 aa 32) (IntKind.u64.wrap ac)) (IntKind.u64.wrap ab)))) := (Option.some.inj al).symm
   refine l_store (x1 := IntKind.u32.wrap (IntKind.u64.wrap (Int.tdiv (ior .u64 (ishl .u64 aa 32) (IntKind.u64.wrap ac)) (IntKind.u64.wrap ab)))) (v := (.int .u32 (IntKind.u32.wrap (IntKind.u64.wrap (Int.tdiv (ior .u64 (ishl .u64 aa 32) (IntKind.u64.wrap ac)) (IntKind.u64.wrap ab)))))) ai ag rfl Tryz.sizeOf114 (rd_int .u32 (IntKind.u32.wrap (IntKind.u64.wrap (Int.tdiv (ior .u64 (ishl .u64 aa 32) (IntKind.u64.wrap ac)) (IntKind.u64.wrap ab))))) rfl rfl (by decide) ?_
   intro ax au av an
   rw [← al] at an
   have ao : aj.length = ae.length := (show af.length = aj.length by rw [al, List.length_set]).symm.trans ap
   refine .ld (d := 0) (v := (.slice a0 aj.length cap0)) (congrArg (fun n => Value.slice a0 n cap0) (show af.length = aj.length by rw [al, List.length_set])) ?_
   clear ai
   refine lN <| wR <| lM (.int .u64 (ior .u64 (ishl .u64 aa 32) (IntKind.u64.wrap ac))) <| lM (.int .u32 ab) <| lV (.int .u64 (IntKind.u64.wrap ab)) (r_conv ab ⟨_, Tryz.underlying114⟩ Tryz.underlying108 rfl) ?_
   obtain ⟨aw, hm⟩ := cS hm
   refine lV (.int .u64 (Int.tmod (ior .u64 (ishl .u64 aa 32) (IntKind.u64.wrap ac)) (IntKind.u64.wrap ab))) (r_rem (ior .u64 (ishl .u64 aa 32) (IntKind.u64.wrap ac)) (IntKind.u64.wrap ab) rfl rfl aw) <| lA (.int .u64 (Int.tmod (ior .u64 (ishl .u64 aa 32) (IntKind.u64.wrap ac)) (IntKind.u64.wrap ab))) <| lN <| wR <| lM (.int .i64 ad) <| lV (.int .i64 (IntKind.i64.wrap (ad - 1))) (r_sub ad 1 rfl rfl) <| lA (.int .i64 (IntKind.i64.wrap (ad - 1))) <| lN ?_
   replace hst := hst.kp au av
   exact ⟨ah, by omega, ⟨ak, aj, (Int.tmod (ior .u64 (ishl .u64 aa 32) (IntKind.u64.wrap ac)) (IntKind.u64.wrap ab)), (IntKind.i64.wrap (ad - 1)), ah, rfl, hm, hst, an, ao, ao, rfl, rfl, rfl, rfl, rfl⟩⟩
  rw [if_neg (by rw [hb]; decide)] at hm
  clear hb
  refine wexit (inB_hit ?_)
  refine wS <| wR <| lM (.int .u64 aa) <| lV (.int .u32 (IntKind.u32.wrap aa)) (r_conv aa ⟨_, Tryz.underlying108⟩ Tryz.underlying114 rfl) <| lA (.int .u32 (IntKind.u32.wrap aa)) <| lN ?_
  refine wret ?_
  cases hm
  exact ⟨rfl, colFL w0.heap.size [qc0] col ak (fun n => bif Nat.beq n 440 then qc0 else 0), rfl, hst.finL rfl (fun n => bif Nat.beq n 440 then qc0 else 0), hst.finOwnL (g := (fun n => bif Nat.beq n 440 then qc0 else 0)) rfl ai (by decide) (by decide) rfl, aq⟩
theorem el114_104 : ElemOk Tryz.prog 114 1 4 := ⟨Tryz.t114, _, rfl, rfl, rfl, rfl, rfl⟩
def m_nat_DivMod (N : Nat) (ad : (List Int)) (ae : (List Int)) : Option ((List Int) × (List Int) × Int) :=
  (m_nat_trim N ad).bind fun ab => (m_nat_trim N ae).bind fun aa => if (decide ((aa.length : Int) = 0)) = true then none else ((m_nat_Cmp N ab aa).bind fun af => if (decide (af < 0)) = true then ((m_nat_own N ab).bind fun ag => some (([] : List Int), ag, 0)) else (if (decide ((aa.length : Int) = 1)) = true then ((m_slices_Clone_api_Nat_uint32 ab).bind fun ah => (at? aa 0).bind fun ai => (m_nat_small N ah ai).bind fun ac => (m_nat_own N ac.2).bind fun aj => (m_nat_own N [ac.1]).bind fun ak => some (aj, ak, 0)) else none))
theorem c_nat_DivMod (N : Nat) (c1 : Nat) (c2 : Nat) (col : Col) (w0 : World) (a0 : Option Addr) (cap0 : Nat) (ak : (List Int)) (a1 : Option Addr) (cap1 : Nat) (al : (List Int)) (h0 : Sl (Rep.int .u32) col w0 a0 cap0 ak) (h1 : Sl (Rep.int .u32) col w0 a1 cap1 al) (r : ((List Int) × (List Int) × Int)) (hm : m_nat_DivMod N ak al = some r) :
    Calls Tryz.prog 104 #[(.slice a0 ak.length cap0), (.slice a1 al.length cap1)] w0 (fun e w' => ∃ (col' : Col) (ra1 : Option Addr) (rc2 : Nat) (ra4 : Option Addr) (rc5 : Nat), e = .returned (.tuple #[(.slice ra1 r.1.length rc2), (.slice ra4 r.2.1.length rc5), (.int .i64 r.2.2)]) ∧ Grow col w0 col' w' ∧ Own (Rep.int .u32) 114 c1 col' w' ra1 rc2 r.1 ∧ Own (Rep.int .u32) 114 c2 col' w' ra4 rc5 r.2.1) := by
 refine calls_of3 4 5 6 (m := 122) (args := [(.slice a0 ak.length cap0), (.slice a1 al.length cap1)]) Tryz.func104 rfl rfl rfl rfl rfl ?_
 rw [m_nat_DivMod.eq_1] at hm
 have hst := St.start col w0
 refine wS <| wR <| lA (.slice none (([] : List Int).length) 0) <| lA (.slice none (([] : List Int).length) 0) <| lA (.int .i64 0) <| lN <| wS <| wR <| lM (.slice a0 ak.length cap0) ?_
 obtain ⟨ae, bi, hm⟩ := bS hm
 replace h0 := h0.keep (Stay.start col w0)
 refine lc rfl rfl (r_call1 Tryz.call88 rfl) (c_nat_trim N (col0 col) _ a0 cap0 ak h0 ae bi) ?_
 rintro _ b8 ⟨bj, af, ag, rfl, a2, ah⟩
 refine ⟨_, rfl, ?_⟩
 refine lM (.slice a1 al.length cap1) ?_
 obtain ⟨aa, bk, hm⟩ := bS hm
 replace h1 := (h1.keep (Stay.start col w0)).gr a2
 refine lc rfl rfl (r_call1 Tryz.call88 rfl) (c_nat_trim N bj _ a1 cap1 al h1 aa bk) ?_
 rintro _ bl ⟨ao, ai, am, rfl, a3, aj⟩
 refine ⟨_, rfl, ?_⟩
 refine lA (.slice af ae.length ag) <| lA (.slice ai aa.length am) <| lN <| wS <| wS <| wR <| lM (.slice ai aa.length am) <| lV (.int .i64 (aa.length : Int)) (r_len Tryz.underlying36 rfl) <| lV (.bool (decide ((aa.length : Int) = 0))) (r_eql (aa.length : Int) 0 rfl rfl) <| lN ?_
 replace hst := (hst.grow a2).grow a3
 replace ah := ah.gr a3
 refine wcond (decide ((aa.length : Int) = 0)) rfl (fun hb => ?_) (fun hb => ?_)
 ·rw [if_pos hb] at hm
  clear hb
  cases hm
 rw [if_neg (by rw [hb]; decide)] at hm
 clear hb
 refine wK <| wS <| wS <| wR <| lM (.slice af ae.length ag) <| lM (.slice ai aa.length am) ?_
 obtain ⟨au, bm, hm⟩ := bS hm
 refine lc rfl rfl (r_call2 Tryz.call58 rfl rfl) (c_nat_Cmp N ao _ af ag ae ai am aa ah aj au bm) ?_
 rintro _ bn ⟨rfl, ap⟩
 refine ⟨_, rfl, ?_⟩
 replace ap : Grow ao bl ao bn := .of_below ap
 refine lV (.bool (decide (au < 0))) (r_lss au 0 rfl rfl) <| lN ?_
 replace ah := ah.gr ap
 replace aj := aj.gr ap
 replace hst := hst.grow ap
 refine wcond (decide (au < 0)) rfl (fun hb => ?_) (fun hb => ?_)
 ·rw [if_pos hb] at hm
  clear hb
  refine wS <| wR <| lM (.slice af ae.length ag) ?_
  obtain ⟨a4, bo, hm⟩ := bS hm
  refine lc rfl rfl (r_call1 Tryz.call89 rfl) (c_nat_own N 1 ao _ af ag ae ah a4 bo) ?_
  rintro _ b9 ⟨bp, a5, a6, rfl, bq, br⟩
  refine ⟨_, rfl, ?_⟩
  refine lA (.slice none (([] : List Int).length) 0) <| lA (.slice a5 a4.length a6) <| lA (.int .i64 0) <| lN ?_
  refine wret ?_
  cases hm
  replace hst := hst.grow bq
  exact ⟨rfl, colF w0.heap.size col bp (fun n => bif Nat.beq n 1 then c2 else 0), none, 0, a5, a6, rfl, hst.fin (fun n => bif Nat.beq n 1 then c2 else 0), Own.nil, hst.finOwn (g := (fun n => bif Nat.beq n 1 then c2 else 0)) rfl br (by decide) (by decide) rfl⟩
 rw [if_neg (by rw [hb]; decide)] at hm
 clear hb
 refine wK <| wS <| wS <| wR <| lM (.slice ai aa.length am) <| lV (.int .i64 (aa.length : Int)) (r_len Tryz.underlying36 rfl) <| lV (.bool (decide ((aa.length : Int) = 1))) (r_eql (aa.length : Int) 1 rfl rfl) <| lN ?_
 refine wcond (decide ((aa.length : Int) = 1)) rfl (fun hb => ?_) (fun hb => ?_)
 ·rw [if_pos hb] at hm
  clear hb
  refine wS <| wR <| lM (.slice af ae.length ag) ?_
  obtain ⟨an, bs, hm⟩ := bS hm
  refine lc rfl rfl (r_call1 Tryz.call130 rfl) (c_slices_Clone_api_Nat_uint32 2 ao _ af ag ae ah an bs) ?_
  rintro _ ca ⟨bt, ac, ad, rfl, a7, a8⟩
  refine ⟨_, rfl, ?_⟩
  refine lA (.slice ac an.length ad) <| lN <| wS <| wR <| lM (.slice ac an.length ad) <| lM (.slice ai aa.length am) ?_
  obtain ⟨a9, av, hm⟩ := bS hm
  replace aj := aj.gr a7
  refine lV (sptr ai (Int.toNat 0 * 1)) (r_idx Tryz.underlying36 Tryz.sizeOf114 rfl rfl (at?_some av).1 (at?_some av).2.1 (aj.addr av)) ?_
  refine lV (.int .u32 a9) (r_ld Tryz.isAgg114 rfl (aj.atInt av)) ?_
  obtain ⟨ab, bu, hm⟩ := bS hm
  refine lc rfl rfl (r_call2 Tryz.call107 rfl rfl) (c_nat_small N bt _ 2 rfl ac ad an a9 a8 ab bu) ?_
  rintro _ bv ⟨aw, rfl, bw, bx, ba⟩
  refine ⟨_, rfl, ?_⟩
  clear a8
  refine .ld (d := 7) (v := (.slice ac ab.2.length ad)) (congrArg (fun n => Value.slice ac n ad) (show an.length = ab.2.length from ba.symm)) ?_
  refine .ld (d := 34) (v := (.slice ac ab.2.length ad)) (congrArg (fun n => Value.slice ac n ad) (show an.length = ab.2.length from ba.symm)) ?_
  refine lA (.int .u32 ab.1) <| lN <| wS <| wR <| lM (.slice ac ab.2.length ad) ?_
  obtain ⟨bb, bz, hm⟩ := bS hm
  refine lc rfl rfl (r_call1 Tryz.call89 rfl) (c_nat_own N 3 (frC 2 aw) _ ac ad ab.2 (bx.toSlF (Froz.int .u32)) bb bz) ?_
  rintro _ cb ⟨b0, bc, bd, rfl, ax, aq⟩
  refine ⟨_, rfl, ?_⟩
  replace aq := aq.thaw (flat_int .u32) ax ((Fz.refl (col := aw)).froz 2) (by decide)
  replace ax := ax.thawR (col := aw)
  generalize colR bv.heap.size aw b0 = b1 at *
  refine lM (.int .u32 ab.1) ?_
  refine l_lit (col := b1) (r := (Rep.int .u32)) (xs := [ab.1]) [(.int .u32 ab.1)] 4 rfl Tryz.underlying36 el114_104 rfl rfl rfl rfl rfl rfl (by intro v hv; simp only [List.mem_cons, List.not_mem_nil, or_false] at hv; subst hv; rfl) (RowsH.ofF (Rows.consF (r := (Rep.int .u32)) (x := ab.1) (cs := [(.int .u32 ab.1)]) (rd_int .u32 ab.1) Rows.nil0)) ?_
  intro b2 b3 ay be b4
  obtain ⟨bf, b5, hm⟩ := bS hm
  refine lc rfl rfl (r_call1 Tryz.call89 rfl) (c_nat_own N 5 (frC 4 ay) _ b2 1 [ab.1] (b4.toSlF (Froz.int .u32)) bf b5) ?_
  rintro _ cc ⟨b6, bg, bh, rfl, ar, az⟩
  refine ⟨_, rfl, ?_⟩
  replace az := az.thaw (flat_int .u32) ar ((Fz.refl (col := ay)).froz 4) (by decide)
  replace ar := ar.thawR (col := ay)
  generalize colR b3.heap.size ay b6 = b7 at *
  refine lA (.slice bc bb.length bd) <| lA (.slice bg bf.length bh) <| lA (.int .i64 0) <| lN ?_
  refine wret ?_
  cases hm
  replace hst := ((((hst.grow a7).kpp bw).grow ax).grow be).grow ar
  replace aq := (aq.gr be).gr ar
  exact ⟨rfl, colF w0.heap.size col b7 (fun n => bif Nat.beq n 3 then c1 else bif Nat.beq n 5 then c2 else 0), bc, bd, bg, bh, rfl, hst.fin (fun n => bif Nat.beq n 3 then c1 else bif Nat.beq n 5 then c2 else 0), hst.finOwn (g := (fun n => bif Nat.beq n 3 then c1 else bif Nat.beq n 5 then c2 else 0)) rfl aq (by decide) (by decide) rfl, hst.finOwn (g := (fun n => bif Nat.beq n 3 then c1 else bif Nat.beq n 5 then c2 else 0)) rfl az (by decide) (by decide) rfl⟩
 rw [if_neg (by rw [hb]; decide)] at hm
 clear hb
 cases hm
def m_nat_Gcd_L1 (N : Nat)  : Nat → (List Int) → (List Int) → Option (List Int)
  | 0, _, _ => none
  | ac + 1, ab, aa => if (decide (0 < (aa.length : Int))) = true then ((m_nat_DivMod N ab aa).bind fun ad => (m_nat_Gcd_L1 N ac) aa ad.2.1) else (some ab)
termination_by structural x => x
def m_nat_Gcd (N : Nat) (aa : (List Int)) (ab : (List Int)) : Option (List Int) :=
  (m_nat_own N aa).bind fun ac => (m_nat_own N ab).bind fun ad => m_nat_Gcd_L1 N N ac ad
theorem c_nat_Gcd (N : Nat) (c1 : Nat) (col : Col) (w0 : World) (a0 : Option Addr) (cap0 : Nat) (al : (List Int)) (a1 : Option Addr) (cap1 : Nat) (am : (List Int)) (h0 : Sl (Rep.int .u32) col w0 a0 cap0 al) (h1 : Sl (Rep.int .u32) col w0 a1 cap1 am) (r : (List Int)) (hm : m_nat_Gcd N al am = some r) :
    Calls Tryz.prog 103 #[(.slice a0 al.length cap0), (.slice a1 am.length cap1)] w0 (fun e w' => ∃ (col' : Col) (ra1 : Option Addr) (rc2 : Nat), e = .returned ((.slice ra1 r.length rc2)) ∧ Grow col w0 col' w' ∧ Own (Rep.int .u32) 114 c1 col' w' ra1 rc2 r) := by
 refine calls_of1 4 (m := 25) (args := [(.slice a0 al.length cap0), (.slice a1 am.length cap1)]) Tryz.func103 rfl rfl rfl rfl rfl ?_
 rw [m_nat_Gcd.eq_1] at hm
 have hst := St.start col w0
 refine wS <| wR <| lA (.slice none (([] : List Int).length) 0) <| lN <| wS <| wR <| lM (.slice a0 al.length cap0) ?_
 obtain ⟨ar, a7, hm⟩ := bS hm
 replace h0 := h0.keep (Stay.start col w0)
 refine lc rfl rfl (r_call1 Tryz.call89 rfl) (c_nat_own N 1 (col0 col) _ a0 cap0 al h0 ar a7) ?_
 rintro _ bf ⟨a8, ay, az, rfl, a2, au⟩
 refine ⟨_, rfl, ?_⟩
 refine lM (.slice a1 am.length cap1) ?_
 obtain ⟨av, a9, hm⟩ := bS hm
 replace h1 := (h1.keep (Stay.start col w0)).gr a2
 refine lc rfl rfl (r_call1 Tryz.call89 rfl) (c_nat_own N 2 a8 _ a1 cap1 am h1 av a9) ?_
 rintro _ bg ⟨ba, a3, a4, rfl, a5, bb⟩
 refine ⟨_, rfl, ?_⟩
 refine lA (.slice ay ar.length az) <| lA (.slice a3 av.length a4) <| lN <| wS <| wB ?_
 replace hst := (hst.grow a2).grow a5
 replace au := au.gr a5
 refine wloop (fun n f ap => ∃ (ac : Col) (af : Option Addr) (ag : Nat) (ah : List Int) (ad : Option Addr) (ae : Nat) (aa : List Int) (aj : Nat), aj = n ∧ m_nat_Gcd_L1 N aj ah aa = some r ∧ St w0 (col0 col) ac ap ∧ Own (Rep.int .u32) 114 1 ac ap af ag ah ∧ Own (Rep.int .u32) 114 2 ac ap ad ae aa ∧ f 0 = (.slice af ah.length ag) ∧ f 1 = (.slice ad aa.length ae) ∧ f 1000000 = (enc [])) N ⟨ba, ay, az, ar, a3, a4, av, N, rfl, hm, hst, au, bb, rfl, rfl, rfl⟩ ?_
 clear hm; intro n f ap hI
 obtain ⟨ac, af, ag, ah, ad, ae, aa, aj, hn, hm, hst, a6, ai, hs0, hs1, hs1000000⟩ := hI
 subst hn
 refine .lD 0 hs0 <| .lD 1 hs1 <| .lD 1000000 hs1000000 ?_
 clear hs0 hs1 hs1000000
 cases aj with
 | zero => rw [m_nat_Gcd_L1.eq_1] at hm; cases hm
 | succ aj =>
  rw [m_nat_Gcd_L1.eq_2] at hm
  refine wS <| wS <| wR <| lM (.slice ad aa.length ae) <| lV (.int .i64 (aa.length : Int)) (r_len Tryz.underlying36 rfl) <| lV (.bool (decide (0 < (aa.length : Int)))) (r_gtr (aa.length : Int) 0 rfl rfl) <| lN ?_
  refine wcond (decide (0 < (aa.length : Int))) rfl (fun hb => ?_) (fun hb => ?_)
  ·rw [if_pos hb] at hm
   clear hb
   refine wK <| wB <| wS <| wR <| lM (.slice af ah.length ag) <| lM (.slice ad aa.length ae) ?_
   obtain ⟨ab, bc, hm⟩ := bS hm
   refine lc rfl rfl (r_call2 Tryz.call104 rfl rfl) (c_nat_DivMod N 3 4 (frC 2 (frC 1 ac)) _ af ag ah ad ae aa ((a6.toSlF (Froz.int .u32)).froz 2) ((ai.froz 1 (by decide)).toSlF (Froz.int .u32)) ab bc) ?_
   rintro _ bh ⟨bd, aw, ax, an, ao, rfl, aq, bi, ak⟩
   refine ⟨_, rfl, ?_⟩
   replace ak := ak.thaw (flat_int .u32) aq (((Fz.refl (col := ac)).froz 1).froz 2) (by decide)
   replace aq := aq.thawR (col := ac)
   generalize colR ap.heap.size ac bd = be at *
   refine lM (.tuple #[(.slice aw ab.1.length ax), (.slice an ab.2.1.length ao), (.int .i64 ab.2.2)]) <| lV (.slice aw ab.1.length ax) (r_extract rfl rfl) <| lV (.slice an ab.2.1.length ao) (r_extract rfl rfl) <| lV (.int .i64 ab.2.2) (r_extract rfl rfl) <| lA (.slice aw ab.1.length ax) <| lA (.slice an ab.2.1.length ao) <| lA (.int .i64 ab.2.2) <| lN <| wR <| lM (.slice ad aa.length ae) <| lM (.slice an ab.2.1.length ao) <| lA (.slice ad aa.length ae) <| lA (.slice an ab.2.1.length ao) <| lN ?_
   replace ai := ai.gr aq
   replace ai := ai.recolSelf 1 (by decide)
   replace ak := ak.recol 2 1 (by decide)
   replace hst := hst.grow aq
   replace hst := hst.recol 2 1 (by decide) (by decide)
   replace ai := ai.recol 4 2 (by decide)
   replace ak := ak.recolSelf 2 (by decide)
   replace hst := hst.recol 4 2 (by decide) (by decide)
   exact ⟨aj, by omega, ⟨(rcC 4 2 (rcC 2 1 be)), ad, ae, aa, an, ao, ab.2.1, aj, rfl, hm, hst, ai, ak, rfl, rfl, rfl⟩⟩
  rw [if_neg (by rw [hb]; decide)] at hm
  clear hb
  refine wexit (inB_hit ?_)
  refine wS <| wR <| lM (.slice af ah.length ag) <| lA (.slice af ah.length ag) <| lN ?_
  refine wret ?_
  cases hm
  exact ⟨rfl, colF w0.heap.size col ac (fun n => bif Nat.beq n 1 then c1 else 0), af, ag, rfl, hst.fin (fun n => bif Nat.beq n 1 then c1 else 0), hst.finOwn (g := (fun n => bif Nat.beq n 1 then c1 else 0)) rfl a6 (by decide) (by decide) rfl⟩
def m_whole_Norm (N : Nat) (aa : (Bool × (List Int))) : Option (Bool × (List Int)) :=
  (m_whole_of N aa.1 aa.2).bind fun ab => some (ab.1, ab.2)
theorem c_whole_Norm (N : Nat) (c1 : Nat) (col : Col) (w0 : World) (ab : Option Addr) (ac : Nat) (aa : (Bool × (List Int))) (ag : Sl (Rep.int .u32) col w0 ab ac aa.2) (r : (Bool × (List Int))) (hm : m_whole_Norm N aa = some r) :
    Calls Tryz.prog 105 #[(.agg #[(.bool aa.1), (.slice ab aa.2.length ac)])] w0 (fun e w' => ∃ (col' : Col) (ra1 : Option Addr) (rc2 : Nat), e = .returned ((.agg #[(.bool r.1), (.slice ra1 r.2.length rc2)])) ∧ Grow col w0 col' w' ∧ Own (Rep.int .u32) 114 c1 col' w' ra1 rc2 r.2) := by
 refine calls_ofR (m := 8) (args := [(.agg #[(.bool aa.1), (.slice ab aa.2.length ac)])]) Tryz.func105 rfl rfl rfl ?_
 rw [m_whole_Norm.eq_1] at hm
 have hst := St.start col w0
 refine wS <| wR ?_
 refine l_box (col := (col0 col)) (v := (.agg #[(.bool aa.1), (.slice ab aa.2.length ac)])) 1 rfl rfl ?_
 intro ah aw an ao ad
 replace ad : Box 38 1 an aw ah #[(.bool aa.1), (.slice ab aa.2.length ac)] := ad
 refine l_alloc (col := an) (v := (.agg #[(.bool false), (.slice none (([] : List Int).length) 0)])) 2 rfl Tryz.zeroValue38 ?_
 intro ap ax aq ai ae
 replace ae : Box 38 2 aq ax ap #[(.bool false), (.slice none (([] : List Int).length) 0)] := ae
 refine lN <| wS <| wR <| lV (.pointer ((some (⟨ah, 0, none⟩ : Addr)).map (·.add 0))) (rF (sz := 1) (off := 0) Tryz.underlying38 rfl Tryz.sizeOf4 (by decide) rfl rfl ⟨_, _, rfl⟩) ?_
 replace ad := ad.gr ai
 refine lV (.bool aa.1) (r_ld Tryz.isAgg4 rfl ((ad.atN).nth (q := 0) (v := (.bool aa.1)) rfl)) <| lV (.pointer ((some (⟨ah, 0, none⟩ : Addr)).map (·.add 1))) (rF (sz := 1) (off := 1) Tryz.underlying38 rfl Tryz.sizeOf36 (by decide) rfl rfl ⟨_, _, rfl⟩) <| lV (.slice ab aa.2.length ac) (r_ld Tryz.isAgg36 rfl ((ad.atN).nth (q := 1) (v := (.slice ab aa.2.length ac)) rfl)) ?_
 obtain ⟨af, ay, hm⟩ := bS hm
 replace ag := ((ag.keep (Stay.start col w0)).gr ao).gr ai
 refine lc rfl rfl (r_call2 Tryz.call112 rfl rfl) (c_whole_of N 3 aq _ aa.1 ab ac aa.2 ag af ay) ?_
 rintro _ a1 ⟨ar, aj, ak, rfl, au, al⟩
 refine ⟨_, rfl, ?_⟩
 replace ae := ae.gr au
 refine l_bstore (v := (.agg #[(.bool af.1), (.slice aj af.2.length ak)])) ae Tryz.sizeOf38 rfl rfl (by intro u hu; simp only [Value.cells, List.mem_cons, List.not_mem_nil, or_false] at hu; rcases hu with rfl | rfl <;> rfl) rfl rfl ?_
 intro az av a0 am
 clear ae
 replace am : Box 38 2 ar az ap #[(.bool af.1), (.slice aj af.2.length ak)] := am
 refine lN ?_
 refine wret ?_
 cases hm
 replace hst := (((hst.grow ao).grow ai).grow au).kp av a0
 replace al := al.kp av
 exact ⟨rfl, _, res_a rfl rfl Tryz.isAgg38 Tryz.sizeOf38 rfl rfl am.atN, colF w0.heap.size col ar (fun n => bif Nat.beq n 3 then c1 else 0), aj, ak, rfl, hst.fin (fun n => bif Nat.beq n 3 then c1 else 0), hst.finOwn (g := (fun n => bif Nat.beq n 3 then c1 else 0)) rfl al (by decide) (by decide) rfl⟩
def m_frac_lowest (N : Nat) (ae : Bool) (aa : (List Int)) (ab : (List Int)) : Option ((Bool × (List Int)) × (List Int)) :=
  (m_nat_Gcd N aa ab).bind fun ac => (m_nat_DivMod N aa ac).bind fun af => (m_nat_DivMod N ab ac).bind fun ag => (m_whole_Norm N (ae, af.1)).bind fun ad => some ((ad.1, ad.2), ag.1)
theorem c_frac_lowest (N : Nat) (c1 : Nat) (c2 : Nat) (col : Col) (w0 : World) (ai : Bool) (a1 : Option Addr) (cap1 : Nat) (ac : (List Int)) (a2 : Option Addr) (cap2 : Nat) (ad : (List Int)) (h1 : Sl (Rep.int .u32) col w0 a1 cap1 ac) (h2 : Sl (Rep.int .u32) col w0 a2 cap2 ad) (r : ((Bool × (List Int)) × (List Int))) (hm : m_frac_lowest N ai ac ad = some r) :
    Calls Tryz.prog 55 #[(.bool ai), (.slice a1 ac.length cap1), (.slice a2 ad.length cap2)] w0 (fun e w' => ∃ (col' : Col) (ra1 : Option Addr) (rc2 : Nat) (ra4 : Option Addr) (rc5 : Nat), e = .returned ((.agg #[(.bool r.1.1), (.slice ra1 r.1.2.length rc2), (.slice ra4 r.2.length rc5)])) ∧ Grow col w0 col' w' ∧ Own (Rep.int .u32) 114 c1 col' w' ra1 rc2 r.1.2 ∧ Own (Rep.int .u32) 114 c2 col' w' ra4 rc5 r.2) := by
 refine calls_ofR (m := 37) (args := [(.bool ai), (.slice a1 ac.length cap1), (.slice a2 ad.length cap2)]) Tryz.func55 rfl rfl rfl ?_
 rw [m_frac_lowest.eq_1] at hm
 have hst := St.start col w0
 refine wS <| wR ?_
 refine l_alloc (col := (col0 col)) (v := (.agg #[(.bool false), (.slice none (([] : List Int).length) 0), (.slice none (([] : List Int).length) 0)])) 1 rfl Tryz.zeroValue40 ?_
 intro bc bf bd a5 aj
 replace aj : Box 40 1 bd bf bc #[(.bool false), (.slice none (([] : List Int).length) 0), (.slice none (([] : List Int).length) 0)] := aj
 refine lN <| wS <| wR <| lM (.slice a1 ac.length cap1) <| lM (.slice a2 ad.length cap2) ?_
 obtain ⟨ak, bg, hm⟩ := bS hm
 replace h1 := (h1.keep (Stay.start col w0)).gr a5
 replace h2 := (h2.keep (Stay.start col w0)).gr a5
 refine lc rfl rfl (r_call2 Tryz.call103 rfl rfl) (c_nat_Gcd N 2 bd _ a1 cap1 ac a2 cap2 ad h1 h2 ak bg) ?_
 rintro _ bh ⟨aw, ap, aq, rfl, ax, ay⟩
 refine ⟨_, rfl, ?_⟩
 refine lA (.slice ap ak.length aq) <| lN <| wS <| wR <| lM (.slice a1 ac.length cap1) <| lM (.slice ap ak.length aq) ?_
 obtain ⟨ab, bi, hm⟩ := bS hm
 replace h1 := h1.gr ax
 refine lc rfl rfl (r_call2 Tryz.call104 rfl rfl) (c_nat_DivMod N 3 4 (frC 2 aw) _ a1 cap1 ac ap aq ak (h1.froz 2) (ay.toSlF (Froz.int .u32)) ab bi) ?_
 rintro _ bj ⟨bk, al, am, a6, a7, rfl, ag, ar, bs⟩
 refine ⟨_, rfl, ?_⟩
 replace ar := ar.thaw (flat_int .u32) ag ((Fz.refl (col := aw)).froz 2) (by decide)
 replace ag := ag.thawR (col := aw)
 generalize colR bh.heap.size aw bk = az at *
 refine lM (.tuple #[(.slice al ab.1.length am), (.slice a6 ab.2.1.length a7), (.int .i64 ab.2.2)]) <| lV (.slice al ab.1.length am) (r_extract rfl rfl) <| lV (.slice a6 ab.2.1.length a7) (r_extract rfl rfl) <| lV (.int .i64 ab.2.2) (r_extract rfl rfl) <| lA (.slice al ab.1.length am) <| lA (.slice a6 ab.2.1.length a7) <| lA (.int .i64 ab.2.2) <| lN <| wS <| wR <| lM (.slice a2 ad.length cap2) <| lM (.slice ap ak.length aq) ?_
 obtain ⟨aa, bl, hm⟩ := bS hm
 replace h2 := (h2.gr ax).gr ag
 replace ay := ay.gr ag
 refine lc rfl rfl (r_call2 Tryz.call104 rfl rfl) (c_nat_DivMod N 5 6 (frC 2 az) _ a2 cap2 ad ap aq ak (h2.froz 2) (ay.toSlF (Froz.int .u32)) aa bl) ?_
 rintro _ bm ⟨bn, ae, af, a8, a9, rfl, an, au, bt⟩
 refine ⟨_, rfl, ?_⟩
 replace au := au.thaw (flat_int .u32) an ((Fz.refl (col := az)).froz 2) (by decide)
 replace an := an.thawR (col := az)
 generalize colR bj.heap.size az bn = a0 at *
 refine lM (.tuple #[(.slice ae aa.1.length af), (.slice a8 aa.2.1.length a9), (.int .i64 aa.2.2)]) <| lV (.slice ae aa.1.length af) (r_extract rfl rfl) <| lV (.slice a8 aa.2.1.length a9) (r_extract rfl rfl) <| lV (.int .i64 aa.2.2) (r_extract rfl rfl) <| lA (.slice ae aa.1.length af) <| lA (.slice a8 aa.2.1.length a9) <| lA (.int .i64 aa.2.2) <| lN <| wS <| wR <| lM (.bool ai) <| lM (.slice al ab.1.length am) <| lV (.agg #[(.bool ai), (.slice al ab.1.length am)]) (r_build (l := [_, _]) (qs := [(0, 1), (1, 1)]) Tryz.underlying38 Tryz.zeroValue38 ⟨rfl, Tryz.sizeOf4, rfl, Tryz.sizeOf36, trivial⟩ rfl) ?_
 obtain ⟨ah, bo, hm⟩ := bS hm
 replace ar := ar.gr an
 refine lc rfl rfl (r_call1 Tryz.call105 rfl) (c_whole_Norm N 7 (frC 3 a0) _ al am (ai, ab.1) (ar.toSlF (Froz.int .u32)) ah bo) ?_
 rintro _ bu ⟨bp, a3, a4, rfl, ao, av⟩
 refine ⟨_, rfl, ?_⟩
 replace av := av.thaw (flat_int .u32) ao ((Fz.refl (col := a0)).froz 3) (by decide)
 replace ao := ao.thawR (col := a0)
 generalize colR bm.heap.size a0 bp = be at *
 refine lM (.slice ae aa.1.length af) <| lV (.agg #[(.bool ah.1), (.slice a3 ah.2.length a4), (.slice ae aa.1.length af)]) (r_build (l := [_, _]) (qs := [(0, 2), (2, 1)]) Tryz.underlying40 Tryz.zeroValue40 ⟨rfl, Tryz.sizeOf38, rfl, Tryz.sizeOf36, trivial⟩ rfl) ?_
 replace aj := (((aj.gr ax).gr ag).gr an).gr ao
 refine l_bstore (v := (.agg #[(.bool ah.1), (.slice a3 ah.2.length a4), (.slice ae aa.1.length af)])) aj Tryz.sizeOf40 rfl rfl (by intro u hu; simp only [Value.cells, List.mem_cons, List.not_mem_nil, or_false] at hu; rcases hu with rfl | rfl | rfl <;> rfl) rfl rfl ?_
 intro bq ba br bb
 clear aj
 replace bb : Box 40 1 be bq bc #[(.bool ah.1), (.slice a3 ah.2.length a4), (.slice ae aa.1.length af)] := bb
 refine lN ?_
 refine wret ?_
 cases hm
 replace hst := (((((hst.grow a5).grow ax).grow ag).grow an).grow ao).kp ba br
 replace au := (au.gr ao).kp ba
 replace av := av.kp ba
 exact ⟨rfl, _, res_a rfl rfl Tryz.isAgg40 Tryz.sizeOf40 rfl rfl bb.atN, colF w0.heap.size col be (fun n => bif Nat.beq n 7 then c1 else bif Nat.beq n 5 then c2 else 0), a3, a4, ae, af, rfl, hst.fin (fun n => bif Nat.beq n 7 then c1 else bif Nat.beq n 5 then c2 else 0), hst.finOwn (g := (fun n => bif Nat.beq n 7 then c1 else bif Nat.beq n 5 then c2 else 0)) rfl av (by decide) (by decide) rfl, hst.finOwn (g := (fun n => bif Nat.beq n 7 then c1 else bif Nat.beq n 5 then c2 else 0)) rfl au (by decide) (by decide) rfl⟩
def m_frac_New (N : Nat) (ac : (Bool × (List Int))) (aa : (Bool × (List Int))) : Option (((Bool × (List Int)) × (List Int)) × Int) :=
  (m_whole_Sign N (aa.1, aa.2)).bind fun ad => if (decide (ad = 0)) = true then none else ((m_frac_lowest N (!decide (ac.1 = aa.1)) ac.2 aa.2).bind fun ab => some (((ab.1.1, ab.1.2), ab.2), 0))
theorem c_frac_New (N : Nat) (c1 : Nat) (c2 : Nat) (col : Col) (w0 : World) (af : Option Addr) (ag : Nat) (ab : (Bool × (List Int))) (ac : Option Addr) (ad : Nat) (aa : (Bool × (List Int))) (aq : Sl (Rep.int .u32) col w0 af ag ab.2) (ak : Sl (Rep.int .u32) col w0 ac ad aa.2) (r : (((Bool × (List Int)) × (List Int)) × Int)) (hm : m_frac_New N ab aa = some r) :
    Calls Tryz.prog 41 #[(.agg #[(.bool ab.1), (.slice af ab.2.length ag)]), (.agg #[(.bool aa.1), (.slice ac aa.2.length ad)])] w0 (fun e w' => ∃ (col' : Col) (ra1 : Option Addr) (rc2 : Nat) (ra4 : Option Addr) (rc5 : Nat), e = .returned (.tuple #[(.agg #[(.bool r.1.1.1), (.slice ra1 r.1.1.2.length rc2), (.slice ra4 r.1.2.length rc5)]), (.int .i64 r.2)]) ∧ Grow col w0 col' w' ∧ Own (Rep.int .u32) 114 c1 col' w' ra1 rc2 r.1.1.2 ∧ Own (Rep.int .u32) 114 c2 col' w' ra4 rc5 r.1.2) := by
 refine calls_ofR (m := 20) (args := [(.agg #[(.bool ab.1), (.slice af ab.2.length ag)]), (.agg #[(.bool aa.1), (.slice ac aa.2.length ad)])]) Tryz.func41 rfl rfl rfl ?_
 rw [m_frac_New.eq_1] at hm
 have hst := St.start col w0
 refine wS <| wR ?_
 refine l_box (col := (col0 col)) (v := (.agg #[(.bool ab.1), (.slice af ab.2.length ag)])) 1 rfl rfl ?_
 intro ar ba a4 au al
 replace al : Box 38 1 a4 ba ar #[(.bool ab.1), (.slice af ab.2.length ag)] := al
 refine l_box (col := a4) (v := (.agg #[(.bool aa.1), (.slice ac aa.2.length ad)])) 2 rfl rfl ?_
 intro av bb a5 ao ae
 replace ae : Box 38 2 a5 bb av #[(.bool aa.1), (.slice ac aa.2.length ad)] := ae
 refine l_alloc (col := a5) (v := (.agg #[(.bool false), (.slice none (([] : List Int).length) 0), (.slice none (([] : List Int).length) 0)])) 3 rfl Tryz.zeroValue40 ?_
 intro a6 a7 am an ah
 replace ah : Box 40 3 am a7 a6 #[(.bool false), (.slice none (([] : List Int).length) 0), (.slice none (([] : List Int).length) 0)] := ah
 refine lA (.int .i64 0) <| lN <| wS <| wS <| wR ?_
 replace ae := ae.gr an
 refine lV (.agg #[(.bool aa.1), (.slice ac aa.2.length ad)]) (r_ldN Tryz.isAgg38 Tryz.sizeOf38 rfl rfl ae.atN) ?_
 obtain ⟨ap, bc, hm⟩ := bS hm
 replace ak := (((ak.keep (Stay.start col w0)).gr au).gr ao).gr an
 refine lc rfl rfl (r_call1 Tryz.call76 rfl) (c_whole_Sign N am _ ac ad (aa.1, aa.2) ak ap bc) ?_
 rintro _ bd ⟨rfl, ai⟩
 refine ⟨_, rfl, ?_⟩
 replace ai : Grow am a7 am bd := .of_below ai
 refine lV (.bool (decide (ap = 0))) (r_eql ap 0 rfl rfl) <| lN ?_
 replace aq := ((((aq.keep (Stay.start col w0)).gr au).gr ao).gr an).gr ai
 replace hst := (((hst.grow au).grow ao).grow an).grow ai
 replace al := ((al.gr ao).gr an).gr ai
 replace ak := ak.gr ai
 replace ae := ae.gr ai
 replace ah := ah.gr ai
 refine wcond (decide (ap = 0)) rfl (fun hb => ?_) (fun hb => ?_)
 ·rw [if_pos hb] at hm
  clear hb
  cases hm
 rw [if_neg (by rw [hb]; decide)] at hm
 clear hb
 refine wK <| wS <| wR <| lV (.pointer ((some (⟨ar, 0, none⟩ : Addr)).map (·.add 0))) (rF (sz := 1) (off := 0) Tryz.underlying38 rfl Tryz.sizeOf4 (by decide) rfl rfl ⟨_, _, rfl⟩) <| lV (.bool ab.1) (r_ld Tryz.isAgg4 rfl ((al.atN).nth (q := 0) (v := (.bool ab.1)) rfl)) <| lV (.pointer ((some (⟨av, 0, none⟩ : Addr)).map (·.add 0))) (rF (sz := 1) (off := 0) Tryz.underlying38 rfl Tryz.sizeOf4 (by decide) rfl rfl ⟨_, _, rfl⟩) <| lV (.bool aa.1) (r_ld Tryz.isAgg4 rfl ((ae.atN).nth (q := 0) (v := (.bool aa.1)) rfl)) <| lV (.bool (!decide (ab.1 = aa.1))) (r_neqB ab.1 aa.1 Tryz.underlying4 rfl rfl) <| lV (.pointer ((some (⟨ar, 0, none⟩ : Addr)).map (·.add 1))) (rF (sz := 1) (off := 1) Tryz.underlying38 rfl Tryz.sizeOf36 (by decide) rfl rfl ⟨_, _, rfl⟩) <| lV (.slice af ab.2.length ag) (r_ld Tryz.isAgg36 rfl ((al.atN).nth (q := 1) (v := (.slice af ab.2.length ag)) rfl)) <| lV (.pointer ((some (⟨av, 0, none⟩ : Addr)).map (·.add 1))) (rF (sz := 1) (off := 1) Tryz.underlying38 rfl Tryz.sizeOf36 (by decide) rfl rfl ⟨_, _, rfl⟩) <| lV (.slice ac aa.2.length ad) (r_ld Tryz.isAgg36 rfl ((ae.atN).nth (q := 1) (v := (.slice ac aa.2.length ad)) rfl)) ?_
 obtain ⟨aj, be, hm⟩ := bS hm
 refine lc rfl rfl (r_call3 Tryz.call55 rfl rfl rfl) (c_frac_lowest N 4 5 am _ (!decide (ab.1 = aa.1)) af ag ab.2 ac ad aa.2 aq ak aj be) ?_
 rintro _ bh ⟨a8, aw, ax, ay, az, rfl, a9, a0, a1⟩
 refine ⟨_, rfl, ?_⟩
 replace ah := ah.gr a9
 refine l_bstore (v := (.agg #[(.bool aj.1.1), (.slice aw aj.1.2.length ax), (.slice ay aj.2.length az)])) ah Tryz.sizeOf40 rfl rfl (by intro u hu; simp only [Value.cells, List.mem_cons, List.not_mem_nil, or_false] at hu; rcases hu with rfl | rfl | rfl <;> rfl) rfl rfl ?_
 intro bf a2 bg a3
 clear ah
 replace a3 : Box 40 3 a8 bf a6 #[(.bool aj.1.1), (.slice aw aj.1.2.length ax), (.slice ay aj.2.length az)] := a3
 refine lA (.int .i64 0) <| lN ?_
 refine wret ?_
 cases hm
 replace hst := (hst.grow a9).kp a2 bg
 replace a0 := a0.kp a2
 replace a1 := a1.kp a2
 exact ⟨rfl, _, res_at rfl rfl Tryz.isAgg40 Tryz.sizeOf40 rfl rfl a3.atN rfl rfl, colF w0.heap.size col a8 (fun n => bif Nat.beq n 4 then c1 else bif Nat.beq n 5 then c2 else 0), aw, ax, ay, az, rfl, hst.fin (fun n => bif Nat.beq n 4 then c1 else bif Nat.beq n 5 then c2 else 0), hst.finOwn (g := (fun n => bif Nat.beq n 4 then c1 else bif Nat.beq n 5 then c2 else 0)) rfl a0 (by decide) (by decide) rfl, hst.finOwn (g := (fun n => bif Nat.beq n 4 then c1 else bif Nat.beq n 5 then c2 else 0)) rfl a1 (by decide) (by decide) rfl⟩
def m_frac_Of (N : Nat) (ad : Int) (ae : Int) : Option (((Bool × (List Int)) × (List Int)) × Int) :=
  (m_whole_Of N ad).bind fun ab => (m_whole_Of N ae).bind fun ac => (m_frac_New N (ab.1, ab.2) (ac.1, ac.2)).bind fun aa => some (((aa.1.1.1, aa.1.1.2), aa.1.2), aa.2)
theorem c_frac_Of (N : Nat) (c1 : Nat) (c2 : Nat) (col : Col) (w0 : World) (ad : Int) (ae : Int) (r : (((Bool × (List Int)) × (List Int)) × Int)) (hm : m_frac_Of N ad ae = some r) :
    Calls Tryz.prog 30 #[(.int .i64 ad), (.int .i64 ae)] w0 (fun e w' => ∃ (col' : Col) (ra1 : Option Addr) (rc2 : Nat) (ra4 : Option Addr) (rc5 : Nat), e = .returned (.tuple #[(.agg #[(.bool r.1.1.1), (.slice ra1 r.1.1.2.length rc2), (.slice ra4 r.1.2.length rc5)]), (.int .i64 r.2)]) ∧ Grow col w0 col' w' ∧ Own (Rep.int .u32) 114 c1 col' w' ra1 rc2 r.1.1.2 ∧ Own (Rep.int .u32) 114 c2 col' w' ra4 rc5 r.1.2) := by
 refine calls_ofR (m := 13) (args := [(.int .i64 ad), (.int .i64 ae)]) Tryz.func30 rfl rfl rfl ?_
 rw [m_frac_Of.eq_1] at hm
 have hst := St.start col w0
 refine wS <| wR ?_
 refine l_alloc (col := (col0 col)) (v := (.agg #[(.bool false), (.slice none (([] : List Int).length) 0), (.slice none (([] : List Int).length) 0)])) 1 rfl Tryz.zeroValue40 ?_
 intro au ay av az ab
 replace ab : Box 40 1 av ay au #[(.bool false), (.slice none (([] : List Int).length) 0), (.slice none (([] : List Int).length) 0)] := ab
 refine lA (.int .i64 0) <| lN <| wS <| wR <| lM (.int .i64 ad) ?_
 obtain ⟨am, a0, hm⟩ := bS hm
 refine lc rfl rfl (r_call1 Tryz.call82 rfl) (c_whole_Of N 2 av _ ad am a0) ?_
 rintro _ bd ⟨a1, a2, a3, rfl, aw, an⟩
 refine ⟨_, rfl, ?_⟩
 refine lM (.int .i64 ae) ?_
 obtain ⟨ao, a4, hm⟩ := bS hm
 refine lc rfl rfl (r_call1 Tryz.call82 rfl) (c_whole_Of N 3 a1 _ ae ao a4) ?_
 rintro _ a5 ⟨af, a6, a7, rfl, ap, a8⟩
 refine ⟨_, rfl, ?_⟩
 obtain ⟨aa, a9, hm⟩ := bS hm
 replace an := an.gr ap
 refine lc rfl rfl (r_call2 Tryz.call41 rfl rfl) (c_frac_New N 4 5 (frC 3 (frC 2 af)) _ a2 a3 (am.1, am.2) a6 a7 (ao.1, ao.2) ((an.toSlF (Froz.int .u32)).froz 3) ((a8.froz 2 (by decide)).toSlF (Froz.int .u32)) aa a9) ?_
 rintro _ be ⟨ba, ai, aj, ak, al, rfl, ac, ag, ah⟩
 refine ⟨_, rfl, ?_⟩
 replace ag := ag.thaw (flat_int .u32) ac (((Fz.refl (col := af)).froz 2).froz 3) (by decide)
 replace ah := ah.thaw (flat_int .u32) ac (((Fz.refl (col := af)).froz 2).froz 3) (by decide)
 replace ac := ac.thawR (col := af)
 generalize colR a5.heap.size af ba = ax at *
 refine lV (.agg #[(.bool aa.1.1.1), (.slice ai aa.1.1.2.length aj), (.slice ak aa.1.2.length al)]) (r_extract rfl rfl) <| lV (.int .i64 aa.2) (r_extract rfl rfl) ?_
 replace ab := ((ab.gr aw).gr ap).gr ac
 refine l_bstore (v := (.agg #[(.bool aa.1.1.1), (.slice ai aa.1.1.2.length aj), (.slice ak aa.1.2.length al)])) ab Tryz.sizeOf40 rfl rfl (by intro u hu; simp only [Value.cells, List.mem_cons, List.not_mem_nil, or_false] at hu; rcases hu with rfl | rfl | rfl <;> rfl) rfl rfl ?_
 intro bb aq bc ar
 clear ab
 replace ar : Box 40 1 ax bb au #[(.bool aa.1.1.1), (.slice ai aa.1.1.2.length aj), (.slice ak aa.1.2.length al)] := ar
 refine lA (.int .i64 aa.2) <| lN ?_
 refine wret ?_
 cases hm
 replace hst := ((((hst.grow az).grow aw).grow ap).grow ac).kp aq bc
 replace ag := ag.kp aq
 replace ah := ah.kp aq
 exact ⟨rfl, _, res_at rfl rfl Tryz.isAgg40 Tryz.sizeOf40 rfl rfl ar.atN rfl rfl, colF w0.heap.size col ax (fun n => bif Nat.beq n 4 then c1 else bif Nat.beq n 5 then c2 else 0), ai, aj, ak, al, rfl, hst.fin (fun n => bif Nat.beq n 4 then c1 else bif Nat.beq n 5 then c2 else 0), hst.finOwn (g := (fun n => bif Nat.beq n 4 then c1 else bif Nat.beq n 5 then c2 else 0)) rfl ag (by decide) (by decide) rfl, hst.finOwn (g := (fun n => bif Nat.beq n 4 then c1 else bif Nat.beq n 5 then c2 else 0)) rfl ah (by decide) (by decide) rfl⟩
def m_l28_few (N : Nat) (ab : Int) (ac : Int) : Option ((Bool × (List Int)) × (List Int)) :=
  (m_frac_Of N ab ac).bind fun aa => some ((aa.1.1.1, aa.1.1.2), aa.1.2)
theorem c_l28_few (N : Nat) (c1 : Nat) (c2 : Nat) (col : Col) (w0 : World) (ag : Int) (ah : Int) (r : ((Bool × (List Int)) × (List Int))) (hm : m_l28_few N ag ah = some r) :
    Calls Tryz.prog 10 #[(.int .i64 ag), (.int .i64 ah)] w0 (fun e w' => ∃ (col' : Col) (ra1 : Option Addr) (rc2 : Nat) (ra4 : Option Addr) (rc5 : Nat), e = .returned ((.agg #[(.bool r.1.1), (.slice ra1 r.1.2.length rc2), (.slice ra4 r.2.length rc5)])) ∧ Grow col w0 col' w' ∧ Own (Rep.int .u32) 114 c1 col' w' ra1 rc2 r.1.2 ∧ Own (Rep.int .u32) 114 c2 col' w' ra4 rc5 r.2) := by
 refine calls_ofR (m := 14) (args := [(.int .i64 ag), (.int .i64 ah)]) Tryz.func10 rfl rfl rfl ?_
 rw [m_l28_few.eq_1] at hm
 have hst := St.start col w0
 refine wS <| wR ?_
 refine l_alloc (col := (col0 col)) (v := (.agg #[(.bool false), (.slice none (([] : List Int).length) 0), (.slice none (([] : List Int).length) 0)])) 1 rfl Tryz.zeroValue40 ?_
 intro ar ax au ay af
 replace af : Box 40 1 au ax ar #[(.bool false), (.slice none (([] : List Int).length) 0), (.slice none (([] : List Int).length) 0)] := af
 refine lN <| wS <| wR <| lM (.int .i64 ag) <| lM (.int .i64 ah) ?_
 obtain ⟨aa, az, hm⟩ := bS hm
 refine lc rfl rfl (r_call2 Tryz.call30 rfl rfl) (c_frac_Of N 2 3 au _ ag ah aa az) ?_
 rintro _ a6 ⟨a0, ab, ac, ad, ae, rfl, av, am, an⟩
 refine ⟨_, rfl, ?_⟩
 refine lM (.tuple #[(.agg #[(.bool aa.1.1.1), (.slice ab aa.1.1.2.length ac), (.slice ad aa.1.2.length ae)]), (.int .i64 aa.2)]) <| lV (.agg #[(.bool aa.1.1.1), (.slice ab aa.1.1.2.length ac), (.slice ad aa.1.2.length ae)]) (r_extract rfl rfl) <| lV (.int .i64 aa.2) (r_extract rfl rfl) ?_
 refine l_alloc (col := a0) (v := (.agg #[(.bool false), (.slice none (([] : List Int).length) 0), (.slice none (([] : List Int).length) 0)])) 4 rfl Tryz.zeroValue40 ?_
 intro aw a1 ai aj ak
 replace ak : Box 40 4 ai a1 aw #[(.bool false), (.slice none (([] : List Int).length) 0), (.slice none (([] : List Int).length) 0)] := ak
 refine l_bstore (v := (.agg #[(.bool aa.1.1.1), (.slice ab aa.1.1.2.length ac), (.slice ad aa.1.2.length ae)])) ak Tryz.sizeOf40 rfl rfl (by intro u hu; simp only [Value.cells, List.mem_cons, List.not_mem_nil, or_false] at hu; rcases hu with rfl | rfl | rfl <;> rfl) rfl rfl ?_
 intro a2 al a3 ao
 clear ak
 replace ao : Box 40 4 ai a2 aw #[(.bool aa.1.1.1), (.slice ab aa.1.1.2.length ac), (.slice ad aa.1.2.length ae)] := ao
 refine lA (.int .i64 aa.2) <| lN <| wS <| wR <| lV (.agg #[(.bool aa.1.1.1), (.slice ab aa.1.1.2.length ac), (.slice ad aa.1.2.length ae)]) (r_ldN Tryz.isAgg40 Tryz.sizeOf40 rfl rfl ao.atN) ?_
 replace af := ((af.gr av).gr aj).kp al
 refine l_bstore (v := (.agg #[(.bool aa.1.1.1), (.slice ab aa.1.1.2.length ac), (.slice ad aa.1.2.length ae)])) af Tryz.sizeOf40 rfl rfl (by intro u hu; simp only [Value.cells, List.mem_cons, List.not_mem_nil, or_false] at hu; rcases hu with rfl | rfl | rfl <;> rfl) rfl rfl ?_
 intro a4 ap a5 aq
 clear af
 replace aq : Box 40 1 ai a4 ar #[(.bool aa.1.1.1), (.slice ab aa.1.1.2.length ac), (.slice ad aa.1.2.length ae)] := aq
 refine lN ?_
 refine wret ?_
 cases hm
 replace hst := ((((hst.grow ay).grow av).grow aj).kp al a3).kp ap a5
 replace am := ((am.gr aj).kp al).kp ap
 replace an := ((an.gr aj).kp al).kp ap
 exact ⟨rfl, _, res_a rfl rfl Tryz.isAgg40 Tryz.sizeOf40 rfl rfl aq.atN, colF w0.heap.size col ai (fun n => bif Nat.beq n 2 then c1 else bif Nat.beq n 3 then c2 else 0), ab, ac, ad, ae, rfl, hst.fin (fun n => bif Nat.beq n 2 then c1 else bif Nat.beq n 3 then c2 else 0), hst.finOwn (g := (fun n => bif Nat.beq n 2 then c1 else bif Nat.beq n 3 then c2 else 0)) rfl am (by decide) (by decide) rfl, hst.finOwn (g := (fun n => bif Nat.beq n 2 then c1 else bif Nat.beq n 3 then c2 else 0)) rfl an (by decide) (by decide) rfl⟩
theorem el9_9 : ElemOk Tryz.prog 9 1 16 := ⟨Tryz.t9, _, rfl, rfl, rfl, rfl, rfl⟩
theorem el23_9 : ElemOk Tryz.prog 23 1 24 := ⟨Tryz.t23, _, rfl, rfl, rfl, rfl, rfl⟩
theorem el33_9 : ElemOk Tryz.prog 33 1 24 := ⟨Tryz.t33, _, rfl, rfl, rfl, rfl, rfl⟩
theorem el40_9 : ElemOk Tryz.prog 40 3 56 := ⟨Tryz.t40, _, rfl, rfl, rfl, rfl, rfl⟩
theorem el51_9 : ElemOk Tryz.prog 51 1 24 := ⟨Tryz.t51, _, rfl, rfl, rfl, rfl, rfl⟩
def m_l28_coin (N : Nat) (aa : Int) (ab : Int) : Option (ByteArray × (List ByteArray) × (List (List ByteArray)) × (List (List Int)) × (List (List ((Bool × (List Int)) × (List Int))))) :=
  (m_l28_few N aa (IntKind.i64.wrap (aa + ab))).bind fun ac => (m_l28_few N ab (IntKind.i64.wrap (aa + ab))).bind fun ad => some (⟨#[110]⟩, ([⟨#[97]⟩] : List ByteArray), [([⟨#[120]⟩, ⟨#[121]⟩] : List ByteArray)], [([] : List Int)], [[((ac.1.1, ac.1.2), ac.2), ((ad.1.1, ad.1.2), ad.2)]])
theorem c_l28_coin (N : Nat) (c1 : Nat) (c2 : Nat) (c3 : Nat) (c4 : Nat) (col : Col) (w0 : World) (ad : Int) (ae : Int) (r : (ByteArray × (List ByteArray) × (List (List ByteArray)) × (List (List Int)) × (List (List ((Bool × (List Int)) × (List Int)))))) (hm : m_l28_coin N ad ae = some r) :
    Calls Tryz.prog 9 #[(.int .i64 ad), (.int .i64 ae)] w0 (fun e w' => ∃ (col' : Col) (ra1 : Option Addr) (rc2 : Nat) (ra4 : Option Addr) (rc5 : Nat) (ra7 : Option Addr) (rc8 : Nat) (ra10 : Option Addr) (rc11 : Nat), e = .returned ((.agg #[(.string r.1), (.slice ra1 r.2.1.length rc2), (.slice ra4 r.2.2.1.length rc5), (.slice ra7 r.2.2.2.1.length rc8), (.slice ra10 r.2.2.2.2.length rc11)])) ∧ Grow col w0 col' w' ∧ Own Rep.str 9 c1 col' w' ra1 rc2 r.2.1 ∧ Own (Rep.row 9 Rep.str) 23 c2 col' w' ra4 rc5 r.2.2.1 ∧ Own (Rep.row 3 (Rep.int .i64)) 33 c3 col' w' ra7 rc8 r.2.2.2.1 ∧ Own (Rep.row 40 (Rep.pair (Rep.pair Rep.bool (Rep.row 114 (Rep.int .u32))) (Rep.row 114 (Rep.int .u32)))) 51 c4 col' w' ra10 rc11 r.2.2.2.2) := by
 refine calls_ofR (m := 22) (args := [(.int .i64 ad), (.int .i64 ae)]) Tryz.func9 rfl rfl rfl ?_
 rw [m_l28_coin.eq_1] at hm
 have hst := St.start col w0
 refine wS <| wR ?_
 refine l_alloc (col := (col0 col)) (v := (.agg #[(.string (⟨#[]⟩)), (.slice none (([] : List ByteArray).length) 0), (.slice none (([] : List (List ByteArray)).length) 0), (.slice none (([] : List (List Int)).length) 0), (.slice none (([] : List (List ((Bool × (List Int)) × (List Int)))).length) 0)])) 1 rfl Tryz.zeroValue28 ?_
 intro bc bj bd bk ac
 replace ac : Box 28 1 bd bj bc #[(.string (⟨#[]⟩)), (.slice none (([] : List ByteArray).length) 0), (.slice none (([] : List (List ByteArray)).length) 0), (.slice none (([] : List (List Int)).length) 0), (.slice none (([] : List (List ((Bool × (List Int)) × (List Int)))).length) 0)] := ac
 refine lN <| wS <| wR ?_
 refine l_lit (col := bd) (r := Rep.str) (xs := ([⟨#[97]⟩] : List ByteArray)) [(.string (⟨#[97]⟩))] 2 rfl Tryz.underlying23 el9_9 rfl rfl rfl rfl rfl rfl (by intro v hv; simp only [List.mem_cons, List.not_mem_nil, or_false] at hv; subst hv; rfl) (RowsH.ofF (Rows.consF (r := Rep.str) (x := ⟨#[97]⟩) (cs := [(.string (⟨#[97]⟩))]) (rd_str (⟨#[97]⟩)) Rows.nil0)) ?_
 intro an b2 bl be af
 refine l_lit (col := bl) (r := Rep.str) (xs := ([⟨#[120]⟩, ⟨#[121]⟩] : List ByteArray)) [(.string (⟨#[120]⟩)), (.string (⟨#[121]⟩))] 3 rfl Tryz.underlying23 el9_9 rfl rfl rfl rfl rfl rfl (by intro v hv; simp only [List.mem_cons, List.not_mem_nil, or_false] at hv; rcases hv with rfl | rfl <;> rfl) (RowsH.ofF (Rows.consF (r := Rep.str) (x := ⟨#[120]⟩) (cs := [(.string (⟨#[120]⟩))]) (rd_str (⟨#[120]⟩)) (Rows.consF (r := Rep.str) (x := ⟨#[121]⟩) (cs := [(.string (⟨#[121]⟩))]) (rd_str (⟨#[121]⟩)) Rows.nil0))) ?_
 intro bf b3 bm au bn
 refine l_lit (col := bm) (r := (Rep.row 9 Rep.str)) (xs := [([⟨#[120]⟩, ⟨#[121]⟩] : List ByteArray)]) [(.slice bf (([⟨#[120]⟩, ⟨#[121]⟩] : List ByteArray).length) 2)] 3 rfl Tryz.underlying24 el23_9 rfl rfl rfl rfl rfl rfl (by intro v hv; simp only [List.mem_cons, List.not_mem_nil, or_false] at hv; subst hv; rfl) (RowsH.cons1 (cs := [(.slice bf (([⟨#[120]⟩, ⟨#[121]⟩] : List ByteArray).length) 2)]) bn.has Rows.nil0) ?_
 intro ao b4 bo av ag
 refine l_lit (col := bo) (r := (Rep.row 3 (Rep.int .i64))) (xs := [([] : List Int)]) [(.slice none (([] : List Int).length) 0)] 4 rfl Tryz.underlying25 el33_9 rfl rfl rfl rfl rfl rfl (by intro v hv; simp only [List.mem_cons, List.not_mem_nil, or_false] at hv; subst hv; rfl) (RowsH.ofF (Rows.consF (r := (Rep.row 3 (Rep.int .i64))) (x := ([] : List Int)) (cs := [(.slice none (([] : List Int).length) 0)]) rd_nilrow Rows.nil0)) ?_
 intro ap b5 bp aq ah
 refine lM (.int .i64 ad) <| lM (.int .i64 ad) <| lM (.int .i64 ae) <| lV (.int .i64 (IntKind.i64.wrap (ad + ae))) (r_add ad ae rfl rfl) ?_
 obtain ⟨aa, bq, hm⟩ := bS hm
 refine lc rfl rfl (r_call2 Tryz.call10 rfl rfl) (c_l28_few N 5 6 bp _ ad (IntKind.i64.wrap (ad + ae)) aa bq) ?_
 rintro _ b6 ⟨br, aw, ax, ay, az, rfl, aj, a0, a1⟩
 refine ⟨_, rfl, ?_⟩
 refine lM (.int .i64 ae) <| lM (.int .i64 ad) <| lM (.int .i64 ae) <| lV (.int .i64 (IntKind.i64.wrap (ad + ae))) (r_add ad ae rfl rfl) ?_
 obtain ⟨ab, bs, hm⟩ := bS hm
 refine lc rfl rfl (r_call2 Tryz.call10 rfl rfl) (c_l28_few N 7 8 br _ ae (IntKind.i64.wrap (ad + ae)) ab bs) ?_
 rintro _ bg ⟨a2, a3, a4, a5, a6, rfl, ai, a7, a8⟩
 refine ⟨_, rfl, ?_⟩
 replace a0 := a0.gr ai
 replace a1 := a1.gr ai
 have bt := Has.join (Has.joinL (rd_bool aa.1.1) a0.has) a1.has (by decide) (by decide)
 replace af := ((((af.gr au).gr av).gr aq).gr aj).gr ai
 replace af := af.recol 6 5 (by decide)
 replace ag := ((ag.gr aq).gr aj).gr ai
 replace ag := ag.recol 6 5 (by decide)
 replace ah := (ah.gr aj).gr ai
 replace ah := ah.recol 6 5 (by decide)
 replace a7 := a7.recol 6 5 (by decide)
 replace a8 := a8.recol 6 5 (by decide)
 replace ac := (((((ac.gr be).gr au).gr av).gr aq).gr aj).gr ai
 replace ac := ac.recol 6 5 (by decide)
 replace hst := ((((((hst.grow bk).grow be).grow au).grow av).grow aq).grow aj).grow ai
 replace hst := hst.recol 6 5 (by decide) (by decide)
 have a9 : Has (Rep.pair (Rep.pair Rep.bool (Rep.row 114 (Rep.int .u32))) (Rep.row 114 (Rep.int .u32))) 5 (rcC 6 5 a2) bg [(.bool aa.1.1), (.slice aw aa.1.2.length ax), (.slice ay aa.2.length az)] ((aa.1.1, aa.1.2), aa.2) := bt
 have bu := Has.join (Has.joinL (rd_bool ab.1.1) a7.has) a8.has (by decide) (by decide)
 replace af := af.recol 8 7 (by decide)
 replace ag := ag.recol 8 7 (by decide)
 replace ah := ah.recol 8 7 (by decide)
 replace ac := ac.recol 8 7 (by decide)
 replace hst := hst.recol 8 7 (by decide) (by decide)
 replace a9 := a9.recol 8 7 (by decide)
 have bv : Has (Rep.pair (Rep.pair Rep.bool (Rep.row 114 (Rep.int .u32))) (Rep.row 114 (Rep.int .u32))) 7 (rcC 8 7 (rcC 6 5 a2)) bg [(.bool ab.1.1), (.slice a3 ab.1.2.length a4), (.slice a5 ab.2.length a6)] ((ab.1.1, ab.1.2), ab.2) := bu
 have bw := RowsH.cons (cs := [(.bool aa.1.1), (.slice aw aa.1.2.length ax), (.slice ay aa.2.length az)]) a9 (RowsH.cons1 (cs := [(.bool ab.1.1), (.slice a3 ab.1.2.length a4), (.slice a5 ab.2.length a6)]) bv Rows.nil0) (by decide) (by decide)
 replace af := af.recol 5 7 (by decide)
 replace ag := ag.recol 5 7 (by decide)
 replace ah := ah.recol 5 7 (by decide)
 replace ac := ac.recol 5 7 (by decide)
 replace hst := hst.recol 5 7 (by decide) (by decide)
 refine l_lit (col := (rcC 5 7 (rcC 8 7 (rcC 6 5 a2)))) (r := (Rep.pair (Rep.pair Rep.bool (Rep.row 114 (Rep.int .u32))) (Rep.row 114 (Rep.int .u32)))) (xs := [((aa.1.1, aa.1.2), aa.2), ((ab.1.1, ab.1.2), ab.2)]) [(.agg #[(.bool aa.1.1), (.slice aw aa.1.2.length ax), (.slice ay aa.2.length az)]), (.agg #[(.bool ab.1.1), (.slice a3 ab.1.2.length a4), (.slice a5 ab.2.length a6)])] 7 rfl Tryz.underlying51 el40_9 rfl rfl rfl rfl rfl rfl (by intro v hv; simp only [List.mem_cons, List.not_mem_nil, or_false] at hv; rcases hv with rfl | rfl <;> rfl) bw ?_
 intro bh b7 bx ak bz
 refine l_lit (col := bx) (r := (Rep.row 40 (Rep.pair (Rep.pair Rep.bool (Rep.row 114 (Rep.int .u32))) (Rep.row 114 (Rep.int .u32))))) (xs := [[((aa.1.1, aa.1.2), aa.2), ((ab.1.1, ab.1.2), ab.2)]]) [(.slice bh ([((aa.1.1, aa.1.2), aa.2), ((ab.1.1, ab.1.2), ab.2)].length) 2)] 7 rfl Tryz.underlying26 el51_9 rfl rfl rfl rfl rfl rfl (by intro v hv; simp only [List.mem_cons, List.not_mem_nil, or_false] at hv; subst hv; rfl) (RowsH.cons1 (cs := [(.slice bh ([((aa.1.1, aa.1.2), aa.2), ((ab.1.1, ab.1.2), ab.2)].length) 2)]) bz.has Rows.nil0) ?_
 intro ar b8 bi al ba
 refine lV (.agg #[(.string (⟨#[110]⟩)), (.slice an (([⟨#[97]⟩] : List ByteArray).length) 1), (.slice ao ([([⟨#[120]⟩, ⟨#[121]⟩] : List ByteArray)].length) 1), (.slice ap ([([] : List Int)].length) 1), (.slice ar ([[((aa.1.1, aa.1.2), aa.2), ((ab.1.1, ab.1.2), ab.2)]].length) 1)]) (r_build (l := [_, _, _, _, _]) (qs := [(0, 1), (1, 1), (2, 1), (3, 1), (4, 1)]) Tryz.underlying28 Tryz.zeroValue28 ⟨rfl, Tryz.sizeOf9, rfl, Tryz.sizeOf23, rfl, Tryz.sizeOf24, rfl, Tryz.sizeOf25, rfl, Tryz.sizeOf26, trivial⟩ rfl) ?_
 replace ac := (ac.gr ak).gr al
 refine l_bstore (v := (.agg #[(.string (⟨#[110]⟩)), (.slice an (([⟨#[97]⟩] : List ByteArray).length) 1), (.slice ao ([([⟨#[120]⟩, ⟨#[121]⟩] : List ByteArray)].length) 1), (.slice ap ([([] : List Int)].length) 1), (.slice ar ([[((aa.1.1, aa.1.2), aa.2), ((ab.1.1, ab.1.2), ab.2)]].length) 1)])) ac Tryz.sizeOf28 rfl rfl (by intro u hu; simp only [Value.cells, List.mem_cons, List.not_mem_nil, or_false] at hu; rcases hu with rfl | rfl | rfl | rfl | rfl <;> rfl) rfl rfl ?_
 intro b0 am b1 bb
 clear ac
 replace bb : Box 28 1 bi b0 bc #[(.string (⟨#[110]⟩)), (.slice an (([⟨#[97]⟩] : List ByteArray).length) 1), (.slice ao ([([⟨#[120]⟩, ⟨#[121]⟩] : List ByteArray)].length) 1), (.slice ap ([([] : List Int)].length) 1), (.slice ar ([[((aa.1.1, aa.1.2), aa.2), ((ab.1.1, ab.1.2), ab.2)]].length) 1)] := bb
 refine lN ?_
 refine wret ?_
 cases hm
 replace af := ((af.gr ak).gr al).kp am
 replace ag := ((ag.gr ak).gr al).kp am
 replace ah := ((ah.gr ak).gr al).kp am
 replace hst := ((hst.grow ak).grow al).kp am b1
 replace ba := ba.kp am
 exact ⟨rfl, _, res_a rfl rfl Tryz.isAgg28 Tryz.sizeOf28 rfl rfl bb.atN, colF w0.heap.size col bi (fun n => bif Nat.beq n 2 then c1 else bif Nat.beq n 3 then c2 else bif Nat.beq n 4 then c3 else bif Nat.beq n 7 then c4 else 0), an, 1, ao, 1, ap, 1, ar, 1, rfl, hst.fin (fun n => bif Nat.beq n 2 then c1 else bif Nat.beq n 3 then c2 else bif Nat.beq n 4 then c3 else bif Nat.beq n 7 then c4 else 0), hst.finOwn (g := (fun n => bif Nat.beq n 2 then c1 else bif Nat.beq n 3 then c2 else bif Nat.beq n 4 then c3 else bif Nat.beq n 7 then c4 else 0)) rfl af (by decide) (by decide) rfl, hst.finOwn (g := (fun n => bif Nat.beq n 2 then c1 else bif Nat.beq n 3 then c2 else bif Nat.beq n 4 then c3 else bif Nat.beq n 7 then c4 else 0)) rfl ag (by decide) (by decide) rfl, hst.finOwn (g := (fun n => bif Nat.beq n 2 then c1 else bif Nat.beq n 3 then c2 else bif Nat.beq n 4 then c3 else bif Nat.beq n 7 then c4 else 0)) rfl ah (by decide) (by decide) rfl, hst.finOwn (g := (fun n => bif Nat.beq n 2 then c1 else bif Nat.beq n 3 then c2 else bif Nat.beq n 4 then c3 else bif Nat.beq n 7 then c4 else 0)) rfl ba (by decide) (by decide) rfl⟩
def m_slices_Index_string_string_L1  : List ByteArray → Nat → Option Int
  | [], aa => some (-1)
  | ab :: ac, aa => none
def m_slices_Index_string_string (aa : (List ByteArray)) (ab : ByteArray) : Option Int :=
  m_slices_Index_string_string_L1 aa 0
theorem c_slices_Index_string_string (col : Col) (w0 : World) (a0 : Option Addr) (cap0 : Nat) (aa : (List ByteArray)) (ac : ByteArray) (h0 : Sl Rep.str col w0 a0 cap0 aa) (r : Int) (hm : m_slices_Index_string_string aa ac = some r) :
    Calls Tryz.prog 174 #[(.slice a0 aa.length cap0), (.string ac)] w0 (fun e w' => e = .returned ((.int .i64 r)) ∧ Below w0.heap.size w0 w') := by
 refine calls_of1 4 (m := 19) (args := [(.slice a0 aa.length cap0), (.string ac)]) Tryz.func174 rfl rfl rfl rfl rfl ?_
 rw [m_slices_Index_string_string.eq_1] at hm
 have hst := St.start col w0
 refine wS <| wR <| lA (.int .i64 0) <| lN <| wS <| wS <| wR <| lM (.slice a0 aa.length cap0) <| lV (.int .i64 (aa.length : Int)) (r_len Tryz.underlying23 rfl) <| lM (.int .i64 0) <| lN <| wB ?_
 replace h0 := h0.keep (Stay.start col w0)
 refine wloop (fun n f ae => ∃ (af : Col) (ab : Nat) (ad : List ByteArray), n = ad.length ∧ aa.drop ab = ad ∧ m_slices_Index_string_string_L1 ad ab = some r ∧ St w0 (col0 col) af ae ∧ Sl Rep.str af ae a0 cap0 aa ∧ f 8 = (.int .i64 (ab : Int)) ∧ f 0 = (.slice a0 aa.length cap0) ∧ f 1 = (.string ac) ∧ f 7 = (.int .i64 (aa.length : Int)) ∧ f 1000000 = (enc [])) aa.length ⟨(col0 col), 0, aa, rfl, rfl, hm, hst, h0, rfl, rfl, rfl, rfl, rfl⟩ ?_
 clear hm; intro n f ae hI
 obtain ⟨af, ab, ad, hn, hl, hm, hst, h0, hs8, hs0, hs1, hs7, hs1000000⟩ := hI
 subst hn
 refine .lD 8 hs8 <| .lD 0 hs0 <| .lD 1 hs1 <| .lD 7 hs7 <| .lD 1000000 hs1000000 ?_
 clear hs8 hs0 hs1 hs7 hs1000000
 cases ad with
 | nil =>
  have hk : ¬ ((ab : Int) < (aa.length : Int)) := by have := List.drop_eq_nil_iff.1 hl; omega
  have hkb := decide_eq_false hk
  rw [m_slices_Index_string_string_L1.eq_1] at hm
  refine wS <| wR <| lV (.bool (decide ((ab : Int) < (aa.length : Int)))) (r_lss (ab : Int) (aa.length : Int) rfl rfl) <| lN <| wS ?_
  refine wcondF (congrArg Value.bool hkb) ?_
  refine wexit (inB_hit ?_)
  refine wS <| wR <| lA (.int .i64 (-1)) <| lN ?_
  refine wret ?_
  cases hm
  exact ⟨rfl, rfl, hst.below⟩
 | cons ag ah =>
  obtain ⟨hat, hl2_L1, hlt_L1⟩ := drop_get hl
  have hk : (ab : Int) < (aa.length : Int) := by omega
  have hkb := decide_eq_true hk
  rw [m_slices_Index_string_string_L1.eq_2] at hm
  refine wS <| wR <| lV (.bool (decide ((ab : Int) < (aa.length : Int)))) (r_lss (ab : Int) (aa.length : Int) rfl rfl) <| lN <| wS ?_
  refine wcondT (congrArg Value.bool hkb) ?_
  refine wK <| wS <| wB <| wS <| wR <| lM (.int .i64 (ab : Int)) <| lA (.int .i64 (ab : Int)) <| lN <| wS <| wR <| lM (.string ac) <| lM (.slice a0 aa.length cap0) <| lM (.int .i64 (ab : Int)) ?_
  refine lV (sptr a0 (Int.toNat (ab : Int) * 1)) (r_idx Tryz.underlying23 Tryz.sizeOf9 rfl rfl (at?_some hat).1 (at?_some hat).2.1 (h0.addr hat)) ?_
  refine lV (.string ag) (r_ld Tryz.isAgg9 rfl (h0.atStr hat)) <| lV (.bool (decide (ac = ag))) (r_eqlS ac ag Tryz.underlying9 rfl rfl) <| lN ?_
  cases hm
def m_slices_Contains_string_string (aa : (List ByteArray)) (ab : ByteArray) : Option Bool :=
  (m_slices_Index_string_string aa ab).bind fun ac => some (decide (0 ≤ ac))
theorem c_slices_Contains_string_string (col : Col) (w0 : World) (a0 : Option Addr) (cap0 : Nat) (aa : (List ByteArray)) (ab : ByteArray) (h0 : Sl Rep.str col w0 a0 cap0 aa) (r : Bool) (hm : m_slices_Contains_string_string aa ab = some r) :
    Calls Tryz.prog 147 #[(.slice a0 aa.length cap0), (.string ab)] w0 (fun e w' => e = .returned ((.bool r)) ∧ Below w0.heap.size w0 w') := by
 refine calls_of1 4 (m := 9) (args := [(.slice a0 aa.length cap0), (.string ab)]) Tryz.func147 rfl rfl rfl rfl rfl ?_
 rw [m_slices_Contains_string_string.eq_1] at hm
 have hst := St.start col w0
 refine wS <| wR <| lA (.bool false) <| lN <| wS <| wR <| lM (.slice a0 aa.length cap0) <| lM (.string ab) ?_
 obtain ⟨ac, ae, hm⟩ := bS hm
 replace h0 := h0.keep (Stay.start col w0)
 refine lc rfl rfl (r_call2 Tryz.call174 rfl rfl) (c_slices_Index_string_string (col0 col) _ a0 cap0 aa ab h0 ac ae) ?_
 rintro _ af ⟨rfl, ad⟩
 refine ⟨_, rfl, ?_⟩
 replace ad : Grow (col0 col) w0 (col0 col) af := .of_below ad
 refine lV (.bool (decide (0 ≤ ac))) (r_geq ac 0 rfl rfl) <| lA (.bool (decide (0 ≤ ac))) <| lN ?_
 refine wret ?_
 cases hm
 replace hst := hst.grow ad
 exact ⟨rfl, rfl, hst.below⟩
def m_model_twice_L1  : List ByteArray → (List (ByteArray × Int)) → Option Bool
  | [], aa => some false
  | ab :: ac, aa => if (decide (0 < ((mget aa ab).getD 0))) = true then none else ((some (mput aa ab 1)).bind fun ad => (m_model_twice_L1 ac) ad)
termination_by structural x => x
def m_model_twice (aa : (List ByteArray)) : Option Bool :=
  m_model_twice_L1 aa ([] : List (ByteArray × Int))
theorem c_model_twice (col : Col) (w0 : World) (a0 : Option Addr) (cap0 : Nat) (aa : (List ByteArray)) (h0 : Sl Rep.str col w0 a0 cap0 aa) (r : Bool) (hm : m_model_twice aa = some r) :
    Calls Tryz.prog 148 #[(.slice a0 aa.length cap0)] w0 (fun e w' => e = .returned ((.bool r)) ∧ Below w0.heap.size w0 w') := by
 refine calls_of1 2 (m := 20) (args := [(.slice a0 aa.length cap0)]) Tryz.func148 rfl rfl rfl rfl rfl ?_
 rw [m_model_twice.eq_1] at hm
 have hst := St.start col w0
 refine wS <| wR <| lA (.bool false) <| lN <| wS <| wR ?_
 refine l_makeMap (col := (col0 col)) (fk := Value.string) (fv := (Value.int .i64)) 1 rfl ?_
 intro ak av aq al ar
 refine lA (.map (some ak)) <| lN <| wS <| wS <| wR <| lM (.slice a0 aa.length cap0) <| lV (.int .i64 (aa.length : Int)) (r_len Tryz.underlying23 rfl) <| lM (.int .i64 0) <| lN <| wB ?_
 replace h0 := (h0.keep (Stay.start col w0)).gr al
 replace hst := hst.grow al
 refine wloop (fun n f ah => ∃ (af : Col) (ae : Nat) (ad : List (ByteArray × Int)) (ab : Nat) (ag : List ByteArray), n = ag.length ∧ aa.drop ab = ag ∧ m_model_twice_L1 ag ad = some r ∧ St w0 (col0 col) af ah ∧ MapO Value.string (Value.int .i64) 1 af ah ae ad ∧ Sl Rep.str af ah a0 cap0 aa ∧ f 9 = (.int .i64 (ab : Int)) ∧ f 3 = (.map (some ae)) ∧ f 7 = (.slice a0 aa.length cap0) ∧ f 8 = (.int .i64 (aa.length : Int)) ∧ f 1000000 = (enc [])) aa.length ⟨aq, ak, ([] : List (ByteArray × Int)), 0, aa, rfl, rfl, hm, hst, ar, h0, rfl, rfl, rfl, rfl, rfl⟩ ?_
 clear hm; intro n f ah hI
 obtain ⟨af, ae, ad, ab, ag, hn, hl, hm, hst, aj, h0, hs9, hs3, hs7, hs8, hs1000000⟩ := hI
 subst hn
 refine .lD 9 hs9 <| .lD 3 hs3 <| .lD 7 hs7 <| .lD 8 hs8 <| .lD 1000000 hs1000000 ?_
 clear hs9 hs3 hs7 hs8 hs1000000
 cases ag with
 | nil =>
  have hk : ¬ ((ab : Int) < (aa.length : Int)) := by have := List.drop_eq_nil_iff.1 hl; omega
  have hkb := decide_eq_false hk
  rw [m_model_twice_L1.eq_1] at hm
  refine wS <| wR <| lV (.bool (decide ((ab : Int) < (aa.length : Int)))) (r_lss (ab : Int) (aa.length : Int) rfl rfl) <| lN <| wS ?_
  refine wcondF (congrArg Value.bool hkb) ?_
  refine wexit (inB_hit ?_)
  refine wS <| wR <| lA (.bool false) <| lN ?_
  refine wret ?_
  cases hm
  exact ⟨rfl, rfl, hst.below⟩
 | cons ac am =>
  obtain ⟨hat, hl2_L1, hlt_L1⟩ := drop_get hl
  have hk : (ab : Int) < (aa.length : Int) := by omega
  have hkb := decide_eq_true hk
  rw [m_model_twice_L1.eq_2] at hm
  refine wS <| wR <| lV (.bool (decide ((ab : Int) < (aa.length : Int)))) (r_lss (ab : Int) (aa.length : Int) rfl rfl) <| lN <| wS ?_
  refine wcondT (congrArg Value.bool hkb) ?_
  refine wK <| wS <| wB <| wS <| wR ?_
  refine lV (sptr a0 (Int.toNat (ab : Int) * 1)) (r_idx Tryz.underlying23 Tryz.sizeOf9 rfl rfl (at?_some hat).1 (at?_some hat).2.1 (h0.addr hat)) ?_
  refine lV (.string ac) (r_ld Tryz.isAgg9 rfl (h0.atStr hat)) <| lA (.string ac) <| lN <| wS <| wS <| wR <| lM (.map (some ae)) <| lM (.string ac) <| lV (.int .i64 ((mget ad ac).getD 0)) (r_lookup KeyD.str aj Tryz.underlying204 Tryz.underlying9 Tryz.zeroValue3 rfl rfl) <| lV (.bool (decide (0 < ((mget ad ac).getD 0)))) (r_gtr ((mget ad ac).getD 0) 0 rfl rfl) <| lN ?_
  refine wcond (decide (0 < ((mget ad ac).getD 0))) rfl (fun hb => ?_) (fun hb => ?_)
  ·rw [if_pos hb] at hm
   clear hb
   cases hm
  rw [if_neg (by rw [hb]; decide)] at hm
  clear hb
  refine wK <| wR <| lM (.map (some ae)) <| lM (.string ac) ?_
  obtain ⟨an, ai, hm⟩ := bS hm
  have ai : an = mput ad ac 1 := (Option.some.inj ai).symm
  refine l_mapUpdate (k := ac) (v := 1) KeyD.str aj Tryz.underlying204 Tryz.underlying9 rfl rfl rfl ?_
  intro aw ao au ap
  rw [← ai] at ap
  clear ai
  clear aj
  refine lN <| wR <| lV (.int .i64 (IntKind.i64.wrap ((ab : Int) + 1))) (r_add (ab : Int) 1 rfl rfl) <| lM (.int .i64 (IntKind.i64.wrap ((ab : Int) + 1))) <| lN ?_
  replace h0 := h0.kp ao
  replace hst := hst.kp ao au
  exact ⟨am.length, by simp, ⟨af, ae, an, (ab + 1), am, rfl, hl2_L1, hm, hst, ap, h0, (congrArg (Value.int .i64) (wrap_succ (Nat.lt_of_lt_of_le hlt_L1 h0.1.1))), rfl, rfl, rfl, rfl⟩⟩
def m_model_named_J1 (ab : (ByteArray × (List ByteArray) × (List (List ByteArray)) × (List (List Int)) × (List (List ((Bool × (List Int)) × (List Int)))))) (aa : Nat) (kk_L1 : (Nat → Option Int)) (ac : Bool) : Option Int :=
  if ac = true then none else ((at? ab.2.2.1 (aa : Int)).bind fun ad => if (decide ((ad.length : Int) = 0)) = true then none else (kk_L1 (aa + 1)))
def m_model_named_L1 (aa : (ByteArray × (List ByteArray) × (List (List ByteArray)) × (List (List Int)) × (List (List ((Bool × (List Int)) × (List Int)))))) : List ByteArray → Nat → Option Int
  | [], ab => some 0
  | ad :: ac, ab => chk ((0 : Int) ≤ (ab : Int) ∧ (ab : Int) ≤ (aa.2.1.length : Int)) ((m_slices_Contains_string_string (aa.2.1.take (Int.toNat (ab : Int))) ad).bind fun ae => if ae = true then (m_model_named_J1 aa ab (m_model_named_L1 aa ac) true) else ((at? aa.2.2.1 (ab : Int)).bind fun af => (m_model_twice af).bind fun ag => m_model_named_J1 aa ab (m_model_named_L1 aa ac) ag))
termination_by structural x => x
def m_model_named (aa : (ByteArray × (List ByteArray) × (List (List ByteArray)) × (List (List Int)) × (List (List ((Bool × (List Int)) × (List Int)))))) : Option Int :=
  m_model_named_L1 aa aa.2.1 0
theorem c_model_named (col : Col) (w0 : World) (ac : Option Addr) (ad : Nat) (ai : Option Addr) (al : Nat) (ao : Option Addr) (ap : Nat) (aq : Option Addr) (ar : Nat) (aa : (ByteArray × (List ByteArray) × (List (List ByteArray)) × (List (List Int)) × (List (List ((Bool × (List Int)) × (List Int)))))) (af : Sl Rep.str col w0 ac ad aa.2.1) (ag : Sl (Rep.slice Rep.str) col w0 ai al aa.2.2.1) (am : Sl (Rep.slice (Rep.int .i64)) col w0 ao ap aa.2.2.2.1) (an : Sl (Rep.slice (Rep.pair (Rep.pair Rep.bool (Rep.slice (Rep.int .u32))) (Rep.slice (Rep.int .u32)))) col w0 aq ar aa.2.2.2.2) (r : Int) (hm : m_model_named aa = some r) :
    Calls Tryz.prog 114 #[(.agg #[(.string aa.1), (.slice ac aa.2.1.length ad), (.slice ai aa.2.2.1.length al), (.slice ao aa.2.2.2.1.length ap), (.slice aq aa.2.2.2.2.length ar)])] w0 (fun e w' => e = .returned ((.int .i64 r)) ∧ Below w0.heap.size w0 w') := by
 refine calls_of1 2 (m := 37) (args := [(.agg #[(.string aa.1), (.slice ac aa.2.1.length ad), (.slice ai aa.2.2.1.length al), (.slice ao aa.2.2.2.1.length ap), (.slice aq aa.2.2.2.2.length ar)])]) Tryz.func114 rfl rfl rfl rfl rfl ?_
 rw [m_model_named.eq_1] at hm
 have hst := St.start col w0
 refine wS <| wR ?_
 refine l_box (col := (col0 col)) (v := (.agg #[(.string aa.1), (.slice ac aa.2.1.length ad), (.slice ai aa.2.2.1.length al), (.slice ao aa.2.2.2.1.length ap), (.slice aq aa.2.2.2.2.length ar)])) 1 rfl rfl ?_
 intro au bf ba a1 ah
 replace ah : Box 28 1 ba bf au #[(.string aa.1), (.slice ac aa.2.1.length ad), (.slice ai aa.2.2.1.length al), (.slice ao aa.2.2.2.1.length ap), (.slice aq aa.2.2.2.2.length ar)] := ah
 refine lA (.int .i64 0) <| lN <| wS <| wS <| wR <| lV (.pointer ((some (⟨au, 0, none⟩ : Addr)).map (·.add 1))) (rF (sz := 1) (off := 1) Tryz.underlying28 rfl Tryz.sizeOf23 (by decide) rfl rfl ⟨_, _, rfl⟩) <| lV (.slice ac aa.2.1.length ad) (r_ld Tryz.isAgg23 rfl ((ah.atN).nth (q := 1) (v := (.slice ac aa.2.1.length ad)) rfl)) <| lV (.int .i64 (aa.2.1.length : Int)) (r_len Tryz.underlying23 rfl) <| lM (.int .i64 0) <| lN <| wB ?_
 replace af := (af.keep (Stay.start col w0)).gr a1
 replace ag := (ag.keep (Stay.start col w0)).gr a1
 replace am := (am.keep (Stay.start col w0)).gr a1
 replace an := (an.keep (Stay.start col w0)).gr a1
 replace hst := hst.grow a1
 refine wloop (fun n f av => ∃ (aj : Col) (ab : Nat) (a2 : List ByteArray), n = a2.length ∧ aa.2.1.drop ab = a2 ∧ m_model_named_L1 aa a2 ab = some r ∧ St w0 (col0 col) aj av ∧ Sl Rep.str aj av ac ad aa.2.1 ∧ Sl (Rep.slice Rep.str) aj av ai al aa.2.2.1 ∧ Sl (Rep.slice (Rep.int .i64)) aj av ao ap aa.2.2.2.1 ∧ Sl (Rep.slice (Rep.pair (Rep.pair Rep.bool (Rep.slice (Rep.int .u32))) (Rep.slice (Rep.int .u32)))) aj av aq ar aa.2.2.2.2 ∧ Box 28 1 aj av au #[(.string aa.1), (.slice ac aa.2.1.length ad), (.slice ai aa.2.2.1.length al), (.slice ao aa.2.2.2.1.length ap), (.slice aq aa.2.2.2.2.length ar)] ∧ f 8 = (.int .i64 (ab : Int)) ∧ f 1 = (.pointer (some ⟨au, 0, none⟩)) ∧ f 6 = (.slice ac aa.2.1.length ad) ∧ f 7 = (.int .i64 (aa.2.1.length : Int)) ∧ f 1000000 = (enc [])) aa.2.1.length ⟨ba, 0, aa.2.1, rfl, rfl, hm, hst, af, ag, am, an, ah, rfl, rfl, rfl, rfl, rfl⟩ ?_
 clear hm; intro n f av hI
 obtain ⟨aj, ab, a2, hn, hl, hm, hst, af, ag, am, an, ah, hs8, hs1, hs6, hs7, hs1000000⟩ := hI
 subst hn
 refine .lD 8 hs8 <| .lD 1 hs1 <| .lD 6 hs6 <| .lD 7 hs7 <| .lD 1000000 hs1000000 ?_
 clear hs8 hs1 hs6 hs7 hs1000000
 cases a2 with
 | nil =>
  have hk : ¬ ((ab : Int) < (aa.2.1.length : Int)) := by have := List.drop_eq_nil_iff.1 hl; omega
  have hkb := decide_eq_false hk
  rw [m_model_named_L1.eq_1] at hm
  refine wS <| wR <| lV (.bool (decide ((ab : Int) < (aa.2.1.length : Int)))) (r_lss (ab : Int) (aa.2.1.length : Int) rfl rfl) <| lN <| wS ?_
  refine wcondF (congrArg Value.bool hkb) ?_
  refine wexit (inB_hit ?_)
  refine wS <| wR <| lA (.int .i64 0) <| lN ?_
  refine wret ?_
  cases hm
  exact ⟨rfl, rfl, hst.below⟩
 | cons a3 a8 =>
  obtain ⟨hat, hl2_L1, hlt_L1⟩ := drop_get hl
  have hk : (ab : Int) < (aa.2.1.length : Int) := by omega
  have hkb := decide_eq_true hk
  rw [m_model_named_L1.eq_2] at hm
  refine wS <| wR <| lV (.bool (decide ((ab : Int) < (aa.2.1.length : Int)))) (r_lss (ab : Int) (aa.2.1.length : Int) rfl rfl) <| lN <| wS ?_
  refine wcondT (congrArg Value.bool hkb) ?_
  refine wK <| wS <| wB <| wS <| wR <| lM (.int .i64 (ab : Int)) ?_
  refine lV (sptr ac (Int.toNat (ab : Int) * 1)) (r_idx Tryz.underlying23 Tryz.sizeOf9 rfl rfl (at?_some hat).1 (at?_some hat).2.1 (af.addr hat)) ?_
  refine lV (.string a3) (r_ld Tryz.isAgg9 rfl (af.atStr hat)) <| lA (.int .i64 (ab : Int)) <| lA (.string a3) <| lN <| wB <| wS ?_
  refine Wp.cut (fun f az => ∃ (aw : Col) (a4 : Bool), m_model_named_J1 aa ab (m_model_named_L1 aa a8) a4 = some r ∧ St w0 (col0 col) aw az ∧ Sl Rep.str aw az ac ad aa.2.1 ∧ Sl (Rep.slice Rep.str) aw az ai al aa.2.2.1 ∧ Sl (Rep.slice (Rep.int .i64)) aw az ao ap aa.2.2.2.1 ∧ Sl (Rep.slice (Rep.pair (Rep.pair Rep.bool (Rep.slice (Rep.int .u32))) (Rep.slice (Rep.int .u32)))) aw az aq ar aa.2.2.2.2 ∧ Box 28 1 aw az au #[(.string aa.1), (.slice ac aa.2.1.length ad), (.slice ai aa.2.2.1.length al), (.slice ao aa.2.2.2.1.length ap), (.slice aq aa.2.2.2.2.length ar)] ∧ f 1 = (.pointer (some ⟨au, 0, none⟩)) ∧ f 13 = (.bool a4) ∧ f 3 = (.int .i64 (ab : Int)) ∧ f 6 = (.slice ac aa.2.1.length ad) ∧ f 7 = (.int .i64 (aa.2.1.length : Int)) ∧ f 8 = (.int .i64 (ab : Int)) ∧ f 1000000 = (enc [])) ?_ ?_
  ·intro f az hJ
   obtain ⟨aw, a4, hm, hst, af, ag, am, an, ah, hs1, hs13, hs3, hs6, hs7, hs8, hs1000000⟩ := hJ
   rw [m_model_named_J1.eq_1] at hm
   refine .lD 1 hs1 <| .lD 13 hs13 <| .lD 3 hs3 <| .lD 6 hs6 <| .lD 7 hs7 <| .lD 8 hs8 <| .lD 1000000 hs1000000 ?_
   clear hs1 hs13 hs3 hs6 hs7 hs8 hs1000000
   refine wcond (a4) rfl (fun hb => ?_) (fun hb => ?_)
   ·rw [if_pos hb] at hm
    clear hb
    cases hm
   rw [if_neg (by rw [hb]; decide)] at hm
   clear hb
   refine wS <| wR <| lV (.pointer ((some (⟨au, 0, none⟩ : Addr)).map (·.add 2))) (rF (sz := 1) (off := 2) Tryz.underlying28 rfl Tryz.sizeOf24 (by decide) rfl rfl ⟨_, _, rfl⟩) <| lV (.slice ai aa.2.2.1.length al) (r_ld Tryz.isAgg24 rfl ((ah.atN).nth (q := 2) (v := (.slice ai aa.2.2.1.length al)) rfl)) <| lM (.int .i64 (ab : Int)) ?_
   obtain ⟨a0, a5, hm⟩ := bS hm
   refine lV (sptr ai (Int.toNat (ab : Int) * 1)) (r_idx Tryz.underlying24 Tryz.sizeOf23 rfl rfl (at?_some a5).1 (at?_some a5).2.1 (ag.addr a5)) ?_
   obtain ⟨_, bg, bh⟩ := ag.atN a5
   obtain ⟨⟨bi, bj, rfl, bq⟩, _⟩ := bg
   refine lV (.slice bi a0.length bj) (r_ld Tryz.isAgg23 rfl bh.one) <| lV (.int .i64 (a0.length : Int)) (r_len Tryz.underlying23 rfl) <| lV (.bool (decide ((a0.length : Int) = 0))) (r_eql (a0.length : Int) 0 rfl rfl) <| lA (.bool (decide ((a0.length : Int) = 0))) <| lN ?_
   refine wcond (decide ((a0.length : Int) = 0)) rfl (fun hb => ?_) (fun hb => ?_)
   ·rw [if_pos hb] at hm
    clear hb
    cases hm
   rw [if_neg (by rw [hb]; decide)] at hm
   clear hb
   refine wK <| wR <| lV (.int .i64 (IntKind.i64.wrap ((ab : Int) + 1))) (r_add (ab : Int) 1 rfl rfl) <| lM (.int .i64 (IntKind.i64.wrap ((ab : Int) + 1))) <| lN ?_
   exact ⟨a8.length, by simp, ⟨aw, (ab + 1), a8, rfl, hl2_L1, hm, hst, af, ag, am, an, ah, (congrArg (Value.int .i64) (wrap_succ (Nat.lt_of_lt_of_le hlt_L1 af.1.1))), rfl, rfl, rfl, rfl⟩⟩
  refine wR <| lV (.pointer ((some (⟨au, 0, none⟩ : Addr)).map (·.add 1))) (rF (sz := 1) (off := 1) Tryz.underlying28 rfl Tryz.sizeOf23 (by decide) rfl rfl ⟨_, _, rfl⟩) <| lV (.slice ac aa.2.1.length ad) (r_ld Tryz.isAgg23 rfl ((ah.atN).nth (q := 1) (v := (.slice ac aa.2.1.length ad)) rfl)) <| lM (.int .i64 (ab : Int)) ?_
  obtain ⟨a9, hm⟩ := cS hm
  refine lv (v := .slice ac (Int.toNat (ab : Int)) ad) rfl rfl (r_sliceH Tryz.underlying23 Tryz.sizeOf9 rfl rfl a9.1 (by have := af.1.2; have := a9.2; omega)) ?_
  refine .ld (d := 17) (v := (.slice ac ((aa.2.1.take (Int.toNat (ab : Int))).length) ad)) (congrArg (fun n => Value.slice ac n ad) (List.length_take_of_le (show (Int.toNat (ab : Int)) ≤ aa.2.1.length by have := a9.2; omega)).symm) ?_
  refine lM (.string a3) ?_
  obtain ⟨ak, bk, hm⟩ := bS hm
  refine lc rfl rfl (r_call2 Tryz.call147 rfl rfl) (c_slices_Contains_string_string aj _ ac ad (aa.2.1.take (Int.toNat (ab : Int))) a3 (af.take (Int.toNat (ab : Int))) ak bk) ?_
  rintro _ bb ⟨rfl, ax⟩
  refine ⟨_, rfl, ?_⟩
  replace ax : Grow aj av aj bb := .of_below ax
  refine lM (.bool ak) ?_
  replace af := af.gr ax
  replace ag := ag.gr ax
  replace am := am.gr ax
  replace an := an.gr ax
  replace ah := ah.gr ax
  replace hst := hst.grow ax
  by_cases ae : ak = true
  ·rw [if_pos ae] at hm
   refine lp (b := ak) 20 rfl rfl rfl rfl (by rw [ae]; rfl) ?_
   refine lp (b := ak) 20 rfl rfl rfl rfl (by rw [ae]; rfl) ?_
   refine lp (b := ak) 20 rfl rfl rfl rfl (by rw [ae]; rfl) ?_
   refine lp (b := ak) 20 rfl rfl rfl rfl (by rw [ae]; rfl) ?_
   refine lp (b := ak) 20 rfl rfl rfl rfl (by rw [ae]; rfl) ?_
   refine lp (b := ak) 20 rfl rfl rfl rfl (by rw [ae]; rfl) ?_
   refine lV (.bool true) (r_pickT (congrArg Value.bool ae) rfl) <| lA (.bool true) <| lN ?_
   exact ⟨aj, true, hm, hst, af, ag, am, an, ah, rfl, rfl, rfl, rfl, rfl, rfl, rfl⟩
  rw [if_neg ae] at hm
  replace ae := Bool.eq_false_iff.2 ae
  refine lg (b := ak) 20 rfl rfl rfl (by rw [ae]; rfl) ?_
  refine lV (.pointer ((some (⟨au, 0, none⟩ : Addr)).map (·.add 2))) (rF (sz := 1) (off := 2) Tryz.underlying28 rfl Tryz.sizeOf24 (by decide) rfl rfl ⟨_, _, rfl⟩) ?_
  refine lg (b := ak) 20 rfl rfl rfl (by rw [ae]; rfl) ?_
  refine lV (.slice ai aa.2.2.1.length al) (r_ld Tryz.isAgg24 rfl ((ah.atN).nth (q := 2) (v := (.slice ai aa.2.2.1.length al)) rfl)) ?_
  refine lg (b := ak) 20 rfl rfl rfl (by rw [ae]; rfl) ?_
  refine lM (.int .i64 (ab : Int)) ?_
  refine lg (b := ak) 20 rfl rfl rfl (by rw [ae]; rfl) ?_
  obtain ⟨bc, a6, hm⟩ := bS hm
  refine lV (sptr ai (Int.toNat (ab : Int) * 1)) (r_idx Tryz.underlying24 Tryz.sizeOf23 rfl rfl (at?_some a6).1 (at?_some a6).2.1 (ag.addr a6)) ?_
  refine lg (b := ak) 20 rfl rfl rfl (by rw [ae]; rfl) ?_
  obtain ⟨_, bl, bm⟩ := ag.atN a6
  obtain ⟨⟨bd, be, rfl, bn⟩, _⟩ := bl
  refine lV (.slice bd bc.length be) (r_ld Tryz.isAgg23 rfl bm.one) ?_
  refine lg (b := ak) 20 rfl rfl rfl (by rw [ae]; rfl) ?_
  obtain ⟨a7, bo, hm⟩ := bS hm
  refine lc rfl rfl (r_call1 Tryz.call148 rfl) (c_model_twice aj _ bd be bc bn a7 bo) ?_
  rintro _ bp ⟨rfl, ay⟩
  refine ⟨_, rfl, ?_⟩
  replace ay : Grow aj bb aj bp := .of_below ay
  refine lV (.bool a7) (r_pickF (congrArg Value.bool ae) rfl) <| lA (.bool a7) <| lN ?_
  replace af := af.gr ay
  replace ag := ag.gr ay
  replace am := am.gr ay
  replace an := an.gr ay
  replace ah := ah.gr ay
  replace hst := hst.grow ay
  exact ⟨aj, a7, hm, hst, af, ag, am, an, ah, rfl, rfl, rfl, rfl, rfl, rfl, rfl⟩
def m_dag_fits_L3 (kk_L2 : (Option Int)) : List Int → (List (Int × Int)) → Option Int
  | [], aa => kk_L2 
  | ab :: ac, aa => none
def m_dag_fits_L2  : List (List Int) → Option Int
  | [] => some 0
  | aa :: ab => m_dag_fits_L3 (m_dag_fits_L2 ab) aa ([] : List (Int × Int))
termination_by structural x => x
def m_dag_fits_J1 (aa : Bool) : Option Int :=
  none
def m_dag_fits_L4 (ab : (List (List Int))) (kk_L1 : (Option Int)) : List Int → Option Int
  | [] => kk_L1 
  | aa :: ac => if (decide (aa < 0)) = true then (m_dag_fits_J1 true) else (m_dag_fits_J1 (decide ((ab.length : Int) ≤ aa)))
def m_dag_fits_L1 (aa : (List (List Int))) : List (List Int) → Option Int
  | [] => m_dag_fits_L2 aa 
  | ab :: ac => m_dag_fits_L4 aa (m_dag_fits_L1 aa ac) ab 
termination_by structural x => x
def m_dag_fits (aa : (List (List Int))) : Option Int :=
  m_dag_fits_L1 aa aa 
theorem c_dag_fits (col : Col) (w0 : World) (a0 : Option Addr) (cap0 : Nat) (aa : (List (List Int))) (h0 : Sl (Rep.slice (Rep.int .i64)) col w0 a0 cap0 aa) (r : Int) (hm : m_dag_fits aa = some r) :
    Calls Tryz.prog 121 #[(.slice a0 aa.length cap0)] w0 (fun e w' => e = .returned ((.int .i64 r)) ∧ Below w0.heap.size w0 w') := by
 refine calls_of1 2 (m := 57) (args := [(.slice a0 aa.length cap0)]) Tryz.func121 rfl rfl rfl rfl rfl ?_
 rw [m_dag_fits.eq_1] at hm
 have hst := St.start col w0
 refine wS <| wR <| lA (.int .i64 0) <| lN <| wS <| wS <| wR <| lM (.slice a0 aa.length cap0) <| lV (.int .i64 (aa.length : Int)) (r_len Tryz.underlying25 rfl) <| lM (.int .i64 0) <| lN <| wB ?_
 replace h0 := h0.keep (Stay.start col w0)
 refine wloop (fun n f a7 => ∃ (av : Col) (ae : Nat) (aw : List (List Int)), n = aw.length ∧ aa.drop ae = aw ∧ m_dag_fits_L1 aa aw  = some r ∧ St w0 (col0 col) av a7 ∧ Sl (Rep.slice (Rep.int .i64)) av a7 a0 cap0 aa ∧ f 14 = (.int .i64 (ae : Int)) ∧ f 0 = (.slice a0 aa.length cap0) ∧ f 12 = (.slice a0 aa.length cap0) ∧ f 13 = (.int .i64 (aa.length : Int)) ∧ f 1000000 = (enc [])) aa.length ⟨(col0 col), 0, aa, rfl, rfl, hm, hst, h0, rfl, rfl, rfl, rfl, rfl⟩ ?_
 clear hm; intro n f a7 hI
 obtain ⟨av, ae, aw, hn, hl, hm, hst, h0, hs14, hs0, hs12, hs13, hs1000000⟩ := hI
 subst hn
 refine .lD 14 hs14 <| .lD 0 hs0 <| .lD 12 hs12 <| .lD 13 hs13 <| .lD 1000000 hs1000000 ?_
 clear hs14 hs0 hs12 hs13 hs1000000
 cases aw with
 | nil =>
  have hk : ¬ ((ae : Int) < (aa.length : Int)) := by have := List.drop_eq_nil_iff.1 hl; omega
  have hkb := decide_eq_false hk
  rw [m_dag_fits_L1.eq_1] at hm
  refine wS <| wR <| lV (.bool (decide ((ae : Int) < (aa.length : Int)))) (r_lss (ae : Int) (aa.length : Int) rfl rfl) <| lN <| wS ?_
  refine wcondF (congrArg Value.bool hkb) ?_
  refine wexit (inB_hit ?_)
  refine wS <| wS <| wR <| lM (.slice a0 aa.length cap0) <| lV (.int .i64 (aa.length : Int)) (r_len Tryz.underlying25 rfl) <| lM (.int .i64 0) <| lN <| wB ?_
  refine wloop (fun n f a8 => ∃ (a2 : Col) (af : Nat) (ax : List (List Int)), n = ax.length ∧ aa.drop af = ax ∧ m_dag_fits_L2 ax  = some r ∧ St w0 (col0 col) a2 a8 ∧ Sl (Rep.slice (Rep.int .i64)) a2 a8 a0 cap0 aa ∧ f 36 = (.int .i64 (af : Int)) ∧ f 34 = (.slice a0 aa.length cap0) ∧ f 35 = (.int .i64 (aa.length : Int)) ∧ f 1000000 = (enc [])) aa.length ⟨av, 0, aa, rfl, rfl, hm, hst, h0, rfl, rfl, rfl, rfl⟩ ?_
  clear hm; intro n f a8 hI
  obtain ⟨a2, af, ax, hn, hl, hm, hst, h0, hs36, hs34, hs35, hs1000000⟩ := hI
  subst hn
  refine .lD 36 hs36 <| .lD 34 hs34 <| .lD 35 hs35 <| .lD 1000000 hs1000000 ?_
  clear hs36 hs34 hs35 hs1000000
  cases ax with
  | nil =>
   have hk : ¬ ((af : Int) < (aa.length : Int)) := by have := List.drop_eq_nil_iff.1 hl; omega
   have hkb := decide_eq_false hk
   rw [m_dag_fits_L2.eq_1] at hm
   refine wS <| wR <| lV (.bool (decide ((af : Int) < (aa.length : Int)))) (r_lss (af : Int) (aa.length : Int) rfl rfl) <| lN <| wS ?_
   refine wcondF (congrArg Value.bool hkb) ?_
   refine wexit (inB_hit ?_)
   refine wS <| wR <| lA (.int .i64 0) <| lN ?_
   refine wret ?_
   cases hm
   exact ⟨rfl, rfl, hst.below⟩
  | cons ad a9 =>
   obtain ⟨hat, hl2_L2, hlt_L2⟩ := drop_get hl
   have hk : (af : Int) < (aa.length : Int) := by omega
   have hkb := decide_eq_true hk
   rw [m_dag_fits_L2.eq_2] at hm
   refine wS <| wR <| lV (.bool (decide ((af : Int) < (aa.length : Int)))) (r_lss (af : Int) (aa.length : Int) rfl rfl) <| lN <| wS ?_
   refine wcondT (congrArg Value.bool hkb) ?_
   refine wK <| wS <| wB <| wS <| wR ?_
   refine lV (sptr a0 (Int.toNat (af : Int) * 1)) (r_idx Tryz.underlying25 Tryz.sizeOf33 rfl rfl (at?_some hat).1 (at?_some hat).2.1 (h0.addr hat)) ?_
   obtain ⟨_, be, bf⟩ := h0.atN hat
   obtain ⟨⟨ak, ao, rfl, ap⟩, _⟩ := be
   refine lV (.slice ak ad.length ao) (r_ld Tryz.isAgg33 rfl bf.one) <| lA (.slice ak ad.length ao) <| lN <| wS <| wR <| lM (.slice ak ad.length ao) <| lV (.int .i64 (ad.length : Int)) (r_len Tryz.underlying33 rfl) ?_
   refine l_makeMapN (col := a2) (fk := (Value.int .i64)) (fv := (Value.int .i64)) 1 rfl Tryz.underlying183 rfl ?_
   intro bd bl bg ba bh
   refine lA (.map (some bd)) <| lN <| wS <| wR <| lM (.slice ak ad.length ao) <| lV (.int .i64 (ad.length : Int)) (r_len Tryz.underlying33 rfl) <| lM (.int .i64 0) <| lN <| wB ?_
   replace h0 := h0.gr ba
   replace ap := ap.gr ba
   replace hst := hst.grow ba
   refine wloop (fun n f ay => ∃ (aq : Col) (ai : Nat) (a3 : Nat) (ar : List (Int × Int)) (az : List Int), n = az.length ∧ ad.drop ai = az ∧ m_dag_fits_L3 (m_dag_fits_L2 a9) az ar = some r ∧ St w0 (col0 col) aq ay ∧ Sl (Rep.slice (Rep.int .i64)) aq ay a0 cap0 aa ∧ Sl (Rep.int .i64) aq ay ak ao ad ∧ MapO (Value.int .i64) (Value.int .i64) 1 aq ay a3 ar ∧ f 45 = (.int .i64 (ai : Int)) ∧ f 34 = (.slice a0 aa.length cap0) ∧ f 35 = (.int .i64 (aa.length : Int)) ∧ f 36 = (.int .i64 (af : Int)) ∧ f 43 = (.slice ak ad.length ao) ∧ f 44 = (.int .i64 (ad.length : Int)) ∧ f 9 = (.map (some a3)) ∧ f 1000000 = (enc [])) ad.length ⟨bg, 0, bd, ([] : List (Int × Int)), ad, rfl, rfl, hm, hst, h0, ap, bh, rfl, rfl, rfl, rfl, rfl, rfl, rfl, rfl⟩ ?_
   clear hm; intro n f ay hI
   obtain ⟨aq, ai, a3, ar, az, hn, hl, hm, hst, h0, ap, bi, hs45, hs34, hs35, hs36, hs43, hs44, hs9, hs1000000⟩ := hI
   subst hn
   refine .lD 45 hs45 <| .lD 34 hs34 <| .lD 35 hs35 <| .lD 36 hs36 <| .lD 43 hs43 <| .lD 44 hs44 <| .lD 9 hs9 <| .lD 1000000 hs1000000 ?_
   clear hs45 hs34 hs35 hs36 hs43 hs44 hs9 hs1000000
   cases az with
   | nil =>
    have hk : ¬ ((ai : Int) < (ad.length : Int)) := by have := List.drop_eq_nil_iff.1 hl; omega
    have hkb := decide_eq_false hk
    rw [m_dag_fits_L3.eq_1] at hm
    refine wS <| wR <| lV (.bool (decide ((ai : Int) < (ad.length : Int)))) (r_lss (ai : Int) (ad.length : Int) rfl rfl) <| lN <| wS ?_
    refine wcondF (congrArg Value.bool hkb) ?_
    refine wexit (inB_hit ?_)
    refine wR <| lV (.int .i64 (IntKind.i64.wrap ((af : Int) + 1))) (r_add (af : Int) 1 rfl rfl) <| lM (.int .i64 (IntKind.i64.wrap ((af : Int) + 1))) <| lN ?_
    exact ⟨a9.length, by simp, ⟨aq, (af + 1), a9, rfl, hl2_L2, hm, hst, h0, (congrArg (Value.int .i64) (wrap_succ (Nat.lt_of_lt_of_le hlt_L2 h0.1.1))), rfl, rfl, rfl⟩⟩
   | cons au bm =>
    obtain ⟨hat, hl2_L3, hlt_L3⟩ := drop_get hl
    have hk : (ai : Int) < (ad.length : Int) := by omega
    have hkb := decide_eq_true hk
    rw [m_dag_fits_L3.eq_2] at hm
    refine wS <| wR <| lV (.bool (decide ((ai : Int) < (ad.length : Int)))) (r_lss (ai : Int) (ad.length : Int) rfl rfl) <| lN <| wS ?_
    refine wcondT (congrArg Value.bool hkb) ?_
    refine wK <| wS <| wB <| wS <| wR ?_
    refine lV (sptr ak (Int.toNat (ai : Int) * 1)) (r_idx Tryz.underlying33 Tryz.sizeOf3 rfl rfl (at?_some hat).1 (at?_some hat).2.1 (ap.addr hat)) ?_
    refine lV (.int .i64 au) (r_ld Tryz.isAgg3 rfl (ap.atInt hat)) <| lA (.int .i64 au) <| lN <| wS <| wS <| wR <| lM (.map (some a3)) <| lM (.int .i64 au) <| lV (.int .i64 ((mget ar au).getD 0)) (r_lookup KeyD.int bi Tryz.underlying183 Tryz.underlying3 Tryz.zeroValue3 rfl rfl) <| lV (.bool (decide (0 < ((mget ar au).getD 0)))) (r_gtr ((mget ar au).getD 0) 0 rfl rfl) <| lN ?_
    cases hm
 | cons ac bb =>
  obtain ⟨hat, hl2_L1, hlt_L1⟩ := drop_get hl
  have hk : (ae : Int) < (aa.length : Int) := by omega
  have hkb := decide_eq_true hk
  rw [m_dag_fits_L1.eq_2] at hm
  refine wS <| wR <| lV (.bool (decide ((ae : Int) < (aa.length : Int)))) (r_lss (ae : Int) (aa.length : Int) rfl rfl) <| lN <| wS ?_
  refine wcondT (congrArg Value.bool hkb) ?_
  refine wK <| wS <| wB <| wS <| wR ?_
  refine lV (sptr a0 (Int.toNat (ae : Int) * 1)) (r_idx Tryz.underlying25 Tryz.sizeOf33 rfl rfl (at?_some hat).1 (at?_some hat).2.1 (h0.addr hat)) ?_
  obtain ⟨_, bj, bk⟩ := h0.atN hat
  obtain ⟨⟨aj, al, rfl, am⟩, _⟩ := bj
  refine lV (.slice aj ac.length al) (r_ld Tryz.isAgg33 rfl bk.one) <| lA (.slice aj ac.length al) <| lN <| wS <| wR <| lM (.slice aj ac.length al) <| lV (.int .i64 (ac.length : Int)) (r_len Tryz.underlying33 rfl) <| lM (.int .i64 0) <| lN <| wB ?_
  refine wloop (fun n f a4 => ∃ (an : Col) (ah : Nat) (a1 : List Int), n = a1.length ∧ ac.drop ah = a1 ∧ m_dag_fits_L4 aa (m_dag_fits_L1 aa bb) a1  = some r ∧ St w0 (col0 col) an a4 ∧ Sl (Rep.slice (Rep.int .i64)) an a4 a0 cap0 aa ∧ Sl (Rep.int .i64) an a4 aj al ac ∧ f 20 = (.int .i64 (ah : Int)) ∧ f 0 = (.slice a0 aa.length cap0) ∧ f 12 = (.slice a0 aa.length cap0) ∧ f 13 = (.int .i64 (aa.length : Int)) ∧ f 14 = (.int .i64 (ae : Int)) ∧ f 18 = (.slice aj ac.length al) ∧ f 19 = (.int .i64 (ac.length : Int)) ∧ f 1000000 = (enc [])) ac.length ⟨av, 0, ac, rfl, rfl, hm, hst, h0, am, rfl, rfl, rfl, rfl, rfl, rfl, rfl, rfl⟩ ?_
  clear hm; intro n f a4 hI
  obtain ⟨an, ah, a1, hn, hl, hm, hst, h0, am, hs20, hs0, hs12, hs13, hs14, hs18, hs19, hs1000000⟩ := hI
  subst hn
  refine .lD 20 hs20 <| .lD 0 hs0 <| .lD 12 hs12 <| .lD 13 hs13 <| .lD 14 hs14 <| .lD 18 hs18 <| .lD 19 hs19 <| .lD 1000000 hs1000000 ?_
  clear hs20 hs0 hs12 hs13 hs14 hs18 hs19 hs1000000
  cases a1 with
  | nil =>
   have hk : ¬ ((ah : Int) < (ac.length : Int)) := by have := List.drop_eq_nil_iff.1 hl; omega
   have hkb := decide_eq_false hk
   rw [m_dag_fits_L4.eq_1] at hm
   refine wS <| wR <| lV (.bool (decide ((ah : Int) < (ac.length : Int)))) (r_lss (ah : Int) (ac.length : Int) rfl rfl) <| lN <| wS ?_
   refine wcondF (congrArg Value.bool hkb) ?_
   refine wexit (inB_hit ?_)
   refine wR <| lV (.int .i64 (IntKind.i64.wrap ((ae : Int) + 1))) (r_add (ae : Int) 1 rfl rfl) <| lM (.int .i64 (IntKind.i64.wrap ((ae : Int) + 1))) <| lN ?_
   exact ⟨bb.length, by simp, ⟨an, (ae + 1), bb, rfl, hl2_L1, hm, hst, h0, (congrArg (Value.int .i64) (wrap_succ (Nat.lt_of_lt_of_le hlt_L1 h0.1.1))), rfl, rfl, rfl, rfl⟩⟩
  | cons ab bn =>
   obtain ⟨hat, hl2_L4, hlt_L4⟩ := drop_get hl
   have hk : (ah : Int) < (ac.length : Int) := by omega
   have hkb := decide_eq_true hk
   rw [m_dag_fits_L4.eq_2] at hm
   refine wS <| wR <| lV (.bool (decide ((ah : Int) < (ac.length : Int)))) (r_lss (ah : Int) (ac.length : Int) rfl rfl) <| lN <| wS ?_
   refine wcondT (congrArg Value.bool hkb) ?_
   refine wK <| wS <| wB <| wS <| wR ?_
   refine lV (sptr aj (Int.toNat (ah : Int) * 1)) (r_idx Tryz.underlying33 Tryz.sizeOf3 rfl rfl (at?_some hat).1 (at?_some hat).2.1 (am.addr hat)) ?_
   refine lV (.int .i64 ab) (r_ld Tryz.isAgg3 rfl (am.atInt hat)) <| lA (.int .i64 ab) <| lN <| wS ?_
   refine Wp.cut (fun f a5 => ∃ (a6 : Col) (bc : Bool), m_dag_fits_J1 bc = some r ∧ St w0 (col0 col) a6 a5 ∧ Sl (Rep.slice (Rep.int .i64)) a6 a5 a0 cap0 aa ∧ Sl (Rep.int .i64) a6 a5 aj al ac ∧ f 0 = (.slice a0 aa.length cap0) ∧ f 12 = (.slice a0 aa.length cap0) ∧ f 13 = (.int .i64 (aa.length : Int)) ∧ f 14 = (.int .i64 (ae : Int)) ∧ f 18 = (.slice aj ac.length al) ∧ f 19 = (.int .i64 (ac.length : Int)) ∧ f 20 = (.int .i64 (ah : Int)) ∧ f 31 = (.bool bc) ∧ f 1000000 = (enc [])) ?_ ?_
   ·intro f a5 hJ
    obtain ⟨a6, bc, hm, hst, h0, am, hs0, hs12, hs13, hs14, hs18, hs19, hs20, hs31, hs1000000⟩ := hJ
    rw [m_dag_fits_J1.eq_1] at hm
    refine .lD 0 hs0 <| .lD 12 hs12 <| .lD 13 hs13 <| .lD 14 hs14 <| .lD 18 hs18 <| .lD 19 hs19 <| .lD 20 hs20 <| .lD 31 hs31 <| .lD 1000000 hs1000000 ?_
    clear hs0 hs12 hs13 hs14 hs18 hs19 hs20 hs31 hs1000000
    cases hm
   refine wR <| lM (.int .i64 ab) <| lV (.bool (decide (ab < 0))) (r_lss ab 0 rfl rfl) <| lM (.bool (decide (ab < 0))) ?_
   by_cases ag : (decide (ab < 0)) = true
   ·rw [if_pos ag] at hm
    refine lp (b := decide (ab < 0)) 26 rfl rfl rfl rfl (by rw [ag]; rfl) ?_
    refine lp (b := decide (ab < 0)) 26 rfl rfl rfl rfl (by rw [ag]; rfl) ?_
    refine lp (b := decide (ab < 0)) 26 rfl rfl rfl rfl (by rw [ag]; rfl) ?_
    refine lp (b := decide (ab < 0)) 26 rfl rfl rfl rfl (by rw [ag]; rfl) ?_
    refine lV (.bool true) (r_pickT (congrArg Value.bool ag) rfl) <| lN ?_
    exact ⟨an, true, hm, hst, h0, am, rfl, rfl, rfl, rfl, rfl, rfl, rfl, rfl, rfl⟩
   rw [if_neg ag] at hm
   replace ag := Bool.eq_false_iff.2 ag
   refine lg (b := decide (ab < 0)) 26 rfl rfl rfl (by rw [ag]; rfl) ?_
   refine lM (.int .i64 ab) ?_
   refine lg (b := decide (ab < 0)) 26 rfl rfl rfl (by rw [ag]; rfl) ?_
   refine lM (.slice a0 aa.length cap0) ?_
   refine lg (b := decide (ab < 0)) 26 rfl rfl rfl (by rw [ag]; rfl) ?_
   refine lV (.int .i64 (aa.length : Int)) (r_len Tryz.underlying25 rfl) ?_
   refine lg (b := decide (ab < 0)) 26 rfl rfl rfl (by rw [ag]; rfl) ?_
   refine lV (.bool (decide ((aa.length : Int) ≤ ab))) (r_geq ab (aa.length : Int) rfl rfl) <| lV (.bool (decide ((aa.length : Int) ≤ ab))) (r_pickF (congrArg Value.bool ag) rfl) <| lN ?_
   exact ⟨an, (decide ((aa.length : Int) ≤ ab)), hm, hst, h0, am, rfl, rfl, rfl, rfl, rfl, rfl, rfl, rfl, rfl⟩
theorem el3_123 : ElemOk Tryz.prog 3 1 8 := ⟨Tryz.t3, _, rfl, rfl, rfl, rfl, rfl⟩
def m_dag_children_L2 (aa : Nat) (kk_L1 : (Nat → (List (List Int)) → Option (List (List Int)))) : List Int → (List (List Int)) → Option (List (List Int))
  | [], ab => kk_L1 (aa + 1) ab
  | ad :: ae, ab => (at? ab ad).bind fun ac => chk ((ac.length + [(aa : Int)].length) * 8 ≤ 140737488355328 ∧ ac.length + [(aa : Int)].length ≤ maxLen) ((m_dag_children_L2 aa kk_L1 ae) (ab.set (Int.toNat ad) (ac ++ [(aa : Int)])))
termination_by structural x => x
def m_dag_children_L1  : List (List Int) → Nat → (List (List Int)) → Option (List (List Int))
  | [], ab, aa => some aa
  | ac :: ad, ab, aa => m_dag_children_L2 ab (m_dag_children_L1 ad) ac aa
termination_by structural x => x
def m_dag_children (aa : (List (List Int))) : Option (List (List Int)) :=
  chk (aa.length * 24 ≤ 281474976710656 ∧ aa.length ≤ maxLen) (m_dag_children_L1 aa 0 (List.replicate aa.length (([] : List Int) : (List Int))))
theorem c_dag_children (c1 : Nat) (col : Col) (w0 : World) (a0 : Option Addr) (cap0 : Nat) (ab : (List (List Int))) (h0 : Sl (Rep.slice (Rep.int .i64)) col w0 a0 cap0 ab) (r : (List (List Int))) (hm : m_dag_children ab = some r) :
    Calls Tryz.prog 123 #[(.slice a0 ab.length cap0)] w0 (fun e w' => ∃ (col' : Col) (ra1 : Option Addr) (rc2 : Nat), e = .returned ((.slice ra1 r.length rc2)) ∧ Grow col w0 col' w' ∧ Own (Rep.row 3 (Rep.int .i64)) 33 c1 col' w' ra1 rc2 r) := by
 refine calls_of1 2 (m := 37) (args := [(.slice a0 ab.length cap0)]) Tryz.func123 rfl rfl rfl rfl rfl ?_
 rw [m_dag_children.eq_1] at hm
 have hst := St.start col w0
 refine wS <| wR <| lA (.slice none (([] : List (List Int)).length) 0) <| lN <| wS <| wR <| lM (.slice a0 ab.length cap0) <| lV (.int .i64 (ab.length : Int)) (r_len Tryz.underlying25 rfl) ?_
 obtain ⟨a9, hm⟩ := cS hm
 refine l_make (col := (col0 col)) (w := w0) (r := (Rep.row 3 (Rep.int .i64))) (n := ab.length) (x0 := ([] : List Int)) 1 rfl Tryz.underlying25 Tryz.t33 rfl rfl rfl rfl rfl rfl rfl a9.1 a9.2 rd_nilrow ?_
 intro ba bx bl bb bm
 refine lA (.slice ba ((List.replicate ab.length (([] : List Int) : (List Int))).length) ab.length) <| lN <| wS <| wS <| wR <| lM (.slice a0 ab.length cap0) <| lV (.int .i64 (ab.length : Int)) (r_len Tryz.underlying25 rfl) <| lM (.int .i64 0) <| lN <| wB ?_
 replace h0 := (h0.keep (Stay.start col w0)).gr bb
 replace hst := hst.grow bb
 refine wloop (fun n f az => ∃ (ao : Col) (aa : Nat) (ak : Option Addr) (al : Nat) (am : List (List Int)) (av : List (List Int)), n = av.length ∧ ab.drop aa = av ∧ m_dag_children_L1 av aa am = some r ∧ St w0 (col0 col) ao az ∧ Sl (Rep.slice (Rep.int .i64)) ao az a0 cap0 ab ∧ Own (Rep.row 3 (Rep.int .i64)) 33 1 ao az ak al am ∧ f 13 = (.int .i64 (aa : Int)) ∧ f 11 = (.slice a0 ab.length cap0) ∧ f 12 = (.int .i64 (ab.length : Int)) ∧ f 3 = (.slice ak am.length al) ∧ f 1000000 = (enc [])) ab.length ⟨bl, 0, ba, ab.length, (List.replicate ab.length (([] : List Int) : (List Int))), ab, rfl, rfl, hm, hst, h0, bm, rfl, rfl, rfl, rfl, rfl⟩ ?_
 clear hm; intro n f az hI
 obtain ⟨ao, aa, ak, al, am, av, hn, hl, hm, hst, h0, bc, hs13, hs11, hs12, hs3, hs1000000⟩ := hI
 subst hn
 refine .lD 13 hs13 <| .lD 11 hs11 <| .lD 12 hs12 <| .lD 3 hs3 <| .lD 1000000 hs1000000 ?_
 clear hs13 hs11 hs12 hs3 hs1000000
 cases av with
 | nil =>
  have hk : ¬ ((aa : Int) < (ab.length : Int)) := by have := List.drop_eq_nil_iff.1 hl; omega
  have hkb := decide_eq_false hk
  rw [m_dag_children_L1.eq_1] at hm
  refine wS <| wR <| lV (.bool (decide ((aa : Int) < (ab.length : Int)))) (r_lss (aa : Int) (ab.length : Int) rfl rfl) <| lN <| wS ?_
  refine wcondF (congrArg Value.bool hkb) ?_
  refine wexit (inB_hit ?_)
  refine wS <| wR <| lM (.slice ak am.length al) <| lA (.slice ak am.length al) <| lN ?_
  refine wret ?_
  cases hm
  exact ⟨rfl, colF w0.heap.size col ao (fun n => bif Nat.beq n 1 then c1 else 0), ak, al, rfl, hst.fin (fun n => bif Nat.beq n 1 then c1 else 0), hst.finOwn (g := (fun n => bif Nat.beq n 1 then c1 else 0)) rfl bc (by decide) (by decide) rfl⟩
 | cons ac a7 =>
  obtain ⟨hat, hl2_L1, hlt_L1⟩ := drop_get hl
  have hk : (aa : Int) < (ab.length : Int) := by omega
  have hkb := decide_eq_true hk
  rw [m_dag_children_L1.eq_2] at hm
  refine wS <| wR <| lV (.bool (decide ((aa : Int) < (ab.length : Int)))) (r_lss (aa : Int) (ab.length : Int) rfl rfl) <| lN <| wS ?_
  refine wcondT (congrArg Value.bool hkb) ?_
  refine wK <| wS <| wB <| wS <| wR <| lM (.int .i64 (aa : Int)) ?_
  refine lV (sptr a0 (Int.toNat (aa : Int) * 1)) (r_idx Tryz.underlying25 Tryz.sizeOf33 rfl rfl (at?_some hat).1 (at?_some hat).2.1 (h0.addr hat)) ?_
  obtain ⟨_, bn, bo⟩ := h0.atN hat
  obtain ⟨⟨ap, aw, rfl, ai⟩, _⟩ := bn
  refine lV (.slice ap ac.length aw) (r_ld Tryz.isAgg33 rfl bo.one) <| lA (.int .i64 (aa : Int)) <| lA (.slice ap ac.length aw) <| lN <| wS <| wR <| lM (.slice ap ac.length aw) <| lV (.int .i64 (ac.length : Int)) (r_len Tryz.underlying33 rfl) <| lM (.int .i64 0) <| lN <| wB ?_
  refine wloop (fun n f aq => ∃ (ar : Col) (ad : Nat) (ae : Option Addr) (ag : Nat) (af : List (List Int)) (ax : List Int), n = ax.length ∧ ac.drop ad = ax ∧ m_dag_children_L2 aa (m_dag_children_L1 a7) ax af = some r ∧ St w0 (col0 col) ar aq ∧ Sl (Rep.slice (Rep.int .i64)) ar aq a0 cap0 ab ∧ Sl (Rep.int .i64) ar aq ap aw ac ∧ Own (Rep.row 3 (Rep.int .i64)) 33 1 ar aq ae ag af ∧ f 20 = (.int .i64 (ad : Int)) ∧ f 11 = (.slice a0 ab.length cap0) ∧ f 12 = (.int .i64 (ab.length : Int)) ∧ f 13 = (.int .i64 (aa : Int)) ∧ f 18 = (.slice ap ac.length aw) ∧ f 19 = (.int .i64 (ac.length : Int)) ∧ f 3 = (.slice ae af.length ag) ∧ f 4 = (.int .i64 (aa : Int)) ∧ f 1000000 = (enc [])) ac.length ⟨ao, 0, ak, al, am, ac, rfl, rfl, hm, hst, h0, ai, bc, rfl, rfl, rfl, rfl, rfl, rfl, rfl, rfl, rfl⟩ ?_
  clear hm; intro n f aq hI
  obtain ⟨ar, ad, ae, ag, af, ax, hn, hl, hm, hst, h0, ai, a1, hs20, hs11, hs12, hs13, hs18, hs19, hs3, hs4, hs1000000⟩ := hI
  subst hn
  refine .lD 20 hs20 <| .lD 11 hs11 <| .lD 12 hs12 <| .lD 13 hs13 <| .lD 18 hs18 <| .lD 19 hs19 <| .lD 3 hs3 <| .lD 4 hs4 <| .lD 1000000 hs1000000 ?_
  clear hs20 hs11 hs12 hs13 hs18 hs19 hs3 hs4 hs1000000
  cases ax with
  | nil =>
   have hk : ¬ ((ad : Int) < (ac.length : Int)) := by have := List.drop_eq_nil_iff.1 hl; omega
   have hkb := decide_eq_false hk
   rw [m_dag_children_L2.eq_1] at hm
   refine wS <| wR <| lV (.bool (decide ((ad : Int) < (ac.length : Int)))) (r_lss (ad : Int) (ac.length : Int) rfl rfl) <| lN <| wS ?_
   refine wcondF (congrArg Value.bool hkb) ?_
   refine wexit (inB_hit ?_)
   refine wR <| lV (.int .i64 (IntKind.i64.wrap ((aa : Int) + 1))) (r_add (aa : Int) 1 rfl rfl) <| lM (.int .i64 (IntKind.i64.wrap ((aa : Int) + 1))) <| lN ?_
   exact ⟨a7.length, by simp, ⟨ar, (aa + 1), ae, ag, af, a7, rfl, hl2_L1, hm, hst, h0, a1, (congrArg (Value.int .i64) (wrap_succ (Nat.lt_of_lt_of_le hlt_L1 h0.1.1))), rfl, rfl, rfl, rfl⟩⟩
  | cons ah bd =>
   obtain ⟨hat, hl2_L2, hlt_L2⟩ := drop_get hl
   have hk : (ad : Int) < (ac.length : Int) := by omega
   have hkb := decide_eq_true hk
   rw [m_dag_children_L2.eq_2] at hm
   refine wS <| wR <| lV (.bool (decide ((ad : Int) < (ac.length : Int)))) (r_lss (ad : Int) (ac.length : Int) rfl rfl) <| lN <| wS ?_
   refine wcondT (congrArg Value.bool hkb) ?_
   refine wK <| wS <| wB <| wS <| wR ?_
   refine lV (sptr ap (Int.toNat (ad : Int) * 1)) (r_idx Tryz.underlying33 Tryz.sizeOf3 rfl rfl (at?_some hat).1 (at?_some hat).2.1 (ai.addr hat)) ?_
   refine lV (.int .i64 ah) (r_ld Tryz.isAgg3 rfl (ai.atInt hat)) <| lA (.int .i64 ah) <| lN <| wR <| lM (.slice ae af.length ag) <| lM (.int .i64 ah) <| lM (.slice ae af.length ag) <| lM (.int .i64 ah) ?_
   obtain ⟨an, au, hm⟩ := bS hm
   refine lV (sptr ae (Int.toNat ah * 1)) (r_idx Tryz.underlying25 Tryz.sizeOf33 rfl rfl (at?_some au).1 (at?_some au).2.1 (a1.addr au)) ?_
   obtain ⟨_, be, a8, aj, bp⟩ := a1.open_ 2 (by decide) au
   obtain ⟨bf, bg, rfl, a2⟩ := bp.row
   clear a1
   replace aj : Hole (Rep.row 3 (Rep.int .i64)) 33 1 be aq ae ag af (Int.toNat ah) [(.slice bf an.length bg)] := aj
   refine lV (.slice bf an.length bg) (r_ld Tryz.isAgg33 rfl aj.atN.one) <| lM (.int .i64 (aa : Int)) ?_
   refine l_lit (col := be) (r := (Rep.int .i64)) (xs := [(aa : Int)]) [(.int .i64 (aa : Int))] 3 rfl Tryz.underlying33 el3_123 rfl rfl rfl rfl rfl rfl (by intro v hv; simp only [List.mem_cons, List.not_mem_nil, or_false] at hv; subst hv; rfl) (RowsH.ofF (Rows.consF (r := (Rep.int .i64)) (x := (aa : Int)) (cs := [(.int .i64 (aa : Int))]) (rd_int .i64 (aa : Int)) Rows.nil0)) ?_
   intro bz bq br ay bs
   obtain ⟨bh, hm⟩ := cS hm
   replace a2 := a2.gr ay
   refine l_ext (col := br) (w := bq) (r := (Rep.int .i64)) (c := 2) (c2 := 2) (a2.ex) (bs.srcN (NB.int (k := .i64))) rfl Tryz.underlying33 el3_123 rfl rfl rfl bh.1 bh.2 (by decide) ?_
   intro bi bj b0 bk a3 a4
   clear a2
   replace aj := (aj.gr ay).kpp a3
   refine lV (sptr ae (Int.toNat ah * 1)) (r_idx Tryz.underlying25 Tryz.sizeOf33 rfl rfl (at?_some au).1 (at?_some au).2.1 (aj.addr)) ?_
   refine l_storeH (v := (.slice bi ((an ++ [(aa : Int)]).length) bj)) aj rfl Tryz.sizeOf33 rfl (by intro u hu; simp only [Value.cells, List.mem_cons, List.not_mem_nil, or_false] at hu; subst hu; rfl) rfl rfl (by decide) ?_
   intro bt a5 bu a6
   replace a6 : Hole (Rep.row 3 (Rep.int .i64)) 33 1 bk bt ae ag af (Int.toNat ah) [(.slice bi ((an ++ [(aa : Int)]).length) bj)] := a6
   clear aj
   replace a4 := a4.kp a5
   have bv := a4.new
   clear a4
   have bw := a6.close bv.has (by decide) (by decide)
   replace h0 := (((h0.kpp a8).gr ay).kpp a3).kp a5
   replace h0 := h0.recol 2 1 (by decide)
   replace ai := (((ai.kpp a8).gr ay).kpp a3).kp a5
   replace ai := ai.recol 2 1 (by decide)
   replace hst := (((hst.kpp a8).grow ay).kpp a3).kp a5 bu
   replace hst := hst.recol 2 1 (by decide) (by decide)
   clear a6
   refine .ld (d := 3) (v := (.slice ae ((af.set (Int.toNat ah) (an ++ [(aa : Int)])).length) ag)) (congrArg (fun n => Value.slice ae n ag) (show af.length = (af.set (Int.toNat ah) (an ++ [(aa : Int)])).length by simp only [List.length_set])) ?_
   refine lN <| wR <| lV (.int .i64 (IntKind.i64.wrap ((ad : Int) + 1))) (r_add (ad : Int) 1 rfl rfl) <| lM (.int .i64 (IntKind.i64.wrap ((ad : Int) + 1))) <| lN ?_
   exact ⟨bd.length, by simp, ⟨(rcC 2 1 bk), (ad + 1), ae, ag, (af.set (Int.toNat ah) (an ++ [(aa : Int)])), bd, rfl, hl2_L2, hm, hst, h0, ai, bw, (congrArg (Value.int .i64) (wrap_succ (Nat.lt_of_lt_of_le hlt_L2 ai.1.1))), rfl, rfl, rfl, rfl, rfl, rfl, rfl, rfl⟩⟩
def m_dag_heap_pop_J1 (aa : Int) (kk_L2 : (Int → Int → Option (Int × (List Int)))) (ab : Int) : Option (Int × (List Int)) :=
  kk_L2 (IntKind.i64.wrap (aa + 1)) ab
def m_dag_heap_pop_J2 (aa : Int) (ab : Int) (kk_L2 : (Int → Int → Option (Int × (List Int)))) (ac : Bool) : Option (Int × (List Int)) :=
  if ac = true then none else (m_dag_heap_pop_J1 aa kk_L2 ab)
def m_dag_heap_pop_L2 (N : Nat) (ac : (List Int)) (af : Int) (aa : List Int) (ab : Int) : Nat → Int → Int → Option (Int × (List Int))
  | 0, _, _ => none
  | ag + 1, ad, ae => if (decide (ad < 2)) = true then ((at? [IntKind.i64.wrap ((IntKind.i64.wrap (2 * ab)) + 1), IntKind.i64.wrap ((IntKind.i64.wrap (2 * ab)) + 2)] ad).bind fun ah => if (decide (ah < (IntKind.i64.wrap ((ac.length : Int) - 1)))) = true then ((at? aa ah).bind fun ai => (at? aa ae).bind fun aj => m_dag_heap_pop_J2 ad ae (m_dag_heap_pop_L2 N ac af aa ab ag) (decide (ai < aj))) else (m_dag_heap_pop_J2 ad ae (m_dag_heap_pop_L2 N ac af aa ab ag) false)) else (if (decide (ae = ab)) = true then (some (af, aa.take (Int.toNat (IntKind.i64.wrap ((ac.length : Int) - 1))))) else none)
termination_by structural x => x
def m_dag_heap_pop_L1 (N : Nat) (ab : (List Int)) (ac : Int) : Nat → (List Int) → Int → Option (Int × (List Int))
  | 0, _, _ => none
  | ae + 1, ad, aa => m_dag_heap_pop_L2 N ab ac ad aa N 0 aa
def m_dag_heap_pop (N : Nat) (aa : (List Int)) : Option (Int × (List Int)) :=
  (at? aa 0).bind fun ac => (at? aa (IntKind.i64.wrap ((aa.length : Int) - 1))).bind fun ad => (some (aa.set (Int.toNat 0) ad)).bind fun ab => chk ((0 : Int) ≤ (IntKind.i64.wrap ((aa.length : Int) - 1)) ∧ (IntKind.i64.wrap ((aa.length : Int) - 1)) ≤ (ab.length : Int)) (m_dag_heap_pop_L1 N aa ac N ab 0)
theorem c_dag_heap_pop (N : Nat) (col : Col) (w0 : World) (qc0 : Nat) (ai : Nat) (hd : dstB [qc0, ai] = true) (g0 : Nat) (aa : (List Int)) (ae : Option Addr) (ag : Nat) (ar : Own (Rep.int .i64) 3 ai col w0 ae ag aa) (hb0 : Box 184 qc0 col w0 g0 #[(.slice ae aa.length ag)]) (r : (Int × (List Int))) (hm : m_dag_heap_pop N aa = some r) :
    Calls Tryz.prog 152 #[(.pointer (some ⟨g0, 0, none⟩))] w0 (fun e w' => ∃ (col' : Col) (oa1 : Option Addr) (oc2 : Nat), e = .returned ((.int .i64 r.1)) ∧ KeepP (pS [qc0, ai]) col w0 col' w' ∧ Own (Rep.int .i64) 3 ai col' w' oa1 oc2 r.2 ∧ Box 184 qc0 col' w' g0 #[(.slice oa1 r.2.length oc2)]) := by
 refine calls_of1 2 (m := 76) (args := [(.pointer (some ⟨g0, 0, none⟩))]) Tryz.func152 rfl rfl rfl rfl rfl ?_
 rw [m_dag_heap_pop.eq_1] at hm
 have hst := St.startL (l := [qc0, ai]) rfl col w0
 replace hb0 := hb0.startL (dst_nz hd 0 rfl) (dst_ix hd 0 rfl)
 replace ar := ar.startL (dst_nz hd 1 rfl) (dst_ix hd 1 rfl)
 refine wS <| wR <| lA (.int .i64 0) <| lN <| wS <| wR <| lM (.pointer (some ⟨g0, 0, none⟩)) <| lV (.pointer (some ⟨g0, 0, none⟩)) (r_nilCheck rfl) <| lV (.slice ae aa.length ag) (r_ld Tryz.isAgg184 rfl hb0.at1) <| lA (.slice ae aa.length ag) <| lN <| wS <| wR <| lM (.slice ae aa.length ag) ?_
 obtain ⟨ao, av, hm⟩ := bS hm
 refine lV (sptr ae (Int.toNat 0 * 1)) (r_idx Tryz.underlying184 Tryz.sizeOf3 rfl rfl (at?_some av).1 (at?_some av).2.1 (ar.addr av)) ?_
 refine lV (.int .i64 ao) (r_ld Tryz.isAgg3 rfl (ar.atInt av)) <| lM (.slice ae aa.length ag) <| lV (.int .i64 (aa.length : Int)) (r_len Tryz.underlying184 rfl) <| lV (.int .i64 (IntKind.i64.wrap ((aa.length : Int) - 1))) (r_sub (aa.length : Int) 1 rfl rfl) <| lA (.int .i64 ao) <| lA (.int .i64 (IntKind.i64.wrap ((aa.length : Int) - 1))) <| lN <| wS <| wR <| lM (.slice ae aa.length ag) <| lM (.slice ae aa.length ag) <| lM (.int .i64 (IntKind.i64.wrap ((aa.length : Int) - 1))) ?_
 obtain ⟨ax, a6, hm⟩ := bS hm
 refine lV (sptr ae (Int.toNat (IntKind.i64.wrap ((aa.length : Int) - 1)) * 1)) (r_idx Tryz.underlying184 Tryz.sizeOf3 rfl rfl (at?_some a6).1 (at?_some a6).2.1 (ar.addr a6)) ?_
 refine lV (.int .i64 ax) (r_ld Tryz.isAgg3 rfl (ar.atInt a6)) ?_
 refine lV (sptr ae (Int.toNat 0 * 1)) (r_idx Tryz.underlying184 Tryz.sizeOf3 rfl rfl (at?_some av).1 (at?_some av).2.1 (ar.addr av)) ?_
 obtain ⟨aq, ay, hm⟩ := bS hm
 have ay : aq = aa.set (Int.toNat 0) ax := (Option.some.inj ay).symm
 refine l_store (x1 := ax) (v := (.int .i64 ax)) ar av rfl Tryz.sizeOf3 (rd_int .i64 ax) rfl rfl (by decide) ?_
 intro bh bf bi az
 rw [← ay] at az
 refine .ld (d := 3) (v := (.slice ae aq.length ag)) (congrArg (fun n => Value.slice ae n ag) (show aa.length = aq.length by rw [ay, List.length_set])) ?_
 replace hb0 := hb0.kp bf
 replace hb0 : Box 184 440 (colL [qc0, ai] col) bh g0 #[(.slice ae aq.length ag)] := by rw [← (show aa.length = aq.length by rw [ay, List.length_set])]; exact hb0
 clear ar
 refine lN <| wS <| wR <| lM (.pointer (some ⟨g0, 0, none⟩)) <| lM (.slice ae aq.length ag) <| lM (.int .i64 (IntKind.i64.wrap ((aa.length : Int) - 1))) ?_
 obtain ⟨be, hm⟩ := cS hm
 refine lv (v := .slice ae (Int.toNat (IntKind.i64.wrap ((aa.length : Int) - 1))) ag) rfl rfl (r_sliceH Tryz.underlying184 Tryz.sizeOf3 rfl rfl be.1 (by have := az.lecap; have := be.2; omega)) ?_
 refine .ld (d := 28) (v := (.slice ae ((aq.take (Int.toNat (IntKind.i64.wrap ((aa.length : Int) - 1)))).length) ag)) (congrArg (fun n => Value.slice ae n ag) (List.length_take_of_le (show (Int.toNat (IntKind.i64.wrap ((aa.length : Int) - 1))) ≤ aq.length by have := be.2; omega)).symm) ?_
 refine lV (.pointer (some ⟨g0, 0, none⟩)) (r_nilCheck rfl) ?_
 refine l_bstore (v := (.slice ae ((aq.take (Int.toNat (IntKind.i64.wrap ((aa.length : Int) - 1)))).length) ag)) hb0 Tryz.sizeOf184 rfl rfl (by intro u hu; simp only [Value.cells, List.mem_cons, List.not_mem_nil, or_false] at hu; subst hu; rfl) rfl rfl ?_
 intro bj bg bk aj
 clear hb0
 replace aj : Box 184 440 (colL [qc0, ai] col) bj g0 #[(.slice ae ((aq.take (Int.toNat (IntKind.i64.wrap ((aa.length : Int) - 1)))).length) ag)] := aj
 refine lN <| wS <| wR <| lA (.int .i64 0) <| lN <| wB ?_
 replace hst := (hst.kp bf bi).kp bg bk
 replace az := az.kp bg
 refine wloop (fun n f a7 => ∃ (a0 : Col) (ah : Option Addr) (al : Nat) (af : List Int) (ab : Int) (a1 : Nat), a1 = n ∧ m_dag_heap_pop_L1 N aa ao a1 af ab = some r ∧ St w0 (colL [qc0, ai] col) a0 a7 ∧ Own (Rep.int .i64) 3 441 a0 a7 ah al af ∧ Box 184 440 a0 a7 g0 #[(.slice ah ((af.take (Int.toNat (IntKind.i64.wrap ((aa.length : Int) - 1)))).length) al)] ∧ f 3 = (.slice ah af.length al) ∧ f 4 = (.int .i64 ao) ∧ f 5 = (.int .i64 (IntKind.i64.wrap ((aa.length : Int) - 1))) ∧ f 6 = (.int .i64 ab) ∧ f 1000000 = (enc [])) N ⟨(colL [qc0, ai] col), ae, ag, aq, 0, N, rfl, hm, hst, az, aj, rfl, rfl, rfl, rfl, rfl⟩ ?_
 clear hm; intro n f a7 hI
 obtain ⟨a0, ah, al, af, ab, a1, hn, hm, hst, ak, aj, hs3, hs4, hs5, hs6, hs1000000⟩ := hI
 subst hn
 refine .lD 3 hs3 <| .lD 4 hs4 <| .lD 5 hs5 <| .lD 6 hs6 <| .lD 1000000 hs1000000 ?_
 clear hs3 hs4 hs5 hs6 hs1000000
 cases a1 with
 | zero => rw [m_dag_heap_pop_L1.eq_1] at hm; cases hm
 | succ a1 =>
  rw [m_dag_heap_pop_L1.eq_2] at hm
  refine wB <| wS <| wR <| lM (.int .i64 ab) <| lA (.int .i64 ab) <| lN <| wS <| wS <| wR <| lM (.int .i64 ab) <| lV (.int .i64 (IntKind.i64.wrap (2 * ab))) (r_mul 2 ab rfl rfl) <| lV (.int .i64 (IntKind.i64.wrap ((IntKind.i64.wrap (2 * ab)) + 1))) (r_add (IntKind.i64.wrap (2 * ab)) 1 rfl rfl) <| lM (.int .i64 ab) <| lV (.int .i64 (IntKind.i64.wrap (2 * ab))) (r_mul 2 ab rfl rfl) <| lV (.int .i64 (IntKind.i64.wrap ((IntKind.i64.wrap (2 * ab)) + 2))) (r_add (IntKind.i64.wrap (2 * ab)) 2 rfl rfl) <| lV (.agg #[(.int .i64 (IntKind.i64.wrap ((IntKind.i64.wrap (2 * ab)) + 1))), (.int .i64 (IntKind.i64.wrap ((IntKind.i64.wrap (2 * ab)) + 2)))]) (r_buildA Tryz.underlying207 Tryz.sizeOf3 Tryz.zeroValue207 rfl) <| lM (.int .i64 0) <| lN <| wB ?_
  refine wloop (fun n f aw => ∃ (am : Col) (an : Int) (ap : Int) (au : Nat), au = n ∧ m_dag_heap_pop_L2 N aa ao af ab au an ap = some r ∧ St w0 (colL [qc0, ai] col) am aw ∧ Own (Rep.int .i64) 3 441 am aw ah al af ∧ Box 184 440 am aw g0 #[(.slice ah ((af.take (Int.toNat (IntKind.i64.wrap ((aa.length : Int) - 1)))).length) al)] ∧ f 3 = (.slice ah af.length al) ∧ f 37 = (.agg #[(.int .i64 (IntKind.i64.wrap ((IntKind.i64.wrap (2 * ab)) + 1))), (.int .i64 (IntKind.i64.wrap ((IntKind.i64.wrap (2 * ab)) + 2)))]) ∧ f 38 = (.int .i64 an) ∧ f 4 = (.int .i64 ao) ∧ f 5 = (.int .i64 (IntKind.i64.wrap ((aa.length : Int) - 1))) ∧ f 6 = (.int .i64 ab) ∧ f 7 = (.int .i64 ap) ∧ f 1000000 = (enc [])) N ⟨a0, 0, ab, N, rfl, hm, hst, ak, aj, rfl, rfl, rfl, rfl, rfl, rfl, rfl, rfl⟩ ?_
  clear hm; intro n f aw hI
  obtain ⟨am, an, ap, au, hn, hm, hst, ak, aj, hs3, hs37, hs38, hs4, hs5, hs6, hs7, hs1000000⟩ := hI
  subst hn
  refine .lD 3 hs3 <| .lD 37 hs37 <| .lD 38 hs38 <| .lD 4 hs4 <| .lD 5 hs5 <| .lD 6 hs6 <| .lD 7 hs7 <| .lD 1000000 hs1000000 ?_
  clear hs3 hs37 hs38 hs4 hs5 hs6 hs7 hs1000000
  cases au with
  | zero => rw [m_dag_heap_pop_L2.eq_1] at hm; cases hm
  | succ au =>
   rw [m_dag_heap_pop_L2.eq_2] at hm
   refine wS <| wR <| lV (.bool (decide (an < 2))) (r_lss an 2 rfl rfl) <| lN <| wS ?_
   refine wcond (decide (an < 2)) rfl (fun hb => ?_) (fun hb => ?_)
   ·rw [if_pos hb] at hm
    clear hb
    refine wK <| wS ?_
    refine Wp.cut (fun f a8 => ∃ (a2 : Col) (a9 : Int), m_dag_heap_pop_J1 an (m_dag_heap_pop_L2 N aa ao af ab au) a9 = some r ∧ St w0 (colL [qc0, ai] col) a2 a8 ∧ Own (Rep.int .i64) 3 441 a2 a8 ah al af ∧ Box 184 440 a2 a8 g0 #[(.slice ah ((af.take (Int.toNat (IntKind.i64.wrap ((aa.length : Int) - 1)))).length) al)] ∧ f 3 = (.slice ah af.length al) ∧ f 37 = (.agg #[(.int .i64 (IntKind.i64.wrap ((IntKind.i64.wrap (2 * ab)) + 1))), (.int .i64 (IntKind.i64.wrap ((IntKind.i64.wrap (2 * ab)) + 2)))]) ∧ f 38 = (.int .i64 an) ∧ f 4 = (.int .i64 ao) ∧ f 5 = (.int .i64 (IntKind.i64.wrap ((aa.length : Int) - 1))) ∧ f 6 = (.int .i64 ab) ∧ f 7 = (.int .i64 a9) ∧ f 1000000 = (enc [])) ?_ ?_
    ·intro f a8 hJ
     obtain ⟨a2, a9, hm, hst, ak, aj, hs3, hs37, hs38, hs4, hs5, hs6, hs7, hs1000000⟩ := hJ
     rw [m_dag_heap_pop_J1.eq_1] at hm
     refine .lD 3 hs3 <| .lD 37 hs37 <| .lD 38 hs38 <| .lD 4 hs4 <| .lD 5 hs5 <| .lD 6 hs6 <| .lD 7 hs7 <| .lD 1000000 hs1000000 ?_
     clear hs3 hs37 hs38 hs4 hs5 hs6 hs7 hs1000000
     refine wR <| lV (.int .i64 (IntKind.i64.wrap (an + 1))) (r_add an 1 rfl rfl) <| lM (.int .i64 (IntKind.i64.wrap (an + 1))) <| lN ?_
     exact ⟨au, by omega, ⟨a2, (IntKind.i64.wrap (an + 1)), a9, au, rfl, hm, hst, ak, aj, rfl, rfl, rfl, rfl, rfl, rfl, rfl, rfl⟩⟩
    refine wB <| wS <| wR ?_
    obtain ⟨ac, bl, hm⟩ := bS hm
    refine lV (.int .i64 ac) (r_indexI (l := [IntKind.i64.wrap ((IntKind.i64.wrap (2 * ab)) + 1), IntKind.i64.wrap ((IntKind.i64.wrap (2 * ab)) + 2)]) (k := .i64) Tryz.underlying207 Tryz.sizeOf3 Tryz.isAgg3 rfl rfl rfl bl) <| lA (.int .i64 ac) <| lN <| wS ?_
    refine Wp.cut (fun f ba => ∃ (a3 : Col) (bb : Bool), m_dag_heap_pop_J2 an ap (m_dag_heap_pop_L2 N aa ao af ab au) bb = some r ∧ St w0 (colL [qc0, ai] col) a3 ba ∧ Own (Rep.int .i64) 3 441 a3 ba ah al af ∧ Box 184 440 a3 ba g0 #[(.slice ah ((af.take (Int.toNat (IntKind.i64.wrap ((aa.length : Int) - 1)))).length) al)] ∧ f 3 = (.slice ah af.length al) ∧ f 37 = (.agg #[(.int .i64 (IntKind.i64.wrap ((IntKind.i64.wrap (2 * ab)) + 1))), (.int .i64 (IntKind.i64.wrap ((IntKind.i64.wrap (2 * ab)) + 2)))]) ∧ f 38 = (.int .i64 an) ∧ f 4 = (.int .i64 ao) ∧ f 5 = (.int .i64 (IntKind.i64.wrap ((aa.length : Int) - 1))) ∧ f 54 = (.bool bb) ∧ f 6 = (.int .i64 ab) ∧ f 7 = (.int .i64 ap) ∧ f 9 = (.int .i64 ac) ∧ f 1000000 = (enc [])) ?_ ?_
    ·intro f ba hJ
     obtain ⟨a3, bb, hm, hst, ak, aj, hs3, hs37, hs38, hs4, hs5, hs54, hs6, hs7, hs9, hs1000000⟩ := hJ
     rw [m_dag_heap_pop_J2.eq_1] at hm
     refine .lD 3 hs3 <| .lD 37 hs37 <| .lD 38 hs38 <| .lD 4 hs4 <| .lD 5 hs5 <| .lD 54 hs54 <| .lD 6 hs6 <| .lD 7 hs7 <| .lD 9 hs9 <| .lD 1000000 hs1000000 ?_
     clear hs3 hs37 hs38 hs4 hs5 hs54 hs6 hs7 hs9 hs1000000
     refine wcond (bb) rfl (fun hb => ?_) (fun hb => ?_)
     ·rw [if_pos hb] at hm
      clear hb
      cases hm
     rw [if_neg (by rw [hb]; decide)] at hm
     clear hb
     refine wK ?_
     exact ⟨a3, ap, hm, hst, ak, aj, rfl, rfl, rfl, rfl, rfl, rfl, rfl, rfl⟩
    refine wquiet (col := am) (by kernel_rfl) (by kernel_rfl) ?_
    refine qv (v := (.int .i64 ac)) rfl (fun _ hC => r_move rfl) ?_
    refine qv (v := (.int .i64 (IntKind.i64.wrap ((aa.length : Int) - 1)))) rfl (fun _ hC => r_move rfl) ?_
    refine qv (v := (.bool (decide (ac < (IntKind.i64.wrap ((aa.length : Int) - 1)))))) rfl (fun _ hC => r_lss ac (IntKind.i64.wrap ((aa.length : Int) - 1)) rfl rfl) ?_
    refine qv (v := (.bool (decide (ac < (IntKind.i64.wrap ((aa.length : Int) - 1)))))) rfl (fun _ hC => r_move rfl) ?_
    by_cases ad : (decide (ac < (IntKind.i64.wrap ((aa.length : Int) - 1)))) = true
    ·rw [if_pos ad] at hm
     refine qg (b := decide (ac < (IntKind.i64.wrap ((aa.length : Int) - 1)))) 44 rfl rfl rfl (by rw [ad]; rfl) ?_
     refine qv (v := (.slice ah af.length al)) rfl (fun _ hC => r_move rfl) ?_
     refine qg (b := decide (ac < (IntKind.i64.wrap ((aa.length : Int) - 1)))) 44 rfl rfl rfl (by rw [ad]; rfl) ?_
     refine qv (v := (.int .i64 ac)) rfl (fun _ hC => r_move rfl) ?_
     refine qg (b := decide (ac < (IntKind.i64.wrap ((aa.length : Int) - 1)))) 44 rfl rfl rfl (by rw [ad]; rfl) ?_
     obtain ⟨a4, bc, hm⟩ := bS hm
     refine qv (v := (sptr ah (Int.toNat ac * 1))) rfl (fun _ hC => r_idx Tryz.underlying184 Tryz.sizeOf3 rfl rfl (at?_some bc).1 (at?_some bc).2.1 (ak.addr bc)) ?_
     refine qg (b := decide (ac < (IntKind.i64.wrap ((aa.length : Int) - 1)))) 44 rfl rfl rfl (by rw [ad]; rfl) ?_
     refine qv (v := (.int .i64 a4)) rfl (fun _ hC => r_ld Tryz.isAgg3 rfl ((ak.gr (Grow.of_below (col := am) hC.below)).atInt bc)) ?_
     refine qg (b := decide (ac < (IntKind.i64.wrap ((aa.length : Int) - 1)))) 44 rfl rfl rfl (by rw [ad]; rfl) ?_
     refine qv (v := (.slice ah af.length al)) rfl (fun _ hC => r_move rfl) ?_
     refine qg (b := decide (ac < (IntKind.i64.wrap ((aa.length : Int) - 1)))) 44 rfl rfl rfl (by rw [ad]; rfl) ?_
     refine qv (v := (.int .i64 ap)) rfl (fun _ hC => r_move rfl) ?_
     refine qg (b := decide (ac < (IntKind.i64.wrap ((aa.length : Int) - 1)))) 44 rfl rfl rfl (by rw [ad]; rfl) ?_
     obtain ⟨a5, bd, hm⟩ := bS hm
     refine qv (v := (sptr ah (Int.toNat ap * 1))) rfl (fun _ hC => r_idx Tryz.underlying184 Tryz.sizeOf3 rfl rfl (at?_some bd).1 (at?_some bd).2.1 (ak.addr bd)) ?_
     refine qg (b := decide (ac < (IntKind.i64.wrap ((aa.length : Int) - 1)))) 44 rfl rfl rfl (by rw [ad]; rfl) ?_
     refine qv (v := (.int .i64 a5)) rfl (fun _ hC => r_ld Tryz.isAgg3 rfl ((ak.gr (Grow.of_below (col := am) hC.below)).atInt bd)) ?_
     refine qg (b := decide (ac < (IntKind.i64.wrap ((aa.length : Int) - 1)))) 44 rfl rfl rfl (by rw [ad]; rfl) ?_
     refine qv (v := (.bool (decide (a4 < a5)))) rfl (fun _ hC => r_lss a4 a5 rfl rfl) ?_
     refine qv (v := (.bool (decide (a4 < a5)))) rfl (fun _ hC => r_pickT (congrArg Value.bool ad) rfl) ?_
     refine qnil ?_
     intro bm hC
     replace hC : Grow am aw am bm := .of_below hC.below
     replace ak := ak.gr hC
     replace aj := aj.gr hC
     replace hst := hst.grow hC
     exact ⟨am, (decide (a4 < a5)), hm, hst, ak, aj, rfl, rfl, rfl, rfl, rfl, rfl, rfl, rfl, rfl, rfl⟩
    rw [if_neg ad] at hm
    replace ad := Bool.eq_false_iff.2 ad
    refine qp (b := decide (ac < (IntKind.i64.wrap ((aa.length : Int) - 1)))) 44 rfl rfl rfl rfl (by rw [ad]; rfl) ?_
    refine qp (b := decide (ac < (IntKind.i64.wrap ((aa.length : Int) - 1)))) 44 rfl rfl rfl rfl (by rw [ad]; rfl) ?_
    refine qp (b := decide (ac < (IntKind.i64.wrap ((aa.length : Int) - 1)))) 44 rfl rfl rfl rfl (by rw [ad]; rfl) ?_
    refine qp (b := decide (ac < (IntKind.i64.wrap ((aa.length : Int) - 1)))) 44 rfl rfl rfl rfl (by rw [ad]; rfl) ?_
    refine qp (b := decide (ac < (IntKind.i64.wrap ((aa.length : Int) - 1)))) 44 rfl rfl rfl rfl (by rw [ad]; rfl) ?_
    refine qp (b := decide (ac < (IntKind.i64.wrap ((aa.length : Int) - 1)))) 44 rfl rfl rfl rfl (by rw [ad]; rfl) ?_
    refine qp (b := decide (ac < (IntKind.i64.wrap ((aa.length : Int) - 1)))) 44 rfl rfl rfl rfl (by rw [ad]; rfl) ?_
    refine qp (b := decide (ac < (IntKind.i64.wrap ((aa.length : Int) - 1)))) 44 rfl rfl rfl rfl (by rw [ad]; rfl) ?_
    refine qp (b := decide (ac < (IntKind.i64.wrap ((aa.length : Int) - 1)))) 44 rfl rfl rfl rfl (by rw [ad]; rfl) ?_
    refine qv (v := (.bool false)) rfl (fun _ hC => r_pickF (congrArg Value.bool ad) rfl) ?_
    refine qnil ?_
    intro bn hC
    replace hC : Grow am aw am bn := .of_below hC.below
    replace ak := ak.gr hC
    replace aj := aj.gr hC
    replace hst := hst.grow hC
    exact ⟨am, false, hm, hst, ak, aj, rfl, rfl, rfl, rfl, rfl, rfl, rfl, rfl, rfl, rfl⟩
   rw [if_neg (by rw [hb]; decide)] at hm
   clear hb
   refine wexit (inB_hit ?_)
   refine wS <| wS <| wR <| lM (.int .i64 ap) <| lM (.int .i64 ab) <| lV (.bool (decide (ap = ab))) (r_eql ap ab rfl rfl) <| lN ?_
   refine wcond (decide (ap = ab)) rfl (fun hb => ?_) (fun hb => ?_)
   ·rw [if_pos hb] at hm
    clear hb
    refine wS <| wR <| lM (.int .i64 ao) <| lA (.int .i64 ao) <| lN ?_
    refine wret ?_
    cases hm
    exact ⟨rfl, colFL w0.heap.size [qc0, ai] col am (fun n => bif Nat.beq n 441 then ai else bif Nat.beq n 440 then qc0 else 0), ah, al, rfl, hst.finL rfl (fun n => bif Nat.beq n 441 then ai else bif Nat.beq n 440 then qc0 else 0), hst.finOwnL (g := (fun n => bif Nat.beq n 441 then ai else bif Nat.beq n 440 then qc0 else 0)) rfl (ak.take (Int.toNat (IntKind.i64.wrap ((aa.length : Int) - 1)))) (by decide) (by decide) rfl, hst.finBoxL (g := (fun n => bif Nat.beq n 441 then ai else bif Nat.beq n 440 then qc0 else 0)) aj (by decide) (by decide) rfl⟩
   rw [if_neg (by rw [hb]; decide)] at hm
   clear hb
   cases hm
theorem el3_151 : ElemOk Tryz.prog 3 1 8 := ⟨Tryz.t3, _, rfl, rfl, rfl, rfl, rfl⟩
def m_dag_heap_push_J1 (aa : List Int) (ab : Bool) : Option (List Int) :=
  if ab = true then none else (some aa)
def m_dag_heap_push_L1 (N : Nat)  : Nat → (List Int) → Int → Option (List Int)
  | 0, _, _ => none
  | ae + 1, aa, ab => if (decide (0 < ab)) = true then ((at? aa ab).bind fun ac => (at? aa (IntKind.i64.wrap (Int.tdiv (IntKind.i64.wrap (ab - 1)) 2))).bind fun ad => m_dag_heap_push_J1 aa (decide (ac < ad))) else (m_dag_heap_push_J1 aa false)
def m_dag_heap_push (N : Nat) (aa : (List Int)) (ab : Int) : Option (List Int) :=
  chk ((aa.length + [ab].length) * 8 ≤ 140737488355328 ∧ aa.length + [ab].length ≤ maxLen) (m_dag_heap_push_L1 N N (aa ++ [ab]) (IntKind.i64.wrap (((aa ++ [ab]).length : Int) - 1)))
theorem c_dag_heap_push (N : Nat) (col : Col) (w0 : World) (qc0 : Nat) (af : Nat) (hd : dstB [qc0, af] = true) (g0 : Nat) (ag : (List Int)) (a0 : Option Addr) (a1 : Nat) (ac : Int) (al : Own (Rep.int .i64) 3 af col w0 a0 a1 ag) (hb0 : Box 184 qc0 col w0 g0 #[(.slice a0 ag.length a1)]) (r : (List Int)) (hm : m_dag_heap_push N ag ac = some r) :
    Calls Tryz.prog 151 #[(.pointer (some ⟨g0, 0, none⟩)), (.int .i64 ac)] w0 (fun e w' => ∃ (col' : Col) (oa1 : Option Addr) (oc2 : Nat), e = .returned (.tuple #[]) ∧ KeepP (pS [qc0, af]) col w0 col' w' ∧ Own (Rep.int .i64) 3 af col' w' oa1 oc2 r ∧ Box 184 qc0 col' w' g0 #[(.slice oa1 r.length oc2)]) := by
 refine calls_of0  (m := 66) (args := [(.pointer (some ⟨g0, 0, none⟩)), (.int .i64 ac)]) Tryz.func151 rfl rfl rfl rfl ?_
 rw [m_dag_heap_push.eq_1] at hm
 have hst := St.startL (l := [qc0, af]) rfl col w0
 replace hb0 := hb0.startL (dst_nz hd 0 rfl) (dst_ix hd 0 rfl)
 replace al := al.startL (dst_nz hd 1 rfl) (dst_ix hd 1 rfl)
 refine wS <| wR <| lM (.pointer (some ⟨g0, 0, none⟩)) <| lM (.pointer (some ⟨g0, 0, none⟩)) <| lV (.pointer (some ⟨g0, 0, none⟩)) (r_nilCheck rfl) <| lV (.slice a0 ag.length a1) (r_ld Tryz.isAgg184 rfl hb0.at1) <| lM (.int .i64 ac) ?_
 refine l_lit (col := (colL [qc0, af] col)) (r := (Rep.int .i64)) (xs := [ac]) [(.int .i64 ac)] 1 rfl Tryz.underlying184 el3_151 rfl rfl rfl rfl rfl rfl (by intro v hv; simp only [List.mem_cons, List.not_mem_nil, or_false] at hv; subst hv; rfl) (RowsH.ofF (Rows.consF (r := (Rep.int .i64)) (x := ac) (cs := [(.int .i64 ac)]) (rd_int .i64 ac) Rows.nil0)) ?_
 intro bf a7 a8 a2 a9
 obtain ⟨a3, hm⟩ := cS hm
 replace al := al.gr a2
 refine l_ext (col := a8) (w := a7) (r := (Rep.int .i64)) (c := 441) (c2 := 441) (al.ex) (a9.srcN (NB.int (k := .i64))) rfl Tryz.underlying184 el3_151 rfl rfl rfl a3.1 a3.2 (by decide) ?_
 intro ar au bg a4 a5 av
 clear al
 refine lV (.pointer (some ⟨g0, 0, none⟩)) (r_nilCheck rfl) ?_
 replace hb0 := (hb0.gr a2).kpp a5
 refine l_bstore (v := (.slice ar ((ag ++ [ac]).length) au)) hb0 Tryz.sizeOf184 rfl rfl (by intro u hu; simp only [Value.cells, List.mem_cons, List.not_mem_nil, or_false] at hu; subst hu; rfl) rfl rfl ?_
 intro ba a6 bb ad
 clear hb0
 replace ad : Box 184 440 a4 ba g0 #[(.slice ar ((ag ++ [ac]).length) au)] := ad
 replace av := av.kp a6
 have bc := av.new
 clear av
 refine lN <| wS <| wR <| lM (.pointer (some ⟨g0, 0, none⟩)) <| lV (.pointer (some ⟨g0, 0, none⟩)) (r_nilCheck rfl) <| lV (.slice ar ((ag ++ [ac]).length) au) (r_ld Tryz.isAgg184 rfl ad.at1) <| lV (.int .i64 ((ag ++ [ac]).length : Int)) (r_len Tryz.underlying184 rfl) <| lV (.int .i64 (IntKind.i64.wrap (((ag ++ [ac]).length : Int) - 1))) (r_sub ((ag ++ [ac]).length : Int) 1 rfl rfl) <| lA (.int .i64 (IntKind.i64.wrap (((ag ++ [ac]).length : Int) - 1))) <| lN <| wB ?_
 replace hst := ((hst.grow a2).kpp a5).kp a6 bb
 refine wloop (fun n f am => ∃ (ae : Col) (ai : Option Addr) (ak : Nat) (aj : List Int) (aa : Int) (an : Nat), an = n ∧ m_dag_heap_push_L1 N an aj aa = some r ∧ St w0 (colL [qc0, af] col) ae am ∧ Own (Rep.int .i64) 3 441 ae am ai ak aj ∧ Box 184 440 ae am g0 #[(.slice ai aj.length ak)] ∧ f 0 = (.pointer (some ⟨g0, 0, none⟩)) ∧ f 4 = (.int .i64 aa) ∧ f 1000000 = (enc [])) N ⟨a4, ar, au, (ag ++ [ac]), (IntKind.i64.wrap (((ag ++ [ac]).length : Int) - 1)), N, rfl, hm, hst, bc, ad, rfl, rfl, rfl⟩ ?_
 clear hm; intro n f am hI
 obtain ⟨ae, ai, ak, aj, aa, an, hn, hm, hst, ah, ad, hs0, hs4, hs1000000⟩ := hI
 subst hn
 refine .lD 0 hs0 <| .lD 4 hs4 <| .lD 1000000 hs1000000 ?_
 clear hs0 hs4 hs1000000
 cases an with
 | zero => rw [m_dag_heap_push_L1.eq_1] at hm; cases hm
 | succ an =>
  rw [m_dag_heap_push_L1.eq_2] at hm
  refine wS <| wS ?_
  refine Wp.cut (fun f aw => ∃ (ao : Col) (ax : Bool), m_dag_heap_push_J1 aj ax = some r ∧ St w0 (colL [qc0, af] col) ao aw ∧ Own (Rep.int .i64) 3 441 ao aw ai ak aj ∧ Box 184 440 ao aw g0 #[(.slice ai aj.length ak)] ∧ f 0 = (.pointer (some ⟨g0, 0, none⟩)) ∧ f 36 = (.bool ax) ∧ f 4 = (.int .i64 aa) ∧ f 1000000 = (enc [])) ?_ ?_
  ·intro f aw hJ
   obtain ⟨ao, ax, hm, hst, ah, ad, hs0, hs36, hs4, hs1000000⟩ := hJ
   rw [m_dag_heap_push_J1.eq_1] at hm
   refine .lD 0 hs0 <| .lD 36 hs36 <| .lD 4 hs4 <| .lD 1000000 hs1000000 ?_
   clear hs0 hs36 hs4 hs1000000
   refine wcond (ax) rfl (fun hb => ?_) (fun hb => ?_)
   ·rw [if_pos hb] at hm
    clear hb
    cases hm
   rw [if_neg (by rw [hb]; decide)] at hm
   clear hb
   refine wexit (inB_hit ?_)
   cases hm
   exact ⟨rfl, colFL w0.heap.size [qc0, af] col ao (fun n => bif Nat.beq n 441 then af else bif Nat.beq n 440 then qc0 else 0), ai, ak, rfl, hst.finL rfl (fun n => bif Nat.beq n 441 then af else bif Nat.beq n 440 then qc0 else 0), hst.finOwnL (g := (fun n => bif Nat.beq n 441 then af else bif Nat.beq n 440 then qc0 else 0)) rfl ah (by decide) (by decide) rfl, hst.finBoxL (g := (fun n => bif Nat.beq n 441 then af else bif Nat.beq n 440 then qc0 else 0)) ad (by decide) (by decide) rfl⟩
  refine wquiet (col := ae) (by kernel_rfl) (by kernel_rfl) ?_
  refine qv (v := (.int .i64 aa)) rfl (fun _ hC => r_move rfl) ?_
  refine qv (v := (.bool (decide (0 < aa)))) rfl (fun _ hC => r_gtr aa 0 rfl rfl) ?_
  refine qv (v := (.bool (decide (0 < aa)))) rfl (fun _ hC => r_move rfl) ?_
  by_cases ab : (decide (0 < aa)) = true
  ·rw [if_pos ab] at hm
   refine qg (b := decide (0 < aa)) 20 rfl rfl rfl (by rw [ab]; rfl) ?_
   refine qv (v := (.pointer (some ⟨g0, 0, none⟩))) rfl (fun _ hC => r_move rfl) ?_
   refine qg (b := decide (0 < aa)) 20 rfl rfl rfl (by rw [ab]; rfl) ?_
   refine qv (v := (.pointer (some ⟨g0, 0, none⟩))) rfl (fun _ hC => r_nilCheck rfl) ?_
   refine qg (b := decide (0 < aa)) 20 rfl rfl rfl (by rw [ab]; rfl) ?_
   refine qv (v := (.slice ai aj.length ak)) rfl (fun _ hC => r_ld Tryz.isAgg184 rfl (ad.at1.gr (Grow.of_below (col := ae) hC.below))) ?_
   refine qg (b := decide (0 < aa)) 20 rfl rfl rfl (by rw [ab]; rfl) ?_
   refine qv (v := (.int .i64 aa)) rfl (fun _ hC => r_move rfl) ?_
   refine qg (b := decide (0 < aa)) 20 rfl rfl rfl (by rw [ab]; rfl) ?_
   obtain ⟨ap, ay, hm⟩ := bS hm
   refine qv (v := (sptr ai (Int.toNat aa * 1))) rfl (fun _ hC => r_idx Tryz.underlying184 Tryz.sizeOf3 rfl rfl (at?_some ay).1 (at?_some ay).2.1 (ah.addr ay)) ?_
   refine qg (b := decide (0 < aa)) 20 rfl rfl rfl (by rw [ab]; rfl) ?_
   refine qv (v := (.int .i64 ap)) rfl (fun _ hC => r_ld Tryz.isAgg3 rfl ((ah.gr (Grow.of_below (col := ae) hC.below)).atInt ay)) ?_
   refine qg (b := decide (0 < aa)) 20 rfl rfl rfl (by rw [ab]; rfl) ?_
   refine qv (v := (.pointer (some ⟨g0, 0, none⟩))) rfl (fun _ hC => r_move rfl) ?_
   refine qg (b := decide (0 < aa)) 20 rfl rfl rfl (by rw [ab]; rfl) ?_
   refine qv (v := (.pointer (some ⟨g0, 0, none⟩))) rfl (fun _ hC => r_nilCheck rfl) ?_
   refine qg (b := decide (0 < aa)) 20 rfl rfl rfl (by rw [ab]; rfl) ?_
   refine qv (v := (.slice ai aj.length ak)) rfl (fun _ hC => r_ld Tryz.isAgg184 rfl (ad.at1.gr (Grow.of_below (col := ae) hC.below))) ?_
   refine qg (b := decide (0 < aa)) 20 rfl rfl rfl (by rw [ab]; rfl) ?_
   refine qv (v := (.int .i64 aa)) rfl (fun _ hC => r_move rfl) ?_
   refine qg (b := decide (0 < aa)) 20 rfl rfl rfl (by rw [ab]; rfl) ?_
   refine qv (v := (.int .i64 (IntKind.i64.wrap (aa - 1)))) rfl (fun _ hC => r_sub aa 1 rfl rfl) ?_
   refine qg (b := decide (0 < aa)) 20 rfl rfl rfl (by rw [ab]; rfl) ?_
   refine qv (v := (.int .i64 (IntKind.i64.wrap (Int.tdiv (IntKind.i64.wrap (aa - 1)) 2)))) rfl (fun _ hC => r_quo (IntKind.i64.wrap (aa - 1)) 2 rfl rfl (by decide)) ?_
   refine qg (b := decide (0 < aa)) 20 rfl rfl rfl (by rw [ab]; rfl) ?_
   obtain ⟨aq, az, hm⟩ := bS hm
   refine qv (v := (sptr ai (Int.toNat (IntKind.i64.wrap (Int.tdiv (IntKind.i64.wrap (aa - 1)) 2)) * 1))) rfl (fun _ hC => r_idx Tryz.underlying184 Tryz.sizeOf3 rfl rfl (at?_some az).1 (at?_some az).2.1 (ah.addr az)) ?_
   refine qg (b := decide (0 < aa)) 20 rfl rfl rfl (by rw [ab]; rfl) ?_
   refine qv (v := (.int .i64 aq)) rfl (fun _ hC => r_ld Tryz.isAgg3 rfl ((ah.gr (Grow.of_below (col := ae) hC.below)).atInt az)) ?_
   refine qg (b := decide (0 < aa)) 20 rfl rfl rfl (by rw [ab]; rfl) ?_
   refine qv (v := (.bool (decide (ap < aq)))) rfl (fun _ hC => r_lss ap aq rfl rfl) ?_
   refine qv (v := (.bool (decide (ap < aq)))) rfl (fun _ hC => r_pickT (congrArg Value.bool ab) rfl) ?_
   refine qnil ?_
   intro bd hC
   replace hC : Grow ae am ae bd := .of_below hC.below
   replace ah := ah.gr hC
   replace ad := ad.gr hC
   replace hst := hst.grow hC
   exact ⟨ae, (decide (ap < aq)), hm, hst, ah, ad, rfl, rfl, rfl, rfl⟩
  rw [if_neg ab] at hm
  replace ab := Bool.eq_false_iff.2 ab
  refine qp (b := decide (0 < aa)) 20 rfl rfl rfl rfl (by rw [ab]; rfl) ?_
  refine qp (b := decide (0 < aa)) 20 rfl rfl rfl rfl (by rw [ab]; rfl) ?_
  refine qp (b := decide (0 < aa)) 20 rfl rfl rfl rfl (by rw [ab]; rfl) ?_
  refine qp (b := decide (0 < aa)) 20 rfl rfl rfl rfl (by rw [ab]; rfl) ?_
  refine qp (b := decide (0 < aa)) 20 rfl rfl rfl rfl (by rw [ab]; rfl) ?_
  refine qp (b := decide (0 < aa)) 20 rfl rfl rfl rfl (by rw [ab]; rfl) ?_
  refine qp (b := decide (0 < aa)) 20 rfl rfl rfl rfl (by rw [ab]; rfl) ?_
  refine qp (b := decide (0 < aa)) 20 rfl rfl rfl rfl (by rw [ab]; rfl) ?_
  refine qp (b := decide (0 < aa)) 20 rfl rfl rfl rfl (by rw [ab]; rfl) ?_
  refine qp (b := decide (0 < aa)) 20 rfl rfl rfl rfl (by rw [ab]; rfl) ?_
  refine qp (b := decide (0 < aa)) 20 rfl rfl rfl rfl (by rw [ab]; rfl) ?_
  refine qp (b := decide (0 < aa)) 20 rfl rfl rfl rfl (by rw [ab]; rfl) ?_
  refine qp (b := decide (0 < aa)) 20 rfl rfl rfl rfl (by rw [ab]; rfl) ?_
  refine qp (b := decide (0 < aa)) 20 rfl rfl rfl rfl (by rw [ab]; rfl) ?_
  refine qp (b := decide (0 < aa)) 20 rfl rfl rfl rfl (by rw [ab]; rfl) ?_
  refine qv (v := (.bool false)) rfl (fun _ hC => r_pickF (congrArg Value.bool ab) rfl) ?_
  refine qnil ?_
  intro be hC
  replace hC : Grow ae am ae be := .of_below hC.below
  replace ah := ah.gr hC
  replace ad := ad.gr hC
  replace hst := hst.grow hC
  exact ⟨ae, false, hm, hst, ah, ad, rfl, rfl, rfl, rfl⟩
theorem el3_122 : ElemOk Tryz.prog 3 1 8 := ⟨Tryz.t3, _, rfl, rfl, rfl, rfl, rfl⟩
def m_dag_sorted_J1 (kk_L3 : ((List Int) → (List Int) → Option (List Int))) (aa : List Int) (ab : List Int) : Option (List Int) :=
  kk_L3 aa ab
def m_dag_sorted_L3 (ad : List Int) (kk_L2 : ((List Int) → (List Int) → (List Int) → Option (List Int))) (ae : (Int × (List Int))) : List Int → (List Int) → (List Int) → Option (List Int)
  | [], aa, ac => kk_L2 aa ac (ad ++ [ae.1])
  | ab :: ah, aa, ac => (at? aa ab).bind fun af => (some (aa.set (Int.toNat ab) (IntKind.i64.wrap (af - 1)))).bind fun ag => (at? ag ab).bind fun ai => none
def m_dag_sorted_L2 (N : Nat) (ac : (List (List Int))) : Nat → (List Int) → (List Int) → (List Int) → Option (List Int)
  | 0, _, _, _ => none
  | ae + 1, af, ad, ab => if (decide (0 < (ad.length : Int))) = true then ((m_dag_heap_pop N ad).bind fun aa => chk ((ab.length + [aa.1].length) * 8 ≤ 140737488355328 ∧ ab.length + [aa.1].length ≤ maxLen) ((at? ac aa.1).bind fun ag => m_dag_sorted_L3 ab (m_dag_sorted_L2 N ac ae) aa ag af aa.2)) else (some ab)
termination_by structural x => x
def m_dag_sorted_J2 (aa : Nat) (kk_L1 : (Nat → (List Int) → (List Int) → Option (List Int))) (ab : List Int) (ac : List Int) : Option (List Int) :=
  kk_L1 (aa + 1) ab ac
def m_dag_sorted_L1 (N : Nat) (ad : (List (List Int))) : List (List Int) → Nat → (List Int) → (List Int) → Option (List Int)
  | [], aa, ab, ac => m_dag_sorted_L2 N ad N ab ac ([] : List Int)
  | ae :: af, aa, ab, ac => (at? ab (aa : Int)).bind fun ai => (some (ab.set (Int.toNat (aa : Int)) (ae.length : Int))).bind fun ag => if (decide ((ae.length : Int) = 0)) = true then ((m_dag_heap_push N ac (aa : Int)).bind fun ah => m_dag_sorted_J2 aa (m_dag_sorted_L1 N ad af) ag ah) else none
termination_by structural x => x
def m_dag_sorted (N : Nat) (aa : (List (List Int))) (ab : (List (List Int))) : Option (List Int) :=
  chk (aa.length * 8 ≤ 281474976710656 ∧ aa.length ≤ maxLen) (m_dag_sorted_L1 N ab aa 0 (List.replicate aa.length (0 : Int)) ([] : List Int))
theorem c_dag_sorted (N : Nat) (c1 : Nat) (col : Col) (w0 : World) (a0 : Option Addr) (cap0 : Nat) (aa : (List (List Int))) (a1 : Option Addr) (cap1 : Nat) (ac : (List (List Int))) (h0 : Sl (Rep.slice (Rep.int .i64)) col w0 a0 cap0 aa) (h1 : Sl (Rep.slice (Rep.int .i64)) col w0 a1 cap1 ac) (r : (List Int)) (hm : m_dag_sorted N aa ac = some r) :
    Calls Tryz.prog 122 #[(.slice a0 aa.length cap0), (.slice a1 ac.length cap1)] w0 (fun e w' => ∃ (col' : Col) (ra1 : Option Addr) (rc2 : Nat), e = .returned ((.slice ra1 r.length rc2)) ∧ Grow col w0 col' w' ∧ Own (Rep.int .i64) 3 c1 col' w' ra1 rc2 r) := by
 refine calls_of1 4 (m := 66) (args := [(.slice a0 aa.length cap0), (.slice a1 ac.length cap1)]) Tryz.func122 rfl rfl rfl rfl rfl ?_
 rw [m_dag_sorted.eq_1] at hm
 have hst := St.start col w0
 refine wS <| wR <| lA (.slice none (([] : List Int).length) 0) <| lN <| wS <| wR <| lM (.slice a0 aa.length cap0) <| lV (.int .i64 (aa.length : Int)) (r_len Tryz.underlying25 rfl) ?_
 obtain ⟨c3, hm⟩ := cS hm
 refine l_make (col := (col0 col)) (w := w0) (r := (Rep.int .i64)) (n := aa.length) (x0 := 0) 1 rfl Tryz.underlying33 Tryz.t3 rfl rfl rfl rfl rfl rfl rfl c3.1 c3.2 (rd_int .i64 0) ?_
 intro c4 d0 c9 ct cu
 refine lA (.slice c4 ((List.replicate aa.length (0 : Int)).length) aa.length) <| lN <| wS <| wR ?_
 refine l_alloc (col := c9) (v := (.slice none (([] : List Int).length) 0)) 2 rfl Tryz.zeroValue184 ?_
 intro ai da c5 b2 ag
 replace ag : Box 184 2 c5 da ai #[(.slice none (([] : List Int).length) 0)] := ag
 refine lN <| wS <| wS <| wR <| lM (.slice a0 aa.length cap0) <| lV (.int .i64 (aa.length : Int)) (r_len Tryz.underlying25 rfl) <| lM (.int .i64 0) <| lN <| wB ?_
 replace h0 := ((h0.keep (Stay.start col w0)).gr ct).gr b2
 replace h1 := ((h1.keep (Stay.start col w0)).gr ct).gr b2
 replace hst := (hst.grow ct).grow b2
 replace cu := cu.gr b2
 refine wloop (fun n f a5 => ∃ (am : Col) (ab : Nat) (an : Option Addr) (au : Nat) (av : List Int) (bj : Option Addr) (bk : Nat) (bd : List Int) (bl : List (List Int)), n = bl.length ∧ aa.drop ab = bl ∧ m_dag_sorted_L1 N ac bl ab av bd = some r ∧ St w0 (col0 col) am a5 ∧ Sl (Rep.slice (Rep.int .i64)) am a5 a1 cap1 ac ∧ Sl (Rep.slice (Rep.int .i64)) am a5 a0 cap0 aa ∧ Own (Rep.int .i64) 3 1 am a5 an au av ∧ Own (Rep.int .i64) 3 3 am a5 bj bk bd ∧ Box 184 2 am a5 ai #[(.slice bj bd.length bk)] ∧ f 18 = (.int .i64 (ab : Int)) ∧ f 1 = (.slice a1 ac.length cap1) ∧ f 16 = (.slice a0 aa.length cap0) ∧ f 17 = (.int .i64 (aa.length : Int)) ∧ f 5 = (.slice an av.length au) ∧ f 6 = (.pointer (some ⟨ai, 0, none⟩)) ∧ f 1000000 = (enc [])) aa.length ⟨c5, 0, c4, aa.length, (List.replicate aa.length (0 : Int)), none, 0, ([] : List Int), aa, rfl, rfl, hm, hst, h1, h0, cu, Own.nil, ag, rfl, rfl, rfl, rfl, rfl, rfl, rfl⟩ ?_
 clear hm; intro n f a5 hI
 obtain ⟨am, ab, an, au, av, bj, bk, bd, bl, hn, hl, hm, hst, h1, h0, b3, bm, ag, hs18, hs1, hs16, hs17, hs5, hs6, hs1000000⟩ := hI
 subst hn
 refine .lD 18 hs18 <| .lD 1 hs1 <| .lD 16 hs16 <| .lD 17 hs17 <| .lD 5 hs5 <| .lD 6 hs6 <| .lD 1000000 hs1000000 ?_
 clear hs18 hs1 hs16 hs17 hs5 hs6 hs1000000
 cases bl with
 | nil =>
  have hk : ¬ ((ab : Int) < (aa.length : Int)) := by have := List.drop_eq_nil_iff.1 hl; omega
  have hkb := decide_eq_false hk
  rw [m_dag_sorted_L1.eq_1] at hm
  refine wS <| wR <| lV (.bool (decide ((ab : Int) < (aa.length : Int)))) (r_lss (ab : Int) (aa.length : Int) rfl rfl) <| lN <| wS ?_
  refine wcondF (congrArg Value.bool hkb) ?_
  refine wexit (inB_hit ?_)
  refine wS <| wR <| lA (.slice none (([] : List Int).length) 0) <| lN <| wS <| wB ?_
  refine wloop (fun n f a6 => ∃ (ao : Col) (b4 : Option Addr) (b5 : Nat) (bn : List Int) (bo : Option Addr) (bp : Nat) (al : List Int) (a7 : Option Addr) (a8 : Nat) (af : List Int) (ap : Nat), ap = n ∧ m_dag_sorted_L2 N ac ap bn al af = some r ∧ St w0 (col0 col) ao a6 ∧ Sl (Rep.slice (Rep.int .i64)) ao a6 a1 cap1 ac ∧ Own (Rep.int .i64) 3 1 ao a6 b4 b5 bn ∧ Own (Rep.int .i64) 3 3 ao a6 bo bp al ∧ Box 184 2 ao a6 ai #[(.slice bo al.length bp)] ∧ Own (Rep.int .i64) 3 4 ao a6 a7 a8 af ∧ f 1 = (.slice a1 ac.length cap1) ∧ f 5 = (.slice b4 bn.length b5) ∧ f 6 = (.pointer (some ⟨ai, 0, none⟩)) ∧ f 9 = (.slice a7 af.length a8) ∧ f 1000000 = (enc [])) N ⟨am, an, au, av, bj, bk, bd, none, 0, ([] : List Int), N, rfl, hm, hst, h1, b3, bm, ag, Own.nil, rfl, rfl, rfl, rfl, rfl⟩ ?_
  clear hm; intro n f a6 hI
  obtain ⟨ao, b4, b5, bn, bo, bp, al, a7, a8, af, ap, hn, hm, hst, h1, cv, c6, ag, bq, hs1, hs5, hs6, hs9, hs1000000⟩ := hI
  subst hn
  refine .lD 1 hs1 <| .lD 5 hs5 <| .lD 6 hs6 <| .lD 9 hs9 <| .lD 1000000 hs1000000 ?_
  clear hs1 hs5 hs6 hs9 hs1000000
  cases ap with
  | zero => rw [m_dag_sorted_L2.eq_1] at hm; cases hm
  | succ ap =>
   rw [m_dag_sorted_L2.eq_2] at hm
   refine wS <| wS <| wR <| lV (.slice bo al.length bp) (r_ld Tryz.isAgg184 rfl ag.at1) <| lV (.int .i64 (al.length : Int)) (r_len Tryz.underlying184 rfl) <| lV (.bool (decide (0 < (al.length : Int)))) (r_gtr (al.length : Int) 0 rfl rfl) <| lN ?_
   refine wcond (decide (0 < (al.length : Int))) rfl (fun hb => ?_) (fun hb => ?_)
   ·rw [if_pos hb] at hm
    clear hb
    refine wK <| wB <| wS <| wR ?_
    obtain ⟨ad, db, hm⟩ := bS hm
    refine lc rfl rfl (r_call1 Tryz.call152 rfl) (c_dag_heap_pop N ao _ 2 3 rfl ai al bo bp c6 ag ad db) ?_
    rintro _ d1 ⟨dc, dd, de, rfl, b6, cw, a9⟩
    refine ⟨_, rfl, ?_⟩
    clear c6
    clear ag
    refine lA (.int .i64 ad.1) <| lN <| wS <| wR <| lM (.slice a7 af.length a8) <| lM (.int .i64 ad.1) ?_
    refine l_lit (col := dc) (r := (Rep.int .i64)) (xs := [ad.1]) [(.int .i64 ad.1)] 5 rfl Tryz.underlying33 el3_122 rfl rfl rfl rfl rfl rfl (by intro v hv; simp only [List.mem_cons, List.not_mem_nil, or_false] at hv; subst hv; rfl) (RowsH.ofF (Rows.consF (r := (Rep.int .i64)) (x := ad.1) (cs := [(.int .i64 ad.1)]) (rd_int .i64 ad.1) Rows.nil0)) ?_
    intro d2 df dg be dh
    obtain ⟨c7, hm⟩ := cS hm
    replace bq := (bq.kpp b6).gr be
    refine l_appendM (col := dg) (w := df) (r := (Rep.int .i64)) (c := 4) (c2 := 4) (xs := af) (ys := [ad.1]) bq (dh.srcN (NB.int (k := .i64))) rfl Tryz.underlying33 el3_122 rfl rfl rfl c7.1 c7.2 (by decide) ?_
    intro bf bg d3 di br bs
    clear bq
    refine lA (.slice bf ((af ++ [ad.1]).length) bg) <| lN <| wS <| wR <| lM (.slice a1 ac.length cap1) <| lM (.int .i64 ad.1) ?_
    obtain ⟨ae, b7, hm⟩ := bS hm
    replace h1 := ((h1.kpp b6).gr be).kpp br
    refine lV (sptr a1 (Int.toNat ad.1 * 1)) (r_idx Tryz.underlying25 Tryz.sizeOf33 rfl rfl (at?_some b7).1 (at?_some b7).2.1 (h1.addr b7)) ?_
    obtain ⟨_, dj, dk⟩ := h1.atN b7
    obtain ⟨⟨bh, bt, rfl, ba⟩, _⟩ := dj
    refine lV (.slice bh ae.length bt) (r_ld Tryz.isAgg33 rfl dk.one) <| lV (.int .i64 (ae.length : Int)) (r_len Tryz.underlying33 rfl) <| lM (.int .i64 0) <| lN <| wB ?_
    replace cv := ((cv.kpp b6).gr be).kpp br
    replace hst := ((hst.kpp b6).grow be).kpp br
    replace cw := (cw.gr be).kpp br
    replace a9 := (a9.gr be).kpp br
    refine wloop (fun n f aw => ∃ (aq : Col) (ah : Nat) (ak : Option Addr) (ax : Nat) (ay : List Int) (b8 : Option Addr) (b9 : Nat) (bu : List Int) (bv : List Int), n = bv.length ∧ ae.drop ah = bv ∧ m_dag_sorted_L3 af (m_dag_sorted_L2 N ac ap) ad bv ay bu = some r ∧ St w0 (col0 col) aq aw ∧ Sl (Rep.slice (Rep.int .i64)) aq aw a1 cap1 ac ∧ Sl (Rep.int .i64) aq aw bh bt ae ∧ Own (Rep.int .i64) 3 1 aq aw ak ax ay ∧ Own (Rep.int .i64) 3 3 aq aw b8 b9 bu ∧ Box 184 2 aq aw ai #[(.slice b8 bu.length b9)] ∧ Own (Rep.int .i64) 3 4 aq aw bf bg (af ++ [ad.1]) ∧ f 47 = (.int .i64 (ah : Int)) ∧ f 1 = (.slice a1 ac.length cap1) ∧ f 45 = (.slice bh ae.length bt) ∧ f 46 = (.int .i64 (ae.length : Int)) ∧ f 5 = (.slice ak ay.length ax) ∧ f 6 = (.pointer (some ⟨ai, 0, none⟩)) ∧ f 9 = (.slice bf ((af ++ [ad.1]).length) bg) ∧ f 1000000 = (enc [])) ae.length ⟨di, 0, b4, b5, bn, dd, de, ad.2, ae, rfl, rfl, hm, hst, h1, ba, cv, cw, a9, bs, rfl, rfl, rfl, rfl, rfl, rfl, rfl, rfl⟩ ?_
    clear hm; intro n f aw hI
    obtain ⟨aq, ah, ak, ax, ay, b8, b9, bu, bv, hn, hl, hm, hst, h1, ba, bi, dl, a9, bs, hs47, hs1, hs45, hs46, hs5, hs6, hs9, hs1000000⟩ := hI
    subst hn
    refine .lD 47 hs47 <| .lD 1 hs1 <| .lD 45 hs45 <| .lD 46 hs46 <| .lD 5 hs5 <| .lD 6 hs6 <| .lD 9 hs9 <| .lD 1000000 hs1000000 ?_
    clear hs47 hs1 hs45 hs46 hs5 hs6 hs9 hs1000000
    cases bv with
    | nil =>
     have hk : ¬ ((ah : Int) < (ae.length : Int)) := by have := List.drop_eq_nil_iff.1 hl; omega
     have hkb := decide_eq_false hk
     rw [m_dag_sorted_L3.eq_1] at hm
     refine wS <| wR <| lV (.bool (decide ((ah : Int) < (ae.length : Int)))) (r_lss (ah : Int) (ae.length : Int) rfl rfl) <| lN <| wS ?_
     refine wcondF (congrArg Value.bool hkb) ?_
     refine wexit (inB_hit ?_)
     exact ⟨ap, by omega, ⟨aq, ak, ax, ay, b8, b9, bu, bf, bg, (af ++ [ad.1]), ap, rfl, hm, hst, h1, bi, dl, a9, bs, rfl, rfl, rfl, rfl, rfl⟩⟩
    | cons az cx =>
     obtain ⟨hat, hl2_L3, hlt_L3⟩ := drop_get hl
     have hk : (ah : Int) < (ae.length : Int) := by omega
     have hkb := decide_eq_true hk
     rw [m_dag_sorted_L3.eq_2] at hm
     refine wS <| wR <| lV (.bool (decide ((ah : Int) < (ae.length : Int)))) (r_lss (ah : Int) (ae.length : Int) rfl rfl) <| lN <| wS ?_
     refine wcondT (congrArg Value.bool hkb) ?_
     refine wK <| wS ?_
     refine Wp.cut (fun f a2 => ∃ (ar : Col) (ca : Option Addr) (cb : Nat) (bw : List Int) (cc : Option Addr) (cd : Nat) (bx : List Int), m_dag_sorted_J1 (m_dag_sorted_L3 af (m_dag_sorted_L2 N ac ap) ad cx) bw bx = some r ∧ St w0 (col0 col) ar a2 ∧ Sl (Rep.slice (Rep.int .i64)) ar a2 a1 cap1 ac ∧ Sl (Rep.int .i64) ar a2 bh bt ae ∧ Own (Rep.int .i64) 3 1 ar a2 ca cb bw ∧ Own (Rep.int .i64) 3 3 ar a2 cc cd bx ∧ Box 184 2 ar a2 ai #[(.slice cc bx.length cd)] ∧ Own (Rep.int .i64) 3 4 ar a2 bf bg (af ++ [ad.1]) ∧ f 1 = (.slice a1 ac.length cap1) ∧ f 45 = (.slice bh ae.length bt) ∧ f 46 = (.int .i64 (ae.length : Int)) ∧ f 47 = (.int .i64 (ah : Int)) ∧ f 5 = (.slice ca bw.length cb) ∧ f 6 = (.pointer (some ⟨ai, 0, none⟩)) ∧ f 9 = (.slice bf ((af ++ [ad.1]).length) bg) ∧ f 1000000 = (enc [])) ?_ ?_
     ·intro f a2 hJ
      obtain ⟨ar, ca, cb, bw, cc, cd, bx, hm, hst, h1, ba, dm, dn, a9, bs, hs1, hs45, hs46, hs47, hs5, hs6, hs9, hs1000000⟩ := hJ
      rw [m_dag_sorted_J1.eq_1] at hm
      refine .lD 1 hs1 <| .lD 45 hs45 <| .lD 46 hs46 <| .lD 47 hs47 <| .lD 5 hs5 <| .lD 6 hs6 <| .lD 9 hs9 <| .lD 1000000 hs1000000 ?_
      clear hs1 hs45 hs46 hs47 hs5 hs6 hs9 hs1000000
      refine wR <| lV (.int .i64 (IntKind.i64.wrap ((ah : Int) + 1))) (r_add (ah : Int) 1 rfl rfl) <| lM (.int .i64 (IntKind.i64.wrap ((ah : Int) + 1))) <| lN ?_
      exact ⟨cx.length, by simp, ⟨ar, (ah + 1), ca, cb, bw, cc, cd, bx, cx, rfl, hl2_L3, hm, hst, h1, ba, dm, dn, a9, bs, (congrArg (Value.int .i64) (wrap_succ (Nat.lt_of_lt_of_le hlt_L3 ba.1.1))), rfl, rfl, rfl, rfl, rfl, rfl, rfl⟩⟩
     refine wB <| wS <| wR ?_
     refine lV (sptr bh (Int.toNat (ah : Int) * 1)) (r_idx Tryz.underlying33 Tryz.sizeOf3 rfl rfl (at?_some hat).1 (at?_some hat).2.1 (ba.addr hat)) ?_
     refine lV (.int .i64 az) (r_ld Tryz.isAgg3 rfl (ba.atInt hat)) <| lA (.int .i64 az) <| lN <| wS <| wR <| lM (.slice ak ay.length ax) <| lM (.int .i64 az) ?_
     obtain ⟨bb, a3, hm⟩ := bS hm
     refine lV (sptr ak (Int.toNat az * 1)) (r_idx Tryz.underlying33 Tryz.sizeOf3 rfl rfl (at?_some a3).1 (at?_some a3).2.1 (bi.addr a3)) ?_
     refine lV (.int .i64 bb) (r_ld Tryz.isAgg3 rfl (bi.atInt a3)) <| lV (.int .i64 (IntKind.i64.wrap (bb - 1))) (r_sub bb 1 rfl rfl) ?_
     refine lV (sptr ak (Int.toNat az * 1)) (r_idx Tryz.underlying33 Tryz.sizeOf3 rfl rfl (at?_some a3).1 (at?_some a3).2.1 (bi.addr a3)) ?_
     obtain ⟨ce, cf, hm⟩ := bS hm
     have cf : ce = ay.set (Int.toNat az) (IntKind.i64.wrap (bb - 1)) := (Option.some.inj cf).symm
     refine l_store (x1 := IntKind.i64.wrap (bb - 1)) (v := (.int .i64 (IntKind.i64.wrap (bb - 1)))) bi a3 rfl Tryz.sizeOf3 (rd_int .i64 (IntKind.i64.wrap (bb - 1))) rfl rfl (by decide) ?_
     intro d4 d5 d6 cy
     rw [← cf] at cy
     refine .ld (d := 5) (v := (.slice ak ce.length ax)) (congrArg (fun n => Value.slice ak n ax) (show ay.length = ce.length by rw [cf, List.length_set])) ?_
     clear bi
     refine lN <| wS <| wR <| lM (.slice ak ce.length ax) <| lM (.int .i64 az) ?_
     obtain ⟨cz, cg, hm⟩ := bS hm
     refine lV (sptr ak (Int.toNat az * 1)) (r_idx Tryz.underlying33 Tryz.sizeOf3 rfl rfl (at?_some cg).1 (at?_some cg).2.1 (cy.addr cg)) ?_
     refine lV (.int .i64 cz) (r_ld Tryz.isAgg3 rfl (cy.atInt cg)) <| lV (.bool (decide (cz = 0))) (r_eql cz 0 rfl rfl) <| lN ?_
     cases hm
   rw [if_neg (by rw [hb]; decide)] at hm
   clear hb
   refine wexit (inB_hit ?_)
   refine wS <| wR <| lM (.slice a7 af.length a8) <| lA (.slice a7 af.length a8) <| lN ?_
   refine wret ?_
   cases hm
   exact ⟨rfl, colF w0.heap.size col ao (fun n => bif Nat.beq n 4 then c1 else 0), a7, a8, rfl, hst.fin (fun n => bif Nat.beq n 4 then c1 else 0), hst.finOwn (g := (fun n => bif Nat.beq n 4 then c1 else 0)) rfl bq (by decide) (by decide) rfl⟩
 | cons aj c0 =>
  obtain ⟨hat, hl2_L1, hlt_L1⟩ := drop_get hl
  have hk : (ab : Int) < (aa.length : Int) := by omega
  have hkb := decide_eq_true hk
  rw [m_dag_sorted_L1.eq_2] at hm
  refine wS <| wR <| lV (.bool (decide ((ab : Int) < (aa.length : Int)))) (r_lss (ab : Int) (aa.length : Int) rfl rfl) <| lN <| wS ?_
  refine wcondT (congrArg Value.bool hkb) ?_
  refine wK <| wS ?_
  refine Wp.cut (fun f bc => ∃ (a4 : Col) (ch : Option Addr) (ci : Nat) (bz : List Int) (cj : Option Addr) (ck : Nat) (b0 : List Int), m_dag_sorted_J2 ab (m_dag_sorted_L1 N ac c0) bz b0 = some r ∧ St w0 (col0 col) a4 bc ∧ Sl (Rep.slice (Rep.int .i64)) a4 bc a1 cap1 ac ∧ Sl (Rep.slice (Rep.int .i64)) a4 bc a0 cap0 aa ∧ Own (Rep.int .i64) 3 1 a4 bc ch ci bz ∧ Own (Rep.int .i64) 3 3 a4 bc cj ck b0 ∧ Box 184 2 a4 bc ai #[(.slice cj b0.length ck)] ∧ f 1 = (.slice a1 ac.length cap1) ∧ f 16 = (.slice a0 aa.length cap0) ∧ f 17 = (.int .i64 (aa.length : Int)) ∧ f 18 = (.int .i64 (ab : Int)) ∧ f 5 = (.slice ch bz.length ci) ∧ f 6 = (.pointer (some ⟨ai, 0, none⟩)) ∧ f 1000000 = (enc [])) ?_ ?_
  ·intro f bc hJ
   obtain ⟨a4, ch, ci, bz, cj, ck, b0, hm, hst, h1, h0, dp, dq, ag, hs1, hs16, hs17, hs18, hs5, hs6, hs1000000⟩ := hJ
   rw [m_dag_sorted_J2.eq_1] at hm
   refine .lD 1 hs1 <| .lD 16 hs16 <| .lD 17 hs17 <| .lD 18 hs18 <| .lD 5 hs5 <| .lD 6 hs6 <| .lD 1000000 hs1000000 ?_
   clear hs1 hs16 hs17 hs18 hs5 hs6 hs1000000
   refine wR <| lV (.int .i64 (IntKind.i64.wrap ((ab : Int) + 1))) (r_add (ab : Int) 1 rfl rfl) <| lM (.int .i64 (IntKind.i64.wrap ((ab : Int) + 1))) <| lN ?_
   exact ⟨c0.length, by simp, ⟨a4, (ab + 1), ch, ci, bz, cj, ck, b0, c0, rfl, hl2_L1, hm, hst, h1, h0, dp, dq, ag, (congrArg (Value.int .i64) (wrap_succ (Nat.lt_of_lt_of_le hlt_L1 h0.1.1))), rfl, rfl, rfl, rfl, rfl, rfl⟩⟩
  refine wB <| wS <| wR <| lM (.int .i64 (ab : Int)) ?_
  refine lV (sptr a0 (Int.toNat (ab : Int) * 1)) (r_idx Tryz.underlying25 Tryz.sizeOf33 rfl rfl (at?_some hat).1 (at?_some hat).2.1 (h0.addr hat)) ?_
  obtain ⟨_, dr, ds⟩ := h0.atN hat
  obtain ⟨⟨cl, cm, rfl, d7⟩, _⟩ := dr
  refine lV (.slice cl aj.length cm) (r_ld Tryz.isAgg33 rfl ds.one) <| lA (.int .i64 (ab : Int)) <| lA (.slice cl aj.length cm) <| lN <| wS <| wR <| lM (.slice an av.length au) <| lM (.int .i64 (ab : Int)) <| lM (.slice cl aj.length cm) <| lV (.int .i64 (aj.length : Int)) (r_len Tryz.underlying33 rfl) ?_
  obtain ⟨d8, cn, hm⟩ := bS hm
  refine lV (sptr an (Int.toNat (ab : Int) * 1)) (r_idx Tryz.underlying33 Tryz.sizeOf3 rfl rfl (at?_some cn).1 (at?_some cn).2.1 (b3.addr cn)) ?_
  obtain ⟨co, cp, hm⟩ := bS hm
  have cp : co = av.set (Int.toNat (ab : Int)) (aj.length : Int) := (Option.some.inj cp).symm
  refine l_store (x1 := (aj.length : Int)) (v := (.int .i64 (aj.length : Int))) b3 cn rfl Tryz.sizeOf3 (rd_int .i64 (aj.length : Int)) rfl rfl (by decide) ?_
  intro d9 b1 dt cq
  rw [← cp] at cq
  refine .ld (d := 5) (v := (.slice an co.length au)) (congrArg (fun n => Value.slice an n au) (show av.length = co.length by rw [cp, List.length_set])) ?_
  clear b3
  refine lN <| wS <| wR <| lM (.slice cl aj.length cm) <| lV (.int .i64 (aj.length : Int)) (r_len Tryz.underlying33 rfl) <| lV (.bool (decide ((aj.length : Int) = 0))) (r_eql (aj.length : Int) 0 rfl rfl) <| lN ?_
  replace h1 := h1.kp b1
  replace h0 := h0.kp b1
  replace bm := bm.kp b1
  replace ag := ag.kp b1
  replace hst := hst.kp b1 dt
  refine wcond (decide ((aj.length : Int) = 0)) rfl (fun hb => ?_) (fun hb => ?_)
  ·rw [if_pos hb] at hm
   clear hb
   refine wR <| lM (.int .i64 (ab : Int)) ?_
   obtain ⟨c8, du, hm⟩ := bS hm
   refine lc rfl rfl (r_call2 Tryz.call151 rfl rfl) (c_dag_heap_push N am _ 2 3 rfl ai bd bj bk (ab : Int) bm ag c8 du) ?_
   rintro _ ea ⟨dv, dw, dx, rfl, cr, dy, dz⟩
   refine ⟨_, rfl, ?_⟩
   clear bm
   clear ag
   refine lN ?_
   replace h1 := h1.kpp cr
   replace h0 := h0.kpp cr
   replace cq := cq.kpp cr
   replace hst := hst.kpp cr
   exact ⟨dv, an, au, co, dw, dx, c8, hm, hst, h1, h0, cq, dy, dz, rfl, rfl, rfl, rfl, rfl, rfl, rfl⟩
  rw [if_neg (by rw [hb]; decide)] at hm
  clear hb
  cases hm
def m_dag_Order (N : Nat) (aa : (List (List Int))) : Option ((List Int) × Int) :=
  (m_dag_fits aa).bind fun ac => if (!decide (ac = 0)) = true then none else ((m_dag_children aa).bind fun ad => (m_dag_sorted N aa ad).bind fun ab => if (decide ((ab.length : Int) < (aa.length : Int))) = true then none else (some (ab, 0)))
theorem c_dag_Order (N : Nat) (c1 : Nat) (col : Col) (w0 : World) (a0 : Option Addr) (cap0 : Nat) (aa : (List (List Int))) (h0 : Sl (Rep.slice (Rep.int .i64)) col w0 a0 cap0 aa) (r : ((List Int) × Int)) (hm : m_dag_Order N aa = some r) :
    Calls Tryz.prog 70 #[(.slice a0 aa.length cap0)] w0 (fun e w' => ∃ (col' : Col) (ra1 : Option Addr) (rc2 : Nat), e = .returned (.tuple #[(.slice ra1 r.1.length rc2), (.int .i64 r.2)]) ∧ Grow col w0 col' w' ∧ Own (Rep.int .i64) 3 c1 col' w' ra1 rc2 r.1) := by
 refine calls_of2 2 3 (m := 21) (args := [(.slice a0 aa.length cap0)]) Tryz.func70 rfl rfl rfl rfl rfl ?_
 rw [m_dag_Order.eq_1] at hm
 have hst := St.start col w0
 refine wS <| wR <| lA (.slice none (([] : List Int).length) 0) <| lA (.int .i64 0) <| lN <| wS <| wS <| wR <| lM (.slice a0 aa.length cap0) ?_
 obtain ⟨ac, al, hm⟩ := bS hm
 replace h0 := h0.keep (Stay.start col w0)
 refine lc rfl rfl (r_call1 Tryz.call121 rfl) (c_dag_fits (col0 col) _ a0 cap0 aa h0 ac al) ?_
 rintro _ am ⟨rfl, af⟩
 refine ⟨_, rfl, ?_⟩
 replace af : Grow (col0 col) w0 (col0 col) am := .of_below af
 refine lA (.int .i64 ac) <| lN <| wS <| wR <| lM (.int .i64 ac) <| lV (.bool (!decide (ac = 0))) (r_neq ac 0 rfl rfl) <| lN ?_
 replace h0 := h0.gr af
 replace hst := hst.grow af
 refine wcond (!decide (ac = 0)) rfl (fun hb => ?_) (fun hb => ?_)
 ·rw [if_pos hb] at hm
  clear hb
  cases hm
 rw [if_neg (by rw [hb]; decide)] at hm
 clear hb
 refine wK <| wS <| wR <| lM (.slice a0 aa.length cap0) <| lM (.slice a0 aa.length cap0) ?_
 obtain ⟨aj, an, hm⟩ := bS hm
 refine lc rfl rfl (r_call1 Tryz.call123 rfl) (c_dag_children 1 (col0 col) _ a0 cap0 aa h0 aj an) ?_
 rintro _ ao ⟨ag, ap, aq, rfl, ak, ar⟩
 refine ⟨_, rfl, ?_⟩
 obtain ⟨ab, au, hm⟩ := bS hm
 replace h0 := h0.gr ak
 refine lc rfl rfl (r_call2 Tryz.call122 rfl rfl) (c_dag_sorted N 2 (frC 1 ag) _ a0 cap0 aa ap aq aj (h0.froz 1) (ar.toSlF (Froz.row (Froz.int .i64))) ab au) ?_
 rintro _ ax ⟨av, ad, ae, rfl, ah, ai⟩
 refine ⟨_, rfl, ?_⟩
 replace ai := ai.thaw (flat_int .i64) ah ((Fz.refl (col := ag)).froz 1) (by decide)
 replace ah := ah.thawR (col := ag)
 generalize colR ao.heap.size ag av = aw at *
 refine lA (.slice ad ab.length ae) <| lN <| wS <| wS <| wR <| lM (.slice ad ab.length ae) <| lV (.int .i64 (ab.length : Int)) (r_len Tryz.underlying33 rfl) <| lM (.slice a0 aa.length cap0) <| lV (.int .i64 (aa.length : Int)) (r_len Tryz.underlying25 rfl) <| lV (.bool (decide ((ab.length : Int) < (aa.length : Int)))) (r_lss (ab.length : Int) (aa.length : Int) rfl rfl) <| lN ?_
 replace hst := (hst.grow ak).grow ah
 refine wcond (decide ((ab.length : Int) < (aa.length : Int))) rfl (fun hb => ?_) (fun hb => ?_)
 ·rw [if_pos hb] at hm
  clear hb
  cases hm
 rw [if_neg (by rw [hb]; decide)] at hm
 clear hb
 refine wK <| wS <| wR <| lM (.slice ad ab.length ae) <| lA (.slice ad ab.length ae) <| lA (.int .i64 0) <| lN ?_
 refine wret ?_
 cases hm
 exact ⟨rfl, colF w0.heap.size col aw (fun n => bif Nat.beq n 2 then c1 else 0), ad, ae, rfl, hst.fin (fun n => bif Nat.beq n 2 then c1 else 0), hst.finOwn (g := (fun n => bif Nat.beq n 2 then c1 else 0)) rfl ai (by decide) (by decide) rfl⟩
def m_dag_Check (N : Nat) (aa : (List (List Int))) : Option Int :=
  (m_dag_Order N aa).bind fun ab => some ab.2
theorem c_dag_Check (N : Nat) (col : Col) (w0 : World) (a0 : Option Addr) (cap0 : Nat) (ab : (List (List Int))) (h0 : Sl (Rep.slice (Rep.int .i64)) col w0 a0 cap0 ab) (r : Int) (hm : m_dag_Check N ab = some r) :
    Calls Tryz.prog 115 #[(.slice a0 ab.length cap0)] w0 (fun e w' => e = .returned ((.int .i64 r)) ∧ Below w0.heap.size w0 w') := by
 refine calls_of1 2 (m := 11) (args := [(.slice a0 ab.length cap0)]) Tryz.func115 rfl rfl rfl rfl rfl ?_
 rw [m_dag_Check.eq_1] at hm
 have hst := St.start col w0
 refine wS <| wR <| lA (.int .i64 0) <| lN <| wS <| wR <| lM (.slice a0 ab.length cap0) ?_
 obtain ⟨aa, ae, hm⟩ := bS hm
 replace h0 := h0.keep (Stay.start col w0)
 refine lc rfl rfl (r_call1 Tryz.call70 rfl) (c_dag_Order N 1 (col0 col) _ a0 cap0 ab h0 aa ae) ?_
 rintro _ ag ⟨ah, ac, ad, rfl, af, ai⟩
 refine ⟨_, rfl, ?_⟩
 refine lM (.tuple #[(.slice ac aa.1.length ad), (.int .i64 aa.2)]) <| lV (.slice ac aa.1.length ad) (r_extract rfl rfl) <| lV (.int .i64 aa.2) (r_extract rfl rfl) <| lA (.slice ac aa.1.length ad) <| lA (.int .i64 aa.2) <| lN <| wS <| wR <| lM (.int .i64 aa.2) <| lA (.int .i64 aa.2) <| lN ?_
 refine wret ?_
 cases hm
 replace hst := hst.grow af
 exact ⟨rfl, rfl, hst.below⟩
def m_model_fitting_J1 (aa : Bool) (ab : List Int) (ac : List Int) : Option ((Bool × (List Int)) × (List Int)) :=
  some ((aa, ab), ac)
def m_model_fitting (N : Nat) (aa : ((Bool × (List Int)) × (List Int))) : Option ((Bool × (List Int)) × (List Int)) :=
  (m_nat_Norm N aa.2).bind fun ab => if (decide ((ab.length : Int) = 0)) = true then none else (m_model_fitting_J1 aa.1.1 aa.1.2 aa.2)
theorem c_model_fitting (N : Nat) (col : Col) (w0 : World) (am : Option Addr) (an : Nat) (ac : Option Addr) (ad : Nat) (aa : ((Bool × (List Int)) × (List Int))) (ar : Sl (Rep.int .u32) col w0 am an aa.1.2) (ao : Sl (Rep.int .u32) col w0 ac ad aa.2) (r : ((Bool × (List Int)) × (List Int))) (hm : m_model_fitting N aa = some r) :
    Calls Tryz.prog 142 #[(.agg #[(.bool aa.1.1), (.slice am aa.1.2.length an), (.slice ac aa.2.length ad)])] w0 (fun e w' => ∃ (col' : Col) (ra1 : Option Addr) (rc2 : Nat) (ra4 : Option Addr) (rc5 : Nat), e = .returned ((.agg #[(.bool r.1.1), (.slice ra1 r.1.2.length rc2), (.slice ra4 r.2.length rc5)])) ∧ Grow col w0 col' w' ∧ Sl (Rep.int .u32) col' w' ra1 rc2 r.1.2 ∧ Sl (Rep.int .u32) col' w' ra4 rc5 r.2) := by
 refine calls_ofR (m := 11) (args := [(.agg #[(.bool aa.1.1), (.slice am aa.1.2.length an), (.slice ac aa.2.length ad)])]) Tryz.func142 rfl rfl rfl ?_
 rw [m_model_fitting.eq_1] at hm
 have hst := St.start col w0
 refine wS <| wR ?_
 refine l_box (col := (col0 col)) (v := (.agg #[(.bool aa.1.1), (.slice am aa.1.2.length an), (.slice ac aa.2.length ad)])) 1 rfl rfl ?_
 intro aw a6 a4 az ab
 replace ab : Box 40 1 a4 a6 aw #[(.bool aa.1.1), (.slice am aa.1.2.length an), (.slice ac aa.2.length ad)] := ab
 refine l_alloc (col := a4) (v := (.agg #[(.bool false), (.slice none (([] : List Int).length) 0), (.slice none (([] : List Int).length) 0)])) 2 rfl Tryz.zeroValue40 ?_
 intro ax a7 a5 ay ae
 replace ae : Box 40 2 a5 a7 ax #[(.bool false), (.slice none (([] : List Int).length) 0), (.slice none (([] : List Int).length) 0)] := ae
 refine lN <| wS ?_
 replace ar := ((ar.keep (Stay.start col w0)).gr az).gr ay
 replace ao := ((ao.keep (Stay.start col w0)).gr az).gr ay
 replace hst := (hst.grow az).grow ay
 replace ab := ab.gr ay
 refine Wp.cut (fun f ap => ∃ (af : Col) (aq : Bool) (ag : Option Addr) (ah : Nat) (ai : List Int) (aj : Option Addr) (ak : Nat) (al : List Int), m_model_fitting_J1 aq ai al = some r ∧ St w0 (col0 col) af ap ∧ Sl (Rep.int .u32) af ap ag ah ai ∧ Sl (Rep.int .u32) af ap aj ak al ∧ Box 40 1 af ap aw #[(.bool aq), (.slice ag ai.length ah), (.slice aj al.length ak)] ∧ Box 40 2 af ap ax #[(.bool false), (.slice none (([] : List Int).length) 0), (.slice none (([] : List Int).length) 0)] ∧ f 1 = (.pointer (some ⟨aw, 0, none⟩)) ∧ f 2 = (.pointer (some ⟨ax, 0, none⟩)) ∧ f 1000000 = (enc [])) ?_ ?_
 ·intro f ap hJ
  obtain ⟨af, aq, ag, ah, ai, aj, ak, al, hm, hst, a0, a1, ab, ae, hs1, hs2, hs1000000⟩ := hJ
  rw [m_model_fitting_J1.eq_1] at hm
  refine .lD 1 hs1 <| .lD 2 hs2 <| .lD 1000000 hs1000000 ?_
  clear hs1 hs2 hs1000000
  refine wS <| wR <| lV (.agg #[(.bool aq), (.slice ag ai.length ah), (.slice aj al.length ak)]) (r_ldN Tryz.isAgg40 Tryz.sizeOf40 rfl rfl ab.atN) ?_
  refine l_bstore (v := (.agg #[(.bool aq), (.slice ag ai.length ah), (.slice aj al.length ak)])) ae Tryz.sizeOf40 rfl rfl (by intro u hu; simp only [Value.cells, List.mem_cons, List.not_mem_nil, or_false] at hu; rcases hu with rfl | rfl | rfl <;> rfl) rfl rfl ?_
  intro a8 a2 a9 a3
  clear ae
  replace a3 : Box 40 2 af a8 ax #[(.bool aq), (.slice ag ai.length ah), (.slice aj al.length ak)] := a3
  refine lN ?_
  refine wret ?_
  cases hm
  replace a0 := a0.kp a2
  replace a1 := a1.kp a2
  replace hst := hst.kp a2 a9
  exact ⟨rfl, _, res_a rfl rfl Tryz.isAgg40 Tryz.sizeOf40 rfl rfl a3.atN, colF w0.heap.size col af (fun n => 0), ag, ah, aj, ak, rfl, hst.fin (fun n => 0), hst.finSl (g := (fun n => 0)) rfl a0, hst.finSl (g := (fun n => 0)) rfl a1⟩
 refine wS <| wR <| lV (.pointer ((some (⟨aw, 0, none⟩ : Addr)).map (·.add 2))) (rF (sz := 1) (off := 2) Tryz.underlying40 rfl Tryz.sizeOf36 (by decide) rfl rfl ⟨_, _, rfl⟩) <| lV (.slice ac aa.2.length ad) (r_ld Tryz.isAgg36 rfl ((ab.atN).nth (q := 2) (v := (.slice ac aa.2.length ad)) rfl)) ?_
 obtain ⟨au, ba, hm⟩ := bS hm
 refine lc rfl rfl (r_call1 Tryz.call106 rfl) (c_nat_Norm N 3 a5 _ ac ad aa.2 ao au ba) ?_
 rintro _ bc ⟨bb, bd, be, rfl, av, bf⟩
 refine ⟨_, rfl, ?_⟩
 refine lV (.int .i64 (au.length : Int)) (r_len Tryz.underlying36 rfl) <| lV (.bool (decide ((au.length : Int) = 0))) (r_eql (au.length : Int) 0 rfl rfl) <| lN ?_
 replace ar := ar.gr av
 replace ao := ao.gr av
 replace ab := ab.gr av
 replace ae := ae.gr av
 replace hst := hst.grow av
 refine wcond (decide ((au.length : Int) = 0)) rfl (fun hb => ?_) (fun hb => ?_)
 ·rw [if_pos hb] at hm
  clear hb
  cases hm
 rw [if_neg (by rw [hb]; decide)] at hm
 clear hb
 refine wK ?_
 exact ⟨bb, aa.1.1, am, an, aa.1.2, ac, ad, aa.2, hm, hst, ar, ao, ab, ae, rfl, rfl, rfl⟩
theorem el40_118 : ElemOk Tryz.prog 40 3 56 := ⟨Tryz.t40, _, rfl, rfl, rfl, rfl, rfl⟩
def m_model_fittings_L1 (N : Nat) : List ((Bool × (List Int)) × (List Int)) → (List ((Bool × (List Int)) × (List Int))) → Option (List ((Bool × (List Int)) × (List Int)))
  | [], ab => some ab
  | ac :: ad, ab => (m_model_fitting N ((ac.1.1, ac.1.2), ac.2)).bind fun aa => chk ((ab.length + [((aa.1.1, aa.1.2), aa.2)].length) * 56 ≤ 140737488355328 ∧ ab.length + [((aa.1.1, aa.1.2), aa.2)].length ≤ maxLen) ((m_model_fittings_L1 N ad) (ab ++ [((aa.1.1, aa.1.2), aa.2)]))
termination_by structural x => x
def m_model_fittings (N : Nat) (aa : (List ((Bool × (List Int)) × (List Int)))) : Option (List ((Bool × (List Int)) × (List Int))) :=
  chk (aa.length * 56 ≤ 281474976710656 ∧ aa.length ≤ maxLen) (m_model_fittings_L1 N aa ([] : List ((Bool × (List Int)) × (List Int))))
theorem c_model_fittings (N : Nat) (c1 : Nat) (col : Col) (w0 : World) (a0 : Option Addr) (cap0 : Nat) (aa : (List ((Bool × (List Int)) × (List Int)))) (h0 : Sl (Rep.pair (Rep.pair Rep.bool (Rep.slice (Rep.int .u32))) (Rep.slice (Rep.int .u32))) col w0 a0 cap0 aa) (r : (List ((Bool × (List Int)) × (List Int)))) (hm : m_model_fittings N aa = some r) :
    Calls Tryz.prog 118 #[(.slice a0 aa.length cap0)] w0 (fun e w' => ∃ (col' : Col) (ra1 : Option Addr) (rc2 : Nat), e = .returned ((.slice ra1 r.length rc2)) ∧ Grow col w0 col' w' ∧ Own (Rep.pair (Rep.pair Rep.bool (Rep.slice (Rep.int .u32))) (Rep.slice (Rep.int .u32))) 40 c1 col' w' ra1 rc2 r) := by
 refine calls_of1 2 (m := 22) (args := [(.slice a0 aa.length cap0)]) Tryz.func118 rfl rfl rfl rfl rfl ?_
 rw [m_model_fittings.eq_1] at hm
 have hst := St.start col w0
 refine wS <| wR <| lA (.slice none (([] : List ((Bool × (List Int)) × (List Int))).length) 0) <| lN <| wS <| wR <| lM (.slice a0 aa.length cap0) <| lV (.int .i64 (aa.length : Int)) (r_len Tryz.underlying51 rfl) ?_
 obtain ⟨a1, hm⟩ := cS hm
 refine l_make0 (col := (col0 col)) (w := w0) (r := (Rep.pair (Rep.pair Rep.bool (Rep.slice (Rep.int .u32))) (Rep.slice (Rep.int .u32)))) (n := aa.length) 1 rfl Tryz.underlying51 el40_118 rfl rfl rfl a1.1 a1.2 ?_
 intro a2 bz be a3 bf
 refine lA (.slice a2 (([] : List ((Bool × (List Int)) × (List Int))).length) aa.length) <| lN <| wS <| wS <| wR <| lM (.slice a0 aa.length cap0) <| lV (.int .i64 (aa.length : Int)) (r_len Tryz.underlying51 rfl) <| lM (.int .i64 0) <| lN <| wB ?_
 replace h0 := (h0.keep (Stay.start col w0)).gr a3
 replace hst := hst.grow a3
 refine wloop (fun n f aq => ∃ (ah : Col) (ad : Nat) (af : Option Addr) (ag : Nat) (ae : List ((Bool × (List Int)) × (List Int))) (ai : List ((Bool × (List Int)) × (List Int))), n = ai.length ∧ aa.drop ad = ai ∧ m_model_fittings_L1 N ai ae = some r ∧ St w0 (col0 col) ah aq ∧ Own (Rep.pair (Rep.pair Rep.bool (Rep.slice (Rep.int .u32))) (Rep.slice (Rep.int .u32))) 40 1 ah aq af ag ae ∧ Sl (Rep.pair (Rep.pair Rep.bool (Rep.slice (Rep.int .u32))) (Rep.slice (Rep.int .u32))) ah aq a0 cap0 aa ∧ f 11 = (.int .i64 (ad : Int)) ∧ f 10 = (.int .i64 (aa.length : Int)) ∧ f 3 = (.slice af ae.length ag) ∧ f 9 = (.slice a0 aa.length cap0) ∧ f 1000000 = (enc [])) aa.length ⟨be, 0, a2, aa.length, ([] : List ((Bool × (List Int)) × (List Int))), aa, rfl, rfl, hm, hst, bf, h0, rfl, rfl, rfl, rfl, rfl⟩ ?_
 clear hm; intro n f aq hI
 obtain ⟨ah, ad, af, ag, ae, ai, hn, hl, hm, hst, aj, h0, hs11, hs10, hs3, hs9, hs1000000⟩ := hI
 subst hn
 refine .lD 11 hs11 <| .lD 10 hs10 <| .lD 3 hs3 <| .lD 9 hs9 <| .lD 1000000 hs1000000 ?_
 clear hs11 hs10 hs3 hs9 hs1000000
 cases ai with
 | nil =>
  have hk : ¬ ((ad : Int) < (aa.length : Int)) := by have := List.drop_eq_nil_iff.1 hl; omega
  have hkb := decide_eq_false hk
  rw [m_model_fittings_L1.eq_1] at hm
  refine wS <| wR <| lV (.bool (decide ((ad : Int) < (aa.length : Int)))) (r_lss (ad : Int) (aa.length : Int) rfl rfl) <| lN <| wS ?_
  refine wcondF (congrArg Value.bool hkb) ?_
  refine wexit (inB_hit ?_)
  refine wS <| wR <| lM (.slice af ae.length ag) <| lA (.slice af ae.length ag) <| lN ?_
  refine wret ?_
  cases hm
  exact ⟨rfl, colF w0.heap.size col ah (fun n => bif Nat.beq n 1 then c1 else 0), af, ag, rfl, hst.fin (fun n => bif Nat.beq n 1 then c1 else 0), hst.finOwn (g := (fun n => bif Nat.beq n 1 then c1 else 0)) rfl aj (by decide) (by decide) rfl⟩
 | cons ac a4 =>
  obtain ⟨hat, hl2_L1, hlt_L1⟩ := drop_get hl
  have hk : (ad : Int) < (aa.length : Int) := by omega
  have hkb := decide_eq_true hk
  rw [m_model_fittings_L1.eq_2] at hm
  refine wS <| wR <| lV (.bool (decide ((ad : Int) < (aa.length : Int)))) (r_lss (ad : Int) (aa.length : Int) rfl rfl) <| lN <| wS ?_
  refine wcondT (congrArg Value.bool hkb) ?_
  refine wK <| wS <| wB <| wS <| wR ?_
  refine lV (sptr a0 (Int.toNat (ad : Int) * 3)) (r_idx Tryz.underlying51 Tryz.sizeOf40 rfl rfl (at?_some hat).1 (at?_some hat).2.1 (h0.addr hat)) ?_
  obtain ⟨_, bg, bh⟩ := h0.atN hat
  obtain ⟨_, _, rfl, bi, bj⟩ := rd_pair bg
  obtain ⟨_, _, rfl, bk, bl⟩ := rd_pair bi
  obtain ⟨rfl, _⟩ := bk
  obtain ⟨⟨ak, al, rfl, au⟩, _⟩ := bl
  obtain ⟨⟨am, an, rfl, av⟩, _⟩ := bj
  refine lV (.agg #[(.bool ac.1.1), (.slice ak ac.1.2.length al), (.slice am ac.2.length an)]) (r_ldN Tryz.isAgg40 Tryz.sizeOf40 rfl rfl bh) ?_
  refine l_alloc (col := ah) (v := (.agg #[(.bool false), (.slice none (([] : List Int).length) 0), (.slice none (([] : List Int).length) 0)])) 2 rfl Tryz.zeroValue40 ?_
  intro a5 bm aw ao ar
  replace ar : Box 40 2 aw bm a5 #[(.bool false), (.slice none (([] : List Int).length) 0), (.slice none (([] : List Int).length) 0)] := ar
  refine l_bstore (v := (.agg #[(.bool ac.1.1), (.slice ak ac.1.2.length al), (.slice am ac.2.length an)])) ar Tryz.sizeOf40 rfl rfl (by intro u hu; simp only [Value.cells, List.mem_cons, List.not_mem_nil, or_false] at hu; rcases hu with rfl | rfl | rfl <;> rfl) rfl rfl ?_
  intro bn ap bo ax
  clear ar
  replace ax : Box 40 2 aw bn a5 #[(.bool ac.1.1), (.slice ak ac.1.2.length al), (.slice am ac.2.length an)] := ax
  refine lN <| wR <| lM (.slice af ae.length ag) <| lV (.agg #[(.bool ac.1.1), (.slice ak ac.1.2.length al), (.slice am ac.2.length an)]) (r_ldN Tryz.isAgg40 Tryz.sizeOf40 rfl rfl ax.atN) ?_
  obtain ⟨ab, bp, hm⟩ := bS hm
  replace au := (au.gr ao).kp ap
  replace av := (av.gr ao).kp ap
  refine lc rfl rfl (r_call1 Tryz.call142 rfl) (c_model_fitting N aw _ ak al am an ((ac.1.1, ac.1.2), ac.2) au av ab bp) ?_
  rintro _ b0 ⟨bq, a6, a7, a8, a9, rfl, ay, br, bs⟩
  refine ⟨_, rfl, ?_⟩
  refine l_lit (col := bq) (r := (Rep.pair (Rep.pair Rep.bool (Rep.slice (Rep.int .u32))) (Rep.slice (Rep.int .u32)))) (xs := [((ab.1.1, ab.1.2), ab.2)]) [(.agg #[(.bool ab.1.1), (.slice a6 ab.1.2.length a7), (.slice a8 ab.2.length a9)])] 3 rfl Tryz.underlying51 el40_118 rfl rfl rfl rfl rfl rfl (by intro v hv; simp only [List.mem_cons, List.not_mem_nil, or_false] at hv; subst hv; rfl) (RowsH.ofF (Rows.consF (r := (Rep.pair (Rep.pair Rep.bool (Rep.slice (Rep.int .u32))) (Rep.slice (Rep.int .u32)))) (x := ((ab.1.1, ab.1.2), ab.2)) (cs := [(.bool ab.1.1), (.slice a6 ab.1.2.length a7), (.slice a8 ab.2.length a9)]) (rd_pairI (rd_pairI (rd_bool ab.1.1) (rd_slI br)) (rd_slI bs)) Rows.nil0)) ?_
  intro b1 bt bu az bv
  obtain ⟨ba, hm⟩ := cS hm
  replace aj := (((aj.gr ao).kp ap).gr ay).gr az
  refine l_appendM (col := bu) (w := bt) (r := (Rep.pair (Rep.pair Rep.bool (Rep.slice (Rep.int .u32))) (Rep.slice (Rep.int .u32)))) (c := 1) (c2 := 1) (xs := ae) (ys := [((ab.1.1, ab.1.2), ab.2)]) aj (bv.srcN (NB.pair (NB.pair NB.bool NB.slice) NB.slice)) rfl Tryz.underlying51 el40_118 rfl rfl rfl ba.1 ba.2 (by decide) ?_
  intro bb bc b2 bw bd bx
  clear aj
  refine lA (.slice bb ((ae ++ [((ab.1.1, ab.1.2), ab.2)]).length) bc) <| lN <| wR <| lV (.int .i64 (IntKind.i64.wrap ((ad : Int) + 1))) (r_add (ad : Int) 1 rfl rfl) <| lM (.int .i64 (IntKind.i64.wrap ((ad : Int) + 1))) <| lN ?_
  replace h0 := ((((h0.gr ao).kp ap).gr ay).gr az).kpp bd
  replace hst := ((((hst.grow ao).kp ap bo).grow ay).grow az).kpp bd
  exact ⟨a4.length, by simp, ⟨bw, (ad + 1), bb, bc, (ae ++ [((ab.1.1, ab.1.2), ab.2)]), a4, rfl, hl2_L1, hm, hst, bx, h0, (congrArg (Value.int .i64) (wrap_succ (Nat.lt_of_lt_of_le hlt_L1 h0.1.1))), rfl, rfl, rfl, rfl⟩⟩
def m_slices_Chunk_api_Rat_api_Rat_1_L1 (N : Nat) (ab : List ((Bool × (List Int)) × (List Int))) (ac : Int) : Nat → Int → Option (List (List ((Bool × (List Int)) × (List Int))))
  | 0, _ => none
  | ad + 1, aa => if (decide (aa < (ab.length : Int))) = true then (chk ((0 : Int) ≤ aa ∧ aa ≤ (ab.length : Int)) (chk ((0 : Int) ≤ aa ∧ aa ≤ (IntKind.i64.wrap (aa + (if ((ab.drop (Int.toNat aa)).length : Int) < ac then ((ab.drop (Int.toNat aa)).length : Int) else ac))) ∧ (IntKind.i64.wrap (aa + (if ((ab.drop (Int.toNat aa)).length : Int) < ac then ((ab.drop (Int.toNat aa)).length : Int) else ac))) ≤ (IntKind.i64.wrap (aa + (if ((ab.drop (Int.toNat aa)).length : Int) < ac then ((ab.drop (Int.toNat aa)).length : Int) else ac))) ∧ (IntKind.i64.wrap (aa + (if ((ab.drop (Int.toNat aa)).length : Int) < ac then ((ab.drop (Int.toNat aa)).length : Int) else ac))) ≤ (ab.length : Int)) (((m_slices_Chunk_api_Rat_api_Rat_1_L1 N ab ac ad) (IntKind.i64.wrap (aa + ac))).bind fun ae => some ((ab.take (Int.toNat (IntKind.i64.wrap (aa + (if ((ab.drop (Int.toNat aa)).length : Int) < ac then ((ab.drop (Int.toNat aa)).length : Int) else ac))))).drop (Int.toNat aa) :: ae)))) else (some [])
termination_by structural x => x
def m_slices_Chunk_api_Rat_api_Rat_1 (N : Nat) (aa : List ((Bool × (List Int)) × (List Int))) (ab : Int) : Option (List (List ((Bool × (List Int)) × (List Int)))) :=
  m_slices_Chunk_api_Rat_api_Rat_1_L1 N aa ab N 0
theorem c_slices_Chunk_api_Rat_api_Rat_1 (N : Nat) (col : Col) (w0 : World) (g0 : Nat) (af0 : Option Addr) (capf0 : Nat) (ab : List ((Bool × (List Int)) × (List Int))) (hf0 : Sl (Rep.pair (Rep.pair Rep.bool (Rep.slice (Rep.int .u32))) (Rep.slice (Rep.int .u32))) col w0 af0 capf0 ab) (hb0 : Box 51 450 col w0 g0 #[(.slice af0 ab.length capf0)]) (g1 : Nat) (ac : Int) (hb1 : Box 3 450 col w0 g1 #[(.int .i64 ac)]) (r : List (List ((Bool × (List Int)) × (List Int)))) (hm : m_slices_Chunk_api_Rat_api_Rat_1 N ab ac = some r) :
    Goes Tryz.prog 175 [(.pointer (some ⟨g0, 0, none⟩)), (.pointer (some ⟨g1, 0, none⟩))] (fun (y : List ((Bool × (List Int)) × (List Int))) (col : Col) (w : World) (args : List Value) => ∃ (a0 : Option Addr) (cap0 : Nat), args = [.slice a0 y.length cap0] ∧ Sl (Rep.pair (Rep.pair Rep.bool (Rep.slice (Rep.int .u32))) (Rep.slice (Rep.int .u32))) col w a0 cap0 y) r col w0 := by
 intro l J X hjs hxs hy hst
 refine calls_of0 (m := 31) (args := [.func (.yield l) #[] #[], (.pointer (some ⟨g0, 0, none⟩)), (.pointer (some ⟨g1, 0, none⟩))]) Tryz.func175 rfl rfl rfl rfl ?_
 rw [m_slices_Chunk_api_Rat_api_Rat_1.eq_1] at hm
 refine wS <| wR <| lA (.int .i64 0) <| lN <| wB ?_
 refine wloop (fun n f af => ∃ (ad : Col) (r : List (List ((Bool × (List Int)) × (List Int)))) (aa : Int) (ae : Nat), ae = n ∧ m_slices_Chunk_api_Rat_api_Rat_1_L1 N ab ac ae aa = some r ∧ J r ad af ∧ Sl (Rep.pair (Rep.pair Rep.bool (Rep.slice (Rep.int .u32))) (Rep.slice (Rep.int .u32))) ad af af0 capf0 ab ∧ Box 51 450 ad af g0 #[(.slice af0 ab.length capf0)] ∧ Box 3 450 ad af g1 #[(.int .i64 ac)] ∧ f 0 = (.func (.yield l) #[] #[]) ∧ f 1 = (.pointer (some ⟨g0, 0, none⟩)) ∧ f 2 = (.pointer (some ⟨g1, 0, none⟩)) ∧ f 4 = (.int .i64 aa) ∧ f 1000000 = (enc [])) N ⟨col, r, 0, N, rfl, hm, hst, hf0, hb0, hb1, rfl, rfl, rfl, rfl, rfl⟩ ?_
 clear hm; intro n f af hI
 obtain ⟨ad, r, aa, ae, hn, hm, hst, hf0, hb0, hb1, hs0, hs1, hs2, hs4, hs1000000⟩ := hI
 subst hn
 refine .lD 0 hs0 <| .lD 1 hs1 <| .lD 2 hs2 <| .lD 4 hs4 <| .lD 1000000 hs1000000 ?_
 clear hs0 hs1 hs2 hs4 hs1000000
 cases ae with
 | zero => rw [m_slices_Chunk_api_Rat_api_Rat_1_L1.eq_1] at hm; cases hm
 | succ ae =>
  rw [m_slices_Chunk_api_Rat_api_Rat_1_L1.eq_2] at hm
  refine wS <| wS <| wR <| lM (.int .i64 aa) <| lV (.slice af0 ab.length capf0) (r_ld Tryz.isAgg51 rfl hb0.at1) <| lV (.int .i64 (ab.length : Int)) (r_len Tryz.underlying51 rfl) <| lV (.bool (decide (aa < (ab.length : Int)))) (r_lss aa (ab.length : Int) rfl rfl) <| lN ?_
  refine wcond (decide (aa < (ab.length : Int))) rfl (fun hb => ?_) (fun hb => ?_)
  ·rw [if_pos hb] at hm
   clear hb
   refine wK <| wS <| wB <| wS ?_
   refine wquiet (col := ad) (by kernel_rfl) (by kernel_rfl) ?_
   refine qv (v := (.int .i64 ac)) rfl (fun _ hC => r_ld Tryz.isAgg3 rfl (hb1.at1.gr (Grow.of_below (col := ad) hC.below))) ?_
   refine qv (v := (.slice af0 ab.length capf0)) rfl (fun _ hC => r_ld Tryz.isAgg51 rfl (hb0.at1.gr (Grow.of_below (col := ad) hC.below))) ?_
   refine qv (v := (.int .i64 aa)) rfl (fun _ hC => r_move rfl) ?_
   obtain ⟨aj, hm⟩ := cS hm
   have aq := hf0.drop (sz := 3) rfl (Int.toNat aa)
   refine qv (v := .slice (if capf0 = (Int.toNat aa) then af0 else af0.map (·.add ((Int.toNat aa) * 3))) (ab.length - (Int.toNat aa)) (capf0 - (Int.toNat aa))) rfl (fun _ hC => r_sliceL Tryz.underlying51 Tryz.sizeOf40 rfl rfl aj.1 aj.2) ?_
   generalize (if capf0 = (Int.toNat aa) then af0 else af0.map (·.add ((Int.toNat aa) * 3))) = ak at *
   refine .ld (d := 16) (v := (.slice ak ((ab.drop (Int.toNat aa)).length) (capf0 - (Int.toNat aa)))) (congrArg (fun n => Value.slice ak n (capf0 - (Int.toNat aa))) (List.length_drop (i := (Int.toNat aa)) (l := ab)).symm) ?_
   refine qv (v := (.int .i64 ((ab.drop (Int.toNat aa)).length : Int))) rfl (fun _ hC => r_len Tryz.underlying51 rfl) ?_
   refine qv (v := (.int .i64 (if ((ab.drop (Int.toNat aa)).length : Int) < ac then ((ab.drop (Int.toNat aa)).length : Int) else ac))) rfl (fun _ hC => r_min ac ((ab.drop (Int.toNat aa)).length : Int) rfl rfl) ?_
   refine qv (v := (.int .i64 (if ((ab.drop (Int.toNat aa)).length : Int) < ac then ((ab.drop (Int.toNat aa)).length : Int) else ac))) rfl (fun _ hC => r_assign rfl) ?_
   refine qnil ?_
   intro al hC
   replace hC : Grow ad af ad al := .of_below hC.below
   replace hf0 := hf0.gr hC
   replace hb0 := hb0.gr hC
   replace hb1 := hb1.gr hC
   replace hst := hjs _ _ _ _ _ hst hC.toP
   refine wS <| wR <| lM (.func (.yield l) #[] #[]) <| lV (.slice af0 ab.length capf0) (r_ld Tryz.isAgg51 rfl hb0.at1) <| lM (.int .i64 aa) <| lM (.int .i64 aa) <| lM (.int .i64 (if ((ab.drop (Int.toNat aa)).length : Int) < ac then ((ab.drop (Int.toNat aa)).length : Int) else ac)) <| lV (.int .i64 (IntKind.i64.wrap (aa + (if ((ab.drop (Int.toNat aa)).length : Int) < ac then ((ab.drop (Int.toNat aa)).length : Int) else ac)))) (r_add aa (if ((ab.drop (Int.toNat aa)).length : Int) < ac then ((ab.drop (Int.toNat aa)).length : Int) else ac) rfl rfl) <| lM (.int .i64 aa) <| lM (.int .i64 (if ((ab.drop (Int.toNat aa)).length : Int) < ac then ((ab.drop (Int.toNat aa)).length : Int) else ac)) <| lV (.int .i64 (IntKind.i64.wrap (aa + (if ((ab.drop (Int.toNat aa)).length : Int) < ac then ((ab.drop (Int.toNat aa)).length : Int) else ac)))) (r_add aa (if ((ab.drop (Int.toNat aa)).length : Int) < ac then ((ab.drop (Int.toNat aa)).length : Int) else ac) rfl rfl) ?_
   obtain ⟨ag, hm⟩ := cS hm
   have am := ((hf0.take (Int.toNat (IntKind.i64.wrap (aa + (if ((ab.drop (Int.toNat aa)).length : Int) < ac then ((ab.drop (Int.toNat aa)).length : Int) else ac))))).recap (show (ab.take (Int.toNat (IntKind.i64.wrap (aa + (if ((ab.drop (Int.toNat aa)).length : Int) < ac then ((ab.drop (Int.toNat aa)).length : Int) else ac))))).length ≤ (Int.toNat (IntKind.i64.wrap (aa + (if ((ab.drop (Int.toNat aa)).length : Int) < ac then ((ab.drop (Int.toNat aa)).length : Int) else ac)))) by rw [List.length_take (i := (Int.toNat (IntKind.i64.wrap (aa + (if ((ab.drop (Int.toNat aa)).length : Int) < ac then ((ab.drop (Int.toNat aa)).length : Int) else ac))))) (l := ab)]; have := ag.2; omega)).drop (sz := 3) rfl (Int.toNat aa)
   refine lv (v := .slice (if (Int.toNat (IntKind.i64.wrap (aa + (if ((ab.drop (Int.toNat aa)).length : Int) < ac then ((ab.drop (Int.toNat aa)).length : Int) else ac)))) = (Int.toNat aa) then af0 else af0.map (·.add ((Int.toNat aa) * 3))) ((Int.toNat (IntKind.i64.wrap (aa + (if ((ab.drop (Int.toNat aa)).length : Int) < ac then ((ab.drop (Int.toNat aa)).length : Int) else ac)))) - (Int.toNat aa)) ((Int.toNat (IntKind.i64.wrap (aa + (if ((ab.drop (Int.toNat aa)).length : Int) < ac then ((ab.drop (Int.toNat aa)).length : Int) else ac)))) - (Int.toNat aa))) rfl rfl (r_sliceLHM Tryz.underlying51 Tryz.sizeOf40 rfl rfl rfl rfl ag.1 ag.2.1 ag.2.2.1 (by have := hf0.1.2; have := ag.2.2.2; omega)) ?_
   generalize (if (Int.toNat (IntKind.i64.wrap (aa + (if ((ab.drop (Int.toNat aa)).length : Int) < ac then ((ab.drop (Int.toNat aa)).length : Int) else ac)))) = (Int.toNat aa) then af0 else af0.map (·.add ((Int.toNat aa) * 3))) = ah at *
   refine .ld (d := 28) (v := (.slice ah (((ab.take (Int.toNat (IntKind.i64.wrap (aa + (if ((ab.drop (Int.toNat aa)).length : Int) < ac then ((ab.drop (Int.toNat aa)).length : Int) else ac))))).drop (Int.toNat aa)).length) ((Int.toNat (IntKind.i64.wrap (aa + (if ((ab.drop (Int.toNat aa)).length : Int) < ac then ((ab.drop (Int.toNat aa)).length : Int) else ac)))) - (Int.toNat aa)))) (congrArg (fun n => Value.slice ah n ((Int.toNat (IntKind.i64.wrap (aa + (if ((ab.drop (Int.toNat aa)).length : Int) < ac then ((ab.drop (Int.toNat aa)).length : Int) else ac)))) - (Int.toNat aa))) (show (Int.toNat (IntKind.i64.wrap (aa + (if ((ab.drop (Int.toNat aa)).length : Int) < ac then ((ab.drop (Int.toNat aa)).length : Int) else ac)))) - (Int.toNat aa) = ((ab.take (Int.toNat (IntKind.i64.wrap (aa + (if ((ab.drop (Int.toNat aa)).length : Int) < ac then ((ab.drop (Int.toNat aa)).length : Int) else ac))))).drop (Int.toNat aa)).length by rw [List.length_drop (i := (Int.toNat aa)) (l := ab.take (Int.toNat (IntKind.i64.wrap (aa + (if ((ab.drop (Int.toNat aa)).length : Int) < ac then ((ab.drop (Int.toNat aa)).length : Int) else ac))))), List.length_take (i := (Int.toNat (IntKind.i64.wrap (aa + (if ((ab.drop (Int.toNat aa)).length : Int) < ac then ((ab.drop (Int.toNat aa)).length : Int) else ac))))) (l := ab)]; have := ag.2; omega)) ?_
   obtain ⟨an, hc_14m, ao⟩ := bS hm
   cases ao
   have hm := hc_14m
   clear hc_14m
   refine ly1 rfl rfl rfl (hy _ _ _ _ [(.slice ah (((ab.take (Int.toNat (IntKind.i64.wrap (aa + (if ((ab.drop (Int.toNat aa)).length : Int) < ac then ((ab.drop (Int.toNat aa)).length : Int) else ac))))).drop (Int.toNat aa)).length) ((Int.toNat (IntKind.i64.wrap (aa + (if ((ab.drop (Int.toNat aa)).length : Int) < ac then ((ab.drop (Int.toNat aa)).length : Int) else ac)))) - (Int.toNat aa)))] hst ⟨ah, ((Int.toNat (IntKind.i64.wrap (aa + (if ((ab.drop (Int.toNat aa)).length : Int) < ac then ((ab.drop (Int.toNat aa)).length : Int) else ac)))) - (Int.toNat aa)), rfl, am⟩) ?_
   rintro _ ar ⟨ap, ai, ⟨rfl, hJ⟩ | ⟨rfl, hX⟩⟩
   ·refine ⟨_, rfl, ?_⟩
    clear hst
    have hst := hJ
    clear hJ
    refine lV (.bool false) (r_not true rfl) <| lN ?_
    refine wcondF rfl ?_
    refine wK <| wR <| lM (.int .i64 aa) ?_
    replace hb1 := hb1.kpp ai
    refine lV (.int .i64 ac) (r_ld Tryz.isAgg3 rfl hb1.at1) <| lV (.int .i64 (IntKind.i64.wrap (aa + ac))) (r_add aa ac rfl rfl) <| lA (.int .i64 (IntKind.i64.wrap (aa + ac))) <| lN ?_
    replace hf0 := hf0.kpp ai
    replace hb0 := hb0.kpp ai
    exact ⟨ae, by omega, ⟨ap, an, (IntKind.i64.wrap (aa + ac)), ae, rfl, hm, hst, hf0, hb0, hb1, rfl, rfl, rfl, rfl, rfl⟩⟩
   clear hm
   refine ⟨_, rfl, ?_⟩
   clear hst
   have hst := hX
   clear hX
   refine lV (.bool true) (r_not false rfl) <| lN ?_
   refine wcondT rfl ?_
   refine wret ?_
   exact ⟨rfl, ⟨_, rfl⟩, _, .inr hst⟩
  rw [if_neg (by rw [hb]; decide)] at hm
  clear hb
  refine wexit (inB_hit ?_)
  cases hm
  exact ⟨rfl, ⟨_, rfl⟩, _, .inl hst⟩
def m_slices_Chunk_api_Rat_api_Rat_J1 (N : Nat) (aa : (List ((Bool × (List Int)) × (List Int)))) (ab : Int) : Option (List (List ((Bool × (List Int)) × (List Int)))) :=
  m_slices_Chunk_api_Rat_api_Rat_1 N aa ab
def m_slices_Chunk_api_Rat_api_Rat (N : Nat) (ab : (List ((Bool × (List Int)) × (List Int)))) (aa : Int) : Option (List (List ((Bool × (List Int)) × (List Int)))) :=
  if (decide (aa < 1)) = true then none else (m_slices_Chunk_api_Rat_api_Rat_J1 N ab aa)
theorem c_slices_Chunk_api_Rat_api_Rat (N : Nat) (col : Col) (w0 : World) (a0 : Option Addr) (cap0 : Nat) (ab : (List ((Bool × (List Int)) × (List Int)))) (aa : Int) (h0 : Sl (Rep.pair (Rep.pair Rep.bool (Rep.slice (Rep.int .u32))) (Rep.slice (Rep.int .u32))) col w0 a0 cap0 ab) (r : (List (List ((Bool × (List Int)) × (List Int))))) (hm : m_slices_Chunk_api_Rat_api_Rat N ab aa = some r) :
    Calls Tryz.prog 150 #[(.slice a0 ab.length cap0), (.int .i64 aa)] w0 (fun e w' => ∃ (col' : Col) (rv1 : Value), e = .returned (rv1) ∧ Grow col w0 col' w' ∧ It Tryz.prog rv1 (fun (y : List ((Bool × (List Int)) × (List Int))) (col : Col) (w : World) (args : List Value) => ∃ (a0 : Option Addr) (cap0 : Nat), args = [.slice a0 y.length cap0] ∧ Sl (Rep.pair (Rep.pair Rep.bool (Rep.slice (Rep.int .u32))) (Rep.slice (Rep.int .u32))) col w a0 cap0 y) r q0 col' w') := by
 refine calls_of1 4 (m := 9) (args := [(.slice a0 ab.length cap0), (.int .i64 aa)]) Tryz.func150 rfl rfl rfl rfl rfl ?_
 rw [m_slices_Chunk_api_Rat_api_Rat.eq_1] at hm
 have hst := St.start col w0
 refine wS <| wR ?_
 refine l_box (col := (col0 col)) (v := (.slice a0 ab.length cap0)) 1 rfl rfl ?_
 intro ac ao al am ad
 replace ad : Box 51 1 al ao ac #[(.slice a0 ab.length cap0)] := ad
 refine l_box (col := al) (v := (.int .i64 aa)) 2 rfl rfl ?_
 intro ae ap an ai af
 replace af : Box 3 2 an ap ae #[(.int .i64 aa)] := af
 refine lv (v := _) rfl rfl (r_assign rfl) ?_
 refine lN <| wS ?_
 replace h0 := ((h0.keep (Stay.start col w0)).gr am).gr ai
 replace hst := (hst.grow am).grow ai
 replace ad := ad.gr ai
 refine Wp.cut (fun f ah => ∃ (ag : Col), m_slices_Chunk_api_Rat_api_Rat_J1 N ab aa  = some r ∧ St w0 (col0 col) ag ah ∧ Sl (Rep.pair (Rep.pair Rep.bool (Rep.slice (Rep.int .u32))) (Rep.slice (Rep.int .u32))) ag ah a0 cap0 ab ∧ Box 51 1 ag ah ac #[(.slice a0 ab.length cap0)] ∧ Box 3 2 ag ah ae #[(.int .i64 aa)] ∧ f 2 = (.pointer (some ⟨ac, 0, none⟩)) ∧ f 3 = (.pointer (some ⟨ae, 0, none⟩)) ∧ f 1000000 = (enc [])) ?_ ?_
 ·intro f ah hJ
  obtain ⟨ag, hm, hst, h0, ad, af, hs2, hs3, hs1000000⟩ := hJ
  rw [m_slices_Chunk_api_Rat_api_Rat_J1.eq_1] at hm
  refine .lD 2 hs2 <| .lD 3 hs3 <| .lD 1000000 hs1000000 ?_
  clear hs2 hs3 hs1000000
  refine wS <| wR <| lV (.func (.func 175) #[] #[(.pointer (some ⟨ac, 0, none⟩)), (.pointer (some ⟨ae, 0, none⟩))]) (r_func2 rfl rfl) <| lA (.func (.func 175) #[] #[(.pointer (some ⟨ac, 0, none⟩)), (.pointer (some ⟨ae, 0, none⟩))]) <| lN ?_
  refine wret ?_
  have aj := hst.finBox (G := (fun n => bif Nat.beq n 1 then 450 else bif Nat.beq n 2 then 450 else 0)) ad (by decide) (by decide) (show (fun n => bif Nat.beq n 1 then 450 else bif Nat.beq n 2 then 450 else 0) 1 = 450 from rfl)
  have h0f := hst.finSl (g := (fun n => bif Nat.beq n 1 then 450 else bif Nat.beq n 2 then 450 else 0)) rfl h0
  have ak := hst.finBox (G := (fun n => bif Nat.beq n 1 then 450 else bif Nat.beq n 2 then 450 else 0)) af (by decide) (by decide) (show (fun n => bif Nat.beq n 1 then 450 else bif Nat.beq n 2 then 450 else 0) 2 = 450 from rfl)
  refine ⟨rfl, colF w0.heap.size col ag (fun n => bif Nat.beq n 1 then 450 else bif Nat.beq n 2 then 450 else 0), _, rfl, hst.fin (fun n => bif Nat.beq n 1 then 450 else bif Nat.beq n 2 then 450 else 0), 175, [(.pointer (some ⟨ac, 0, none⟩)), (.pointer (some ⟨ae, 0, none⟩))], rfl, Tryz.call175, ?_⟩
  intro col9 w9 hs9 hk9
  replace aj := aj.itk hs9 hk9 rfl
  replace h0f := h0f.itk hs9 hk9 rfl
  replace ak := ak.itk hs9 hk9 rfl
  exact c_slices_Chunk_api_Rat_api_Rat_1 N col9 w9 ac a0 cap0 ab h0f aj ae aa ak r hm
 refine wS <| wR <| lV (.int .i64 aa) (r_ld Tryz.isAgg3 rfl af.at1) <| lV (.bool (decide (aa < 1))) (r_lss aa 1 rfl rfl) <| lN ?_
 refine wcond (decide (aa < 1)) rfl (fun hb => ?_) (fun hb => ?_)
 ·rw [if_pos hb] at hm
  clear hb
  cases hm
 rw [if_neg (by rw [hb]; decide)] at hm
 clear hb
 refine wK ?_
 exact ⟨an, hm, hst, h0, ad, af, rfl, rfl, rfl⟩
def m_frac_under (N : Nat) (ab : ((Bool × (List Int)) × (List Int))) : Option (List Int) :=
  (m_nat_Norm N ab.2).bind fun aa => if (decide (0 < (aa.length : Int))) = true then (some aa) else ((m_nat_Of N 1).bind fun ac => some ac)
theorem c_frac_under (N : Nat) (c1 : Nat) (col : Col) (w0 : World) (ae : Option Addr) (af : Nat) (ac : Option Addr) (ad : Nat) (aa : ((Bool × (List Int)) × (List Int))) (a1 : Sl (Rep.int .u32) col w0 ae af aa.1.2) (ai : Sl (Rep.int .u32) col w0 ac ad aa.2) (r : (List Int)) (hm : m_frac_under N aa = some r) :
    Calls Tryz.prog 56 #[(.agg #[(.bool aa.1.1), (.slice ae aa.1.2.length af), (.slice ac aa.2.length ad)])] w0 (fun e w' => ∃ (col' : Col) (ra1 : Option Addr) (rc2 : Nat), e = .returned ((.slice ra1 r.length rc2)) ∧ Grow col w0 col' w' ∧ Own (Rep.int .u32) 114 c1 col' w' ra1 rc2 r) := by
 refine calls_of1 2 (m := 12) (args := [(.agg #[(.bool aa.1.1), (.slice ae aa.1.2.length af), (.slice ac aa.2.length ad)])]) Tryz.func56 rfl rfl rfl rfl rfl ?_
 rw [m_frac_under.eq_1] at hm
 have hst := St.start col w0
 refine wS <| wR ?_
 refine l_box (col := (col0 col)) (v := (.agg #[(.bool aa.1.1), (.slice ae aa.1.2.length af), (.slice ac aa.2.length ad)])) 1 rfl rfl ?_
 intro ak ar al am aj
 replace aj : Box 40 1 al ar ak #[(.bool aa.1.1), (.slice ae aa.1.2.length af), (.slice ac aa.2.length ad)] := aj
 refine lA (.slice none (([] : List Int).length) 0) <| lN <| wS <| wS <| wR <| lV (.pointer ((some (⟨ak, 0, none⟩ : Addr)).map (·.add 2))) (rF (sz := 1) (off := 2) Tryz.underlying40 rfl Tryz.sizeOf36 (by decide) rfl rfl ⟨_, _, rfl⟩) <| lV (.slice ac aa.2.length ad) (r_ld Tryz.isAgg36 rfl ((aj.atN).nth (q := 2) (v := (.slice ac aa.2.length ad)) rfl)) ?_
 obtain ⟨ab, au, hm⟩ := bS hm
 replace ai := (ai.keep (Stay.start col w0)).gr am
 refine lc rfl rfl (r_call1 Tryz.call106 rfl) (c_nat_Norm N 2 al _ ac ad aa.2 ai ab au) ?_
 rintro _ a2 ⟨an, ag, ah, rfl, av, aw⟩
 refine ⟨_, rfl, ?_⟩
 refine lA (.slice ag ab.length ah) <| lN <| wS <| wR <| lM (.slice ag ab.length ah) <| lV (.int .i64 (ab.length : Int)) (r_len Tryz.underlying36 rfl) <| lV (.bool (decide (0 < (ab.length : Int)))) (r_gtr (ab.length : Int) 0 rfl rfl) <| lN ?_
 replace hst := (hst.grow am).grow av
 refine wcond (decide (0 < (ab.length : Int))) rfl (fun hb => ?_) (fun hb => ?_)
 ·rw [if_pos hb] at hm
  clear hb
  refine wS <| wR <| lM (.slice ag ab.length ah) <| lA (.slice ag ab.length ah) <| lN ?_
  refine wret ?_
  cases hm
  exact ⟨rfl, colF w0.heap.size col an (fun n => bif Nat.beq n 2 then c1 else 0), ag, ah, rfl, hst.fin (fun n => bif Nat.beq n 2 then c1 else 0), hst.finOwn (g := (fun n => bif Nat.beq n 2 then c1 else 0)) rfl aw (by decide) (by decide) rfl⟩
 rw [if_neg (by rw [hb]; decide)] at hm
 clear hb
 refine wK <| wS <| wR ?_
 obtain ⟨ao, ax, hm⟩ := bS hm
 refine lc rfl rfl (r_call1 Tryz.call59 rfl) (c_nat_Of N 3 an _ 1 ao ax) ?_
 rintro _ a3 ⟨ay, ap, aq, rfl, az, a0⟩
 refine ⟨_, rfl, ?_⟩
 refine lA (.slice ap ao.length aq) <| lN ?_
 refine wret ?_
 cases hm
 replace hst := hst.grow az
 exact ⟨rfl, colF w0.heap.size col ay (fun n => bif Nat.beq n 3 then c1 else 0), ap, aq, rfl, hst.fin (fun n => bif Nat.beq n 3 then c1 else 0), hst.finOwn (g := (fun n => bif Nat.beq n 3 then c1 else 0)) rfl a0 (by decide) (by decide) rfl⟩
def m_nat_Mul_L2 (ae : (List Int)) (aa : Nat) (kk_L1 : (Nat → (List Int) → Option (List Int))) (af : Int) : List Int → Nat → (List Int) → Int → Option (List Int)
  | [], ac, ab, ad => (at? ab (IntKind.i64.wrap ((aa : Int) + (ae.length : Int)))).bind fun al => (some (ab.set (Int.toNat (IntKind.i64.wrap ((aa : Int) + (ae.length : Int)))) (IntKind.u32.wrap ad))).bind fun ai => kk_L1 (aa + 1) ai
  | ag :: aj, ac, ab, ad => (at? ab (IntKind.i64.wrap ((aa : Int) + (ac : Int)))).bind fun ah => (some (ab.set (Int.toNat (IntKind.i64.wrap ((aa : Int) + (ac : Int)))) (IntKind.u32.wrap (IntKind.u64.wrap (ad + (IntKind.u64.wrap ((IntKind.u64.wrap ((IntKind.u64.wrap af) * (IntKind.u64.wrap ag))) + (IntKind.u64.wrap ah)))))))).bind fun ak => (m_nat_Mul_L2 ae aa kk_L1 af aj) (ac + 1) ak (ishr .u64 (IntKind.u64.wrap (ad + (IntKind.u64.wrap ((IntKind.u64.wrap ((IntKind.u64.wrap af) * (IntKind.u64.wrap ag))) + (IntKind.u64.wrap ah))))) 32)
termination_by structural x => x
def m_nat_Mul_L1 (N : Nat) (aa : (List Int)) : List Int → Nat → (List Int) → Option (List Int)
  | [], ac, ab => (m_nat_own N ab).bind fun ad => some ad
  | ae :: af, ac, ab => m_nat_Mul_L2 aa ac (m_nat_Mul_L1 N aa af) ae aa 0 ab 0
termination_by structural x => x
def m_nat_Mul (N : Nat) (ac : (List Int)) (ad : (List Int)) : Option (List Int) :=
  (m_nat_trim N ac).bind fun aa => (m_nat_trim N ad).bind fun ab => chk ((Int.toNat (IntKind.i64.wrap ((aa.length : Int) + (ab.length : Int)))) * 4 ≤ 281474976710656 ∧ (Int.toNat (IntKind.i64.wrap ((aa.length : Int) + (ab.length : Int)))) ≤ maxLen ∧ 0 ≤ (IntKind.i64.wrap ((aa.length : Int) + (ab.length : Int)))) (m_nat_Mul_L1 N ab aa 0 (List.replicate (Int.toNat (IntKind.i64.wrap ((aa.length : Int) + (ab.length : Int)))) (0 : Int)))
theorem c_nat_Mul (N : Nat) (c1 : Nat) (col : Col) (w0 : World) (a0 : Option Addr) (cap0 : Nat) (ay : (List Int)) (a1 : Option Addr) (cap1 : Nat) (az : (List Int)) (h0 : Sl (Rep.int .u32) col w0 a0 cap0 ay) (h1 : Sl (Rep.int .u32) col w0 a1 cap1 az) (r : (List Int)) (hm : m_nat_Mul N ay az = some r) :
    Calls Tryz.prog 40 #[(.slice a0 ay.length cap0), (.slice a1 az.length cap1)] w0 (fun e w' => ∃ (col' : Col) (ra1 : Option Addr) (rc2 : Nat), e = .returned ((.slice ra1 r.length rc2)) ∧ Grow col w0 col' w' ∧ Own (Rep.int .u32) 114 c1 col' w' ra1 rc2 r) := by
 refine calls_of1 4 (m := 71) (args := [(.slice a0 ay.length cap0), (.slice a1 az.length cap1)]) Tryz.func40 rfl rfl rfl rfl rfl ?_
 rw [m_nat_Mul.eq_1] at hm
 have hst := St.start col w0
 refine wS <| wR <| lA (.slice none (([] : List Int).length) 0) <| lN <| wS <| wR <| lM (.slice a0 ay.length cap0) ?_
 obtain ⟨ac, bu, hm⟩ := bS hm
 replace h0 := h0.keep (Stay.start col w0)
 refine lc rfl rfl (r_call1 Tryz.call88 rfl) (c_nat_trim N (col0 col) _ a0 cap0 ay h0 ac bu) ?_
 rintro _ b7 ⟨bv, aq, av, rfl, bk, ai⟩
 refine ⟨_, rfl, ?_⟩
 refine lM (.slice a1 az.length cap1) ?_
 obtain ⟨aa, bw, hm⟩ := bS hm
 replace h1 := (h1.keep (Stay.start col w0)).gr bk
 refine lc rfl rfl (r_call1 Tryz.call88 rfl) (c_nat_trim N bv _ a1 cap1 az h1 aa bw) ?_
 rintro _ bx ⟨bz, an, ap, rfl, bl, aj⟩
 refine ⟨_, rfl, ?_⟩
 refine lA (.slice aq ac.length av) <| lA (.slice an aa.length ap) <| lN <| wS <| wR <| lM (.slice aq ac.length av) <| lV (.int .i64 (ac.length : Int)) (r_len Tryz.underlying36 rfl) <| lM (.slice an aa.length ap) <| lV (.int .i64 (aa.length : Int)) (r_len Tryz.underlying36 rfl) <| lV (.int .i64 (IntKind.i64.wrap ((ac.length : Int) + (aa.length : Int)))) (r_add (ac.length : Int) (aa.length : Int) rfl rfl) ?_
 obtain ⟨a8, hm⟩ := cS hm
 refine l_make (col := bz) (w := bx) (r := (Rep.int .u32)) (n := (Int.toNat (IntKind.i64.wrap ((ac.length : Int) + (aa.length : Int))))) (x0 := 0) 1 rfl Tryz.underlying36 Tryz.t114 rfl rfl rfl rfl rfl (congrArg (Value.int _) (Int.toNat_of_nonneg a8.2.2).symm) (congrArg (Value.int _) (Int.toNat_of_nonneg a8.2.2).symm) a8.1 a8.2.1 (rd_int .u32 0) ?_
 intro bm b8 b0 bf b1
 refine lA (.slice bm ((List.replicate (Int.toNat (IntKind.i64.wrap ((ac.length : Int) + (aa.length : Int)))) (0 : Int)).length) (Int.toNat (IntKind.i64.wrap ((ac.length : Int) + (aa.length : Int))))) <| lN <| wS <| wS <| wR <| lM (.slice aq ac.length av) <| lV (.int .i64 (ac.length : Int)) (r_len Tryz.underlying36 rfl) <| lM (.int .i64 0) <| lN <| wB ?_
 replace hst := ((hst.grow bk).grow bl).grow bf
 replace ai := (ai.gr bl).gr bf
 replace aj := aj.gr bf
 refine wloop (fun n f a2 => ∃ (ao : Col) (ab : Nat) (a3 : Option Addr) (a4 : Nat) (aw : List Int) (a5 : List Int), n = a5.length ∧ ac.drop ab = a5 ∧ m_nat_Mul_L1 N aa a5 ab aw = some r ∧ St w0 (col0 col) ao a2 ∧ Sl (Rep.int .u32) ao a2 an ap aa ∧ Sl (Rep.int .u32) ao a2 aq av ac ∧ Own (Rep.int .u32) 114 1 ao a2 a3 a4 aw ∧ f 23 = (.int .i64 (ab : Int)) ∧ f 1 = (.slice an aa.length ap) ∧ f 21 = (.slice aq ac.length av) ∧ f 22 = (.int .i64 (ac.length : Int)) ∧ f 5 = (.slice a3 aw.length a4) ∧ f 1000000 = (enc [])) ac.length ⟨b0, 0, bm, (Int.toNat (IntKind.i64.wrap ((ac.length : Int) + (aa.length : Int)))), (List.replicate (Int.toNat (IntKind.i64.wrap ((ac.length : Int) + (aa.length : Int)))) (0 : Int)), ac, rfl, rfl, hm, hst, aj, ai, b1, rfl, rfl, rfl, rfl, rfl, rfl⟩ ?_
 clear hm; intro n f a2 hI
 obtain ⟨ao, ab, a3, a4, aw, a5, hn, hl, hm, hst, aj, ai, bn, hs23, hs1, hs21, hs22, hs5, hs1000000⟩ := hI
 subst hn
 refine .lD 23 hs23 <| .lD 1 hs1 <| .lD 21 hs21 <| .lD 22 hs22 <| .lD 5 hs5 <| .lD 1000000 hs1000000 ?_
 clear hs23 hs1 hs21 hs22 hs5 hs1000000
 cases a5 with
 | nil =>
  have hk : ¬ ((ab : Int) < (ac.length : Int)) := by have := List.drop_eq_nil_iff.1 hl; omega
  have hkb := decide_eq_false hk
  rw [m_nat_Mul_L1.eq_1] at hm
  refine wS <| wR <| lV (.bool (decide ((ab : Int) < (ac.length : Int)))) (r_lss (ab : Int) (ac.length : Int) rfl rfl) <| lN <| wS ?_
  refine wcondF (congrArg Value.bool hkb) ?_
  refine wexit (inB_hit ?_)
  refine wS <| wR <| lM (.slice a3 aw.length a4) ?_
  obtain ⟨bo, b2, hm⟩ := bS hm
  refine lc rfl rfl (r_call1 Tryz.call89 rfl) (c_nat_own N 2 (frC 1 ao) _ a3 a4 aw (bn.toSlF (Froz.int .u32)) bo b2) ?_
  rintro _ b9 ⟨b3, bp, bq, rfl, a9, bg⟩
  refine ⟨_, rfl, ?_⟩
  replace bg := bg.thaw (flat_int .u32) a9 ((Fz.refl (col := ao)).froz 1) (by decide)
  replace a9 := a9.thawR (col := ao)
  generalize colR a2.heap.size ao b3 = b4 at *
  refine lA (.slice bp bo.length bq) <| lN ?_
  refine wret ?_
  cases hm
  replace hst := hst.grow a9
  exact ⟨rfl, colF w0.heap.size col b4 (fun n => bif Nat.beq n 2 then c1 else 0), bp, bq, rfl, hst.fin (fun n => bif Nat.beq n 2 then c1 else 0), hst.finOwn (g := (fun n => bif Nat.beq n 2 then c1 else 0)) rfl bg (by decide) (by decide) rfl⟩
 | cons ad bh =>
  obtain ⟨hat, hl2_L1, hlt_L1⟩ := drop_get hl
  have hk : (ab : Int) < (ac.length : Int) := by omega
  have hkb := decide_eq_true hk
  rw [m_nat_Mul_L1.eq_2] at hm
  refine wS <| wR <| lV (.bool (decide ((ab : Int) < (ac.length : Int)))) (r_lss (ab : Int) (ac.length : Int) rfl rfl) <| lN <| wS ?_
  refine wcondT (congrArg Value.bool hkb) ?_
  refine wK <| wS <| wB <| wS <| wR <| lM (.int .i64 (ab : Int)) ?_
  refine lV (sptr aq (Int.toNat (ab : Int) * 1)) (r_idx Tryz.underlying36 Tryz.sizeOf114 rfl rfl (at?_some hat).1 (at?_some hat).2.1 (ai.addr hat)) ?_
  refine lV (.int .u32 ad) (r_ld Tryz.isAgg114 rfl (ai.atInt hat)) <| lA (.int .i64 (ab : Int)) <| lA (.int .u32 ad) <| lN <| wS <| wR <| lA (.int .u64 0) <| lN <| wS <| wS <| wR <| lM (.slice an aa.length ap) <| lV (.int .i64 (aa.length : Int)) (r_len Tryz.underlying36 rfl) <| lM (.int .i64 0) <| lN <| wB ?_
  refine wloop (fun n f a6 => ∃ (ax : Col) (ae : Nat) (ak : Option Addr) (al : Nat) (am : List Int) (af : Int) (a7 : List Int), n = a7.length ∧ aa.drop ae = a7 ∧ m_nat_Mul_L2 aa ab (m_nat_Mul_L1 N aa bh) ad a7 ae am af = some r ∧ St w0 (col0 col) ax a6 ∧ Sl (Rep.int .u32) ax a6 an ap aa ∧ Sl (Rep.int .u32) ax a6 aq av ac ∧ Own (Rep.int .u32) 114 1 ax a6 ak al am ∧ f 30 = (.int .i64 (ae : Int)) ∧ f 1 = (.slice an aa.length ap) ∧ f 21 = (.slice aq ac.length av) ∧ f 22 = (.int .i64 (ac.length : Int)) ∧ f 23 = (.int .i64 (ab : Int)) ∧ f 28 = (.slice an aa.length ap) ∧ f 29 = (.int .i64 (aa.length : Int)) ∧ f 5 = (.slice ak am.length al) ∧ f 6 = (.int .i64 (ab : Int)) ∧ f 7 = (.int .u32 ad) ∧ f 8 = (.int .u64 af) ∧ f 1000000 = (enc [])) aa.length ⟨ao, 0, a3, a4, aw, 0, aa, rfl, rfl, hm, hst, aj, ai, bn, rfl, rfl, rfl, rfl, rfl, rfl, rfl, rfl, rfl, rfl, rfl, rfl⟩ ?_
  clear hm; intro n f a6 hI
  obtain ⟨ax, ae, ak, al, am, af, a7, hn, hl, hm, hst, aj, ai, ar, hs30, hs1, hs21, hs22, hs23, hs28, hs29, hs5, hs6, hs7, hs8, hs1000000⟩ := hI
  subst hn
  refine .lD 30 hs30 <| .lD 1 hs1 <| .lD 21 hs21 <| .lD 22 hs22 <| .lD 23 hs23 <| .lD 28 hs28 <| .lD 29 hs29 <| .lD 5 hs5 <| .lD 6 hs6 <| .lD 7 hs7 <| .lD 8 hs8 <| .lD 1000000 hs1000000 ?_
  clear hs30 hs1 hs21 hs22 hs23 hs28 hs29 hs5 hs6 hs7 hs8 hs1000000
  cases a7 with
  | nil =>
   have hk : ¬ ((ae : Int) < (aa.length : Int)) := by have := List.drop_eq_nil_iff.1 hl; omega
   have hkb := decide_eq_false hk
   rw [m_nat_Mul_L2.eq_1] at hm
   refine wS <| wR <| lV (.bool (decide ((ae : Int) < (aa.length : Int)))) (r_lss (ae : Int) (aa.length : Int) rfl rfl) <| lN <| wS ?_
   refine wcondF (congrArg Value.bool hkb) ?_
   refine wexit (inB_hit ?_)
   refine wR <| lM (.slice ak am.length al) <| lM (.int .i64 (ab : Int)) <| lM (.slice an aa.length ap) <| lV (.int .i64 (aa.length : Int)) (r_len Tryz.underlying36 rfl) <| lV (.int .i64 (IntKind.i64.wrap ((ab : Int) + (aa.length : Int)))) (r_add (ab : Int) (aa.length : Int) rfl rfl) <| lM (.int .u64 af) <| lV (.int .u32 (IntKind.u32.wrap af)) (r_conv af ⟨_, Tryz.underlying108⟩ Tryz.underlying114 rfl) ?_
   obtain ⟨ca, ba, hm⟩ := bS hm
   refine lV (sptr ak (Int.toNat (IntKind.i64.wrap ((ab : Int) + (aa.length : Int))) * 1)) (r_idx Tryz.underlying36 Tryz.sizeOf114 rfl rfl (at?_some ba).1 (at?_some ba).2.1 (ar.addr ba)) ?_
   obtain ⟨bb, bc, hm⟩ := bS hm
   have bc : bb = am.set (Int.toNat (IntKind.i64.wrap ((ab : Int) + (aa.length : Int)))) (IntKind.u32.wrap af) := (Option.some.inj bc).symm
   refine l_store (x1 := IntKind.u32.wrap af) (v := (.int .u32 (IntKind.u32.wrap af))) ar ba rfl Tryz.sizeOf114 (rd_int .u32 (IntKind.u32.wrap af)) rfl rfl (by decide) ?_
   intro cb bi b5 br
   rw [← bc] at br
   refine .ld (d := 5) (v := (.slice ak bb.length al)) (congrArg (fun n => Value.slice ak n al) (show am.length = bb.length by rw [bc, List.length_set])) ?_
   clear ar
   refine lN <| wR <| lV (.int .i64 (IntKind.i64.wrap ((ab : Int) + 1))) (r_add (ab : Int) 1 rfl rfl) <| lM (.int .i64 (IntKind.i64.wrap ((ab : Int) + 1))) <| lN ?_
   replace aj := aj.kp bi
   replace ai := ai.kp bi
   replace hst := hst.kp bi b5
   exact ⟨bh.length, by simp, ⟨ax, (ab + 1), ak, al, bb, bh, rfl, hl2_L1, hm, hst, aj, ai, br, (congrArg (Value.int .i64) (wrap_succ (Nat.lt_of_lt_of_le hlt_L1 ai.1.1))), rfl, rfl, rfl, rfl, rfl⟩⟩
  | cons ag bs =>
   obtain ⟨hat, hl2_L2, hlt_L2⟩ := drop_get hl
   have hk : (ae : Int) < (aa.length : Int) := by omega
   have hkb := decide_eq_true hk
   rw [m_nat_Mul_L2.eq_2] at hm
   refine wS <| wR <| lV (.bool (decide ((ae : Int) < (aa.length : Int)))) (r_lss (ae : Int) (aa.length : Int) rfl rfl) <| lN <| wS ?_
   refine wcondT (congrArg Value.bool hkb) ?_
   refine wK <| wS <| wB <| wS <| wR <| lM (.int .i64 (ae : Int)) ?_
   refine lV (sptr an (Int.toNat (ae : Int) * 1)) (r_idx Tryz.underlying36 Tryz.sizeOf114 rfl rfl (at?_some hat).1 (at?_some hat).2.1 (aj.addr hat)) ?_
   refine lV (.int .u32 ag) (r_ld Tryz.isAgg114 rfl (aj.atInt hat)) <| lA (.int .i64 (ae : Int)) <| lA (.int .u32 ag) <| lN <| wS <| wR <| lM (.int .u64 af) <| lM (.int .u32 ad) <| lV (.int .u64 (IntKind.u64.wrap ad)) (r_conv ad ⟨_, Tryz.underlying114⟩ Tryz.underlying108 rfl) <| lM (.int .u32 ag) <| lV (.int .u64 (IntKind.u64.wrap ag)) (r_conv ag ⟨_, Tryz.underlying114⟩ Tryz.underlying108 rfl) <| lV (.int .u64 (IntKind.u64.wrap ((IntKind.u64.wrap ad) * (IntKind.u64.wrap ag)))) (r_mul (IntKind.u64.wrap ad) (IntKind.u64.wrap ag) rfl rfl) <| lM (.slice ak am.length al) <| lM (.int .i64 (ab : Int)) <| lM (.int .i64 (ae : Int)) <| lV (.int .i64 (IntKind.i64.wrap ((ab : Int) + (ae : Int)))) (r_add (ab : Int) (ae : Int) rfl rfl) ?_
   obtain ⟨ah, au, hm⟩ := bS hm
   refine lV (sptr ak (Int.toNat (IntKind.i64.wrap ((ab : Int) + (ae : Int))) * 1)) (r_idx Tryz.underlying36 Tryz.sizeOf114 rfl rfl (at?_some au).1 (at?_some au).2.1 (ar.addr au)) ?_
   refine lV (.int .u32 ah) (r_ld Tryz.isAgg114 rfl (ar.atInt au)) <| lV (.int .u64 (IntKind.u64.wrap ah)) (r_conv ah ⟨_, Tryz.underlying114⟩ Tryz.underlying108 rfl) <| lV (.int .u64 (IntKind.u64.wrap ((IntKind.u64.wrap ((IntKind.u64.wrap ad) * (IntKind.u64.wrap ag))) + (IntKind.u64.wrap ah)))) (r_add (IntKind.u64.wrap ((IntKind.u64.wrap ad) * (IntKind.u64.wrap ag))) (IntKind.u64.wrap ah) rfl rfl) <| lV (.int .u64 (IntKind.u64.wrap (af + (IntKind.u64.wrap ((IntKind.u64.wrap ((IntKind.u64.wrap ad) * (IntKind.u64.wrap ag))) + (IntKind.u64.wrap ah)))))) (r_add af (IntKind.u64.wrap ((IntKind.u64.wrap ((IntKind.u64.wrap ad) * (IntKind.u64.wrap ag))) + (IntKind.u64.wrap ah))) rfl rfl) <| lA (.int .u64 (IntKind.u64.wrap (af + (IntKind.u64.wrap ((IntKind.u64.wrap ((IntKind.u64.wrap ad) * (IntKind.u64.wrap ag))) + (IntKind.u64.wrap ah)))))) <| lN <| wS <| wR <| lM (.slice ak am.length al) <| lM (.int .i64 (ab : Int)) <| lM (.int .i64 (ae : Int)) <| lV (.int .i64 (IntKind.i64.wrap ((ab : Int) + (ae : Int)))) (r_add (ab : Int) (ae : Int) rfl rfl) <| lM (.int .u64 (IntKind.u64.wrap (af + (IntKind.u64.wrap ((IntKind.u64.wrap ((IntKind.u64.wrap ad) * (IntKind.u64.wrap ag))) + (IntKind.u64.wrap ah)))))) <| lV (.int .u32 (IntKind.u32.wrap (IntKind.u64.wrap (af + (IntKind.u64.wrap ((IntKind.u64.wrap ((IntKind.u64.wrap ad) * (IntKind.u64.wrap ag))) + (IntKind.u64.wrap ah))))))) (r_conv (IntKind.u64.wrap (af + (IntKind.u64.wrap ((IntKind.u64.wrap ((IntKind.u64.wrap ad) * (IntKind.u64.wrap ag))) + (IntKind.u64.wrap ah))))) ⟨_, Tryz.underlying108⟩ Tryz.underlying114 rfl) ?_
   refine lV (sptr ak (Int.toNat (IntKind.i64.wrap ((ab : Int) + (ae : Int))) * 1)) (r_idx Tryz.underlying36 Tryz.sizeOf114 rfl rfl (at?_some au).1 (at?_some au).2.1 (ar.addr au)) ?_
   obtain ⟨bd, be, hm⟩ := bS hm
   have be : bd = am.set (Int.toNat (IntKind.i64.wrap ((ab : Int) + (ae : Int)))) (IntKind.u32.wrap (IntKind.u64.wrap (af + (IntKind.u64.wrap ((IntKind.u64.wrap ((IntKind.u64.wrap ad) * (IntKind.u64.wrap ag))) + (IntKind.u64.wrap ah)))))) := (Option.some.inj be).symm
   refine l_store (x1 := IntKind.u32.wrap (IntKind.u64.wrap (af + (IntKind.u64.wrap ((IntKind.u64.wrap ((IntKind.u64.wrap ad) * (IntKind.u64.wrap ag))) + (IntKind.u64.wrap ah)))))) (v := (.int .u32 (IntKind.u32.wrap (IntKind.u64.wrap (af + (IntKind.u64.wrap ((IntKind.u64.wrap ((IntKind.u64.wrap ad) * (IntKind.u64.wrap ag))) + (IntKind.u64.wrap ah)))))))) ar au rfl Tryz.sizeOf114 (rd_int .u32 (IntKind.u32.wrap (IntKind.u64.wrap (af + (IntKind.u64.wrap ((IntKind.u64.wrap ((IntKind.u64.wrap ad) * (IntKind.u64.wrap ag))) + (IntKind.u64.wrap ah))))))) rfl rfl (by decide) ?_
   intro cc bj b6 bt
   rw [← be] at bt
   refine .ld (d := 5) (v := (.slice ak bd.length al)) (congrArg (fun n => Value.slice ak n al) (show am.length = bd.length by rw [be, List.length_set])) ?_
   clear ar
   refine lN <| wR <| lM (.int .u64 (IntKind.u64.wrap (af + (IntKind.u64.wrap ((IntKind.u64.wrap ((IntKind.u64.wrap ad) * (IntKind.u64.wrap ag))) + (IntKind.u64.wrap ah)))))) <| lV (.int .u64 (ishr .u64 (IntKind.u64.wrap (af + (IntKind.u64.wrap ((IntKind.u64.wrap ((IntKind.u64.wrap ad) * (IntKind.u64.wrap ag))) + (IntKind.u64.wrap ah))))) 32)) (r_shr (IntKind.u64.wrap (af + (IntKind.u64.wrap ((IntKind.u64.wrap ((IntKind.u64.wrap ad) * (IntKind.u64.wrap ag))) + (IntKind.u64.wrap ah))))) 32 rfl rfl (by decide)) <| lA (.int .u64 (ishr .u64 (IntKind.u64.wrap (af + (IntKind.u64.wrap ((IntKind.u64.wrap ((IntKind.u64.wrap ad) * (IntKind.u64.wrap ag))) + (IntKind.u64.wrap ah))))) 32)) <| lN <| wR <| lV (.int .i64 (IntKind.i64.wrap ((ae : Int) + 1))) (r_add (ae : Int) 1 rfl rfl) <| lM (.int .i64 (IntKind.i64.wrap ((ae : Int) + 1))) <| lN ?_
   replace aj := aj.kp bj
   replace ai := ai.kp bj
   replace hst := hst.kp bj b6
   exact ⟨bs.length, by simp, ⟨ax, (ae + 1), ak, al, bd, (ishr .u64 (IntKind.u64.wrap (af + (IntKind.u64.wrap ((IntKind.u64.wrap ((IntKind.u64.wrap ad) * (IntKind.u64.wrap ag))) + (IntKind.u64.wrap ah))))) 32), bs, rfl, hl2_L2, hm, hst, aj, ai, bt, (congrArg (Value.int .i64) (wrap_succ (Nat.lt_of_lt_of_le hlt_L2 aj.1.1))), rfl, rfl, rfl, rfl, rfl, rfl, rfl, rfl, rfl, rfl, rfl⟩⟩
def m_whole_Mul (N : Nat) (aa : (Bool × (List Int))) (ab : (Bool × (List Int))) : Option (Bool × (List Int)) :=
  (m_nat_Mul N aa.2 ab.2).bind fun ad => (m_whole_of N (!decide (aa.1 = ab.1)) ad).bind fun ac => some (ac.1, ac.2)
theorem c_whole_Mul (N : Nat) (c1 : Nat) (col : Col) (w0 : World) (af : Option Addr) (ag : Nat) (aa : (Bool × (List Int))) (ah : Option Addr) (ai : Nat) (ab : (Bool × (List Int))) (au : Sl (Rep.int .u32) col w0 af ag aa.2) (av : Sl (Rep.int .u32) col w0 ah ai ab.2) (r : (Bool × (List Int))) (hm : m_whole_Mul N aa ab = some r) :
    Calls Tryz.prog 127 #[(.agg #[(.bool aa.1), (.slice af aa.2.length ag)]), (.agg #[(.bool ab.1), (.slice ah ab.2.length ai)])] w0 (fun e w' => ∃ (col' : Col) (ra1 : Option Addr) (rc2 : Nat), e = .returned ((.agg #[(.bool r.1), (.slice ra1 r.2.length rc2)])) ∧ Grow col w0 col' w' ∧ Own (Rep.int .u32) 114 c1 col' w' ra1 rc2 r.2) := by
 refine calls_ofR (m := 16) (args := [(.agg #[(.bool aa.1), (.slice af aa.2.length ag)]), (.agg #[(.bool ab.1), (.slice ah ab.2.length ai)])]) Tryz.func127 rfl rfl rfl ?_
 rw [m_whole_Mul.eq_1] at hm
 have hst := St.start col w0
 refine wS <| wR ?_
 refine l_box (col := (col0 col)) (v := (.agg #[(.bool aa.1), (.slice af aa.2.length ag)])) 1 rfl rfl ?_
 intro aw bd a4 ax al
 replace al : Box 38 1 a4 bd aw #[(.bool aa.1), (.slice af aa.2.length ag)] := al
 refine l_box (col := a4) (v := (.agg #[(.bool ab.1), (.slice ah ab.2.length ai)])) 2 rfl rfl ?_
 intro ay be a5 ar am
 replace am : Box 38 2 a5 be ay #[(.bool ab.1), (.slice ah ab.2.length ai)] := am
 refine l_alloc (col := a5) (v := (.agg #[(.bool false), (.slice none (([] : List Int).length) 0)])) 3 rfl Tryz.zeroValue38 ?_
 intro a6 a7 ae ao ac
 replace ac : Box 38 3 ae a7 a6 #[(.bool false), (.slice none (([] : List Int).length) 0)] := ac
 refine lN <| wS ?_
 refine wmix (col := ae) [(0, 1), (1, 0), (2, 1), (3, 0), (4, 1), (5, 1), (6, 0), (7, 1), (8, 0), (9, 3), (10, 3), (11, 2)] (by kernel_rfl) (by kernel_rfl) ?_
 refine xu (v := (.pointer ((some (⟨aw, 0, none⟩ : Addr)).map (·.add 0)))) rfl rfl (fun _ => rF (sz := 1) (off := 0) Tryz.underlying38 rfl Tryz.sizeOf4 (by decide) rfl rfl ⟨_, _, rfl⟩) ?_
 replace al := (al.gr ar).gr ao
 refine xv (v := (.bool aa.1)) rfl rfl (fun _ hC => r_ld Tryz.isAgg4 rfl (((al.atN).nth (q := 0) (v := (.bool aa.1)) rfl).gr (Grow.of_below (col := ae) hC.below))) ?_
 refine xu (v := (.pointer ((some (⟨ay, 0, none⟩ : Addr)).map (·.add 0)))) rfl rfl (fun _ => rF (sz := 1) (off := 0) Tryz.underlying38 rfl Tryz.sizeOf4 (by decide) rfl rfl ⟨_, _, rfl⟩) ?_
 replace am := am.gr ao
 refine xv (v := (.bool ab.1)) rfl rfl (fun _ hC => r_ld Tryz.isAgg4 rfl (((am.atN).nth (q := 0) (v := (.bool ab.1)) rfl).gr (Grow.of_below (col := ae) hC.below))) ?_
 refine xu (v := (.bool (!decide (aa.1 = ab.1)))) rfl rfl (fun _ => r_neqB aa.1 ab.1 Tryz.underlying4 rfl rfl) ?_
 refine xu (v := (.pointer ((some (⟨aw, 0, none⟩ : Addr)).map (·.add 1)))) rfl rfl (fun _ => rF (sz := 1) (off := 1) Tryz.underlying38 rfl Tryz.sizeOf36 (by decide) rfl rfl ⟨_, _, rfl⟩) ?_
 refine xv (v := (.slice af aa.2.length ag)) rfl rfl (fun _ hC => r_ld Tryz.isAgg36 rfl (((al.atN).nth (q := 1) (v := (.slice af aa.2.length ag)) rfl).gr (Grow.of_below (col := ae) hC.below))) ?_
 refine xu (v := (.pointer ((some (⟨ay, 0, none⟩ : Addr)).map (·.add 1)))) rfl rfl (fun _ => rF (sz := 1) (off := 1) Tryz.underlying38 rfl Tryz.sizeOf36 (by decide) rfl rfl ⟨_, _, rfl⟩) ?_
 refine xv (v := (.slice ah ab.2.length ai)) rfl rfl (fun _ hC => r_ld Tryz.isAgg36 rfl (((am.atN).nth (q := 1) (v := (.slice ah ab.2.length ai)) rfl).gr (Grow.of_below (col := ae) hC.below))) ?_
 refine xe rfl rfl ?_
 intro bf hC0
 have hC : Grow ae a7 ae bf := .of_below hC0.below
 obtain ⟨a8, bg, hm⟩ := bS hm
 replace au := ((((au.keep (Stay.start col w0)).gr ax).gr ar).gr ao).gr hC
 replace av := ((((av.keep (Stay.start col w0)).gr ax).gr ar).gr ao).gr hC
 refine lc rfl rfl (r_call2 Tryz.call40 rfl rfl) (c_nat_Mul N 4 ae _ af ag aa.2 ah ai ab.2 au av a8 bg) ?_
 rintro _ a9 ⟨aj, bh, bi, rfl, az, a0⟩
 refine ⟨_, rfl, ?_⟩
 refine lN ⟨fun w' => Grow aj a9 aj w', Grow.refl _ _, fun _ _ h => cls hC0 az h, ?_⟩
 refine xe rfl rfl ?_
 intro ba hC0
 replace hst := ((((hst.grow ax).grow ar).grow ao).grow hC).grow az
 replace ac := (ac.gr hC).gr az
 have hC : Grow aj a9 aj ba := .of_below hC0.below
 obtain ⟨ap, bj, hm⟩ := bS hm
 replace a0 := a0.gr hC
 refine lc rfl rfl (r_call2 Tryz.call112 rfl rfl) (c_whole_of N 5 (frC 4 aj) _ (!decide (aa.1 = ab.1)) bh bi a8 (a0.toSlF (Froz.int .u32)) ap bj) ?_
 rintro _ bb ⟨bk, a1, a2, rfl, an, ak⟩
 refine ⟨_, rfl, ?_⟩
 replace ak := ak.thaw (flat_int .u32) an ((Fz.refl (col := aj)).froz 4) (by decide)
 replace an := an.thawR (col := aj)
 generalize colR ba.heap.size aj bk = ad at *
 refine lN ⟨fun w' => Grow ad bb ad w', Grow.refl _ _, fun _ _ h => cls hC0 an h, ?_⟩
 refine xe rfl rfl ?_
 intro bl hC0
 replace ac := (ac.gr hC).gr an
 replace hst := (hst.grow hC).grow an
 have hC : Grow ad bb ad bl := .of_below hC0.below
 replace ac := ac.gr hC
 refine l_bstore (v := (.agg #[(.bool ap.1), (.slice a1 ap.2.length a2)])) ac Tryz.sizeOf38 rfl rfl (by intro u hu; simp only [Value.cells, List.mem_cons, List.not_mem_nil, or_false] at hu; rcases hu with rfl | rfl <;> rfl) rfl rfl ?_
 intro a3 bc bm aq
 clear ac
 replace aq : Box 38 3 ad a3 a6 #[(.bool ap.1), (.slice a1 ap.2.length a2)] := aq
 refine lN ⟨fun w' => Grow ad a3 ad w', Grow.refl _ _, fun h => absurd h (by decide), ?_⟩
 refine xnil ?_
 replace ak := (ak.gr hC).kp bc
 replace hst := (hst.grow hC).kp bc bm
 intro bn hC
 replace hC : Grow ad a3 ad bn := .of_below hC.below
 refine wret ?_
 cases hm
 replace ak := ak.gr hC
 replace aq := aq.gr hC
 replace hst := hst.grow hC
 exact ⟨rfl, _, res_a rfl rfl Tryz.isAgg38 Tryz.sizeOf38 rfl rfl aq.atN, colF w0.heap.size col ad (fun n => bif Nat.beq n 5 then c1 else 0), a1, a2, rfl, hst.fin (fun n => bif Nat.beq n 5 then c1 else 0), hst.finOwn (g := (fun n => bif Nat.beq n 5 then c1 else 0)) rfl ak (by decide) (by decide) rfl⟩
def m_frac_over (N : Nat) (aa : (Bool × (List Int))) (ac : (List Int)) : Option (Bool × (List Int)) :=
  (m_whole_Mul N (aa.1, aa.2) (false, ac)).bind fun ab => some (ab.1, ab.2)
theorem c_frac_over (N : Nat) (c1 : Nat) (col : Col) (w0 : World) (ab : Option Addr) (ac : Nat) (aa : (Bool × (List Int))) (a1 : Option Addr) (cap1 : Nat) (ad : (List Int)) (ai : Sl (Rep.int .u32) col w0 ab ac aa.2) (h1 : Sl (Rep.int .u32) col w0 a1 cap1 ad) (r : (Bool × (List Int))) (hm : m_frac_over N aa ad = some r) :
    Calls Tryz.prog 81 #[(.agg #[(.bool aa.1), (.slice ab aa.2.length ac)]), (.slice a1 ad.length cap1)] w0 (fun e w' => ∃ (col' : Col) (ra1 : Option Addr) (rc2 : Nat), e = .returned ((.agg #[(.bool r.1), (.slice ra1 r.2.length rc2)])) ∧ Grow col w0 col' w' ∧ Own (Rep.int .u32) 114 c1 col' w' ra1 rc2 r.2) := by
 refine calls_ofR (m := 9) (args := [(.agg #[(.bool aa.1), (.slice ab aa.2.length ac)]), (.slice a1 ad.length cap1)]) Tryz.func81 rfl rfl rfl ?_
 rw [m_frac_over.eq_1] at hm
 have hst := St.start col w0
 refine wS <| wR ?_
 refine l_box (col := (col0 col)) (v := (.agg #[(.bool aa.1), (.slice ab aa.2.length ac)])) 1 rfl rfl ?_
 intro aw ax ao aj af
 replace af : Box 38 1 ao ax aw #[(.bool aa.1), (.slice ab aa.2.length ac)] := af
 refine l_alloc (col := ao) (v := (.agg #[(.bool false), (.slice none (([] : List Int).length) 0)])) 2 rfl Tryz.zeroValue38 ?_
 intro ap ay aq ah ae
 replace ae : Box 38 2 aq ay ap #[(.bool false), (.slice none (([] : List Int).length) 0)] := ae
 refine lN <| wS <| wR ?_
 replace af := af.gr ah
 refine lV (.agg #[(.bool aa.1), (.slice ab aa.2.length ac)]) (r_ldN Tryz.isAgg38 Tryz.sizeOf38 rfl rfl af.atN) <| lM (.slice a1 ad.length cap1) <| lV (.agg #[(.bool false), (.slice a1 ad.length cap1)]) (r_build (l := [_, _]) (qs := [(0, 1), (1, 1)]) Tryz.underlying38 Tryz.zeroValue38 ⟨rfl, Tryz.sizeOf4, rfl, Tryz.sizeOf36, trivial⟩ rfl) ?_
 obtain ⟨ag, az, hm⟩ := bS hm
 replace ai := ((ai.keep (Stay.start col w0)).gr aj).gr ah
 replace h1 := ((h1.keep (Stay.start col w0)).gr aj).gr ah
 refine lc rfl rfl (r_call2 Tryz.call127 rfl rfl) (c_whole_Mul N 3 aq _ ab ac (aa.1, aa.2) a1 cap1 (false, ad) ai h1 ag az) ?_
 rintro _ a3 ⟨ar, ak, al, rfl, au, am⟩
 refine ⟨_, rfl, ?_⟩
 replace ae := ae.gr au
 refine l_bstore (v := (.agg #[(.bool ag.1), (.slice ak ag.2.length al)])) ae Tryz.sizeOf38 rfl rfl (by intro u hu; simp only [Value.cells, List.mem_cons, List.not_mem_nil, or_false] at hu; rcases hu with rfl | rfl <;> rfl) rfl rfl ?_
 intro a0 av a2 an
 clear ae
 replace an : Box 38 2 ar a0 ap #[(.bool ag.1), (.slice ak ag.2.length al)] := an
 refine lN ?_
 refine wret ?_
 cases hm
 replace hst := (((hst.grow aj).grow ah).grow au).kp av a2
 replace am := am.kp av
 exact ⟨rfl, _, res_a rfl rfl Tryz.isAgg38 Tryz.sizeOf38 rfl rfl an.atN, colF w0.heap.size col ar (fun n => bif Nat.beq n 3 then c1 else 0), ak, al, rfl, hst.fin (fun n => bif Nat.beq n 3 then c1 else 0), hst.finOwn (g := (fun n => bif Nat.beq n 3 then c1 else 0)) rfl am (by decide) (by decide) rfl⟩

end Go.Proofs.YtonkjfnjadofpaaGreat
