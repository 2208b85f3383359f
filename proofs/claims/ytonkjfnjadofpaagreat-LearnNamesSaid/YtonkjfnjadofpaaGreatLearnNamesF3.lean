/-
  What functions of the program compute, as plain Lean functions (m_..), and proofs that they compute it (c_..). Printed by a program of the author; no conditions.
-/
import Derived.Test.YtonkjfnjadofpaaGreatLearnNamesBFloat
import Derived.Test.YtonkjfnjadofpaaGreatProg
import Derived.Test.YtonkjfnjadofpaaGreatLearnNamesBMixD
import Derived.Test.YtonkjfnjadofpaaGreatLearnNamesF2
set_option linter.unusedVariables false
set_option maxRecDepth 100000
set_option maxHeartbeats 2000000
namespace Go.Proofs.YtonkjfnjadofpaaGreat
open Go Go.RowKit

def m_learn_whole (N : Nat) (ab : Int) : Option ((Bool × (List Int)) × (List Int)) :=
  (m_frac_Of N ab 1).bind fun aa => some ((aa.1.1.1, aa.1.1.2), aa.1.2)
theorem c_learn_whole (N : Nat) (c1 : Nat) (c2 : Nat) (col : Col) (w0 : World) (ag : Int) (r : ((Bool × (List Int)) × (List Int))) (hm : m_learn_whole N ag = some r) :
    Calls Tryz.prog 28 #[(.int .i64 ag)] w0 (fun e w' => ∃ (col' : Col) (ra1 : Option Addr) (rc2 : Nat) (ra4 : Option Addr) (rc5 : Nat), e = .returned ((.agg #[(.bool r.1.1), (.slice ra1 r.1.2.length rc2), (.slice ra4 r.2.length rc5)])) ∧ Grow col w0 col' w' ∧ Own (Rep.int .u32) 114 c1 col' w' ra1 rc2 r.1.2 ∧ Own (Rep.int .u32) 114 c2 col' w' ra4 rc5 r.2) := by
 refine calls_ofR (m := 11) (args := [(.int .i64 ag)]) Tryz.func28 rfl rfl rfl ?_
 rw [m_learn_whole.eq_1] at hm
 have hst := St.start col w0
 refine wS <| wR ?_
 refine l_alloc (col := (col0 col)) (v := (.agg #[(.bool false), (.slice none (([] : List Int).length) 0), (.slice none (([] : List Int).length) 0)])) 1 rfl Tryz.zeroValue40 ?_
 intro aq aw ar ax af
 replace af : Box 40 1 ar aw aq #[(.bool false), (.slice none (([] : List Int).length) 0), (.slice none (([] : List Int).length) 0)] := af
 refine lN <| wS <| wR <| lM (.int .i64 ag) ?_
 obtain ⟨aa, ay, hm⟩ := bS hm
 refine lc rfl rfl (r_call2 Tryz.call30 rfl rfl) (c_frac_Of N 2 3 ar _ ag 1 aa ay) ?_
 rintro _ a5 ⟨az, ab, ac, ad, ae, rfl, au, al, am⟩
 refine ⟨_, rfl, ?_⟩
 refine lM (.tuple #[(.agg #[(.bool aa.1.1.1), (.slice ab aa.1.1.2.length ac), (.slice ad aa.1.2.length ae)]), (.int .i64 aa.2)]) <| lV (.agg #[(.bool aa.1.1.1), (.slice ab aa.1.1.2.length ac), (.slice ad aa.1.2.length ae)]) (r_extract rfl rfl) <| lV (.int .i64 aa.2) (r_extract rfl rfl) ?_
 refine l_alloc (col := az) (v := (.agg #[(.bool false), (.slice none (([] : List Int).length) 0), (.slice none (([] : List Int).length) 0)])) 4 rfl Tryz.zeroValue40 ?_
 intro av a0 ah ai aj
 replace aj : Box 40 4 ah a0 av #[(.bool false), (.slice none (([] : List Int).length) 0), (.slice none (([] : List Int).length) 0)] := aj
 refine l_bstore (v := (.agg #[(.bool aa.1.1.1), (.slice ab aa.1.1.2.length ac), (.slice ad aa.1.2.length ae)])) aj Tryz.sizeOf40 rfl rfl (by intro u hu; simp only [Value.cells, List.mem_cons, List.not_mem_nil, or_false] at hu; rcases hu with rfl | rfl | rfl <;> rfl) rfl rfl ?_
 intro a1 ak a2 an
 clear aj
 replace an : Box 40 4 ah a1 av #[(.bool aa.1.1.1), (.slice ab aa.1.1.2.length ac), (.slice ad aa.1.2.length ae)] := an
 refine lA (.int .i64 aa.2) <| lN <| wS <| wR <| lV (.agg #[(.bool aa.1.1.1), (.slice ab aa.1.1.2.length ac), (.slice ad aa.1.2.length ae)]) (r_ldN Tryz.isAgg40 Tryz.sizeOf40 rfl rfl an.atN) ?_
 replace af := ((af.gr au).gr ai).kp ak
 refine l_bstore (v := (.agg #[(.bool aa.1.1.1), (.slice ab aa.1.1.2.length ac), (.slice ad aa.1.2.length ae)])) af Tryz.sizeOf40 rfl rfl (by intro u hu; simp only [Value.cells, List.mem_cons, List.not_mem_nil, or_false] at hu; rcases hu with rfl | rfl | rfl <;> rfl) rfl rfl ?_
 intro a3 ao a4 ap
 clear af
 replace ap : Box 40 1 ah a3 aq #[(.bool aa.1.1.1), (.slice ab aa.1.1.2.length ac), (.slice ad aa.1.2.length ae)] := ap
 refine lN ?_
 refine wret ?_
 cases hm
 replace hst := ((((hst.grow ax).grow au).grow ai).kp ak a2).kp ao a4
 replace al := ((al.gr ai).kp ak).kp ao
 replace am := ((am.gr ai).kp ak).kp ao
 exact ⟨rfl, _, res_a rfl rfl Tryz.isAgg40 Tryz.sizeOf40 rfl rfl ap.atN, colF w0.heap.size col ah (fun n => bif Nat.beq n 2 then c1 else bif Nat.beq n 3 then c2 else 0), ab, ac, ad, ae, rfl, hst.fin (fun n => bif Nat.beq n 2 then c1 else bif Nat.beq n 3 then c2 else 0), hst.finOwn (g := (fun n => bif Nat.beq n 2 then c1 else bif Nat.beq n 3 then c2 else 0)) rfl al (by decide) (by decide) rfl, hst.finOwn (g := (fun n => bif Nat.beq n 2 then c1 else bif Nat.beq n 3 then c2 else 0)) rfl am (by decide) (by decide) rfl⟩
theorem el40_8 : ElemOk Tryz.prog 40 3 56 := ⟨Tryz.t40, _, rfl, rfl, rfl, rfl, rfl⟩
def m_learn_Fit_L2 (N : Nat) (ag : (ByteArray × (List ByteArray) × (List (List ByteArray)) × (List (List Int)) × (List (List ((Bool × (List Int)) × (List Int)))))) (ad : ((Bool × (List Int)) × (List Int))) (ab : Int) (ah : ByteArray) (ai : List ByteArray) (aj : List (List ByteArray)) (ak : List (List Int)) (ae : List (List ((Bool × (List Int)) × (List Int)))) (kk_L1 : (Int → ByteArray → (List ByteArray) → (List (List ByteArray)) → (List (List Int)) → (List (List ((Bool × (List Int)) × (List Int)))) → Option ((ByteArray × (List ByteArray) × (List (List ByteArray)) × (List (List Int)) × (List (List ((Bool × (List Int)) × (List Int))))) × Int))) : List Int → (List ((Bool × (List Int)) × (List Int))) → Option ((ByteArray × (List ByteArray) × (List (List ByteArray)) × (List (List Int)) × (List (List ((Bool × (List Int)) × (List Int))))) × Int)
  | [], ac => (at? ae ab).bind fun al => (at? ag.2.2.1 ab).bind fun am => (m_learn_shares N al ac (am.length : Int)).bind fun an => kk_L1 (IntKind.i64.wrap (ab + 1)) ah ai aj ak (ae.set (Int.toNat ab) an)
  | ao :: ap, ac => (m_learn_whole N ao).bind fun af => (m_frac_Add N ((af.1.1, af.1.2), af.2) ((ad.1.1, ad.1.2), ad.2)).bind fun aa => chk ((ac.length + [((aa.1.1, aa.1.2), aa.2)].length) * 56 ≤ 140737488355328 ∧ ac.length + [((aa.1.1, aa.1.2), aa.2)].length ≤ maxLen) ((m_learn_Fit_L2 N ag ad ab ah ai aj ak ae kk_L1 ap) (ac ++ [((aa.1.1, aa.1.2), aa.2)]))
termination_by structural x => x
def m_learn_Fit_L1 (N : Nat) (aa : (ByteArray × (List ByteArray) × (List (List ByteArray)) × (List (List Int)) × (List (List ((Bool × (List Int)) × (List Int)))))) (ac : (List (List Int))) (ad : ((Bool × (List Int)) × (List Int))) : Nat → Int → ByteArray → (List ByteArray) → (List (List ByteArray)) → (List (List Int)) → (List (List ((Bool × (List Int)) × (List Int)))) → Option ((ByteArray × (List ByteArray) × (List (List ByteArray)) × (List (List Int)) × (List (List ((Bool × (List Int)) × (List Int))))) × Int)
  | 0, _, _, _, _, _, _ => none
  | aj + 1, ab, ae, af, ag, ah, ai => if (decide (ab < (aa.2.1.length : Int))) = true then ((m_data_Count N (aa.1, aa.2.1, aa.2.2.1, aa.2.2.2.1, aa.2.2.2.2) ac ab).bind fun ak => m_learn_Fit_L2 N aa ad ab ae af ag ah ai (m_learn_Fit_L1 N aa ac ad aj) ak.1 ([] : List ((Bool × (List Int)) × (List Int)))) else (some ((ae, af, ag, ah, ai), 0))
termination_by structural x => x
def m_learn_Fit (N : Nat) (aa : (ByteArray × (List ByteArray) × (List (List ByteArray)) × (List (List Int)) × (List (List ((Bool × (List Int)) × (List Int)))))) (ad : (List (List Int))) (ac : ((Bool × (List Int)) × (List Int))) : Option ((ByteArray × (List ByteArray) × (List (List ByteArray)) × (List (List Int)) × (List (List ((Bool × (List Int)) × (List Int))))) × Int) :=
  (m_learn_wrong N (aa.1, aa.2.1, aa.2.2.1, aa.2.2.2.1, aa.2.2.2.2) ad).bind fun ae => if (!decide (ae = 0)) = true then (some ((⟨#[]⟩, ([] : List ByteArray), ([] : List (List ByteArray)), ([] : List (List Int)), ([] : List (List ((Bool × (List Int)) × (List Int))))), ae)) else ((m_frac_Sign N ((ac.1.1, ac.1.2), ac.2)).bind fun af => if (decide (af < 0)) = true then (some ((⟨#[]⟩, ([] : List ByteArray), ([] : List (List ByteArray)), ([] : List (List Int)), ([] : List (List ((Bool × (List Int)) × (List Int))))), 3)) else ((m_learn_copied N (aa.1, aa.2.1, aa.2.2.1, aa.2.2.2.1, aa.2.2.2.2)).bind fun ab => m_learn_Fit_L1 N aa ad ac N 0 ab.1 ab.2.1 ab.2.2.1 ab.2.2.2.1 ab.2.2.2.2))
theorem c_learn_Fit (N : Nat) (c1 : Nat) (c2 : Nat) (c3 : Nat) (c4 : Nat) (col : Col) (w0 : World) (a4 : Option Addr) (a5 : Nat) (a2 : Option Addr) (a6 : Nat) (bh : Option Addr) (bi : Nat) (bj : Option Addr) (bk : Nat) (aa : (ByteArray × (List ByteArray) × (List (List ByteArray)) × (List (List Int)) × (List (List ((Bool × (List Int)) × (List Int)))))) (a1 : Option Addr) (cap1 : Nat) (bn : (List (List Int))) (bp : Option Addr) (bq : Nat) (br : Option Addr) (bs : Nat) (ah : ((Bool × (List Int)) × (List Int))) (ae : Sl Rep.str col w0 a4 a5 aa.2.1) (ac : Sl (Rep.slice Rep.str) col w0 a2 a6 aa.2.2.1) (af : Sl (Rep.slice (Rep.int .i64)) col w0 bh bi aa.2.2.2.1) (ag : Sl (Rep.slice (Rep.pair (Rep.pair Rep.bool (Rep.slice (Rep.int .u32))) (Rep.slice (Rep.int .u32)))) col w0 bj bk aa.2.2.2.2) (h1 : Sl (Rep.slice (Rep.int .i64)) col w0 a1 cap1 bn) (aj : Sl (Rep.int .u32) col w0 bp bq ah.1.2) (ak : Sl (Rep.int .u32) col w0 br bs ah.2) (r : ((ByteArray × (List ByteArray) × (List (List ByteArray)) × (List (List Int)) × (List (List ((Bool × (List Int)) × (List Int))))) × Int)) (hm : m_learn_Fit N aa bn ah = some r) :
    Calls Tryz.prog 8 #[(.agg #[(.string aa.1), (.slice a4 aa.2.1.length a5), (.slice a2 aa.2.2.1.length a6), (.slice bh aa.2.2.2.1.length bi), (.slice bj aa.2.2.2.2.length bk)]), (.slice a1 bn.length cap1), (.agg #[(.bool ah.1.1), (.slice bp ah.1.2.length bq), (.slice br ah.2.length bs)])] w0 (fun e w' => ∃ (col' : Col) (ra1 : Option Addr) (rc2 : Nat) (ra4 : Option Addr) (rc5 : Nat) (ra7 : Option Addr) (rc8 : Nat) (ra10 : Option Addr) (rc11 : Nat), e = .returned (.tuple #[(.agg #[(.string r.1.1), (.slice ra1 r.1.2.1.length rc2), (.slice ra4 r.1.2.2.1.length rc5), (.slice ra7 r.1.2.2.2.1.length rc8), (.slice ra10 r.1.2.2.2.2.length rc11)]), (.int .i64 r.2)]) ∧ Grow col w0 col' w' ∧ Own Rep.str 9 c1 col' w' ra1 rc2 r.1.2.1 ∧ Own (Rep.row 9 Rep.str) 23 c2 col' w' ra4 rc5 r.1.2.2.1 ∧ Own (Rep.row 3 (Rep.int .i64)) 33 c3 col' w' ra7 rc8 r.1.2.2.2.1 ∧ Own (Rep.row 40 (Rep.pair (Rep.pair Rep.bool (Rep.row 114 (Rep.int .u32))) (Rep.row 114 (Rep.int .u32)))) 51 c4 col' w' ra10 rc11 r.1.2.2.2.2) := by
 refine calls_ofR (m := 71) (args := [(.agg #[(.string aa.1), (.slice a4 aa.2.1.length a5), (.slice a2 aa.2.2.1.length a6), (.slice bh aa.2.2.2.1.length bi), (.slice bj aa.2.2.2.2.length bk)]), (.slice a1 bn.length cap1), (.agg #[(.bool ah.1.1), (.slice bp ah.1.2.length bq), (.slice br ah.2.length bs)])]) Tryz.func8 rfl rfl rfl ?_
 rw [m_learn_Fit.eq_1] at hm
 have hst := St.start col w0
 refine wS <| wR ?_
 refine l_box (col := (col0 col)) (v := (.agg #[(.string aa.1), (.slice a4 aa.2.1.length a5), (.slice a2 aa.2.2.1.length a6), (.slice bh aa.2.2.2.1.length bi), (.slice bj aa.2.2.2.2.length bk)])) 1 rfl rfl ?_
 intro ck el d1 ce ab
 replace ab : Box 28 1 d1 el ck #[(.string aa.1), (.slice a4 aa.2.1.length a5), (.slice a2 aa.2.2.1.length a6), (.slice bh aa.2.2.2.1.length bi), (.slice bj aa.2.2.2.2.length bk)] := ab
 refine l_box (col := d1) (v := (.agg #[(.bool ah.1.1), (.slice bp ah.1.2.length bq), (.slice br ah.2.length bs)])) 2 rfl rfl ?_
 intro cu em d2 ca ai
 replace ai : Box 40 2 d2 em cu #[(.bool ah.1.1), (.slice bp ah.1.2.length bq), (.slice br ah.2.length bs)] := ai
 refine l_alloc (col := d2) (v := (.agg #[(.string (⟨#[]⟩)), (.slice none (([] : List ByteArray).length) 0), (.slice none (([] : List (List ByteArray)).length) 0), (.slice none (([] : List (List Int)).length) 0), (.slice none (([] : List (List ((Bool × (List Int)) × (List Int)))).length) 0)])) 3 rfl Tryz.zeroValue28 ?_
 intro cf d3 b0 b9 ad
 replace ad : Box 28 3 b0 d3 cf #[(.string (⟨#[]⟩)), (.slice none (([] : List ByteArray).length) 0), (.slice none (([] : List (List ByteArray)).length) 0), (.slice none (([] : List (List Int)).length) 0), (.slice none (([] : List (List ((Bool × (List Int)) × (List Int)))).length) 0)] := ad
 refine lA (.int .i64 0) <| lN <| wS <| wS <| wR ?_
 replace ab := (ab.gr ca).gr b9
 refine lV (.agg #[(.string aa.1), (.slice a4 aa.2.1.length a5), (.slice a2 aa.2.2.1.length a6), (.slice bh aa.2.2.2.1.length bi), (.slice bj aa.2.2.2.2.length bk)]) (r_ldN Tryz.isAgg28 Tryz.sizeOf28 rfl rfl ab.atN) <| lM (.slice a1 bn.length cap1) ?_
 obtain ⟨cg, en, hm⟩ := bS hm
 replace ae := (((ae.keep (Stay.start col w0)).gr ce).gr ca).gr b9
 replace ac := (((ac.keep (Stay.start col w0)).gr ce).gr ca).gr b9
 replace af := (((af.keep (Stay.start col w0)).gr ce).gr ca).gr b9
 replace ag := (((ag.keep (Stay.start col w0)).gr ce).gr ca).gr b9
 replace h1 := (((h1.keep (Stay.start col w0)).gr ce).gr ca).gr b9
 refine lc rfl rfl (r_call2 Tryz.call23 rfl rfl) (c_learn_wrong N b0 _ a4 a5 a2 a6 bh bi bj bk (aa.1, aa.2.1, aa.2.2.1, aa.2.2.2.1, aa.2.2.2.2) a1 cap1 bn ae ac af ag h1 cg en) ?_
 rintro _ d4 ⟨rfl, bt⟩
 refine ⟨_, rfl, ?_⟩
 replace bt : Grow b0 d3 b0 d4 := .of_below bt
 refine lA (.int .i64 cg) <| lN <| wS <| wR <| lM (.int .i64 cg) <| lV (.bool (!decide (cg = 0))) (r_neq cg 0 rfl rfl) <| lN ?_
 replace aj := ((((aj.keep (Stay.start col w0)).gr ce).gr ca).gr b9).gr bt
 replace ak := ((((ak.keep (Stay.start col w0)).gr ce).gr ca).gr b9).gr bt
 replace hst := (((hst.grow ce).grow ca).grow b9).grow bt
 replace ai := (ai.gr b9).gr bt
 replace h1 := h1.gr bt
 replace ae := ae.gr bt
 replace ac := ac.gr bt
 replace af := af.gr bt
 replace ag := ag.gr bt
 replace ab := ab.gr bt
 replace ad := ad.gr bt
 refine wcond (!decide (cg = 0)) rfl (fun hb => ?_) (fun hb => ?_)
 ·rw [if_pos hb] at hm
  clear hb
  refine wS <| wR <| lV (.agg #[(.string (⟨#[]⟩)), (.slice none (([] : List ByteArray).length) 0), (.slice none (([] : List (List ByteArray)).length) 0), (.slice none (([] : List (List Int)).length) 0), (.slice none (([] : List (List ((Bool × (List Int)) × (List Int)))).length) 0)]) (r_build (l := [_, _, _, _, _]) (qs := [(0, 1), (1, 1), (2, 1), (3, 1), (4, 1)]) Tryz.underlying28 Tryz.zeroValue28 ⟨rfl, Tryz.sizeOf9, rfl, Tryz.sizeOf23, rfl, Tryz.sizeOf24, rfl, Tryz.sizeOf25, rfl, Tryz.sizeOf26, trivial⟩ rfl) <| lM (.int .i64 cg) ?_
  refine l_bstore (v := (.agg #[(.string (⟨#[]⟩)), (.slice none (([] : List ByteArray).length) 0), (.slice none (([] : List (List ByteArray)).length) 0), (.slice none (([] : List (List Int)).length) 0), (.slice none (([] : List (List ((Bool × (List Int)) × (List Int)))).length) 0)])) ad Tryz.sizeOf28 rfl rfl (by intro u hu; simp only [Value.cells, List.mem_cons, List.not_mem_nil, or_false] at hu; rcases hu with rfl | rfl | rfl | rfl | rfl <;> rfl) rfl rfl ?_
  intro eo ep eq df
  clear ad
  replace df : Box 28 3 b0 eo cf #[(.string (⟨#[]⟩)), (.slice none (([] : List ByteArray).length) 0), (.slice none (([] : List (List ByteArray)).length) 0), (.slice none (([] : List (List Int)).length) 0), (.slice none (([] : List (List ((Bool × (List Int)) × (List Int)))).length) 0)] := df
  refine lA (.int .i64 cg) <| lN ?_
  refine wret ?_
  cases hm
  replace hst := hst.kp ep eq
  exact ⟨rfl, _, res_at rfl rfl Tryz.isAgg28 Tryz.sizeOf28 rfl rfl df.atN rfl rfl, colF w0.heap.size col b0 (fun n => 0), none, 0, none, 0, none, 0, none, 0, rfl, hst.fin (fun n => 0), Own.nil, Own.nil, Own.nil, Own.nil⟩
 rw [if_neg (by rw [hb]; decide)] at hm
 clear hb
 refine wK <| wS <| wS <| wR <| lV (.agg #[(.bool ah.1.1), (.slice bp ah.1.2.length bq), (.slice br ah.2.length bs)]) (r_ldN Tryz.isAgg40 Tryz.sizeOf40 rfl rfl ai.atN) ?_
 obtain ⟨c8, er, hm⟩ := bS hm
 refine lc rfl rfl (r_call1 Tryz.call24 rfl) (c_frac_Sign N b0 _ bp bq br bs ((ah.1.1, ah.1.2), ah.2) aj ak c8 er) ?_
 rintro _ es ⟨rfl, bu⟩
 refine ⟨_, rfl, ?_⟩
 replace bu : Grow b0 d4 b0 es := .of_below bu
 refine lV (.bool (decide (c8 < 0))) (r_lss c8 0 rfl rfl) <| lN ?_
 replace h1 := h1.gr bu
 replace ae := ae.gr bu
 replace ac := ac.gr bu
 replace af := af.gr bu
 replace ag := ag.gr bu
 replace aj := aj.gr bu
 replace ak := ak.gr bu
 replace ab := ab.gr bu
 replace ai := ai.gr bu
 replace ad := ad.gr bu
 replace hst := hst.grow bu
 refine wcond (decide (c8 < 0)) rfl (fun hb => ?_) (fun hb => ?_)
 ·rw [if_pos hb] at hm
  clear hb
  refine wS <| wR <| lV (.agg #[(.string (⟨#[]⟩)), (.slice none (([] : List ByteArray).length) 0), (.slice none (([] : List (List ByteArray)).length) 0), (.slice none (([] : List (List Int)).length) 0), (.slice none (([] : List (List ((Bool × (List Int)) × (List Int)))).length) 0)]) (r_build (l := [_, _, _, _, _]) (qs := [(0, 1), (1, 1), (2, 1), (3, 1), (4, 1)]) Tryz.underlying28 Tryz.zeroValue28 ⟨rfl, Tryz.sizeOf9, rfl, Tryz.sizeOf23, rfl, Tryz.sizeOf24, rfl, Tryz.sizeOf25, rfl, Tryz.sizeOf26, trivial⟩ rfl) ?_
  refine l_bstore (v := (.agg #[(.string (⟨#[]⟩)), (.slice none (([] : List ByteArray).length) 0), (.slice none (([] : List (List ByteArray)).length) 0), (.slice none (([] : List (List Int)).length) 0), (.slice none (([] : List (List ((Bool × (List Int)) × (List Int)))).length) 0)])) ad Tryz.sizeOf28 rfl rfl (by intro u hu; simp only [Value.cells, List.mem_cons, List.not_mem_nil, or_false] at hu; rcases hu with rfl | rfl | rfl | rfl | rfl <;> rfl) rfl rfl ?_
  intro et eu ev dg
  clear ad
  replace dg : Box 28 3 b0 et cf #[(.string (⟨#[]⟩)), (.slice none (([] : List ByteArray).length) 0), (.slice none (([] : List (List ByteArray)).length) 0), (.slice none (([] : List (List Int)).length) 0), (.slice none (([] : List (List ((Bool × (List Int)) × (List Int)))).length) 0)] := dg
  refine lA (.int .i64 3) <| lN ?_
  refine wret ?_
  cases hm
  replace hst := hst.kp eu ev
  exact ⟨rfl, _, res_at rfl rfl Tryz.isAgg28 Tryz.sizeOf28 rfl rfl dg.atN rfl rfl, colF w0.heap.size col b0 (fun n => 0), none, 0, none, 0, none, 0, none, 0, rfl, hst.fin (fun n => 0), Own.nil, Own.nil, Own.nil, Own.nil⟩
 rw [if_neg (by rw [hb]; decide)] at hm
 clear hb
 refine wK <| wS <| wR <| lV (.agg #[(.string aa.1), (.slice a4 aa.2.1.length a5), (.slice a2 aa.2.2.1.length a6), (.slice bh aa.2.2.2.1.length bi), (.slice bj aa.2.2.2.2.length bk)]) (r_ldN Tryz.isAgg28 Tryz.sizeOf28 rfl rfl ab.atN) ?_
 obtain ⟨bc, ew, hm⟩ := bS hm
 refine lc rfl rfl (r_call1 Tryz.call25 rfl) (c_learn_copied N 4 5 6 7 b0 _ a4 a5 a2 a6 bh bi bj bk (aa.1, aa.2.1, aa.2.2.1, aa.2.2.2.1, aa.2.2.2.2) ae ac af ag bc ew) ?_
 rintro _ fq ⟨ey, dh, di, dj, dk, dl, dm, dn, dp, rfl, b7, dq, dr, ds, dt⟩
 refine ⟨_, rfl, ?_⟩
 refine l_alloc (col := ey) (v := (.agg #[(.string (⟨#[]⟩)), (.slice none (([] : List ByteArray).length) 0), (.slice none (([] : List (List ByteArray)).length) 0), (.slice none (([] : List (List Int)).length) 0), (.slice none (([] : List (List ((Bool × (List Int)) × (List Int)))).length) 0)])) 8 rfl Tryz.zeroValue28 ?_
 intro cb ez du bl c9
 replace c9 : Box 28 8 du ez cb #[(.string (⟨#[]⟩)), (.slice none (([] : List ByteArray).length) 0), (.slice none (([] : List (List ByteArray)).length) 0), (.slice none (([] : List (List Int)).length) 0), (.slice none (([] : List (List ((Bool × (List Int)) × (List Int)))).length) 0)] := c9
 refine l_bstore (v := (.agg #[(.string bc.1), (.slice dh bc.2.1.length di), (.slice dj bc.2.2.1.length dk), (.slice dl bc.2.2.2.1.length dm), (.slice dn bc.2.2.2.2.length dp)])) c9 Tryz.sizeOf28 rfl rfl (by intro u hu; simp only [Value.cells, List.mem_cons, List.not_mem_nil, or_false] at hu; rcases hu with rfl | rfl | rfl | rfl | rfl <;> rfl) rfl rfl ?_
 intro e0 bm e1 al
 clear c9
 replace al : Box 28 8 du e0 cb #[(.string bc.1), (.slice dh bc.2.1.length di), (.slice dj bc.2.2.1.length dk), (.slice dl bc.2.2.2.1.length dm), (.slice dn bc.2.2.2.2.length dp)] := al
 refine lN <| wS <| wS <| wR <| lV (.pointer ((some (⟨ck, 0, none⟩ : Addr)).map (·.add 1))) (rF (sz := 1) (off := 1) Tryz.underlying28 rfl Tryz.sizeOf23 (by decide) rfl rfl ⟨_, _, rfl⟩) ?_
 replace ab := ((ab.gr b7).gr bl).kp bm
 refine lV (.slice a4 aa.2.1.length a5) (r_ld Tryz.isAgg23 rfl ((ab.atN).nth (q := 1) (v := (.slice a4 aa.2.1.length a5)) rfl)) <| lV (.int .i64 (aa.2.1.length : Int)) (r_len Tryz.underlying23 rfl) <| lM (.int .i64 0) <| lN <| wB ?_
 replace h1 := ((h1.gr b7).gr bl).kp bm
 replace ae := ((ae.gr b7).gr bl).kp bm
 replace ac := ((ac.gr b7).gr bl).kp bm
 replace af := ((af.gr b7).gr bl).kp bm
 replace ag := ((ag.gr b7).gr bl).kp bm
 replace aj := ((aj.gr b7).gr bl).kp bm
 replace ak := ((ak.gr b7).gr bl).kp bm
 replace ai := ((ai.gr b7).gr bl).kp bm
 replace ad := ((ad.gr b7).gr bl).kp bm
 replace hst := ((hst.grow b7).grow bl).kp bm e1
 replace dq := (dq.gr bl).kp bm
 replace dr := (dr.gr bl).kp bm
 replace ds := (ds.gr bl).kp bm
 replace dt := (dt.gr bl).kp bm
 refine wloop (fun n f a7 => ∃ (ax : Col) (ap : Int) (b8 : ByteArray) (b1 : Option Addr) (b2 : Nat) (bv : List ByteArray) (b3 : Option Addr) (b4 : Nat) (bw : List (List ByteArray)) (b5 : Option Addr) (b6 : Nat) (bx : List (List Int)) (a8 : Option Addr) (bd : Nat) (ay : List (List ((Bool × (List Int)) × (List Int)))) (ch : Nat), ch = n ∧ m_learn_Fit_L1 N aa bn ah ch ap b8 bv bw bx ay = some r ∧ St w0 (col0 col) ax a7 ∧ Sl (Rep.slice (Rep.int .i64)) ax a7 a1 cap1 bn ∧ Sl Rep.str ax a7 a4 a5 aa.2.1 ∧ Sl (Rep.slice Rep.str) ax a7 a2 a6 aa.2.2.1 ∧ Sl (Rep.slice (Rep.int .i64)) ax a7 bh bi aa.2.2.2.1 ∧ Sl (Rep.slice (Rep.pair (Rep.pair Rep.bool (Rep.slice (Rep.int .u32))) (Rep.slice (Rep.int .u32)))) ax a7 bj bk aa.2.2.2.2 ∧ Box 28 1 ax a7 ck #[(.string aa.1), (.slice a4 aa.2.1.length a5), (.slice a2 aa.2.2.1.length a6), (.slice bh aa.2.2.2.1.length bi), (.slice bj aa.2.2.2.2.length bk)] ∧ Sl (Rep.int .u32) ax a7 bp bq ah.1.2 ∧ Sl (Rep.int .u32) ax a7 br bs ah.2 ∧ Box 40 2 ax a7 cu #[(.bool ah.1.1), (.slice bp ah.1.2.length bq), (.slice br ah.2.length bs)] ∧ Box 28 3 ax a7 cf #[(.string (⟨#[]⟩)), (.slice none (([] : List ByteArray).length) 0), (.slice none (([] : List (List ByteArray)).length) 0), (.slice none (([] : List (List Int)).length) 0), (.slice none (([] : List (List ((Bool × (List Int)) × (List Int)))).length) 0)] ∧ Own Rep.str 9 4 ax a7 b1 b2 bv ∧ Own (Rep.row 9 Rep.str) 23 5 ax a7 b3 b4 bw ∧ Own (Rep.row 3 (Rep.int .i64)) 33 6 ax a7 b5 b6 bx ∧ Own (Rep.row 40 (Rep.pair (Rep.pair Rep.bool (Rep.row 114 (Rep.int .u32))) (Rep.row 114 (Rep.int .u32)))) 51 7 ax a7 a8 bd ay ∧ Box 28 8 ax a7 cb #[(.string b8), (.slice b1 bv.length b2), (.slice b3 bw.length b4), (.slice b5 bx.length b6), (.slice a8 ay.length bd)] ∧ f 1 = (.slice a1 bn.length cap1) ∧ f 3 = (.pointer (some ⟨ck, 0, none⟩)) ∧ f 31 = (.int .i64 (aa.2.1.length : Int)) ∧ f 32 = (.int .i64 ap) ∧ f 5 = (.pointer (some ⟨cu, 0, none⟩)) ∧ f 6 = (.pointer (some ⟨cf, 0, none⟩)) ∧ f 9 = (.pointer (some ⟨cb, 0, none⟩)) ∧ f 1000000 = (enc [])) N ⟨du, 0, bc.1, dh, di, bc.2.1, dj, dk, bc.2.2.1, dl, dm, bc.2.2.2.1, dn, dp, bc.2.2.2.2, N, rfl, hm, hst, h1, ae, ac, af, ag, ab, aj, ak, ai, ad, dq, dr, ds, dt, al, rfl, rfl, rfl, rfl, rfl, rfl, rfl, rfl⟩ ?_
 clear hm; intro n f a7 hI
 obtain ⟨ax, ap, b8, b1, b2, bv, b3, b4, bw, b5, b6, bx, a8, bd, ay, ch, hn, hm, hst, h1, ae, ac, af, ag, ab, aj, ak, ai, ad, am, an, ao, ar, al, hs1, hs3, hs31, hs32, hs5, hs6, hs9, hs1000000⟩ := hI
 subst hn
 refine .lD 1 hs1 <| .lD 3 hs3 <| .lD 31 hs31 <| .lD 32 hs32 <| .lD 5 hs5 <| .lD 6 hs6 <| .lD 9 hs9 <| .lD 1000000 hs1000000 ?_
 clear hs1 hs3 hs31 hs32 hs5 hs6 hs9 hs1000000
 cases ch with
 | zero => rw [m_learn_Fit_L1.eq_1] at hm; cases hm
 | succ ch =>
  rw [m_learn_Fit_L1.eq_2] at hm
  refine wS <| wR <| lV (.bool (decide (ap < (aa.2.1.length : Int)))) (r_lss ap (aa.2.1.length : Int) rfl rfl) <| lN <| wS ?_
  refine wcond (decide (ap < (aa.2.1.length : Int))) rfl (fun hb => ?_) (fun hb => ?_)
  ·rw [if_pos hb] at hm
   clear hb
   refine wK <| wS <| wB <| wS <| wR <| lM (.int .i64 ap) <| lA (.int .i64 ap) <| lN <| wS <| wR <| lV (.agg #[(.string aa.1), (.slice a4 aa.2.1.length a5), (.slice a2 aa.2.2.1.length a6), (.slice bh aa.2.2.2.1.length bi), (.slice bj aa.2.2.2.2.length bk)]) (r_ldN Tryz.isAgg28 Tryz.sizeOf28 rfl rfl ab.atN) <| lM (.slice a1 bn.length cap1) <| lM (.int .i64 ap) ?_
   obtain ⟨aw, e2, hm⟩ := bS hm
   refine lc rfl rfl (r_call3 Tryz.call26 rfl rfl rfl) (c_data_Count N 9 ax _ a4 a5 a2 a6 bh bi bj bk (aa.1, aa.2.1, aa.2.2.1, aa.2.2.2.1, aa.2.2.2.2) a1 cap1 bn ap ae ac af ag h1 aw e2) ?_
   rintro _ fr ⟨e3, cl, cn, rfl, be, a3⟩
   refine ⟨_, rfl, ?_⟩
   refine lM (.tuple #[(.slice cl aw.1.length cn), (.int .i64 aw.2)]) <| lV (.slice cl aw.1.length cn) (r_extract rfl rfl) <| lV (.int .i64 aw.2) (r_extract rfl rfl) <| lA (.slice cl aw.1.length cn) <| lA (.int .i64 aw.2) <| lN <| wS <| wR <| lA (.slice none (([] : List ((Bool × (List Int)) × (List Int))).length) 0) <| lN <| wS <| wS <| wR <| lM (.slice cl aw.1.length cn) <| lV (.int .i64 (aw.1.length : Int)) (r_len Tryz.underlying33 rfl) <| lM (.int .i64 0) <| lN <| wB ?_
   replace h1 := h1.gr be
   replace ae := ae.gr be
   replace ac := ac.gr be
   replace af := af.gr be
   replace ag := ag.gr be
   replace aj := aj.gr be
   replace ak := ak.gr be
   replace am := am.gr be
   replace an := an.gr be
   replace ao := ao.gr be
   replace ar := ar.gr be
   replace ab := ab.gr be
   replace ai := ai.gr be
   replace ad := ad.gr be
   replace al := al.gr be
   replace hst := hst.grow be
   refine wloop (fun n f av => ∃ (aq : Col) (co : Option Addr) (cp : Nat) (cc : List ((Bool × (List Int)) × (List Int))) (bo : Nat) (cv : List Int), n = cv.length ∧ aw.1.drop bo = cv ∧ m_learn_Fit_L2 N aa ah ap b8 bv bw bx ay (m_learn_Fit_L1 N aa bn ah ch) cv cc = some r ∧ St w0 (col0 col) aq av ∧ Sl (Rep.slice (Rep.int .i64)) aq av a1 cap1 bn ∧ Own (Rep.pair (Rep.pair Rep.bool (Rep.row 114 (Rep.int .u32))) (Rep.row 114 (Rep.int .u32))) 40 10 aq av co cp cc ∧ Sl Rep.str aq av a4 a5 aa.2.1 ∧ Sl (Rep.slice Rep.str) aq av a2 a6 aa.2.2.1 ∧ Sl (Rep.slice (Rep.int .i64)) aq av bh bi aa.2.2.2.1 ∧ Sl (Rep.slice (Rep.pair (Rep.pair Rep.bool (Rep.slice (Rep.int .u32))) (Rep.slice (Rep.int .u32)))) aq av bj bk aa.2.2.2.2 ∧ Box 28 1 aq av ck #[(.string aa.1), (.slice a4 aa.2.1.length a5), (.slice a2 aa.2.2.1.length a6), (.slice bh aa.2.2.2.1.length bi), (.slice bj aa.2.2.2.2.length bk)] ∧ Own (Rep.int .i64) 3 9 aq av cl cn aw.1 ∧ Sl (Rep.int .u32) aq av bp bq ah.1.2 ∧ Sl (Rep.int .u32) aq av br bs ah.2 ∧ Box 40 2 aq av cu #[(.bool ah.1.1), (.slice bp ah.1.2.length bq), (.slice br ah.2.length bs)] ∧ Box 28 3 aq av cf #[(.string (⟨#[]⟩)), (.slice none (([] : List ByteArray).length) 0), (.slice none (([] : List (List ByteArray)).length) 0), (.slice none (([] : List (List Int)).length) 0), (.slice none (([] : List (List ((Bool × (List Int)) × (List Int)))).length) 0)] ∧ Own Rep.str 9 4 aq av b1 b2 bv ∧ Own (Rep.row 9 Rep.str) 23 5 aq av b3 b4 bw ∧ Own (Rep.row 3 (Rep.int .i64)) 33 6 aq av b5 b6 bx ∧ Own (Rep.row 40 (Rep.pair (Rep.pair Rep.bool (Rep.row 114 (Rep.int .u32))) (Rep.row 114 (Rep.int .u32)))) 51 7 aq av a8 bd ay ∧ Box 28 8 aq av cb #[(.string b8), (.slice b1 bv.length b2), (.slice b3 bw.length b4), (.slice b5 bx.length b6), (.slice a8 ay.length bd)] ∧ f 44 = (.int .i64 (bo : Int)) ∧ f 1 = (.slice a1 bn.length cap1) ∧ f 10 = (.int .i64 ap) ∧ f 13 = (.slice co cc.length cp) ∧ f 3 = (.pointer (some ⟨ck, 0, none⟩)) ∧ f 31 = (.int .i64 (aa.2.1.length : Int)) ∧ f 32 = (.int .i64 ap) ∧ f 42 = (.slice cl aw.1.length cn) ∧ f 43 = (.int .i64 (aw.1.length : Int)) ∧ f 5 = (.pointer (some ⟨cu, 0, none⟩)) ∧ f 6 = (.pointer (some ⟨cf, 0, none⟩)) ∧ f 9 = (.pointer (some ⟨cb, 0, none⟩)) ∧ f 1000000 = (enc [])) aw.1.length ⟨e3, none, 0, ([] : List ((Bool × (List Int)) × (List Int))), 0, aw.1, rfl, rfl, hm, hst, h1, Own.nil, ae, ac, af, ag, ab, a3, aj, ak, ai, ad, am, an, ao, ar, al, rfl, rfl, rfl, rfl, rfl, rfl, rfl, rfl, rfl, rfl, rfl, rfl, rfl⟩ ?_
   clear hm; intro n f av hI
   obtain ⟨aq, co, cp, cc, bo, cv, hn, hl, hm, hst, h1, a9, ae, ac, af, ag, ab, a3, aj, ak, ai, ad, am, an, ao, ar, al, hs44, hs1, hs10, hs13, hs3, hs31, hs32, hs42, hs43, hs5, hs6, hs9, hs1000000⟩ := hI
   subst hn
   refine .lD 44 hs44 <| .lD 1 hs1 <| .lD 10 hs10 <| .lD 13 hs13 <| .lD 3 hs3 <| .lD 31 hs31 <| .lD 32 hs32 <| .lD 42 hs42 <| .lD 43 hs43 <| .lD 5 hs5 <| .lD 6 hs6 <| .lD 9 hs9 <| .lD 1000000 hs1000000 ?_
   clear hs44 hs1 hs10 hs13 hs3 hs31 hs32 hs42 hs43 hs5 hs6 hs9 hs1000000
   cases cv with
   | nil =>
    have hk : ¬ ((bo : Int) < (aw.1.length : Int)) := by have := List.drop_eq_nil_iff.1 hl; omega
    have hkb := decide_eq_false hk
    rw [m_learn_Fit_L2.eq_1] at hm
    refine wS <| wR <| lV (.bool (decide ((bo : Int) < (aw.1.length : Int)))) (r_lss (bo : Int) (aw.1.length : Int) rfl rfl) <| lN <| wS ?_
    refine wcondF (congrArg Value.bool hkb) ?_
    refine wexit (inB_hit ?_)
    refine wmix (col := aq) [(0, 1), (1, 0), (2, 1), (3, 1), (4, 0), (5, 1), (6, 1), (7, 0), (8, 1), (9, 1), (10, 0), (11, 1), (12, 2)] (by kernel_rfl) (by kernel_rfl) ?_
    refine xu (v := (.pointer ((some (⟨cb, 0, none⟩ : Addr)).map (·.add 4)))) rfl rfl (fun _ => rF (sz := 1) (off := 4) Tryz.underlying28 rfl Tryz.sizeOf26 (by decide) rfl rfl ⟨_, _, rfl⟩) ?_
    refine xv (v := (.slice a8 ay.length bd)) rfl rfl (fun _ hC => r_ld Tryz.isAgg26 rfl (((al.atN).nth (q := 4) (v := (.slice a8 ay.length bd)) rfl).gr (Grow.of_below (col := aq) hC.below))) ?_
    refine xu (v := (.int .i64 ap)) rfl rfl (fun _ => r_move rfl) ?_
    obtain ⟨cw, da, hm⟩ := bS hm
    refine xu (v := (sptr a8 (Int.toNat ap * 1))) rfl rfl (fun _ => r_idx Tryz.underlying26 Tryz.sizeOf51 rfl rfl (at?_some da).1 (at?_some da).2.1 (ar.addr da)) ?_
    obtain ⟨_, cm, bf, bz, e4⟩ := ar.open_ 11 (by decide) da
    obtain ⟨cq, cr, rfl, ct⟩ := e4.row
    clear ar
    replace bz : Hole (Rep.row 40 (Rep.pair (Rep.pair Rep.bool (Rep.row 114 (Rep.int .u32))) (Rep.row 114 (Rep.int .u32)))) 51 7 cm av a8 bd ay (Int.toNat ap) [(.slice cq cw.length cr)] := bz
    refine xv (v := (.slice cq cw.length cr)) rfl rfl (fun _ hC => r_ld Tryz.isAgg51 rfl (bz.atN.one.gr (Grow.of_below (col := cm) hC.below))) ?_
    refine xu (v := (.slice co cc.length cp)) rfl rfl (fun _ => r_move rfl) ?_
    refine xu (v := (.pointer ((some (⟨ck, 0, none⟩ : Addr)).map (·.add 2)))) rfl rfl (fun _ => rF (sz := 1) (off := 2) Tryz.underlying28 rfl Tryz.sizeOf24 (by decide) rfl rfl ⟨_, _, rfl⟩) ?_
    replace ab := ab.kpp bf
    refine xv (v := (.slice a2 aa.2.2.1.length a6)) rfl rfl (fun _ hC => r_ld Tryz.isAgg24 rfl (((ab.atN).nth (q := 2) (v := (.slice a2 aa.2.2.1.length a6)) rfl).gr (Grow.of_below (col := cm) hC.below))) ?_
    refine xu (v := (.int .i64 ap)) rfl rfl (fun _ => r_move rfl) ?_
    obtain ⟨dv, db, hm⟩ := bS hm
    replace ac := ac.kpp bf
    refine xu (v := (sptr a2 (Int.toNat ap * 1))) rfl rfl (fun _ => r_idx Tryz.underlying24 Tryz.sizeOf23 rfl rfl (at?_some db).1 (at?_some db).2.1 (ac.addr db)) ?_
    obtain ⟨_, e5, e6⟩ := ac.atN db
    obtain ⟨⟨e7, e8, rfl, fs⟩, _⟩ := e5
    refine xv (v := (.slice e7 dv.length e8)) rfl rfl (fun _ hC => r_ld Tryz.isAgg23 rfl (e6.one.gr (Grow.of_below (col := cm) hC.below))) ?_
    refine xu (v := (.int .i64 (dv.length : Int))) rfl rfl (fun _ => r_len Tryz.underlying23 rfl) ?_
    refine xe rfl rfl ?_
    intro e9 hC0
    have hC : Grow cm av cm e9 := .of_below hC0.below
    replace h1 := (h1.kpp bf).gr hC
    replace h1 := h1.froz 10
    replace ae := (ae.kpp bf).gr hC
    replace ae := ae.froz 10
    replace ac := ac.gr hC
    replace ac := ac.froz 10
    replace af := (af.kpp bf).gr hC
    replace af := af.froz 10
    replace ag := (ag.kpp bf).gr hC
    replace ag := ag.froz 10
    replace aj := (aj.kpp bf).gr hC
    replace aj := aj.froz 10
    replace ak := (ak.kpp bf).gr hC
    replace ak := ak.froz 10
    replace am := (am.kpp bf).gr hC
    replace am := am.froz 10 (by decide)
    replace an := (an.kpp bf).gr hC
    replace an := an.froz 10 (by decide)
    replace ao := (ao.kpp bf).gr hC
    replace ao := ao.froz 10 (by decide)
    replace bz := bz.gr hC
    replace bz := bz.froz 10 (by decide)
    replace ct := ct.gr hC
    replace ct := ct.froz 10 (by decide)
    replace a9 := (a9.kpp bf).gr hC
    replace a9 := (a9).toSlF (Froz.pair (Froz.pair Froz.bool (Froz.row (Froz.int .u32))) (Froz.row (Froz.int .u32)))
    replace ab := ab.gr hC
    replace ab := ab.froz 10 (by decide)
    replace ai := (ai.kpp bf).gr hC
    replace ai := ai.froz 10 (by decide)
    replace ad := (ad.kpp bf).gr hC
    replace ad := ad.froz 10 (by decide)
    replace al := (al.kpp bf).gr hC
    replace al := al.froz 10 (by decide)
    replace hst := (hst.kpp bf).grow hC
    replace hst := hst.froz 10 (by decide) (by decide)
    obtain ⟨ci, fa, hm⟩ := bS hm
    refine lc rfl rfl (r_call3 Tryz.call29 rfl rfl rfl) (c_learn_shares N (frC 10 cm) _ 11 rfl cq cr cw co cp cc (dv.length : Int) ct a9 ci fa) ?_
    rintro _ cx ⟨cj, rfl, bg, fb, d5⟩
    refine ⟨_, rfl, ?_⟩
    clear ct
    refine .ld (d := 60) (v := (.slice cq ci.length cr)) (congrArg (fun n => Value.slice cq n cr) (show cw.length = ci.length from d5.symm)) ?_
    replace al := al.kpp bg
    replace al : Box 28 8 cj cx cb #[(.string b8), (.slice b1 bv.length b2), (.slice b3 bw.length b4), (.slice b5 bx.length b6), (.slice a8 ay.length bd)] := by rw []; exact al
    replace bz := bz.kpp bg
    replace bz : Hole (Rep.row 40 (Rep.pair (Rep.pair Rep.bool (Rep.row 114 (Rep.int .u32))) (Rep.row 114 (Rep.int .u32)))) 51 7 cj cx a8 bd ay (Int.toNat ap) [(.slice cq ci.length cr)] := by rw [← (show cw.length = ci.length from d5.symm)]; exact bz
    refine lN ⟨fun w' => Grow cj cx cj w', Grow.refl _ _, fun h => absurd h (by decide), ?_⟩
    have dw := bz.close fb.has (by decide) (by decide)
    replace h1 := h1.kpp bg
    replace h1 := h1.recol 11 7 (by decide)
    replace ae := ae.kpp bg
    replace ae := ae.recol 11 7 (by decide)
    replace ac := ac.kpp bg
    replace ac := ac.recol 11 7 (by decide)
    replace af := af.kpp bg
    replace af := af.recol 11 7 (by decide)
    replace ag := ag.kpp bg
    replace ag := ag.recol 11 7 (by decide)
    replace aj := aj.kpp bg
    replace aj := aj.recol 11 7 (by decide)
    replace ak := ak.kpp bg
    replace ak := ak.recol 11 7 (by decide)
    replace am := am.kpp bg
    replace am := am.recol 11 7 (by decide)
    replace an := an.kpp bg
    replace an := an.recol 11 7 (by decide)
    replace ao := ao.kpp bg
    replace ao := ao.recol 11 7 (by decide)
    replace ab := ab.kpp bg
    replace ab := ab.recol 11 7 (by decide)
    replace ai := ai.kpp bg
    replace ai := ai.recol 11 7 (by decide)
    replace ad := ad.kpp bg
    replace ad := ad.recol 11 7 (by decide)
    replace al := al.recol 11 7 (by decide)
    replace hst := hst.kpp bg
    replace hst := hst.recol 11 7 (by decide) (by decide)
    clear bz
    replace al : Box 28 8 (rcC 11 7 cj) cx cb #[(.string b8), (.slice b1 bv.length b2), (.slice b3 bw.length b4), (.slice b5 bx.length b6), (.slice a8 ((ay.set (Int.toNat ap) ci).length) bd)] := by rw [← (show ay.length = (ay.set (Int.toNat ap) ci).length by simp only [List.length_set])]; exact al
    refine xnil ?_
    intro fc hC
    replace hC : Grow (rcC 11 7 cj) cx (rcC 11 7 cj) fc := .of_below hC.below
    refine wR <| lV (.int .i64 (IntKind.i64.wrap (ap + 1))) (r_add ap 1 rfl rfl) <| lM (.int .i64 (IntKind.i64.wrap (ap + 1))) <| lN ?_
    replace h1 := h1.gr hC
    replace ae := ae.gr hC
    replace ac := ac.gr hC
    replace af := af.gr hC
    replace ag := ag.gr hC
    replace aj := aj.gr hC
    replace ak := ak.gr hC
    replace am := am.gr hC
    replace an := an.gr hC
    replace ao := ao.gr hC
    replace dw := dw.gr hC
    replace ab := ab.gr hC
    replace ai := ai.gr hC
    replace ad := ad.gr hC
    replace al := al.gr hC
    replace hst := hst.grow hC
    exact ⟨ch, by omega, ⟨(rcC 11 7 cj), (IntKind.i64.wrap (ap + 1)), b8, b1, b2, bv, b3, b4, bw, b5, b6, bx, a8, bd, (ay.set (Int.toNat ap) ci), ch, rfl, hm, hst, h1, ae, ac, af, ag, ab, aj, ak, ai, ad, am, an, ao, dw, al, rfl, rfl, rfl, rfl, rfl, rfl, rfl, rfl⟩⟩
   | cons dc d6 =>
    obtain ⟨hat, hl2_L2, hlt_L2⟩ := drop_get hl
    have hk : (bo : Int) < (aw.1.length : Int) := by omega
    have hkb := decide_eq_true hk
    rw [m_learn_Fit_L2.eq_2] at hm
    refine wS <| wR <| lV (.bool (decide ((bo : Int) < (aw.1.length : Int)))) (r_lss (bo : Int) (aw.1.length : Int) rfl rfl) <| lN <| wS ?_
    refine wcondT (congrArg Value.bool hkb) ?_
    refine wK <| wS <| wB <| wS <| wR ?_
    refine lV (sptr cl (Int.toNat (bo : Int) * 1)) (r_idx Tryz.underlying33 Tryz.sizeOf3 rfl rfl (at?_some hat).1 (at?_some hat).2.1 (a3.addr hat)) ?_
    refine lV (.int .i64 dc) (r_ld Tryz.isAgg3 rfl (a3.atInt hat)) <| lA (.int .i64 dc) <| lN ?_
    refine wmix (col := aq) [(0, 1), (1, 1), (3, 0), (2, 3), (4, 3), (5, 3), (6, 2), (7, 1)] (by kernel_rfl) (by kernel_rfl) ?_
    refine xu (v := (.slice co cc.length cp)) rfl rfl (fun _ => r_move rfl) ?_
    refine xu (v := (.int .i64 dc)) rfl rfl (fun _ => r_move rfl) ?_
    refine xv (v := (.agg #[(.bool ah.1.1), (.slice bp ah.1.2.length bq), (.slice br ah.2.length bs)])) rfl rfl (fun _ hC => r_ldN Tryz.isAgg40 Tryz.sizeOf40 rfl rfl (ai.atN.gr (Grow.of_below (col := aq) hC.below))) ?_
    refine xe rfl rfl ?_
    intro fd hC0
    have hC : Grow aq av aq fd := .of_below hC0.below
    obtain ⟨dd, fe, hm⟩ := bS hm
    refine lc rfl rfl (r_call1 Tryz.call28 rfl) (c_learn_whole N 12 13 aq _ dc dd fe) ?_
    rintro _ d7 ⟨cd, ff, fg, fh, fi, rfl, az, dx, dy⟩
    refine ⟨_, rfl, ?_⟩
    refine lN ⟨fun w' => Grow cd d7 cd w', Grow.refl _ _, fun _ _ h => cls hC0 az h, ?_⟩
    refine xe rfl rfl ?_
    intro d8 hC0
    replace h1 := (h1.gr hC).gr az
    replace a9 := (a9.gr hC).gr az
    replace ae := (ae.gr hC).gr az
    replace ac := (ac.gr hC).gr az
    replace af := (af.gr hC).gr az
    replace ag := (ag.gr hC).gr az
    replace a3 := (a3.gr hC).gr az
    replace aj := (aj.gr hC).gr az
    replace ak := (ak.gr hC).gr az
    replace am := (am.gr hC).gr az
    replace an := (an.gr hC).gr az
    replace ao := (ao.gr hC).gr az
    replace ar := (ar.gr hC).gr az
    replace ab := (ab.gr hC).gr az
    replace ai := (ai.gr hC).gr az
    replace ad := (ad.gr hC).gr az
    replace al := (al.gr hC).gr az
    replace hst := (hst.grow hC).grow az
    have hC : Grow cd d7 cd d8 := .of_below hC0.below
    obtain ⟨ba, fj, hm⟩ := bS hm
    replace aj := aj.gr hC
    replace ak := ak.gr hC
    replace dx := dx.gr hC
    replace dy := dy.gr hC
    refine lc rfl rfl (r_call2 Tryz.call27 rfl rfl) (c_frac_Add N 14 15 (frC 13 (frC 12 cd)) _ ff fg fh fi ((dd.1.1, dd.1.2), dd.2) bp bq br bs ((ah.1.1, ah.1.2), ah.2) ((dx.toSlF (Froz.int .u32)).froz 13) ((dy.froz 12 (by decide)).toSlF (Froz.int .u32)) ((aj.froz 12).froz 13) ((ak.froz 12).froz 13) ba fj) ?_
    rintro _ d9 ⟨fk, ea, eb, ec, ed, rfl, au, cy, cz⟩
    refine ⟨_, rfl, ?_⟩
    replace cy := cy.thaw (flat_int .u32) au (((Fz.refl (col := cd)).froz 12).froz 13) (by decide)
    replace cz := cz.thaw (flat_int .u32) au (((Fz.refl (col := cd)).froz 12).froz 13) (by decide)
    replace au := au.thawR (col := cd)
    generalize colR d8.heap.size cd fk = c0 at *
    refine lN ⟨fun w' => Grow c0 d9 c0 w', Grow.refl _ _, fun _ _ h => cls hC0 au h, ?_⟩
    refine xe rfl rfl ?_
    intro fl hC0
    replace h1 := (h1.gr hC).gr au
    replace a9 := (a9.gr hC).gr au
    replace ae := (ae.gr hC).gr au
    replace ac := (ac.gr hC).gr au
    replace af := (af.gr hC).gr au
    replace ag := (ag.gr hC).gr au
    replace a3 := (a3.gr hC).gr au
    replace am := (am.gr hC).gr au
    replace an := (an.gr hC).gr au
    replace ao := (ao.gr hC).gr au
    replace ar := (ar.gr hC).gr au
    replace ab := (ab.gr hC).gr au
    replace ai := (ai.gr hC).gr au
    replace ad := (ad.gr hC).gr au
    replace al := (al.gr hC).gr au
    replace hst := (hst.grow hC).grow au
    have hC : Grow c0 d9 c0 fl := .of_below hC0.below
    replace cy := cy.gr hC
    replace cz := cz.gr hC
    have fm := Has.join (Has.joinL (rd_bool ba.1.1) cy.has) cz.has (by decide) (by decide)
    replace h1 := h1.gr hC
    replace h1 := h1.recol 15 14 (by decide)
    replace a9 := a9.gr hC
    replace a9 := a9.recol 15 14 (by decide)
    replace ae := ae.gr hC
    replace ae := ae.recol 15 14 (by decide)
    replace ac := ac.gr hC
    replace ac := ac.recol 15 14 (by decide)
    replace af := af.gr hC
    replace af := af.recol 15 14 (by decide)
    replace ag := ag.gr hC
    replace ag := ag.recol 15 14 (by decide)
    replace a3 := a3.gr hC
    replace a3 := a3.recol 15 14 (by decide)
    replace aj := (aj.gr au).gr hC
    replace aj := aj.recol 15 14 (by decide)
    replace ak := (ak.gr au).gr hC
    replace ak := ak.recol 15 14 (by decide)
    replace am := am.gr hC
    replace am := am.recol 15 14 (by decide)
    replace an := an.gr hC
    replace an := an.recol 15 14 (by decide)
    replace ao := ao.gr hC
    replace ao := ao.recol 15 14 (by decide)
    replace ar := ar.gr hC
    replace ar := ar.recol 15 14 (by decide)
    replace ab := ab.gr hC
    replace ab := ab.recol 15 14 (by decide)
    replace ai := ai.gr hC
    replace ai := ai.recol 15 14 (by decide)
    replace ad := ad.gr hC
    replace ad := ad.recol 15 14 (by decide)
    replace al := al.gr hC
    replace al := al.recol 15 14 (by decide)
    replace hst := hst.grow hC
    replace hst := hst.recol 15 14 (by decide) (by decide)
    refine l_lit (col := (rcC 15 14 c0)) (r := (Rep.pair (Rep.pair Rep.bool (Rep.row 114 (Rep.int .u32))) (Rep.row 114 (Rep.int .u32)))) (xs := [((ba.1.1, ba.1.2), ba.2)]) [(.agg #[(.bool ba.1.1), (.slice ea ba.1.2.length eb), (.slice ec ba.2.length ed)])] 14 rfl Tryz.underlying51 el40_8 rfl rfl rfl rfl rfl rfl (by intro v hv; simp only [List.mem_cons, List.not_mem_nil, or_false] at hv; subst hv; rfl) (RowsH.cons1 (cs := [(.bool ba.1.1), (.slice ea ba.1.2.length eb), (.slice ec ba.2.length ed)]) fm Rows.nil0) ?_
    intro ft ee c5 a0 de
    refine lN ⟨fun w' => Grow c5 ee c5 w', Grow.refl _ _, fun _ _ h => cls hC0 a0 h, ?_⟩
    refine xe rfl rfl ?_
    intro ef hC0
    have hC : Grow c5 ee c5 ef := .of_below hC0.below
    obtain ⟨eg, hm⟩ := cS hm
    replace a9 := (a9.gr a0).gr hC
    replace de := de.gr hC
    refine l_ext (col := c5) (w := ef) (r := (Rep.pair (Rep.pair Rep.bool (Rep.row 114 (Rep.int .u32))) (Rep.row 114 (Rep.int .u32)))) (c := 10) (c2 := 14) (a9.ex) (de.srcC (by decide)) rfl Tryz.underlying51 el40_8 rfl rfl rfl eg.1 eg.2 (by decide) ?_
    intro eh ei ej c6 bb ek
    clear de
    clear a9
    refine lN ⟨fun w' => Grow c6 ej c6 w', Grow.refl _ _, fun h => absurd h (by decide), ?_⟩
    refine xu (v := (.slice eh ((cc ++ [((ba.1.1, ba.1.2), ba.2)]).length) ei)) rfl rfl (fun _ => r_assign rfl) ?_
    have dz := ek.new
    clear ek
    refine xnil ?_
    replace h1 := ((h1.gr a0).gr hC).kpp bb
    replace ae := ((ae.gr a0).gr hC).kpp bb
    replace ac := ((ac.gr a0).gr hC).kpp bb
    replace af := ((af.gr a0).gr hC).kpp bb
    replace ag := ((ag.gr a0).gr hC).kpp bb
    replace a3 := ((a3.gr a0).gr hC).kpp bb
    replace aj := ((aj.gr a0).gr hC).kpp bb
    replace ak := ((ak.gr a0).gr hC).kpp bb
    replace am := ((am.gr a0).gr hC).kpp bb
    replace an := ((an.gr a0).gr hC).kpp bb
    replace ao := ((ao.gr a0).gr hC).kpp bb
    replace ar := ((ar.gr a0).gr hC).kpp bb
    replace ab := ((ab.gr a0).gr hC).kpp bb
    replace ai := ((ai.gr a0).gr hC).kpp bb
    replace ad := ((ad.gr a0).gr hC).kpp bb
    replace al := ((al.gr a0).gr hC).kpp bb
    replace hst := ((hst.grow a0).grow hC).kpp bb
    intro fn hC
    replace hC : Grow c6 ej c6 fn := .of_below hC.below
    refine wR <| lV (.int .i64 (IntKind.i64.wrap ((bo : Int) + 1))) (r_add (bo : Int) 1 rfl rfl) <| lM (.int .i64 (IntKind.i64.wrap ((bo : Int) + 1))) <| lN ?_
    replace h1 := h1.gr hC
    replace dz := dz.gr hC
    replace ae := ae.gr hC
    replace ac := ac.gr hC
    replace af := af.gr hC
    replace ag := ag.gr hC
    replace a3 := a3.gr hC
    replace aj := aj.gr hC
    replace ak := ak.gr hC
    replace am := am.gr hC
    replace an := an.gr hC
    replace ao := ao.gr hC
    replace ar := ar.gr hC
    replace ab := ab.gr hC
    replace ai := ai.gr hC
    replace ad := ad.gr hC
    replace al := al.gr hC
    replace hst := hst.grow hC
    exact ⟨d6.length, by simp, ⟨c6, eh, ei, (cc ++ [((ba.1.1, ba.1.2), ba.2)]), (bo + 1), d6, rfl, hl2_L2, hm, hst, h1, dz, ae, ac, af, ag, ab, a3, aj, ak, ai, ad, am, an, ao, ar, al, (congrArg (Value.int .i64) (wrap_succ (Nat.lt_of_lt_of_le hlt_L2 a3.len))), rfl, rfl, rfl, rfl, rfl, rfl, rfl, rfl, rfl, rfl, rfl, rfl⟩⟩
  rw [if_neg (by rw [hb]; decide)] at hm
  clear hb
  refine wexit (inB_hit ?_)
  refine wS <| wR <| lV (.agg #[(.string b8), (.slice b1 bv.length b2), (.slice b3 bw.length b4), (.slice b5 bx.length b6), (.slice a8 ay.length bd)]) (r_ldN Tryz.isAgg28 Tryz.sizeOf28 rfl rfl al.atN) ?_
  refine l_bstore (v := (.agg #[(.string b8), (.slice b1 bv.length b2), (.slice b3 bw.length b4), (.slice b5 bx.length b6), (.slice a8 ay.length bd)])) ad Tryz.sizeOf28 rfl rfl (by intro u hu; simp only [Value.cells, List.mem_cons, List.not_mem_nil, or_false] at hu; rcases hu with rfl | rfl | rfl | rfl | rfl <;> rfl) rfl rfl ?_
  intro fo c7 fp d0
  clear ad
  replace d0 : Box 28 3 ax fo cf #[(.string b8), (.slice b1 bv.length b2), (.slice b3 bw.length b4), (.slice b5 bx.length b6), (.slice a8 ay.length bd)] := d0
  refine lA (.int .i64 0) <| lN ?_
  refine wret ?_
  cases hm
  replace am := am.kp c7
  replace an := an.kp c7
  replace ao := ao.kp c7
  replace ar := ar.kp c7
  replace hst := hst.kp c7 fp
  exact ⟨rfl, _, res_at rfl rfl Tryz.isAgg28 Tryz.sizeOf28 rfl rfl d0.atN rfl rfl, colF w0.heap.size col ax (fun n => bif Nat.beq n 4 then c1 else bif Nat.beq n 5 then c2 else bif Nat.beq n 6 then c3 else bif Nat.beq n 7 then c4 else 0), b1, b2, b3, b4, b5, b6, a8, bd, rfl, hst.fin (fun n => bif Nat.beq n 4 then c1 else bif Nat.beq n 5 then c2 else bif Nat.beq n 6 then c3 else bif Nat.beq n 7 then c4 else 0), hst.finOwn (g := (fun n => bif Nat.beq n 4 then c1 else bif Nat.beq n 5 then c2 else bif Nat.beq n 6 then c3 else bif Nat.beq n 7 then c4 else 0)) rfl am (by decide) (by decide) rfl, hst.finOwn (g := (fun n => bif Nat.beq n 4 then c1 else bif Nat.beq n 5 then c2 else bif Nat.beq n 6 then c3 else bif Nat.beq n 7 then c4 else 0)) rfl an (by decide) (by decide) rfl, hst.finOwn (g := (fun n => bif Nat.beq n 4 then c1 else bif Nat.beq n 5 then c2 else bif Nat.beq n 6 then c3 else bif Nat.beq n 7 then c4 else 0)) rfl ao (by decide) (by decide) rfl, hst.finOwn (g := (fun n => bif Nat.beq n 4 then c1 else bif Nat.beq n 5 then c2 else bif Nat.beq n 6 then c3 else bif Nat.beq n 7 then c4 else 0)) rfl ar (by decide) (by decide) rfl⟩
def m_frac_Mul (N : Nat) (aa : ((Bool × (List Int)) × (List Int))) (ab : ((Bool × (List Int)) × (List Int))) : Option ((Bool × (List Int)) × (List Int)) :=
  (m_nat_Mul N aa.1.2 ab.1.2).bind fun ad => (m_frac_under N ((aa.1.1, aa.1.2), aa.2)).bind fun ae => (m_frac_under N ((ab.1.1, ab.1.2), ab.2)).bind fun af => (m_nat_Mul N ae af).bind fun ag => (m_frac_lowest N (!decide (aa.1.1 = ab.1.1)) ad ag).bind fun ac => some ((ac.1.1, ac.1.2), ac.2)
theorem c_frac_Mul (N : Nat) (c1 : Nat) (c2 : Nat) (col : Col) (w0 : World) (ae : Option Addr) (af : Nat) (an : Option Addr) (ao : Nat) (aa : ((Bool × (List Int)) × (List Int))) (ag : Option Addr) (ah : Nat) (ap : Option Addr) (aq : Nat) (ab : ((Bool × (List Int)) × (List Int))) (a3 : Sl (Rep.int .u32) col w0 ae af aa.1.2) (a6 : Sl (Rep.int .u32) col w0 an ao aa.2) (al : Sl (Rep.int .u32) col w0 ag ah ab.1.2) (ar : Sl (Rep.int .u32) col w0 ap aq ab.2) (r : ((Bool × (List Int)) × (List Int))) (hm : m_frac_Mul N aa ab = some r) :
    Calls Tryz.prog 35 #[(.agg #[(.bool aa.1.1), (.slice ae aa.1.2.length af), (.slice an aa.2.length ao)]), (.agg #[(.bool ab.1.1), (.slice ag ab.1.2.length ah), (.slice ap ab.2.length aq)])] w0 (fun e w' => ∃ (col' : Col) (ra1 : Option Addr) (rc2 : Nat) (ra4 : Option Addr) (rc5 : Nat), e = .returned ((.agg #[(.bool r.1.1), (.slice ra1 r.1.2.length rc2), (.slice ra4 r.2.length rc5)])) ∧ Grow col w0 col' w' ∧ Own (Rep.int .u32) 114 c1 col' w' ra1 rc2 r.1.2 ∧ Own (Rep.int .u32) 114 c2 col' w' ra4 rc5 r.2) := by
 refine calls_ofR (m := 25) (args := [(.agg #[(.bool aa.1.1), (.slice ae aa.1.2.length af), (.slice an aa.2.length ao)]), (.agg #[(.bool ab.1.1), (.slice ag ab.1.2.length ah), (.slice ap ab.2.length aq)])]) Tryz.func35 rfl rfl rfl ?_
 rw [m_frac_Mul.eq_1] at hm
 have hst := St.start col w0
 refine wS <| wR ?_
 refine l_box (col := (col0 col)) (v := (.agg #[(.bool aa.1.1), (.slice ae aa.1.2.length af), (.slice an aa.2.length ao)])) 1 rfl rfl ?_
 intro a7 b3 bn a8 au
 replace au : Box 40 1 bn b3 a7 #[(.bool aa.1.1), (.slice ae aa.1.2.length af), (.slice an aa.2.length ao)] := au
 refine l_box (col := bn) (v := (.agg #[(.bool ab.1.1), (.slice ag ab.1.2.length ah), (.slice ap ab.2.length aq)])) 2 rfl rfl ?_
 intro a9 b4 bo a4 av
 replace av : Box 40 2 bo b4 a9 #[(.bool ab.1.1), (.slice ag ab.1.2.length ah), (.slice ap ab.2.length aq)] := av
 refine l_alloc (col := bo) (v := (.agg #[(.bool false), (.slice none (([] : List Int).length) 0), (.slice none (([] : List Int).length) 0)])) 3 rfl Tryz.zeroValue40 ?_
 intro bp bq ad aw ac
 replace ac : Box 40 3 ad bq bp #[(.bool false), (.slice none (([] : List Int).length) 0), (.slice none (([] : List Int).length) 0)] := ac
 refine lN <| wS ?_
 refine wmix (col := ad) [(0, 1), (1, 1), (2, 0), (3, 1), (4, 1), (5, 0), (6, 1), (7, 1), (8, 1), (9, 0), (10, 1), (11, 1), (12, 0), (14, 0), (16, 0), (13, 3), (15, 3), (17, 3), (18, 3), (19, 3), (20, 2)] (by kernel_rfl) (by kernel_rfl) ?_
 refine xu (v := (.pointer ((some (⟨a7, 0, none⟩ : Addr)).map (·.add 0)))) rfl rfl (fun _ => rF (sz := 2) (off := 0) Tryz.underlying40 rfl Tryz.sizeOf38 (by decide) rfl rfl ⟨_, _, rfl⟩) ?_
 refine xu (v := (.pointer (((some (⟨a7, 0, none⟩ : Addr)).map (·.add 0)).map (·.add 0)))) rfl rfl (fun _ => rF (sz := 1) (off := 0) Tryz.underlying38 rfl Tryz.sizeOf4 (by decide) rfl rfl (sptr_addr ⟨_, _, rfl⟩)) ?_
 replace au := (au.gr a4).gr aw
 refine xv (v := (.bool aa.1.1)) rfl rfl (fun _ hC => r_ld Tryz.isAgg4 rfl (((((au.atN).part 0 2 _ rfl)).nth (q := 0) (v := (.bool aa.1.1)) rfl).gr (Grow.of_below (col := ad) hC.below))) ?_
 refine xu (v := (.pointer ((some (⟨a9, 0, none⟩ : Addr)).map (·.add 0)))) rfl rfl (fun _ => rF (sz := 2) (off := 0) Tryz.underlying40 rfl Tryz.sizeOf38 (by decide) rfl rfl ⟨_, _, rfl⟩) ?_
 refine xu (v := (.pointer (((some (⟨a9, 0, none⟩ : Addr)).map (·.add 0)).map (·.add 0)))) rfl rfl (fun _ => rF (sz := 1) (off := 0) Tryz.underlying38 rfl Tryz.sizeOf4 (by decide) rfl rfl (sptr_addr ⟨_, _, rfl⟩)) ?_
 replace av := av.gr aw
 refine xv (v := (.bool ab.1.1)) rfl rfl (fun _ hC => r_ld Tryz.isAgg4 rfl (((((av.atN).part 0 2 _ rfl)).nth (q := 0) (v := (.bool ab.1.1)) rfl).gr (Grow.of_below (col := ad) hC.below))) ?_
 refine xu (v := (.bool (!decide (aa.1.1 = ab.1.1)))) rfl rfl (fun _ => r_neqB aa.1.1 ab.1.1 Tryz.underlying4 rfl rfl) ?_
 refine xu (v := (.pointer ((some (⟨a7, 0, none⟩ : Addr)).map (·.add 0)))) rfl rfl (fun _ => rF (sz := 2) (off := 0) Tryz.underlying40 rfl Tryz.sizeOf38 (by decide) rfl rfl ⟨_, _, rfl⟩) ?_
 refine xu (v := (.pointer (((some (⟨a7, 0, none⟩ : Addr)).map (·.add 0)).map (·.add 1)))) rfl rfl (fun _ => rF (sz := 1) (off := 1) Tryz.underlying38 rfl Tryz.sizeOf36 (by decide) rfl rfl (sptr_addr ⟨_, _, rfl⟩)) ?_
 refine xv (v := (.slice ae aa.1.2.length af)) rfl rfl (fun _ hC => r_ld Tryz.isAgg36 rfl (((((au.atN).part 0 2 _ rfl)).nth (q := 1) (v := (.slice ae aa.1.2.length af)) rfl).gr (Grow.of_below (col := ad) hC.below))) ?_
 refine xu (v := (.pointer ((some (⟨a9, 0, none⟩ : Addr)).map (·.add 0)))) rfl rfl (fun _ => rF (sz := 2) (off := 0) Tryz.underlying40 rfl Tryz.sizeOf38 (by decide) rfl rfl ⟨_, _, rfl⟩) ?_
 refine xu (v := (.pointer (((some (⟨a9, 0, none⟩ : Addr)).map (·.add 0)).map (·.add 1)))) rfl rfl (fun _ => rF (sz := 1) (off := 1) Tryz.underlying38 rfl Tryz.sizeOf36 (by decide) rfl rfl (sptr_addr ⟨_, _, rfl⟩)) ?_
 refine xv (v := (.slice ag ab.1.2.length ah)) rfl rfl (fun _ hC => r_ld Tryz.isAgg36 rfl (((((av.atN).part 0 2 _ rfl)).nth (q := 1) (v := (.slice ag ab.1.2.length ah)) rfl).gr (Grow.of_below (col := ad) hC.below))) ?_
 refine xv (v := (.agg #[(.bool aa.1.1), (.slice ae aa.1.2.length af), (.slice an aa.2.length ao)])) rfl rfl (fun _ hC => r_ldN Tryz.isAgg40 Tryz.sizeOf40 rfl rfl (au.atN.gr (Grow.of_below (col := ad) hC.below))) ?_
 refine xv (v := (.agg #[(.bool ab.1.1), (.slice ag ab.1.2.length ah), (.slice ap ab.2.length aq)])) rfl rfl (fun _ hC => r_ldN Tryz.isAgg40 Tryz.sizeOf40 rfl rfl (av.atN.gr (Grow.of_below (col := ad) hC.below))) ?_
 refine xe rfl rfl ?_
 intro b5 hC0
 have hC : Grow ad bq ad b5 := .of_below hC0.below
 obtain ⟨br, b6, hm⟩ := bS hm
 replace a3 := ((((a3.keep (Stay.start col w0)).gr a8).gr a4).gr aw).gr hC
 replace al := ((((al.keep (Stay.start col w0)).gr a8).gr a4).gr aw).gr hC
 refine lc rfl rfl (r_call2 Tryz.call40 rfl rfl) (c_nat_Mul N 4 ad _ ae af aa.1.2 ag ah ab.1.2 a3 al br b6) ?_
 rintro _ bs ⟨ba, b7, b8, rfl, ax, aj⟩
 refine ⟨_, rfl, ?_⟩
 refine lN ⟨fun w' => Grow ba bs ba w', Grow.refl _ _, fun _ _ h => cls hC0 ax h, ?_⟩
 refine xe rfl rfl ?_
 intro b9 hC0
 replace a6 := (((((a6.keep (Stay.start col w0)).gr a8).gr a4).gr aw).gr hC).gr ax
 replace ar := (((((ar.keep (Stay.start col w0)).gr a8).gr a4).gr aw).gr hC).gr ax
 replace hst := ((((hst.grow a8).grow a4).grow aw).grow hC).grow ax
 replace ac := (ac.gr hC).gr ax
 have hC : Grow ba bs ba b9 := .of_below hC0.below
 obtain ⟨bt, ca, hm⟩ := bS hm
 replace a3 := (a3.gr ax).gr hC
 replace a6 := a6.gr hC
 refine lc rfl rfl (r_call1 Tryz.call56 rfl) (c_frac_under N 5 ba _ ae af an ao ((aa.1.1, aa.1.2), aa.2) a3 a6 bt ca) ?_
 rintro _ bu ⟨bb, cb, cc, rfl, a5, bc⟩
 refine ⟨_, rfl, ?_⟩
 refine lN ⟨fun w' => Grow bb bu bb w', Grow.refl _ _, fun _ _ h => cls hC0 a5 h, ?_⟩
 refine xe rfl rfl ?_
 intro cd hC0
 replace al := ((al.gr ax).gr hC).gr a5
 replace ar := (ar.gr hC).gr a5
 replace aj := (aj.gr hC).gr a5
 replace ac := (ac.gr hC).gr a5
 replace hst := (hst.grow hC).grow a5
 have hC : Grow bb bu bb cd := .of_below hC0.below
 obtain ⟨bv, ce, hm⟩ := bS hm
 replace al := al.gr hC
 replace ar := ar.gr hC
 refine lc rfl rfl (r_call1 Tryz.call56 rfl) (c_frac_under N 6 bb _ ag ah ap aq ((ab.1.1, ab.1.2), ab.2) al ar bv ce) ?_
 rintro _ bw ⟨am, cf, cg, rfl, bd, bg⟩
 refine ⟨_, rfl, ?_⟩
 refine lN ⟨fun w' => Grow am bw am w', Grow.refl _ _, fun _ _ h => cls hC0 bd h, ?_⟩
 refine xe rfl rfl ?_
 intro bx hC0
 replace aj := (aj.gr hC).gr bd
 replace bc := (bc.gr hC).gr bd
 replace ac := (ac.gr hC).gr bd
 replace hst := (hst.grow hC).grow bd
 have hC : Grow am bw am bx := .of_below hC0.below
 obtain ⟨bz, ch, hm⟩ := bS hm
 replace bc := bc.gr hC
 replace bg := bg.gr hC
 refine lc rfl rfl (r_call2 Tryz.call40 rfl rfl) (c_nat_Mul N 7 (frC 6 (frC 5 am)) _ cb cc bt cf cg bv ((bc.toSlF (Froz.int .u32)).froz 6) ((bg.froz 5 (by decide)).toSlF (Froz.int .u32)) bz ch) ?_
 rintro _ b0 ⟨ci, cj, ck, rfl, ay, be⟩
 refine ⟨_, rfl, ?_⟩
 replace be := be.thaw (flat_int .u32) ay (((Fz.refl (col := am)).froz 5).froz 6) (by decide)
 replace ay := ay.thawR (col := am)
 generalize colR bx.heap.size am ci = ak at *
 refine lN ⟨fun w' => Grow ak b0 ak w', Grow.refl _ _, fun _ _ h => cls hC0 ay h, ?_⟩
 refine xe rfl rfl ?_
 intro b1 hC0
 replace aj := (aj.gr hC).gr ay
 replace ac := (ac.gr hC).gr ay
 replace hst := (hst.grow hC).grow ay
 have hC : Grow ak b0 ak b1 := .of_below hC0.below
 obtain ⟨az, cl, hm⟩ := bS hm
 replace aj := aj.gr hC
 replace be := be.gr hC
 refine lc rfl rfl (r_call3 Tryz.call55 rfl rfl rfl) (c_frac_lowest N 8 9 (frC 7 (frC 4 ak)) _ (!decide (aa.1.1 = ab.1.1)) b7 b8 br cj ck bz ((aj.toSlF (Froz.int .u32)).froz 7) ((be.froz 4 (by decide)).toSlF (Froz.int .u32)) az cl) ?_
 rintro _ b2 ⟨cm, bh, bi, bj, bk, rfl, a0, a1, a2⟩
 refine ⟨_, rfl, ?_⟩
 replace a1 := a1.thaw (flat_int .u32) a0 (((Fz.refl (col := ak)).froz 4).froz 7) (by decide)
 replace a2 := a2.thaw (flat_int .u32) a0 (((Fz.refl (col := ak)).froz 4).froz 7) (by decide)
 replace a0 := a0.thawR (col := ak)
 generalize colR b1.heap.size ak cm = ai at *
 refine lN ⟨fun w' => Grow ai b2 ai w', Grow.refl _ _, fun _ _ h => cls hC0 a0 h, ?_⟩
 refine xe rfl rfl ?_
 intro cn hC0
 replace ac := (ac.gr hC).gr a0
 replace hst := (hst.grow hC).grow a0
 have hC : Grow ai b2 ai cn := .of_below hC0.below
 replace ac := ac.gr hC
 refine l_bstore (v := (.agg #[(.bool az.1.1), (.slice bh az.1.2.length bi), (.slice bj az.2.length bk)])) ac Tryz.sizeOf40 rfl rfl (by intro u hu; simp only [Value.cells, List.mem_cons, List.not_mem_nil, or_false] at hu; rcases hu with rfl | rfl | rfl <;> rfl) rfl rfl ?_
 intro bl bm co bf
 clear ac
 replace bf : Box 40 3 ai bl bp #[(.bool az.1.1), (.slice bh az.1.2.length bi), (.slice bj az.2.length bk)] := bf
 refine lN ⟨fun w' => Grow ai bl ai w', Grow.refl _ _, fun h => absurd h (by decide), ?_⟩
 refine xnil ?_
 replace a1 := (a1.gr hC).kp bm
 replace a2 := (a2.gr hC).kp bm
 replace hst := (hst.grow hC).kp bm co
 intro cp hC
 replace hC : Grow ai bl ai cp := .of_below hC.below
 refine wret ?_
 cases hm
 replace a1 := a1.gr hC
 replace a2 := a2.gr hC
 replace bf := bf.gr hC
 replace hst := hst.grow hC
 exact ⟨rfl, _, res_a rfl rfl Tryz.isAgg40 Tryz.sizeOf40 rfl rfl bf.atN, colF w0.heap.size col ai (fun n => bif Nat.beq n 8 then c1 else bif Nat.beq n 9 then c2 else 0), bh, bi, bj, bk, rfl, hst.fin (fun n => bif Nat.beq n 8 then c1 else bif Nat.beq n 9 then c2 else 0), hst.finOwn (g := (fun n => bif Nat.beq n 8 then c1 else bif Nat.beq n 9 then c2 else 0)) rfl a1 (by decide) (by decide) rfl, hst.finOwn (g := (fun n => bif Nat.beq n 8 then c1 else bif Nat.beq n 9 then c2 else 0)) rfl a2 (by decide) (by decide) rfl⟩
def m_model_Chance_L3 (N : Nat) (ab : (ByteArray × (List ByteArray) × (List (List ByteArray)) × (List (List Int)) × (List (List ((Bool × (List Int)) × (List Int)))))) (ac : (List Int)) (aa : Nat) (ah : Bool) (ai : List Int) (aj : List Int) (kk_L2 : (Nat → Bool → (List Int) → (List Int) → Option (((Bool × (List Int)) × (List Int)) × Int))) (ak : (List ((Bool × (List Int)) × (List Int)))) : List Int → Int → Option (((Bool × (List Int)) × (List Int)) × Int)
  | [], ad => (at? ab.2.2.1 (aa : Int)).bind fun am => (at? ac (aa : Int)).bind fun an => (at? ak (IntKind.i64.wrap ((IntKind.i64.wrap (ad * (am.length : Int))) + an))).bind fun ae => (m_model_fitting N ((ae.1.1, ae.1.2), ae.2)).bind fun af => (m_frac_Mul N ((ah, ai), aj) ((af.1.1, af.1.2), af.2)).bind fun ag => kk_L2 (aa + 1) ag.1.1 ag.1.2 ag.2
  | al :: ao, ad => (at? ab.2.2.1 al).bind fun ap => (at? ac al).bind fun aq => (m_model_Chance_L3 N ab ac aa ah ai aj kk_L2 ak ao) (IntKind.i64.wrap ((IntKind.i64.wrap (ad * (ap.length : Int))) + aq))
termination_by structural x => x
def m_model_Chance_L2 (N : Nat) (aa : (ByteArray × (List ByteArray) × (List (List ByteArray)) × (List (List Int)) × (List (List ((Bool × (List Int)) × (List Int)))))) (af : (List Int)) : List (List ((Bool × (List Int)) × (List Int))) → Nat → Bool → (List Int) → (List Int) → Option (((Bool × (List Int)) × (List Int)) × Int)
  | [], ab, ac, ad, ae => some (((ac, ad), ae), 0)
  | ag :: ah, ab, ac, ad, ae => (at? aa.2.2.2.1 (ab : Int)).bind fun ai => m_model_Chance_L3 N aa af ab ac ad ae (m_model_Chance_L2 N aa af ah) ag ai 0
termination_by structural x => x
def m_model_Chance_J1 (aa : Nat) (ab : Bool) (ac : List Int) (ad : List Int) (kk_L1 : (Nat → Bool → (List Int) → (List Int) → Option (((Bool × (List Int)) × (List Int)) × Int))) (ae : Bool) : Option (((Bool × (List Int)) × (List Int)) × Int) :=
  if ae = true then none else (kk_L1 (aa + 1) ab ac ad)
def m_model_Chance_L1 (N : Nat) (aa : (ByteArray × (List ByteArray) × (List (List ByteArray)) × (List (List Int)) × (List (List ((Bool × (List Int)) × (List Int)))))) (ac : (List Int)) : List Int → Nat → Bool → (List Int) → (List Int) → Option (((Bool × (List Int)) × (List Int)) × Int)
  | [], ab, ad, ae, af => (m_model_one N).bind fun ag => m_model_Chance_L2 N aa ac aa.2.2.2.2 0 ag.1.1 ag.1.2 ag.2
  | ah :: ai, ab, ad, ae, af => if (decide (ah < 0)) = true then (m_model_Chance_J1 ab ad ae af (m_model_Chance_L1 N aa ac ai) true) else ((at? aa.2.2.1 (ab : Int)).bind fun aj => m_model_Chance_J1 ab ad ae af (m_model_Chance_L1 N aa ac ai) (decide ((aj.length : Int) ≤ ah)))
termination_by structural x => x
def m_model_Chance (N : Nat) (aa : (ByteArray × (List ByteArray) × (List (List ByteArray)) × (List (List Int)) × (List (List ((Bool × (List Int)) × (List Int)))))) (ab : (List Int)) : Option (((Bool × (List Int)) × (List Int)) × Int) :=
  (m_model_Check N (aa.1, aa.2.1, aa.2.2.1, aa.2.2.2.1, aa.2.2.2.2)).bind fun ac => if (!decide (ac = 0)) = true then none else (if (!decide ((ab.length : Int) = (aa.2.1.length : Int))) = true then none else (m_model_Chance_L1 N aa ab ab 0 false ([] : List Int) ([] : List Int)))
theorem c_model_Chance (N : Nat) (c1 : Nat) (c2 : Nat) (col : Col) (w0 : World) (ay : Option Addr) (az : Nat) (an : Option Addr) (ap : Nat) (aw : Option Addr) (a0 : Nat) (ar : Option Addr) (au : Nat) (aa : (ByteArray × (List ByteArray) × (List (List ByteArray)) × (List (List Int)) × (List (List ((Bool × (List Int)) × (List Int)))))) (a1 : Option Addr) (cap1 : Nat) (ac : (List Int)) (ah : Sl Rep.str col w0 ay az aa.2.1) (ad : Sl (Rep.slice Rep.str) col w0 an ap aa.2.2.1) (af : Sl (Rep.slice (Rep.int .i64)) col w0 aw a0 aa.2.2.2.1) (ae : Sl (Rep.slice (Rep.pair (Rep.pair Rep.bool (Rep.slice (Rep.int .u32))) (Rep.slice (Rep.int .u32)))) col w0 ar au aa.2.2.2.2) (h1 : Sl (Rep.int .i64) col w0 a1 cap1 ac) (r : (((Bool × (List Int)) × (List Int)) × Int)) (hm : m_model_Chance N aa ac = some r) :
    Calls Tryz.prog 102 #[(.agg #[(.string aa.1), (.slice ay aa.2.1.length az), (.slice an aa.2.2.1.length ap), (.slice aw aa.2.2.2.1.length a0), (.slice ar aa.2.2.2.2.length au)]), (.slice a1 ac.length cap1)] w0 (fun e w' => ∃ (col' : Col) (ra1 : Option Addr) (rc2 : Nat) (ra4 : Option Addr) (rc5 : Nat), e = .returned (.tuple #[(.agg #[(.bool r.1.1.1), (.slice ra1 r.1.1.2.length rc2), (.slice ra4 r.1.2.length rc5)]), (.int .i64 r.2)]) ∧ Grow col w0 col' w' ∧ Own (Rep.int .u32) 114 c1 col' w' ra1 rc2 r.1.1.2 ∧ Own (Rep.int .u32) 114 c2 col' w' ra4 rc5 r.1.2) := by
 refine calls_ofR (m := 103) (args := [(.agg #[(.string aa.1), (.slice ay aa.2.1.length az), (.slice an aa.2.2.1.length ap), (.slice aw aa.2.2.2.1.length a0), (.slice ar aa.2.2.2.2.length au)]), (.slice a1 ac.length cap1)]) Tryz.func102 rfl rfl rfl ?_
 rw [m_model_Chance.eq_1] at hm
 have hst := St.start col w0
 refine wS <| wR ?_
 refine l_box (col := (col0 col)) (v := (.agg #[(.string aa.1), (.slice ay aa.2.1.length az), (.slice an aa.2.2.1.length ap), (.slice aw aa.2.2.2.1.length a0), (.slice ar aa.2.2.2.2.length au)])) 1 rfl rfl ?_
 intro a5 d1 dr ce ab
 replace ab : Box 28 1 dr d1 a5 #[(.string aa.1), (.slice ay aa.2.1.length az), (.slice an aa.2.2.1.length ap), (.slice aw aa.2.2.2.1.length a0), (.slice ar aa.2.2.2.2.length au)] := ab
 refine l_alloc (col := dr) (v := (.agg #[(.bool false), (.slice none (([] : List Int).length) 0), (.slice none (([] : List Int).length) 0)])) 2 rfl Tryz.zeroValue40 ?_
 intro bt ds cl ca ag
 replace ag : Box 40 2 cl ds bt #[(.bool false), (.slice none (([] : List Int).length) 0), (.slice none (([] : List Int).length) 0)] := ag
 refine lA (.int .i64 0) <| lN <| wS <| wS <| wR ?_
 replace ab := ab.gr ca
 refine lV (.agg #[(.string aa.1), (.slice ay aa.2.1.length az), (.slice an aa.2.2.1.length ap), (.slice aw aa.2.2.2.1.length a0), (.slice ar aa.2.2.2.2.length au)]) (r_ldN Tryz.isAgg28 Tryz.sizeOf28 rfl rfl ab.atN) ?_
 obtain ⟨cf, d2, hm⟩ := bS hm
 replace ah := ((ah.keep (Stay.start col w0)).gr ce).gr ca
 replace ad := ((ad.keep (Stay.start col w0)).gr ce).gr ca
 replace af := ((af.keep (Stay.start col w0)).gr ce).gr ca
 replace ae := ((ae.keep (Stay.start col w0)).gr ce).gr ca
 refine lc rfl rfl (r_call1 Tryz.call69 rfl) (c_model_Check N cl _ ay az an ap aw a0 ar au (aa.1, aa.2.1, aa.2.2.1, aa.2.2.2.1, aa.2.2.2.2) ah ad af ae cf d2) ?_
 rintro _ d3 ⟨rfl, bu⟩
 refine ⟨_, rfl, ?_⟩
 replace bu : Grow cl ds cl d3 := .of_below bu
 refine lA (.int .i64 cf) <| lN <| wS <| wR <| lM (.int .i64 cf) <| lV (.bool (!decide (cf = 0))) (r_neq cf 0 rfl rfl) <| lN ?_
 replace h1 := (((h1.keep (Stay.start col w0)).gr ce).gr ca).gr bu
 replace hst := ((hst.grow ce).grow ca).grow bu
 replace ah := ah.gr bu
 replace ad := ad.gr bu
 replace af := af.gr bu
 replace ae := ae.gr bu
 replace ab := ab.gr bu
 replace ag := ag.gr bu
 refine wcond (!decide (cf = 0)) rfl (fun hb => ?_) (fun hb => ?_)
 ·rw [if_pos hb] at hm
  clear hb
  cases hm
 rw [if_neg (by rw [hb]; decide)] at hm
 clear hb
 refine wK <| wS <| wS <| wR <| lM (.slice a1 ac.length cap1) <| lV (.int .i64 (ac.length : Int)) (r_len Tryz.underlying33 rfl) <| lV (.pointer ((some (⟨a5, 0, none⟩ : Addr)).map (·.add 1))) (rF (sz := 1) (off := 1) Tryz.underlying28 rfl Tryz.sizeOf23 (by decide) rfl rfl ⟨_, _, rfl⟩) <| lV (.slice ay aa.2.1.length az) (r_ld Tryz.isAgg23 rfl ((ab.atN).nth (q := 1) (v := (.slice ay aa.2.1.length az)) rfl)) <| lV (.int .i64 (aa.2.1.length : Int)) (r_len Tryz.underlying23 rfl) <| lV (.bool (!decide ((ac.length : Int) = (aa.2.1.length : Int)))) (r_neq (ac.length : Int) (aa.2.1.length : Int) rfl rfl) <| lN ?_
 refine wcond (!decide ((ac.length : Int) = (aa.2.1.length : Int))) rfl (fun hb => ?_) (fun hb => ?_)
 ·rw [if_pos hb] at hm
  clear hb
  cases hm
 rw [if_neg (by rw [hb]; decide)] at hm
 clear hb
 refine wK <| wS <| wS <| wR <| lM (.slice a1 ac.length cap1) <| lV (.int .i64 (ac.length : Int)) (r_len Tryz.underlying33 rfl) <| lM (.int .i64 0) <| lN <| wB ?_
 refine wloop (fun n f bl => ∃ (a6 : Col) (aq : Nat) (b7 : Bool) (bv : Option Addr) (bw : Nat) (bd : List Int) (bx : Option Addr) (bz : Nat) (be : List Int) (cm : List Int), n = cm.length ∧ ac.drop aq = cm ∧ m_model_Chance_L1 N aa ac cm aq b7 bd be = some r ∧ St w0 (col0 col) a6 bl ∧ Sl (Rep.int .i64) a6 bl a1 cap1 ac ∧ Sl Rep.str a6 bl ay az aa.2.1 ∧ Sl (Rep.slice Rep.str) a6 bl an ap aa.2.2.1 ∧ Sl (Rep.slice (Rep.int .i64)) a6 bl aw a0 aa.2.2.2.1 ∧ Sl (Rep.slice (Rep.pair (Rep.pair Rep.bool (Rep.slice (Rep.int .u32))) (Rep.slice (Rep.int .u32)))) a6 bl ar au aa.2.2.2.2 ∧ Box 28 1 a6 bl a5 #[(.string aa.1), (.slice ay aa.2.1.length az), (.slice an aa.2.2.1.length ap), (.slice aw aa.2.2.2.1.length a0), (.slice ar aa.2.2.2.2.length au)] ∧ Own (Rep.int .u32) 114 3 a6 bl bv bw bd ∧ Own (Rep.int .u32) 114 4 a6 bl bx bz be ∧ Box 40 2 a6 bl bt #[(.bool b7), (.slice bv bd.length bw), (.slice bx be.length bz)] ∧ f 30 = (.int .i64 (aq : Int)) ∧ f 1 = (.slice a1 ac.length cap1) ∧ f 2 = (.pointer (some ⟨a5, 0, none⟩)) ∧ f 28 = (.slice a1 ac.length cap1) ∧ f 29 = (.int .i64 (ac.length : Int)) ∧ f 4 = (.pointer (some ⟨bt, 0, none⟩)) ∧ f 1000000 = (enc [])) ac.length ⟨cl, 0, false, none, 0, ([] : List Int), none, 0, ([] : List Int), ac, rfl, rfl, hm, hst, h1, ah, ad, af, ae, ab, Own.nil, Own.nil, ag, rfl, rfl, rfl, rfl, rfl, rfl, rfl⟩ ?_
 clear hm; intro n f bl hI
 obtain ⟨a6, aq, b7, bv, bw, bd, bx, bz, be, cm, hn, hl, hm, hst, h1, ah, ad, af, ae, ab, ak, al, ag, hs30, hs1, hs2, hs28, hs29, hs4, hs1000000⟩ := hI
 subst hn
 refine .lD 30 hs30 <| .lD 1 hs1 <| .lD 2 hs2 <| .lD 28 hs28 <| .lD 29 hs29 <| .lD 4 hs4 <| .lD 1000000 hs1000000 ?_
 clear hs30 hs1 hs2 hs28 hs29 hs4 hs1000000
 cases cm with
 | nil =>
  have hk : ¬ ((aq : Int) < (ac.length : Int)) := by have := List.drop_eq_nil_iff.1 hl; omega
  have hkb := decide_eq_false hk
  rw [m_model_Chance_L1.eq_1] at hm
  refine wS <| wR <| lV (.bool (decide ((aq : Int) < (ac.length : Int)))) (r_lss (aq : Int) (ac.length : Int) rfl rfl) <| lN <| wS ?_
  refine wcondF (congrArg Value.bool hkb) ?_
  refine wexit (inB_hit ?_)
  refine wS <| wR ?_
  obtain ⟨b0, d4, hm⟩ := bS hm
  refine lc rfl rfl (r_call0 Tryz.call141 ) (c_model_one N 5 6 a6 _ b0 d4) ?_
  rintro _ e9 ⟨d5, c5, c6, c7, c8, rfl, b1, c9, da⟩
  refine ⟨_, rfl, ?_⟩
  refine l_alloc (col := d5) (v := (.agg #[(.bool false), (.slice none (([] : List Int).length) 0), (.slice none (([] : List Int).length) 0)])) 7 rfl Tryz.zeroValue40 ?_
  intro cb d6 db bf cr
  replace cr : Box 40 7 db d6 cb #[(.bool false), (.slice none (([] : List Int).length) 0), (.slice none (([] : List Int).length) 0)] := cr
  refine l_bstore (v := (.agg #[(.bool b0.1.1), (.slice c5 b0.1.2.length c6), (.slice c7 b0.2.length c8)])) cr Tryz.sizeOf40 rfl rfl (by intro u hu; simp only [Value.cells, List.mem_cons, List.not_mem_nil, or_false] at hu; rcases hu with rfl | rfl | rfl <;> rfl) rfl rfl ?_
  intro d7 bg d8 av
  clear cr
  replace av : Box 40 7 db d7 cb #[(.bool b0.1.1), (.slice c5 b0.1.2.length c6), (.slice c7 b0.2.length c8)] := av
  refine lN <| wS <| wS <| wR <| lV (.pointer ((some (⟨a5, 0, none⟩ : Addr)).map (·.add 4))) (rF (sz := 1) (off := 4) Tryz.underlying28 rfl Tryz.sizeOf26 (by decide) rfl rfl ⟨_, _, rfl⟩) ?_
  replace ab := ((ab.gr b1).gr bf).kp bg
  refine lV (.slice ar aa.2.2.2.2.length au) (r_ld Tryz.isAgg26 rfl ((ab.atN).nth (q := 4) (v := (.slice ar aa.2.2.2.2.length au)) rfl)) <| lV (.int .i64 (aa.2.2.2.2.length : Int)) (r_len Tryz.underlying26 rfl) <| lM (.int .i64 0) <| lN <| wB ?_
  replace h1 := ((h1.gr b1).gr bf).kp bg
  replace ah := ((ah.gr b1).gr bf).kp bg
  replace ad := ((ad.gr b1).gr bf).kp bg
  replace af := ((af.gr b1).gr bf).kp bg
  replace ae := ((ae.gr b1).gr bf).kp bg
  replace ak := ((ak.gr b1).gr bf).kp bg
  replace al := ((al.gr b1).gr bf).kp bg
  replace ag := ((ag.gr b1).gr bf).kp bg
  replace hst := ((hst.grow b1).grow bf).kp bg d8
  replace c9 := (c9.gr bf).kp bg
  replace da := (da.gr bf).kp bg
  refine wloop (fun n f a7 => ∃ (a2 : Col) (am : Nat) (b2 : Bool) (bm : Option Addr) (bn : Nat) (bh : List Int) (bo : Option Addr) (bp : Nat) (bi : List Int) (cn : List (List ((Bool × (List Int)) × (List Int)))), n = cn.length ∧ aa.2.2.2.2.drop am = cn ∧ m_model_Chance_L2 N aa ac cn am b2 bh bi = some r ∧ St w0 (col0 col) a2 a7 ∧ Sl (Rep.int .i64) a2 a7 a1 cap1 ac ∧ Sl Rep.str a2 a7 ay az aa.2.1 ∧ Sl (Rep.slice Rep.str) a2 a7 an ap aa.2.2.1 ∧ Sl (Rep.slice (Rep.int .i64)) a2 a7 aw a0 aa.2.2.2.1 ∧ Sl (Rep.slice (Rep.pair (Rep.pair Rep.bool (Rep.slice (Rep.int .u32))) (Rep.slice (Rep.int .u32)))) a2 a7 ar au aa.2.2.2.2 ∧ Box 28 1 a2 a7 a5 #[(.string aa.1), (.slice ay aa.2.1.length az), (.slice an aa.2.2.1.length ap), (.slice aw aa.2.2.2.1.length a0), (.slice ar aa.2.2.2.2.length au)] ∧ Own (Rep.int .u32) 114 3 a2 a7 bv bw bd ∧ Own (Rep.int .u32) 114 4 a2 a7 bx bz be ∧ Box 40 2 a2 a7 bt #[(.bool b7), (.slice bv bd.length bw), (.slice bx be.length bz)] ∧ Own (Rep.int .u32) 114 5 a2 a7 bm bn bh ∧ Own (Rep.int .u32) 114 6 a2 a7 bo bp bi ∧ Box 40 7 a2 a7 cb #[(.bool b2), (.slice bm bh.length bn), (.slice bo bi.length bp)] ∧ f 53 = (.int .i64 (am : Int)) ∧ f 1 = (.slice a1 ac.length cap1) ∧ f 2 = (.pointer (some ⟨a5, 0, none⟩)) ∧ f 4 = (.pointer (some ⟨bt, 0, none⟩)) ∧ f 51 = (.slice ar aa.2.2.2.2.length au) ∧ f 52 = (.int .i64 (aa.2.2.2.2.length : Int)) ∧ f 9 = (.pointer (some ⟨cb, 0, none⟩)) ∧ f 1000000 = (enc [])) aa.2.2.2.2.length ⟨db, 0, b0.1.1, c5, c6, b0.1.2, c7, c8, b0.2, aa.2.2.2.2, rfl, rfl, hm, hst, h1, ah, ad, af, ae, ab, ak, al, ag, c9, da, av, rfl, rfl, rfl, rfl, rfl, rfl, rfl, rfl⟩ ?_
  clear hm; intro n f a7 hI
  obtain ⟨a2, am, b2, bm, bn, bh, bo, bp, bi, cn, hn, hl, hm, hst, h1, ah, ad, af, ae, ab, ak, al, ag, bb, bc, av, hs53, hs1, hs2, hs4, hs51, hs52, hs9, hs1000000⟩ := hI
  subst hn
  refine .lD 53 hs53 <| .lD 1 hs1 <| .lD 2 hs2 <| .lD 4 hs4 <| .lD 51 hs51 <| .lD 52 hs52 <| .lD 9 hs9 <| .lD 1000000 hs1000000 ?_
  clear hs53 hs1 hs2 hs4 hs51 hs52 hs9 hs1000000
  cases cn with
  | nil =>
   have hk : ¬ ((am : Int) < (aa.2.2.2.2.length : Int)) := by have := List.drop_eq_nil_iff.1 hl; omega
   have hkb := decide_eq_false hk
   rw [m_model_Chance_L2.eq_1] at hm
   refine wS <| wR <| lV (.bool (decide ((am : Int) < (aa.2.2.2.2.length : Int)))) (r_lss (am : Int) (aa.2.2.2.2.length : Int) rfl rfl) <| lN <| wS ?_
   refine wcondF (congrArg Value.bool hkb) ?_
   refine wexit (inB_hit ?_)
   refine wS <| wR <| lV (.agg #[(.bool b2), (.slice bm bh.length bn), (.slice bo bi.length bp)]) (r_ldN Tryz.isAgg40 Tryz.sizeOf40 rfl rfl av.atN) ?_
   refine l_bstore (v := (.agg #[(.bool b2), (.slice bm bh.length bn), (.slice bo bi.length bp)])) ag Tryz.sizeOf40 rfl rfl (by intro u hu; simp only [Value.cells, List.mem_cons, List.not_mem_nil, or_false] at hu; rcases hu with rfl | rfl | rfl <;> rfl) rfl rfl ?_
   intro d9 dc ea dd
   clear ag
   replace dd : Box 40 2 a2 d9 bt #[(.bool b2), (.slice bm bh.length bn), (.slice bo bi.length bp)] := dd
   refine lA (.int .i64 0) <| lN ?_
   refine wret ?_
   cases hm
   replace bb := bb.kp dc
   replace bc := bc.kp dc
   replace hst := hst.kp dc ea
   exact ⟨rfl, _, res_at rfl rfl Tryz.isAgg40 Tryz.sizeOf40 rfl rfl dd.atN rfl rfl, colF w0.heap.size col a2 (fun n => bif Nat.beq n 5 then c1 else bif Nat.beq n 6 then c2 else 0), bm, bn, bo, bp, rfl, hst.fin (fun n => bif Nat.beq n 5 then c1 else bif Nat.beq n 6 then c2 else 0), hst.finOwn (g := (fun n => bif Nat.beq n 5 then c1 else bif Nat.beq n 6 then c2 else 0)) rfl bb (by decide) (by decide) rfl, hst.finOwn (g := (fun n => bif Nat.beq n 5 then c1 else bif Nat.beq n 6 then c2 else 0)) rfl bc (by decide) (by decide) rfl⟩
  | cons cg de =>
   obtain ⟨hat, hl2_L2, hlt_L2⟩ := drop_get hl
   have hk : (am : Int) < (aa.2.2.2.2.length : Int) := by omega
   have hkb := decide_eq_true hk
   rw [m_model_Chance_L2.eq_2] at hm
   refine wS <| wR <| lV (.bool (decide ((am : Int) < (aa.2.2.2.2.length : Int)))) (r_lss (am : Int) (aa.2.2.2.2.length : Int) rfl rfl) <| lN <| wS ?_
   refine wcondT (congrArg Value.bool hkb) ?_
   refine wK <| wS <| wB <| wS <| wR <| lM (.int .i64 (am : Int)) ?_
   refine lV (sptr ar (Int.toNat (am : Int) * 1)) (r_idx Tryz.underlying26 Tryz.sizeOf51 rfl rfl (at?_some hat).1 (at?_some hat).2.1 (ae.addr hat)) ?_
   obtain ⟨_, eb, ec⟩ := ae.atN hat
   obtain ⟨⟨ch, co, rfl, cc⟩, _⟩ := eb
   refine lV (.slice ch cg.length co) (r_ld Tryz.isAgg51 rfl ec.one) <| lA (.int .i64 (am : Int)) <| lA (.slice ch cg.length co) <| lN <| wS <| wR <| lA (.int .i64 0) <| lN <| wS <| wS <| wR <| lV (.pointer ((some (⟨a5, 0, none⟩ : Addr)).map (·.add 3))) (rF (sz := 1) (off := 3) Tryz.underlying28 rfl Tryz.sizeOf25 (by decide) rfl rfl ⟨_, _, rfl⟩) <| lV (.slice aw aa.2.2.2.1.length a0) (r_ld Tryz.isAgg25 rfl ((ab.atN).nth (q := 3) (v := (.slice aw aa.2.2.2.1.length a0)) rfl)) <| lM (.int .i64 (am : Int)) ?_
   obtain ⟨a8, cs, hm⟩ := bS hm
   refine lV (sptr aw (Int.toNat (am : Int) * 1)) (r_idx Tryz.underlying25 Tryz.sizeOf33 rfl rfl (at?_some cs).1 (at?_some cs).2.1 (af.addr cs)) ?_
   obtain ⟨_, ed, ee⟩ := af.atN cs
   obtain ⟨⟨ct, df, rfl, b8⟩, _⟩ := ed
   refine lV (.slice ct a8.length df) (r_ld Tryz.isAgg33 rfl ee.one) <| lV (.int .i64 (a8.length : Int)) (r_len Tryz.underlying33 rfl) <| lM (.int .i64 0) <| lN <| wB ?_
   refine wloop (fun n f ax => ∃ (ai : Col) (a3 : Int) (a9 : Nat) (cp : List Int), n = cp.length ∧ a8.drop a9 = cp ∧ m_model_Chance_L3 N aa ac am b2 bh bi (m_model_Chance_L2 N aa ac de) cg cp a3 = some r ∧ St w0 (col0 col) ai ax ∧ Sl (Rep.int .i64) ai ax a1 cap1 ac ∧ Sl (Rep.pair (Rep.pair Rep.bool (Rep.slice (Rep.int .u32))) (Rep.slice (Rep.int .u32))) ai ax ch co cg ∧ Sl Rep.str ai ax ay az aa.2.1 ∧ Sl (Rep.slice Rep.str) ai ax an ap aa.2.2.1 ∧ Sl (Rep.slice (Rep.int .i64)) ai ax aw a0 aa.2.2.2.1 ∧ Sl (Rep.slice (Rep.pair (Rep.pair Rep.bool (Rep.slice (Rep.int .u32))) (Rep.slice (Rep.int .u32)))) ai ax ar au aa.2.2.2.2 ∧ Box 28 1 ai ax a5 #[(.string aa.1), (.slice ay aa.2.1.length az), (.slice an aa.2.2.1.length ap), (.slice aw aa.2.2.2.1.length a0), (.slice ar aa.2.2.2.2.length au)] ∧ Own (Rep.int .u32) 114 3 ai ax bv bw bd ∧ Own (Rep.int .u32) 114 4 ai ax bx bz be ∧ Box 40 2 ai ax bt #[(.bool b7), (.slice bv bd.length bw), (.slice bx be.length bz)] ∧ Sl (Rep.int .i64) ai ax ct df a8 ∧ Own (Rep.int .u32) 114 5 ai ax bm bn bh ∧ Own (Rep.int .u32) 114 6 ai ax bo bp bi ∧ Box 40 7 ai ax cb #[(.bool b2), (.slice bm bh.length bn), (.slice bo bi.length bp)] ∧ f 64 = (.int .i64 (a9 : Int)) ∧ f 1 = (.slice a1 ac.length cap1) ∧ f 10 = (.int .i64 (am : Int)) ∧ f 11 = (.slice ch cg.length co) ∧ f 12 = (.int .i64 a3) ∧ f 2 = (.pointer (some ⟨a5, 0, none⟩)) ∧ f 4 = (.pointer (some ⟨bt, 0, none⟩)) ∧ f 51 = (.slice ar aa.2.2.2.2.length au) ∧ f 52 = (.int .i64 (aa.2.2.2.2.length : Int)) ∧ f 53 = (.int .i64 (am : Int)) ∧ f 62 = (.slice ct a8.length df) ∧ f 63 = (.int .i64 (a8.length : Int)) ∧ f 9 = (.pointer (some ⟨cb, 0, none⟩)) ∧ f 1000000 = (enc [])) a8.length ⟨a2, 0, 0, a8, rfl, rfl, hm, hst, h1, cc, ah, ad, af, ae, ab, ak, al, ag, b8, bb, bc, av, rfl, rfl, rfl, rfl, rfl, rfl, rfl, rfl, rfl, rfl, rfl, rfl, rfl, rfl⟩ ?_
   clear hm; intro n f ax hI
   obtain ⟨ai, a3, a9, cp, hn, hl, hm, hst, h1, cc, ah, ad, af, ae, ab, ak, al, ag, b8, bb, bc, av, hs64, hs1, hs10, hs11, hs12, hs2, hs4, hs51, hs52, hs53, hs62, hs63, hs9, hs1000000⟩ := hI
   subst hn
   refine .lD 64 hs64 <| .lD 1 hs1 <| .lD 10 hs10 <| .lD 11 hs11 <| .lD 12 hs12 <| .lD 2 hs2 <| .lD 4 hs4 <| .lD 51 hs51 <| .lD 52 hs52 <| .lD 53 hs53 <| .lD 62 hs62 <| .lD 63 hs63 <| .lD 9 hs9 <| .lD 1000000 hs1000000 ?_
   clear hs64 hs1 hs10 hs11 hs12 hs2 hs4 hs51 hs52 hs53 hs62 hs63 hs9 hs1000000
   cases cp with
   | nil =>
    have hk : ¬ ((a9 : Int) < (a8.length : Int)) := by have := List.drop_eq_nil_iff.1 hl; omega
    have hkb := decide_eq_false hk
    rw [m_model_Chance_L3.eq_1] at hm
    refine wS <| wR <| lV (.bool (decide ((a9 : Int) < (a8.length : Int)))) (r_lss (a9 : Int) (a8.length : Int) rfl rfl) <| lN <| wS ?_
    refine wcondF (congrArg Value.bool hkb) ?_
    refine wexit (inB_hit ?_)
    refine wmix (col := ai) [(0, 0), (1, 1), (2, 1), (3, 1), (4, 0), (5, 1), (6, 1), (7, 0), (8, 1), (9, 1), (10, 1), (11, 1), (12, 1), (13, 0), (14, 1), (15, 1), (16, 0), (17, 3), (18, 3), (19, 2)] (by kernel_rfl) (by kernel_rfl) ?_
    refine xv (v := (.agg #[(.bool b2), (.slice bm bh.length bn), (.slice bo bi.length bp)])) rfl rfl (fun _ hC => r_ldN Tryz.isAgg40 Tryz.sizeOf40 rfl rfl (av.atN.gr (Grow.of_below (col := ai) hC.below))) ?_
    refine xu (v := (.slice ch cg.length co)) rfl rfl (fun _ => r_move rfl) ?_
    refine xu (v := (.int .i64 a3)) rfl rfl (fun _ => r_move rfl) ?_
    refine xu (v := (.pointer ((some (⟨a5, 0, none⟩ : Addr)).map (·.add 2)))) rfl rfl (fun _ => rF (sz := 1) (off := 2) Tryz.underlying28 rfl Tryz.sizeOf24 (by decide) rfl rfl ⟨_, _, rfl⟩) ?_
    refine xv (v := (.slice an aa.2.2.1.length ap)) rfl rfl (fun _ hC => r_ld Tryz.isAgg24 rfl (((ab.atN).nth (q := 2) (v := (.slice an aa.2.2.1.length ap)) rfl).gr (Grow.of_below (col := ai) hC.below))) ?_
    refine xu (v := (.int .i64 (am : Int))) rfl rfl (fun _ => r_move rfl) ?_
    obtain ⟨cd, cu, hm⟩ := bS hm
    refine xu (v := (sptr an (Int.toNat (am : Int) * 1))) rfl rfl (fun _ => r_idx Tryz.underlying24 Tryz.sizeOf23 rfl rfl (at?_some cu).1 (at?_some cu).2.1 (ad.addr cu)) ?_
    obtain ⟨_, ef, eg⟩ := ad.atN cu
    obtain ⟨⟨eh, ei, rfl, fa⟩, _⟩ := ef
    refine xv (v := (.slice eh cd.length ei)) rfl rfl (fun _ hC => r_ld Tryz.isAgg23 rfl (eg.one.gr (Grow.of_below (col := ai) hC.below))) ?_
    refine xu (v := (.int .i64 (cd.length : Int))) rfl rfl (fun _ => r_len Tryz.underlying23 rfl) ?_
    refine xu (v := (.int .i64 (IntKind.i64.wrap (a3 * (cd.length : Int))))) rfl rfl (fun _ => r_mul a3 (cd.length : Int) rfl rfl) ?_
    refine xu (v := (.slice a1 ac.length cap1)) rfl rfl (fun _ => r_move rfl) ?_
    refine xu (v := (.int .i64 (am : Int))) rfl rfl (fun _ => r_move rfl) ?_
    obtain ⟨cv, cw, hm⟩ := bS hm
    refine xu (v := (sptr a1 (Int.toNat (am : Int) * 1))) rfl rfl (fun _ => r_idx Tryz.underlying33 Tryz.sizeOf3 rfl rfl (at?_some cw).1 (at?_some cw).2.1 (h1.addr cw)) ?_
    refine xv (v := (.int .i64 cv)) rfl rfl (fun _ hC => r_ld Tryz.isAgg3 rfl ((h1.gr (Grow.of_below (col := ai) hC.below)).atInt cw)) ?_
    refine xu (v := (.int .i64 (IntKind.i64.wrap ((IntKind.i64.wrap (a3 * (cd.length : Int))) + cv)))) rfl rfl (fun _ => r_add (IntKind.i64.wrap (a3 * (cd.length : Int))) cv rfl rfl) ?_
    obtain ⟨ci, cx, hm⟩ := bS hm
    refine xu (v := (sptr ch (Int.toNat (IntKind.i64.wrap ((IntKind.i64.wrap (a3 * (cd.length : Int))) + cv)) * 3))) rfl rfl (fun _ => r_idx Tryz.underlying51 Tryz.sizeOf40 rfl rfl (at?_some cx).1 (at?_some cx).2.1 (cc.addr cx)) ?_
    obtain ⟨_, ej, ek⟩ := cc.atN cx
    obtain ⟨_, _, rfl, el, em⟩ := rd_pair ej
    obtain ⟨_, _, rfl, en, eo⟩ := rd_pair el
    obtain ⟨rfl, _⟩ := en
    obtain ⟨⟨dt, du, rfl, dg⟩, _⟩ := eo
    obtain ⟨⟨dv, dw, rfl, dh⟩, _⟩ := em
    refine xv (v := (.agg #[(.bool ci.1.1), (.slice dt ci.1.2.length du), (.slice dv ci.2.length dw)])) rfl rfl (fun _ hC => r_ldN Tryz.isAgg40 Tryz.sizeOf40 rfl rfl (ek.gr (Grow.of_below (col := ai) hC.below))) ?_
    refine xe rfl rfl ?_
    intro ep hC0
    have hC : Grow ai ax ai ep := .of_below hC0.below
    obtain ⟨cy, eq, hm⟩ := bS hm
    replace dg := dg.gr hC
    replace dh := dh.gr hC
    refine lc rfl rfl (r_call1 Tryz.call142 rfl) (c_model_fitting N ai _ dt du dv dw ((ci.1.1, ci.1.2), ci.2) dg dh cy eq) ?_
    rintro _ dx ⟨b5, er, es, et, eu, rfl, ba, di, dj⟩
    refine ⟨_, rfl, ?_⟩
    refine lN ⟨fun w' => Grow b5 dx b5 w', Grow.refl _ _, fun _ _ h => cls hC0 ba h, ?_⟩
    refine xe rfl rfl ?_
    intro dy hC0
    replace h1 := (h1.gr hC).gr ba
    replace ah := (ah.gr hC).gr ba
    replace ad := (ad.gr hC).gr ba
    replace af := (af.gr hC).gr ba
    replace ae := (ae.gr hC).gr ba
    replace ak := (ak.gr hC).gr ba
    replace al := (al.gr hC).gr ba
    replace bb := (bb.gr hC).gr ba
    replace bc := (bc.gr hC).gr ba
    replace ab := (ab.gr hC).gr ba
    replace ag := (ag.gr hC).gr ba
    replace av := (av.gr hC).gr ba
    replace hst := (hst.grow hC).grow ba
    have hC : Grow b5 dx b5 dy := .of_below hC0.below
    obtain ⟨b3, ev, hm⟩ := bS hm
    replace bb := bb.gr hC
    replace bc := bc.gr hC
    replace di := di.gr hC
    replace dj := dj.gr hC
    refine lc rfl rfl (r_call2 Tryz.call35 rfl rfl) (c_frac_Mul N 8 9 (frC 6 (frC 5 b5)) _ bm bn bo bp ((b2, bh), bi) er es et eu ((cy.1.1, cy.1.2), cy.2) ((bb.toSlF (Froz.int .u32)).froz 6) ((bc.froz 5 (by decide)).toSlF (Froz.int .u32)) ((di.froz 5).froz 6) ((dj.froz 5).froz 6) b3 ev) ?_
    rintro _ dz ⟨ew, dk, dl, dm, dn, rfl, a4, bq, br⟩
    refine ⟨_, rfl, ?_⟩
    replace bq := bq.thaw (flat_int .u32) a4 (((Fz.refl (col := b5)).froz 5).froz 6) (by decide)
    replace br := br.thaw (flat_int .u32) a4 (((Fz.refl (col := b5)).froz 5).froz 6) (by decide)
    replace a4 := a4.thawR (col := b5)
    generalize colR dy.heap.size b5 ew = b4 at *
    refine lN ⟨fun w' => Grow b4 dz b4 w', Grow.refl _ _, fun _ _ h => cls hC0 a4 h, ?_⟩
    refine xe rfl rfl ?_
    intro ex hC0
    replace h1 := (h1.gr hC).gr a4
    replace ah := (ah.gr hC).gr a4
    replace ad := (ad.gr hC).gr a4
    replace af := (af.gr hC).gr a4
    replace ae := (ae.gr hC).gr a4
    replace ak := (ak.gr hC).gr a4
    replace al := (al.gr hC).gr a4
    replace ab := (ab.gr hC).gr a4
    replace ag := (ag.gr hC).gr a4
    replace av := (av.gr hC).gr a4
    replace hst := (hst.grow hC).grow a4
    have hC : Grow b4 dz b4 ex := .of_below hC0.below
    replace av := av.gr hC
    refine l_bstore (v := (.agg #[(.bool b3.1.1), (.slice dk b3.1.2.length dl), (.slice dm b3.2.length dn)])) av Tryz.sizeOf40 rfl rfl (by intro u hu; simp only [Value.cells, List.mem_cons, List.not_mem_nil, or_false] at hu; rcases hu with rfl | rfl | rfl <;> rfl) rfl rfl ?_
    intro dp bj ey b6
    clear av
    replace b6 : Box 40 7 b4 dp cb #[(.bool b3.1.1), (.slice dk b3.1.2.length dl), (.slice dm b3.2.length dn)] := b6
    refine lN ⟨fun w' => Grow b4 dp b4 w', Grow.refl _ _, fun h => absurd h (by decide), ?_⟩
    refine xnil ?_
    replace h1 := (h1.gr hC).kp bj
    replace ah := (ah.gr hC).kp bj
    replace ad := (ad.gr hC).kp bj
    replace af := (af.gr hC).kp bj
    replace ae := (ae.gr hC).kp bj
    replace ak := (ak.gr hC).kp bj
    replace al := (al.gr hC).kp bj
    replace bq := (bq.gr hC).kp bj
    replace br := (br.gr hC).kp bj
    replace ab := (ab.gr hC).kp bj
    replace ag := (ag.gr hC).kp bj
    replace hst := (hst.grow hC).kp bj ey
    intro ez hC
    replace hC : Grow b4 dp b4 ez := .of_below hC.below
    refine wR <| lV (.int .i64 (IntKind.i64.wrap ((am : Int) + 1))) (r_add (am : Int) 1 rfl rfl) <| lM (.int .i64 (IntKind.i64.wrap ((am : Int) + 1))) <| lN ?_
    replace h1 := h1.gr hC
    replace h1 := h1.recol 8 5 (by decide)
    replace ah := ah.gr hC
    replace ah := ah.recol 8 5 (by decide)
    replace ad := ad.gr hC
    replace ad := ad.recol 8 5 (by decide)
    replace af := af.gr hC
    replace af := af.recol 8 5 (by decide)
    replace ae := ae.gr hC
    replace ae := ae.recol 8 5 (by decide)
    replace ak := ak.gr hC
    replace ak := ak.recol 8 5 (by decide)
    replace al := al.gr hC
    replace al := al.recol 8 5 (by decide)
    replace bq := bq.gr hC
    replace bq := bq.recolSelf 5 (by decide)
    replace br := br.gr hC
    replace br := br.recol 8 5 (by decide)
    replace ab := ab.gr hC
    replace ab := ab.recol 8 5 (by decide)
    replace ag := ag.gr hC
    replace ag := ag.recol 8 5 (by decide)
    replace b6 := b6.gr hC
    replace b6 := b6.recol 8 5 (by decide)
    replace hst := hst.grow hC
    replace hst := hst.recol 8 5 (by decide) (by decide)
    replace h1 := h1.recol 9 6 (by decide)
    replace ah := ah.recol 9 6 (by decide)
    replace ad := ad.recol 9 6 (by decide)
    replace af := af.recol 9 6 (by decide)
    replace ae := ae.recol 9 6 (by decide)
    replace ak := ak.recol 9 6 (by decide)
    replace al := al.recol 9 6 (by decide)
    replace bq := bq.recol 9 6 (by decide)
    replace br := br.recolSelf 6 (by decide)
    replace ab := ab.recol 9 6 (by decide)
    replace ag := ag.recol 9 6 (by decide)
    replace b6 := b6.recol 9 6 (by decide)
    replace hst := hst.recol 9 6 (by decide) (by decide)
    exact ⟨de.length, by simp, ⟨(rcC 9 6 (rcC 8 5 b4)), (am + 1), b3.1.1, dk, dl, b3.1.2, dm, dn, b3.2, de, rfl, hl2_L2, hm, hst, h1, ah, ad, af, ae, ab, ak, al, ag, bq, br, b6, (congrArg (Value.int .i64) (wrap_succ (Nat.lt_of_lt_of_le hlt_L2 ae.1.1))), rfl, rfl, rfl, rfl, rfl, rfl, rfl⟩⟩
   | cons cj d0 =>
    obtain ⟨hat, hl2_L3, hlt_L3⟩ := drop_get hl
    have hk : (a9 : Int) < (a8.length : Int) := by omega
    have hkb := decide_eq_true hk
    rw [m_model_Chance_L3.eq_2] at hm
    refine wS <| wR <| lV (.bool (decide ((a9 : Int) < (a8.length : Int)))) (r_lss (a9 : Int) (a8.length : Int) rfl rfl) <| lN <| wS ?_
    refine wcondT (congrArg Value.bool hkb) ?_
    refine wK <| wS <| wB <| wS <| wR ?_
    refine lV (sptr ct (Int.toNat (a9 : Int) * 1)) (r_idx Tryz.underlying33 Tryz.sizeOf3 rfl rfl (at?_some hat).1 (at?_some hat).2.1 (b8.addr hat)) ?_
    refine lV (.int .i64 cj) (r_ld Tryz.isAgg3 rfl (b8.atInt hat)) <| lA (.int .i64 cj) <| lN ?_
    refine wquiet (col := ai) (by kernel_rfl) (by kernel_rfl) ?_
    refine qv (v := (.int .i64 a3)) rfl (fun _ hC => r_move rfl) ?_
    refine qv (v := (.pointer ((some (⟨a5, 0, none⟩ : Addr)).map (·.add 2)))) rfl (fun _ hC => rF (sz := 1) (off := 2) Tryz.underlying28 rfl Tryz.sizeOf24 (by decide) rfl rfl ⟨_, _, rfl⟩) ?_
    refine qv (v := (.slice an aa.2.2.1.length ap)) rfl (fun _ hC => r_ld Tryz.isAgg24 rfl (((ab.atN).nth (q := 2) (v := (.slice an aa.2.2.1.length ap)) rfl).gr (Grow.of_below (col := ai) hC.below))) ?_
    refine qv (v := (.int .i64 cj)) rfl (fun _ hC => r_move rfl) ?_
    obtain ⟨b9, cz, hm⟩ := bS hm
    refine qv (v := (sptr an (Int.toNat cj * 1))) rfl (fun _ hC => r_idx Tryz.underlying24 Tryz.sizeOf23 rfl rfl (at?_some cz).1 (at?_some cz).2.1 (ad.addr cz)) ?_
    obtain ⟨_, e0, e1⟩ := ad.atN cz
    obtain ⟨⟨e2, e3, rfl, fb⟩, _⟩ := e0
    refine qv (v := (.slice e2 b9.length e3)) rfl (fun _ hC => r_ld Tryz.isAgg23 rfl (e1.one.gr (Grow.of_below (col := ai) hC.below))) ?_
    refine qv (v := (.int .i64 (b9.length : Int))) rfl (fun _ hC => r_len Tryz.underlying23 rfl) ?_
    refine qv (v := (.int .i64 (IntKind.i64.wrap (a3 * (b9.length : Int))))) rfl (fun _ hC => r_mul a3 (b9.length : Int) rfl rfl) ?_
    refine qv (v := (.slice a1 ac.length cap1)) rfl (fun _ hC => r_move rfl) ?_
    refine qv (v := (.int .i64 cj)) rfl (fun _ hC => r_move rfl) ?_
    obtain ⟨cq, c0, hm⟩ := bS hm
    refine qv (v := (sptr a1 (Int.toNat cj * 1))) rfl (fun _ hC => r_idx Tryz.underlying33 Tryz.sizeOf3 rfl rfl (at?_some c0).1 (at?_some c0).2.1 (h1.addr c0)) ?_
    refine qv (v := (.int .i64 cq)) rfl (fun _ hC => r_ld Tryz.isAgg3 rfl ((h1.gr (Grow.of_below (col := ai) hC.below)).atInt c0)) ?_
    refine qv (v := (.int .i64 (IntKind.i64.wrap ((IntKind.i64.wrap (a3 * (b9.length : Int))) + cq)))) rfl (fun _ hC => r_add (IntKind.i64.wrap (a3 * (b9.length : Int))) cq rfl rfl) ?_
    refine qv (v := (.int .i64 (IntKind.i64.wrap ((IntKind.i64.wrap (a3 * (b9.length : Int))) + cq)))) rfl (fun _ hC => r_assign rfl) ?_
    refine qnil ?_
    intro e4 hC
    replace hC : Grow ai ax ai e4 := .of_below hC.below
    refine wR <| lV (.int .i64 (IntKind.i64.wrap ((a9 : Int) + 1))) (r_add (a9 : Int) 1 rfl rfl) <| lM (.int .i64 (IntKind.i64.wrap ((a9 : Int) + 1))) <| lN ?_
    replace h1 := h1.gr hC
    replace cc := cc.gr hC
    replace ah := ah.gr hC
    replace ad := ad.gr hC
    replace af := af.gr hC
    replace ae := ae.gr hC
    replace ak := ak.gr hC
    replace al := al.gr hC
    replace b8 := b8.gr hC
    replace bb := bb.gr hC
    replace bc := bc.gr hC
    replace ab := ab.gr hC
    replace ag := ag.gr hC
    replace av := av.gr hC
    replace hst := hst.grow hC
    exact ⟨d0.length, by simp, ⟨ai, (IntKind.i64.wrap ((IntKind.i64.wrap (a3 * (b9.length : Int))) + cq)), (a9 + 1), d0, rfl, hl2_L3, hm, hst, h1, cc, ah, ad, af, ae, ab, ak, al, ag, b8, bb, bc, av, (congrArg (Value.int .i64) (wrap_succ (Nat.lt_of_lt_of_le hlt_L3 b8.1.1))), rfl, rfl, rfl, rfl, rfl, rfl, rfl, rfl, rfl, rfl, rfl, rfl, rfl⟩⟩
 | cons aj dq =>
  obtain ⟨hat, hl2_L1, hlt_L1⟩ := drop_get hl
  have hk : (aq : Int) < (ac.length : Int) := by omega
  have hkb := decide_eq_true hk
  rw [m_model_Chance_L1.eq_2] at hm
  refine wS <| wR <| lV (.bool (decide ((aq : Int) < (ac.length : Int)))) (r_lss (aq : Int) (ac.length : Int) rfl rfl) <| lN <| wS ?_
  refine wcondT (congrArg Value.bool hkb) ?_
  refine wK <| wS <| wB <| wS <| wR <| lM (.int .i64 (aq : Int)) ?_
  refine lV (sptr a1 (Int.toNat (aq : Int) * 1)) (r_idx Tryz.underlying33 Tryz.sizeOf3 rfl rfl (at?_some hat).1 (at?_some hat).2.1 (h1.addr hat)) ?_
  refine lV (.int .i64 aj) (r_ld Tryz.isAgg3 rfl (h1.atInt hat)) <| lA (.int .i64 (aq : Int)) <| lA (.int .i64 aj) <| lN <| wS ?_
  refine Wp.cut (fun f bs => ∃ (bk : Col) (c3 : Bool), m_model_Chance_J1 aq b7 bd be (m_model_Chance_L1 N aa ac dq) c3 = some r ∧ St w0 (col0 col) bk bs ∧ Sl (Rep.int .i64) bk bs a1 cap1 ac ∧ Sl Rep.str bk bs ay az aa.2.1 ∧ Sl (Rep.slice Rep.str) bk bs an ap aa.2.2.1 ∧ Sl (Rep.slice (Rep.int .i64)) bk bs aw a0 aa.2.2.2.1 ∧ Sl (Rep.slice (Rep.pair (Rep.pair Rep.bool (Rep.slice (Rep.int .u32))) (Rep.slice (Rep.int .u32)))) bk bs ar au aa.2.2.2.2 ∧ Box 28 1 bk bs a5 #[(.string aa.1), (.slice ay aa.2.1.length az), (.slice an aa.2.2.1.length ap), (.slice aw aa.2.2.2.1.length a0), (.slice ar aa.2.2.2.2.length au)] ∧ Own (Rep.int .u32) 114 3 bk bs bv bw bd ∧ Own (Rep.int .u32) 114 4 bk bs bx bz be ∧ Box 40 2 bk bs bt #[(.bool b7), (.slice bv bd.length bw), (.slice bx be.length bz)] ∧ f 1 = (.slice a1 ac.length cap1) ∧ f 2 = (.pointer (some ⟨a5, 0, none⟩)) ∧ f 28 = (.slice a1 ac.length cap1) ∧ f 29 = (.int .i64 (ac.length : Int)) ∧ f 30 = (.int .i64 (aq : Int)) ∧ f 4 = (.pointer (some ⟨bt, 0, none⟩)) ∧ f 46 = (.bool c3) ∧ f 1000000 = (enc [])) ?_ ?_
  ·intro f bs hJ
   obtain ⟨bk, c3, hm, hst, h1, ah, ad, af, ae, ab, ak, al, ag, hs1, hs2, hs28, hs29, hs30, hs4, hs46, hs1000000⟩ := hJ
   rw [m_model_Chance_J1.eq_1] at hm
   refine .lD 1 hs1 <| .lD 2 hs2 <| .lD 28 hs28 <| .lD 29 hs29 <| .lD 30 hs30 <| .lD 4 hs4 <| .lD 46 hs46 <| .lD 1000000 hs1000000 ?_
   clear hs1 hs2 hs28 hs29 hs30 hs4 hs46 hs1000000
   refine wcond (c3) rfl (fun hb => ?_) (fun hb => ?_)
   ·rw [if_pos hb] at hm
    clear hb
    cases hm
   rw [if_neg (by rw [hb]; decide)] at hm
   clear hb
   refine wK <| wR <| lV (.int .i64 (IntKind.i64.wrap ((aq : Int) + 1))) (r_add (aq : Int) 1 rfl rfl) <| lM (.int .i64 (IntKind.i64.wrap ((aq : Int) + 1))) <| lN ?_
   exact ⟨dq.length, by simp, ⟨bk, (aq + 1), b7, bv, bw, bd, bx, bz, be, dq, rfl, hl2_L1, hm, hst, h1, ah, ad, af, ae, ab, ak, al, ag, (congrArg (Value.int .i64) (wrap_succ (Nat.lt_of_lt_of_le hlt_L1 h1.1.1))), rfl, rfl, rfl, rfl, rfl, rfl⟩⟩
  refine wR <| lM (.int .i64 aj) <| lV (.bool (decide (aj < 0))) (r_lss aj 0 rfl rfl) <| lM (.bool (decide (aj < 0))) ?_
  by_cases ao : (decide (aj < 0)) = true
  ·rw [if_pos ao] at hm
   refine lp (b := decide (aj < 0)) 37 rfl rfl rfl rfl (by rw [ao]; rfl) ?_
   refine lp (b := decide (aj < 0)) 37 rfl rfl rfl rfl (by rw [ao]; rfl) ?_
   refine lp (b := decide (aj < 0)) 37 rfl rfl rfl rfl (by rw [ao]; rfl) ?_
   refine lp (b := decide (aj < 0)) 37 rfl rfl rfl rfl (by rw [ao]; rfl) ?_
   refine lp (b := decide (aj < 0)) 37 rfl rfl rfl rfl (by rw [ao]; rfl) ?_
   refine lp (b := decide (aj < 0)) 37 rfl rfl rfl rfl (by rw [ao]; rfl) ?_
   refine lp (b := decide (aj < 0)) 37 rfl rfl rfl rfl (by rw [ao]; rfl) ?_
   refine lp (b := decide (aj < 0)) 37 rfl rfl rfl rfl (by rw [ao]; rfl) ?_
   refine lV (.bool true) (r_pickT (congrArg Value.bool ao) rfl) <| lN ?_
   exact ⟨a6, true, hm, hst, h1, ah, ad, af, ae, ab, ak, al, ag, rfl, rfl, rfl, rfl, rfl, rfl, rfl, rfl⟩
  rw [if_neg ao] at hm
  replace ao := Bool.eq_false_iff.2 ao
  refine lg (b := decide (aj < 0)) 37 rfl rfl rfl (by rw [ao]; rfl) ?_
  refine lM (.int .i64 aj) ?_
  refine lg (b := decide (aj < 0)) 37 rfl rfl rfl (by rw [ao]; rfl) ?_
  refine lV (.pointer ((some (⟨a5, 0, none⟩ : Addr)).map (·.add 2))) (rF (sz := 1) (off := 2) Tryz.underlying28 rfl Tryz.sizeOf24 (by decide) rfl rfl ⟨_, _, rfl⟩) ?_
  refine lg (b := decide (aj < 0)) 37 rfl rfl rfl (by rw [ao]; rfl) ?_
  refine lV (.slice an aa.2.2.1.length ap) (r_ld Tryz.isAgg24 rfl ((ab.atN).nth (q := 2) (v := (.slice an aa.2.2.1.length ap)) rfl)) ?_
  refine lg (b := decide (aj < 0)) 37 rfl rfl rfl (by rw [ao]; rfl) ?_
  refine lM (.int .i64 (aq : Int)) ?_
  refine lg (b := decide (aj < 0)) 37 rfl rfl rfl (by rw [ao]; rfl) ?_
  obtain ⟨ck, c4, hm⟩ := bS hm
  refine lV (sptr an (Int.toNat (aq : Int) * 1)) (r_idx Tryz.underlying24 Tryz.sizeOf23 rfl rfl (at?_some c4).1 (at?_some c4).2.1 (ad.addr c4)) ?_
  refine lg (b := decide (aj < 0)) 37 rfl rfl rfl (by rw [ao]; rfl) ?_
  obtain ⟨_, e5, e6⟩ := ad.atN c4
  obtain ⟨⟨e7, e8, rfl, fc⟩, _⟩ := e5
  refine lV (.slice e7 ck.length e8) (r_ld Tryz.isAgg23 rfl e6.one) ?_
  refine lg (b := decide (aj < 0)) 37 rfl rfl rfl (by rw [ao]; rfl) ?_
  refine lV (.int .i64 (ck.length : Int)) (r_len Tryz.underlying23 rfl) ?_
  refine lg (b := decide (aj < 0)) 37 rfl rfl rfl (by rw [ao]; rfl) ?_
  refine lV (.bool (decide ((ck.length : Int) ≤ aj))) (r_geq aj (ck.length : Int) rfl rfl) <| lV (.bool (decide ((ck.length : Int) ≤ aj))) (r_pickF (congrArg Value.bool ao) rfl) <| lN ?_
  exact ⟨a6, (decide ((ck.length : Int) ≤ aj)), hm, hst, h1, ah, ad, af, ae, ab, ak, al, ag, rfl, rfl, rfl, rfl, rfl, rfl, rfl, rfl⟩
def m_data_sum_L2 (N : Nat) (rc : ((ByteArray × (List ByteArray) × (List (List ByteArray)) × (List (List Int)) × (List (List ((Bool × (List Int)) × (List Int))))) → (List Int) → Int → Option (((Bool × (List Int)) × (List Int)) × (List Int)))) (aa : (ByteArray × (List ByteArray) × (List (List ByteArray)) × (List (List Int)) × (List (List ((Bool × (List Int)) × (List Int)))))) (ab : Int) (ag : (List ByteArray)) : Nat → (List Int) → Int → Bool → (List Int) → (List Int) → Option (((Bool × (List Int)) × (List Int)) × (List Int))
  | 0, _, _, _, _, _ => none
  | ak + 1, ac, ae, ah, ai, aj => if (decide (ae < (ag.length : Int))) = true then ((at? ac ab).bind fun an => (some (ac.set (Int.toNat ab) ae)).bind fun al => (rc (aa.1, aa.2.1, aa.2.2.1, aa.2.2.2.1, aa.2.2.2.2) al (IntKind.i64.wrap (ab + 1))).bind fun ad => (m_frac_Add N ((ah, ai), aj) ((ad.1.1.1, ad.1.1.2), ad.1.2)).bind fun af => (m_data_sum_L2 N rc aa ab ag ak) ad.2 (IntKind.i64.wrap (ae + 1)) af.1.1 af.1.2 af.2) else ((at? ac ab).bind fun ao => (some (ac.set (Int.toNat ab) (-1))).bind fun am => some (((ah, ai), aj), am))
termination_by structural x => x
def m_data_sum_L1 (N : Nat) (rc : ((ByteArray × (List ByteArray) × (List (List ByteArray)) × (List (List Int)) × (List (List ((Bool × (List Int)) × (List Int))))) → (List Int) → Int → Option (((Bool × (List Int)) × (List Int)) × (List Int)))) (aa : (ByteArray × (List ByteArray) × (List (List ByteArray)) × (List (List Int)) × (List (List ((Bool × (List Int)) × (List Int)))))) : Nat → (List Int) → Bool → (List Int) → (List Int) → Int → Option (((Bool × (List Int)) × (List Int)) × (List Int))
  | 0, _, _, _, _, _ => none
  | af + 1, ab, ag, ah, ai, ac => if (decide (ac < (ab.length : Int))) = true then ((at? ab ac).bind fun aj => if (decide (0 ≤ aj)) = true then ((m_data_sum_L1 N rc aa af) ab ag ah ai (IntKind.i64.wrap (ac + 1))) else ((m_frac_Sum N ([] : List ((Bool × (List Int)) × (List Int)))).bind fun ad => (at? aa.2.2.1 ac).bind fun ak => m_data_sum_L2 N rc aa ac ak N ab 0 ad.1.1 ad.1.2 ad.2)) else ((m_model_Chance N (aa.1, aa.2.1, aa.2.2.1, aa.2.2.2.1, aa.2.2.2.2) ab).bind fun ae => some (((ae.1.1.1, ae.1.1.2), ae.1.2), ab))
termination_by structural x => x
def m_data_sum_B (N : Nat) (rc : ((ByteArray × (List ByteArray) × (List (List ByteArray)) × (List (List Int)) × (List (List ((Bool × (List Int)) × (List Int))))) → (List Int) → Int → Option (((Bool × (List Int)) × (List Int)) × (List Int)))) (aa : (ByteArray × (List ByteArray) × (List (List ByteArray)) × (List (List Int)) × (List (List ((Bool × (List Int)) × (List Int)))))) (ab : (List Int)) (ac : Int) : Option (((Bool × (List Int)) × (List Int)) × (List Int)) :=
  m_data_sum_L1 N rc aa N ab false ([] : List Int) ([] : List Int) ac
theorem c_data_sum_B (N : Nat) (rc : ((ByteArray × (List ByteArray) × (List (List ByteArray)) × (List (List Int)) × (List (List ((Bool × (List Int)) × (List Int))))) → (List Int) → Int → Option (((Bool × (List Int)) × (List Int)) × (List Int)))) (IH : ∀ (c1 : Nat) (c2 : Nat) (col : Col) (w0 : World) (qc1 : Nat) (hd : dstB [qc1] = true) (av : Option Addr) (aw : Nat) (an : Option Addr) (ao : Nat) (ax : Option Addr) (ay : Nat) (az : Option Addr) (a0 : Nat) (aa : (ByteArray × (List ByteArray) × (List (List ByteArray)) × (List (List Int)) × (List (List ((Bool × (List Int)) × (List Int)))))) (a1 : Option Addr) (cap1 : Nat) (ap : (List Int)) (bn : Int) (ae : Sl Rep.str col w0 av aw aa.2.1) (ac : Sl (Rep.slice Rep.str) col w0 an ao aa.2.2.1) (af : Sl (Rep.slice (Rep.int .i64)) col w0 ax ay aa.2.2.2.1) (ag : Sl (Rep.slice (Rep.pair (Rep.pair Rep.bool (Rep.slice (Rep.int .u32))) (Rep.slice (Rep.int .u32)))) col w0 az a0 aa.2.2.2.2) (h1 : Own (Rep.int .i64) 3 qc1 col w0 a1 cap1 ap) (r : (((Bool × (List Int)) × (List Int)) × (List Int))) (hm : rc aa ap bn = some r), Calls Tryz.prog 84 #[(.agg #[(.string aa.1), (.slice av aa.2.1.length aw), (.slice an aa.2.2.1.length ao), (.slice ax aa.2.2.2.1.length ay), (.slice az aa.2.2.2.2.length a0)]), (.slice a1 ap.length cap1), (.int .i64 bn)] w0 (fun e w' => ∃ (col' : Col) (ra1 : Option Addr) (rc2 : Nat) (ra4 : Option Addr) (rc5 : Nat), e = .returned ((.agg #[(.bool r.1.1.1), (.slice ra1 r.1.1.2.length rc2), (.slice ra4 r.1.2.length rc5)])) ∧ KeepP (pS [qc1]) col w0 col' w' ∧ Own (Rep.int .u32) 114 c1 col' w' ra1 rc2 r.1.1.2 ∧ Own (Rep.int .u32) 114 c2 col' w' ra4 rc5 r.1.2 ∧ Own (Rep.int .i64) 3 qc1 col' w' a1 cap1 r.2 ∧ r.2.length = ap.length)) (c1 : Nat) (c2 : Nat) (col : Col) (w0 : World) (qc1 : Nat) (hd : dstB [qc1] = true) (av : Option Addr) (aw : Nat) (an : Option Addr) (ao : Nat) (ax : Option Addr) (ay : Nat) (az : Option Addr) (a0 : Nat) (aa : (ByteArray × (List ByteArray) × (List (List ByteArray)) × (List (List Int)) × (List (List ((Bool × (List Int)) × (List Int)))))) (a1 : Option Addr) (cap1 : Nat) (ap : (List Int)) (bn : Int) (ae : Sl Rep.str col w0 av aw aa.2.1) (ac : Sl (Rep.slice Rep.str) col w0 an ao aa.2.2.1) (af : Sl (Rep.slice (Rep.int .i64)) col w0 ax ay aa.2.2.2.1) (ag : Sl (Rep.slice (Rep.pair (Rep.pair Rep.bool (Rep.slice (Rep.int .u32))) (Rep.slice (Rep.int .u32)))) col w0 az a0 aa.2.2.2.2) (h1 : Own (Rep.int .i64) 3 qc1 col w0 a1 cap1 ap) (r : (((Bool × (List Int)) × (List Int)) × (List Int))) (hm : m_data_sum_B N rc aa ap bn = some r) :
    Calls Tryz.prog 84 #[(.agg #[(.string aa.1), (.slice av aa.2.1.length aw), (.slice an aa.2.2.1.length ao), (.slice ax aa.2.2.2.1.length ay), (.slice az aa.2.2.2.2.length a0)]), (.slice a1 ap.length cap1), (.int .i64 bn)] w0 (fun e w' => ∃ (col' : Col) (ra1 : Option Addr) (rc2 : Nat) (ra4 : Option Addr) (rc5 : Nat), e = .returned ((.agg #[(.bool r.1.1.1), (.slice ra1 r.1.1.2.length rc2), (.slice ra4 r.1.2.length rc5)])) ∧ KeepP (pS [qc1]) col w0 col' w' ∧ Own (Rep.int .u32) 114 c1 col' w' ra1 rc2 r.1.1.2 ∧ Own (Rep.int .u32) 114 c2 col' w' ra4 rc5 r.1.2 ∧ Own (Rep.int .i64) 3 qc1 col' w' a1 cap1 r.2 ∧ r.2.length = ap.length) := by
 refine calls_ofR (m := 57) (args := [(.agg #[(.string aa.1), (.slice av aa.2.1.length aw), (.slice an aa.2.2.1.length ao), (.slice ax aa.2.2.2.1.length ay), (.slice az aa.2.2.2.2.length a0)]), (.slice a1 ap.length cap1), (.int .i64 bn)]) Tryz.func84 rfl rfl rfl ?_
 rw [m_data_sum_B.eq_1] at hm
 have hst := St.startL (l := [qc1]) rfl col w0
 replace ae := ae.keep (Stay.startL [qc1] col w0)
 replace ac := ac.keep (Stay.startL [qc1] col w0)
 replace af := af.keep (Stay.startL [qc1] col w0)
 replace ag := ag.keep (Stay.startL [qc1] col w0)
 replace h1 := h1.startL (dst_nz hd 0 rfl) (dst_ix hd 0 rfl)
 refine wS <| wR ?_
 refine l_box (col := (colL [qc1] col)) (v := (.agg #[(.string aa.1), (.slice av aa.2.1.length aw), (.slice an aa.2.2.1.length ao), (.slice ax aa.2.2.2.1.length ay), (.slice az aa.2.2.2.2.length a0)])) 1 rfl rfl ?_
 intro ca d3 dw cb ad
 replace ad : Box 28 1 dw d3 ca #[(.string aa.1), (.slice av aa.2.1.length aw), (.slice an aa.2.2.1.length ao), (.slice ax aa.2.2.2.1.length ay), (.slice az aa.2.2.2.2.length a0)] := ad
 refine l_alloc (col := dw) (v := (.agg #[(.bool false), (.slice none (([] : List Int).length) 0), (.slice none (([] : List Int).length) 0)])) 2 rfl Tryz.zeroValue40 ?_
 intro b2 d4 dx b3 ab
 replace ab : Box 40 2 dx d4 b2 #[(.bool false), (.slice none (([] : List Int).length) 0), (.slice none (([] : List Int).length) 0)] := ab
 refine lN <| wS <| wS <| wR <| lM (.int .i64 bn) <| lA (.int .i64 bn) <| lN <| wB ?_
 replace ae := (ae.gr cb).gr b3
 replace ac := (ac.gr cb).gr b3
 replace af := (af.gr cb).gr b3
 replace ag := (ag.gr cb).gr b3
 replace h1 := (h1.gr cb).gr b3
 replace hst := (hst.grow cb).grow b3
 replace ad := ad.gr b3
 refine wloop (fun n f a6 => ∃ (aq : Col) (a2 : List Int) (ch : Bool) (cc : Option Addr) (cd : Nat) (b4 : List Int) (ce : Option Addr) (cf : Nat) (b5 : List Int) (ah : Int) (b6 : Nat), b6 = n ∧ m_data_sum_L1 N rc aa b6 a2 ch b4 b5 ah = some r ∧ St w0 (colL [qc1] col) aq a6 ∧ Own (Rep.int .i64) 3 440 aq a6 a1 cap1 a2 ∧ a2.length = ap.length ∧ Sl Rep.str aq a6 av aw aa.2.1 ∧ Sl (Rep.slice Rep.str) aq a6 an ao aa.2.2.1 ∧ Sl (Rep.slice (Rep.int .i64)) aq a6 ax ay aa.2.2.2.1 ∧ Sl (Rep.slice (Rep.pair (Rep.pair Rep.bool (Rep.slice (Rep.int .u32))) (Rep.slice (Rep.int .u32)))) aq a6 az a0 aa.2.2.2.2 ∧ Box 28 1 aq a6 ca #[(.string aa.1), (.slice av aa.2.1.length aw), (.slice an aa.2.2.1.length ao), (.slice ax aa.2.2.2.1.length ay), (.slice az aa.2.2.2.2.length a0)] ∧ Own (Rep.int .u32) 114 3 aq a6 cc cd b4 ∧ Own (Rep.int .u32) 114 4 aq a6 ce cf b5 ∧ Box 40 2 aq a6 b2 #[(.bool ch), (.slice cc b4.length cd), (.slice ce b5.length cf)] ∧ a2.length = ap.length ∧ f 1 = (.slice a1 a2.length cap1) ∧ f 3 = (.pointer (some ⟨ca, 0, none⟩)) ∧ f 6 = (.pointer (some ⟨b2, 0, none⟩)) ∧ f 7 = (.int .i64 ah) ∧ f 1000000 = (enc [])) N ⟨dx, ap, false, none, 0, ([] : List Int), none, 0, ([] : List Int), bn, N, rfl, hm, hst, h1, rfl, ae, ac, af, ag, ad, Own.nil, Own.nil, ab, rfl, rfl, rfl, rfl, rfl, rfl⟩ ?_
 clear hm; intro n f a6 hI
 obtain ⟨aq, a2, ch, cc, cd, b4, ce, cf, b5, ah, b6, hn, hm, hst, bg, dy, ae, ac, af, ag, ad, ak, al, ab, c6, hs1, hs3, hs6, hs7, hs1000000⟩ := hI
 subst hn
 refine .lD 1 hs1 <| .lD 3 hs3 <| .lD 6 hs6 <| .lD 7 hs7 <| .lD 1000000 hs1000000 ?_
 clear hs1 hs3 hs6 hs7 hs1000000
 cases b6 with
 | zero => rw [m_data_sum_L1.eq_1] at hm; cases hm
 | succ b6 =>
  rw [m_data_sum_L1.eq_2] at hm
  refine wS <| wS <| wR <| lM (.int .i64 ah) <| lM (.slice a1 a2.length cap1) <| lV (.int .i64 (a2.length : Int)) (r_len Tryz.underlying33 rfl) <| lV (.bool (decide (ah < (a2.length : Int)))) (r_lss ah (a2.length : Int) rfl rfl) <| lN ?_
  refine wcond (decide (ah < (a2.length : Int))) rfl (fun hb => ?_) (fun hb => ?_)
  ·rw [if_pos hb] at hm
   clear hb
   refine wK <| wS <| wB <| wS <| wS <| wR <| lM (.slice a1 a2.length cap1) <| lM (.int .i64 ah) ?_
   obtain ⟨cq, cr, hm⟩ := bS hm
   refine lV (sptr a1 (Int.toNat ah * 1)) (r_idx Tryz.underlying33 Tryz.sizeOf3 rfl rfl (at?_some cr).1 (at?_some cr).2.1 (bg.addr cr)) ?_
   refine lV (.int .i64 cq) (r_ld Tryz.isAgg3 rfl (bg.atInt cr)) <| lV (.bool (decide (0 ≤ cq))) (r_geq cq 0 rfl rfl) <| lN ?_
   refine wcond (decide (0 ≤ cq)) rfl (fun hb => ?_) (fun hb => ?_)
   ·rw [if_pos hb] at hm
    clear hb
    refine wexit (inB_hit ?_)
    refine wR <| lM (.int .i64 ah) <| lV (.int .i64 (IntKind.i64.wrap (ah + 1))) (r_add ah 1 rfl rfl) <| lA (.int .i64 (IntKind.i64.wrap (ah + 1))) <| lN ?_
    exact ⟨b6, by omega, ⟨aq, a2, ch, cc, cd, b4, ce, cf, b5, (IntKind.i64.wrap (ah + 1)), b6, rfl, hm, hst, bg, dy, ae, ac, af, ag, ad, ak, al, ab, c6, rfl, rfl, rfl, rfl, rfl⟩⟩
   rw [if_neg (by rw [hb]; decide)] at hm
   clear hb
   refine wK <| wS <| wR ?_
   obtain ⟨bh, d5, hm⟩ := bS hm
   refine lc rfl rfl (r_call1 Tryz.call51 rfl) (c_frac_Sum N 5 6 aq _ none 0 ([] : List ((Bool × (List Int)) × (List Int))) Sl.nil bh d5) ?_
   rintro _ e4 ⟨d6, c7, c8, da, db, rfl, bi, dc, dd⟩
   refine ⟨_, rfl, ?_⟩
   refine l_alloc (col := d6) (v := (.agg #[(.bool false), (.slice none (([] : List Int).length) 0), (.slice none (([] : List Int).length) 0)])) 7 rfl Tryz.zeroValue40 ?_
   intro ci d7 de a7 cs
   replace cs : Box 40 7 de d7 ci #[(.bool false), (.slice none (([] : List Int).length) 0), (.slice none (([] : List Int).length) 0)] := cs
   refine l_bstore (v := (.agg #[(.bool bh.1.1), (.slice c7 bh.1.2.length c8), (.slice da bh.2.length db)])) cs Tryz.sizeOf40 rfl rfl (by intro u hu; simp only [Value.cells, List.mem_cons, List.not_mem_nil, or_false] at hu; rcases hu with rfl | rfl | rfl <;> rfl) rfl rfl ?_
   intro d8 a8 d9 am
   clear cs
   replace am : Box 40 7 de d8 ci #[(.bool bh.1.1), (.slice c7 bh.1.2.length c8), (.slice da bh.2.length db)] := am
   refine lN <| wS <| wS <| wR <| lV (.pointer ((some (⟨ca, 0, none⟩ : Addr)).map (·.add 2))) (rF (sz := 1) (off := 2) Tryz.underlying28 rfl Tryz.sizeOf24 (by decide) rfl rfl ⟨_, _, rfl⟩) ?_
   replace ad := ((ad.gr bi).gr a7).kp a8
   refine lV (.slice an aa.2.2.1.length ao) (r_ld Tryz.isAgg24 rfl ((ad.atN).nth (q := 2) (v := (.slice an aa.2.2.1.length ao)) rfl)) <| lM (.int .i64 ah) ?_
   obtain ⟨b7, ct, hm⟩ := bS hm
   replace ac := ((ac.gr bi).gr a7).kp a8
   refine lV (sptr an (Int.toNat ah * 1)) (r_idx Tryz.underlying24 Tryz.sizeOf23 rfl rfl (at?_some ct).1 (at?_some ct).2.1 (ac.addr ct)) ?_
   obtain ⟨_, ea, eb⟩ := ac.atN ct
   obtain ⟨⟨ec, ed, rfl, e5⟩, _⟩ := ea
   refine lV (.slice ec b7.length ed) (r_ld Tryz.isAgg23 rfl eb.one) <| lV (.int .i64 (b7.length : Int)) (r_len Tryz.underlying23 rfl) <| lM (.int .i64 0) <| lN <| wB ?_
   replace bg := ((bg.gr bi).gr a7).kp a8
   replace ae := ((ae.gr bi).gr a7).kp a8
   replace af := ((af.gr bi).gr a7).kp a8
   replace ag := ((ag.gr bi).gr a7).kp a8
   replace ak := ((ak.gr bi).gr a7).kp a8
   replace al := ((al.gr bi).gr a7).kp a8
   replace ab := ((ab.gr bi).gr a7).kp a8
   replace hst := ((hst.grow bi).grow a7).kp a8 d9
   replace dc := (dc.gr a7).kp a8
   replace dd := (dd.gr a7).kp a8
   refine wloop (fun n f a3 => ∃ (aj : Col) (a4 : List Int) (ar : Int) (bw : Bool) (bo : Option Addr) (bp : Nat) (bq : List Int) (br : Option Addr) (bs : Nat) (bt : List Int) (b8 : Nat), b8 = n ∧ m_data_sum_L2 N rc aa ah b7 b8 a4 ar bw bq bt = some r ∧ St w0 (colL [qc1] col) aj a3 ∧ Own (Rep.int .i64) 3 440 aj a3 a1 cap1 a4 ∧ a4.length = ap.length ∧ Sl Rep.str aj a3 av aw aa.2.1 ∧ Sl (Rep.slice Rep.str) aj a3 an ao aa.2.2.1 ∧ Sl (Rep.slice (Rep.int .i64)) aj a3 ax ay aa.2.2.2.1 ∧ Sl (Rep.slice (Rep.pair (Rep.pair Rep.bool (Rep.slice (Rep.int .u32))) (Rep.slice (Rep.int .u32)))) aj a3 az a0 aa.2.2.2.2 ∧ Box 28 1 aj a3 ca #[(.string aa.1), (.slice av aa.2.1.length aw), (.slice an aa.2.2.1.length ao), (.slice ax aa.2.2.2.1.length ay), (.slice az aa.2.2.2.2.length a0)] ∧ Own (Rep.int .u32) 114 3 aj a3 cc cd b4 ∧ Own (Rep.int .u32) 114 4 aj a3 ce cf b5 ∧ Box 40 2 aj a3 b2 #[(.bool ch), (.slice cc b4.length cd), (.slice ce b5.length cf)] ∧ Own (Rep.int .u32) 114 5 aj a3 bo bp bq ∧ Own (Rep.int .u32) 114 6 aj a3 br bs bt ∧ Box 40 7 aj a3 ci #[(.bool bw), (.slice bo bq.length bp), (.slice br bt.length bs)] ∧ a4.length = ap.length ∧ f 1 = (.slice a1 a4.length cap1) ∧ f 3 = (.pointer (some ⟨ca, 0, none⟩)) ∧ f 30 = (.int .i64 (b7.length : Int)) ∧ f 31 = (.int .i64 ar) ∧ f 6 = (.pointer (some ⟨b2, 0, none⟩)) ∧ f 7 = (.int .i64 ah) ∧ f 8 = (.pointer (some ⟨ci, 0, none⟩)) ∧ f 1000000 = (enc [])) N ⟨de, a2, 0, bh.1.1, c7, c8, bh.1.2, da, db, bh.2, N, rfl, hm, hst, bg, dy, ae, ac, af, ag, ad, ak, al, ab, dc, dd, am, c6, rfl, rfl, rfl, rfl, rfl, rfl, rfl, rfl⟩ ?_
   clear hm; intro n f a3 hI
   obtain ⟨aj, a4, ar, bw, bo, bp, bq, br, bs, bt, b8, hn, hm, hst, cg, ee, ae, ac, af, ag, ad, ak, al, ab, bj, bk, am, ef, hs1, hs3, hs30, hs31, hs6, hs7, hs8, hs1000000⟩ := hI
   subst hn
   refine .lD 1 hs1 <| .lD 3 hs3 <| .lD 30 hs30 <| .lD 31 hs31 <| .lD 6 hs6 <| .lD 7 hs7 <| .lD 8 hs8 <| .lD 1000000 hs1000000 ?_
   clear hs1 hs3 hs30 hs31 hs6 hs7 hs8 hs1000000
   cases b8 with
   | zero => rw [m_data_sum_L2.eq_1] at hm; cases hm
   | succ b8 =>
    rw [m_data_sum_L2.eq_2] at hm
    refine wS <| wR <| lV (.bool (decide (ar < (b7.length : Int)))) (r_lss ar (b7.length : Int) rfl rfl) <| lN <| wS ?_
    refine wcond (decide (ar < (b7.length : Int))) rfl (fun hb => ?_) (fun hb => ?_)
    ·rw [if_pos hb] at hm
     clear hb
     refine wK <| wS <| wB <| wS <| wR <| lM (.int .i64 ar) <| lA (.int .i64 ar) <| lN <| wS <| wR <| lM (.slice a1 a4.length cap1) <| lM (.int .i64 ah) <| lM (.int .i64 ar) ?_
     obtain ⟨e6, cu, hm⟩ := bS hm
     refine lV (sptr a1 (Int.toNat ah * 1)) (r_idx Tryz.underlying33 Tryz.sizeOf3 rfl rfl (at?_some cu).1 (at?_some cu).2.1 (cg.addr cu)) ?_
     obtain ⟨bu, cj, hm⟩ := bS hm
     have cj : bu = a4.set (Int.toNat ah) ar := (Option.some.inj cj).symm
     refine l_store (x1 := ar) (v := (.int .i64 ar)) cg cu rfl Tryz.sizeOf3 (rd_int .i64 ar) rfl rfl (by decide) ?_
     intro dz a9 eg ck
     rw [← cj] at ck
     have eh : bu.length = ap.length := (show a4.length = bu.length by rw [cj, List.length_set]).symm.trans ee
     refine .ld (d := 1) (v := (.slice a1 bu.length cap1)) (congrArg (fun n => Value.slice a1 n cap1) (show a4.length = bu.length by rw [cj, List.length_set])) ?_
     clear cg
     refine lN ?_
     refine wmixD (col := aj) (pS [440]) [(0, 5), (1, 0), (2, 1), (3, 1), (4, 1), (5, 4), (6, 3), (7, 2)] (by kernel_rfl) (by kernel_rfl) ?_
     replace am := am.kp a9
     refine xsD (v := (.agg #[(.bool bw), (.slice bo bq.length bp), (.slice br bt.length bs)])) rfl rfl (fun _ hC => r_ldN Tryz.isAgg40 Tryz.sizeOf40 rfl rfl (am.dk hC rfl rfl).atN) ?_
     replace ad := ad.kp a9
     refine xvD (v := (.agg #[(.string aa.1), (.slice av aa.2.1.length aw), (.slice an aa.2.2.1.length ao), (.slice ax aa.2.2.2.1.length ay), (.slice az aa.2.2.2.2.length a0)])) rfl rfl (fun _ hC => r_ldN Tryz.isAgg28 Tryz.sizeOf28 rfl rfl (ad.atN.gr (Grow.of_below (col := aj) hC.below))) ?_
     refine xuD (v := (.slice a1 bu.length cap1)) rfl rfl (fun _ => r_move rfl) ?_
     refine xuD (v := (.int .i64 ah)) rfl rfl (fun _ => r_move rfl) ?_
     refine xuD (v := (.int .i64 (IntKind.i64.wrap (ah + 1)))) rfl rfl (fun _ => r_add ah 1 rfl rfl) ?_
     refine xeD rfl rfl ?_
     intro d0 hC0
     have hC : Grow aj dz aj d0 := .of_below hC0.below
     replace ae := (ae.kp a9).gr hC
     replace ac := (ac.kp a9).gr hC
     replace af := (af.kp a9).gr hC
     replace ag := (ag.kp a9).gr hC
     replace ak := (ak.kp a9).gr hC
     replace al := (al.kp a9).gr hC
     replace bj := (bj.kp a9).gr hC
     replace bk := (bk.kp a9).gr hC
     replace ab := (ab.kp a9).gr hC
     replace hst := (hst.kp a9 eg).grow hC
     replace ck := ck.gr hC
     replace ad := ad.gr hC
     replace am := am.gr hC
     have df : KeepP (pS [440]) aj dz aj d0 := hC.toP
     obtain ⟨bl, ei, hm⟩ := bS hm
     refine lc rfl rfl (r_call3 Tryz.call84 rfl rfl rfl) (IH 8 9 aj _ 440 rfl av aw an ao ax ay az a0 (aa.1, aa.2.1, aa.2.2.1, aa.2.2.2.1, aa.2.2.2.2) a1 cap1 bu (IntKind.i64.wrap (ah + 1)) ae ac af ag ck bl ei) ?_
     rintro _ cv ⟨ba, ej, ek, el, em, rfl, a5, dg, dh, bd, di⟩
     refine ⟨_, rfl, ?_⟩
     replace ae := ae.kpp a5
     replace ac := ac.kpp a5
     replace af := af.kpp a5
     replace ag := ag.kpp a5
     replace ak := ak.kpp a5
     replace al := al.kpp a5
     replace bj := bj.kpp a5
     replace bk := bk.kpp a5
     replace ad := ad.kpp a5
     replace ab := ab.kpp a5
     replace am := am.kpp a5
     replace df := df.trans (a5.mono (by first | exact pS_p2 rfl | exact pS_p1 rfl | exact pS_pS rfl))
     clear ck
     have d1 : bl.2.length = ap.length := di.trans eh
     refine .ld (d := 1) (v := (.slice a1 bl.2.length cap1)) (congrArg (fun n => Value.slice a1 n cap1) (show bu.length = bl.2.length from di.symm)) ?_
     refine .ld (d := 40) (v := (.slice a1 bl.2.length cap1)) (congrArg (fun n => Value.slice a1 n cap1) (show bu.length = bl.2.length from di.symm)) ?_
     refine lN ⟨fun w' => Grow ba cv ba w', fun w' => ∃ c', KeepP (pS [440]) ba cv c' w', Grow.refl _ _, fun _ h => ⟨_, h.toP⟩, fun h => absurd h (by decide), fun _ _ ⟨c9, h⟩ => ⟨c9, df.trans h⟩, ?_⟩
     refine xeD rfl rfl ?_
     intro dj hC0
     have hC : Grow ba cv ba dj := .of_below hC0.below
     replace hst := (hst.kpp a5).grow hC
     replace bd := bd.gr hC
     replace ae := ae.gr hC
     replace ac := ac.gr hC
     replace af := af.gr hC
     replace ag := ag.gr hC
     replace ak := ak.gr hC
     replace al := al.gr hC
     replace bj := bj.gr hC
     replace bk := bk.gr hC
     replace dg := dg.gr hC
     replace dh := dh.gr hC
     replace ad := ad.gr hC
     replace ab := ab.gr hC
     replace am := am.gr hC
     have dl : KeepP (pS [440]) ba cv ba dj := hC.toP
     obtain ⟨bm, en, hm⟩ := bS hm
     refine lc rfl rfl (r_call2 Tryz.call27 rfl rfl) (c_frac_Add N 10 11 (frC 9 (frC 8 (frC 6 (frC 5 ba)))) _ bo bp br bs ((bw, bq), bt) ej ek el em ((bl.1.1.1, bl.1.1.2), bl.1.2) ((((bj.toSlF (Froz.int .u32)).froz 6).froz 8).froz 9) ((((bk.froz 5 (by decide)).toSlF (Froz.int .u32)).froz 8).froz 9) ((((dg.froz 5 (by decide)).froz 6 (by decide)).toSlF (Froz.int .u32)).froz 9) ((((dh.froz 5 (by decide)).froz 6 (by decide)).froz 8 (by decide)).toSlF (Froz.int .u32)) bm en) ?_
     rintro _ dm ⟨eo, dn, dp, dq, dr, rfl, au, be, bf⟩
     refine ⟨_, rfl, ?_⟩
     replace be := be.thaw (flat_int .u32) au (((((Fz.refl (col := ba)).froz 5).froz 6).froz 8).froz 9) (by decide)
     replace bf := bf.thaw (flat_int .u32) au (((((Fz.refl (col := ba)).froz 5).froz 6).froz 8).froz 9) (by decide)
     replace au := au.thawR (col := ba)
     generalize colR dj.heap.size ba eo = bb at *
     replace dl := dl.gr au
     refine lN ⟨fun w' => Grow bb dm bb w', fun w' => ∃ c', KeepP (pS [440]) bb dm c' w', Grow.refl _ _, fun _ h => ⟨_, h.toP⟩, fun _ _ h => cls hC0 au h, fun _ _ ⟨c9, h⟩ => ⟨c9, dl.trans h⟩, ?_⟩
     refine xeD rfl rfl ?_
     intro ep hC0
     have hC : Grow bb dm bb ep := .of_below hC0.below
     replace am := (am.gr au).gr hC
     refine l_bstore (v := (.agg #[(.bool bm.1.1), (.slice dn bm.1.2.length dp), (.slice dq bm.2.length dr)])) am Tryz.sizeOf40 rfl rfl (by intro u hu; simp only [Value.cells, List.mem_cons, List.not_mem_nil, or_false] at hu; rcases hu with rfl | rfl | rfl <;> rfl) rfl rfl ?_
     intro cw bc eq bv
     clear am
     replace bv : Box 40 7 bb cw ci #[(.bool bm.1.1), (.slice dn bm.1.2.length dp), (.slice dq bm.2.length dr)] := bv
     refine lN ⟨fun w' => Grow bb cw bb w', fun w' => ∃ c', KeepP (pS [440]) bb cw c' w', Grow.refl _ _, fun _ h => ⟨_, h.toP⟩, fun h => absurd h (by decide), fun h => absurd h (by decide), ?_⟩
     refine xnilD ?_
     replace bd := ((bd.gr au).gr hC).kp bc
     replace ae := ((ae.gr au).gr hC).kp bc
     replace ac := ((ac.gr au).gr hC).kp bc
     replace af := ((af.gr au).gr hC).kp bc
     replace ag := ((ag.gr au).gr hC).kp bc
     replace ak := ((ak.gr au).gr hC).kp bc
     replace al := ((al.gr au).gr hC).kp bc
     replace ad := ((ad.gr au).gr hC).kp bc
     replace ab := ((ab.gr au).gr hC).kp bc
     replace hst := ((hst.grow au).grow hC).kp bc eq
     replace be := (be.gr hC).kp bc
     replace bf := (bf.gr hC).kp bc
     intro er hC
     replace hC : Grow bb cw bb er := .of_below hC.below
     refine wR <| lV (.int .i64 (IntKind.i64.wrap (ar + 1))) (r_add ar 1 rfl rfl) <| lM (.int .i64 (IntKind.i64.wrap (ar + 1))) <| lN ?_
     replace bd := bd.gr hC
     replace bd := bd.recol 10 5 (by decide)
     replace ae := ae.gr hC
     replace ae := ae.recol 10 5 (by decide)
     replace ac := ac.gr hC
     replace ac := ac.recol 10 5 (by decide)
     replace af := af.gr hC
     replace af := af.recol 10 5 (by decide)
     replace ag := ag.gr hC
     replace ag := ag.recol 10 5 (by decide)
     replace ak := ak.gr hC
     replace ak := ak.recol 10 5 (by decide)
     replace al := al.gr hC
     replace al := al.recol 10 5 (by decide)
     replace be := be.gr hC
     replace be := be.recolSelf 5 (by decide)
     replace bf := bf.gr hC
     replace bf := bf.recol 10 5 (by decide)
     replace ad := ad.gr hC
     replace ad := ad.recol 10 5 (by decide)
     replace ab := ab.gr hC
     replace ab := ab.recol 10 5 (by decide)
     replace bv := bv.gr hC
     replace bv := bv.recol 10 5 (by decide)
     replace hst := hst.grow hC
     replace hst := hst.recol 10 5 (by decide) (by decide)
     replace bd := bd.recol 11 6 (by decide)
     replace ae := ae.recol 11 6 (by decide)
     replace ac := ac.recol 11 6 (by decide)
     replace af := af.recol 11 6 (by decide)
     replace ag := ag.recol 11 6 (by decide)
     replace ak := ak.recol 11 6 (by decide)
     replace al := al.recol 11 6 (by decide)
     replace be := be.recol 11 6 (by decide)
     replace bf := bf.recolSelf 6 (by decide)
     replace ad := ad.recol 11 6 (by decide)
     replace ab := ab.recol 11 6 (by decide)
     replace bv := bv.recol 11 6 (by decide)
     replace hst := hst.recol 11 6 (by decide) (by decide)
     exact ⟨b8, by omega, ⟨(rcC 11 6 (rcC 10 5 bb)), bl.2, (IntKind.i64.wrap (ar + 1)), bm.1.1, dn, dp, bm.1.2, dq, dr, bm.2, b8, rfl, hm, hst, bd, d1, ae, ac, af, ag, ad, ak, al, ab, be, bf, bv, d1, rfl, rfl, rfl, rfl, rfl, rfl, rfl, rfl⟩⟩
    rw [if_neg (by rw [hb]; decide)] at hm
    clear hb
    refine wexit (inB_hit ?_)
    refine wS <| wR <| lM (.slice a1 a4.length cap1) <| lM (.int .i64 ah) ?_
    obtain ⟨e7, cx, hm⟩ := bS hm
    refine lV (sptr a1 (Int.toNat ah * 1)) (r_idx Tryz.underlying33 Tryz.sizeOf3 rfl rfl (at?_some cx).1 (at?_some cx).2.1 (cg.addr cx)) ?_
    obtain ⟨ds, cy, hm⟩ := bS hm
    have cy : ds = a4.set (Int.toNat ah) (-1) := (Option.some.inj cy).symm
    refine l_store (x1 := (-1)) (v := (.int .i64 (-1))) cg cx rfl Tryz.sizeOf3 (rd_int .i64 (-1)) rfl rfl (by decide) ?_
    intro e8 cl es cz
    rw [← cy] at cz
    have et : ds.length = ap.length := (show a4.length = ds.length by rw [cy, List.length_set]).symm.trans ef
    clear cg
    refine lN <| wS <| wR ?_
    replace am := am.kp cl
    refine lV (.agg #[(.bool bw), (.slice bo bq.length bp), (.slice br bt.length bs)]) (r_ldN Tryz.isAgg40 Tryz.sizeOf40 rfl rfl am.atN) ?_
    replace ab := ab.kp cl
    refine l_bstore (v := (.agg #[(.bool bw), (.slice bo bq.length bp), (.slice br bt.length bs)])) ab Tryz.sizeOf40 rfl rfl (by intro u hu; simp only [Value.cells, List.mem_cons, List.not_mem_nil, or_false] at hu; rcases hu with rfl | rfl | rfl <;> rfl) rfl rfl ?_
    intro eu c0 ev dt
    clear ab
    replace dt : Box 40 2 aj eu b2 #[(.bool bw), (.slice bo bq.length bp), (.slice br bt.length bs)] := dt
    refine lN ?_
    refine wret ?_
    cases hm
    replace bj := (bj.kp cl).kp c0
    replace bk := (bk.kp cl).kp c0
    replace hst := (hst.kp cl es).kp c0 ev
    replace cz := cz.kp c0
    exact ⟨rfl, _, res_a rfl rfl Tryz.isAgg40 Tryz.sizeOf40 rfl rfl dt.atN, colFL w0.heap.size [qc1] col aj (fun n => bif Nat.beq n 5 then c1 else bif Nat.beq n 6 then c2 else bif Nat.beq n 440 then qc1 else 0), bo, bp, br, bs, rfl, hst.finL rfl (fun n => bif Nat.beq n 5 then c1 else bif Nat.beq n 6 then c2 else bif Nat.beq n 440 then qc1 else 0), hst.finOwnL (g := (fun n => bif Nat.beq n 5 then c1 else bif Nat.beq n 6 then c2 else bif Nat.beq n 440 then qc1 else 0)) rfl bj (by decide) (by decide) rfl, hst.finOwnL (g := (fun n => bif Nat.beq n 5 then c1 else bif Nat.beq n 6 then c2 else bif Nat.beq n 440 then qc1 else 0)) rfl bk (by decide) (by decide) rfl, hst.finOwnL (g := (fun n => bif Nat.beq n 5 then c1 else bif Nat.beq n 6 then c2 else bif Nat.beq n 440 then qc1 else 0)) rfl cz (by decide) (by decide) rfl, et⟩
  rw [if_neg (by rw [hb]; decide)] at hm
  clear hb
  refine wexit (inB_hit ?_)
  refine wS <| wR <| lV (.agg #[(.string aa.1), (.slice av aa.2.1.length aw), (.slice an aa.2.2.1.length ao), (.slice ax aa.2.2.2.1.length ay), (.slice az aa.2.2.2.2.length a0)]) (r_ldN Tryz.isAgg28 Tryz.sizeOf28 rfl rfl ad.atN) <| lM (.slice a1 a2.length cap1) ?_
  obtain ⟨ai, ew, hm⟩ := bS hm
  refine lc rfl rfl (r_call2 Tryz.call102 rfl rfl) (c_model_Chance N 12 13 (frC 440 aq) _ av aw an ao ax ay az a0 (aa.1, aa.2.1, aa.2.2.1, aa.2.2.2.1, aa.2.2.2.2) a1 cap1 a2 (ae.froz 440) (ac.froz 440) (af.froz 440) (ag.froz 440) (bg.toSlF (Froz.int .i64)) ai ew) ?_
  rintro _ e9 ⟨ex, bx, bz, b0, b1, rfl, b9, cm, cn⟩
  refine ⟨_, rfl, ?_⟩
  replace cm := cm.thaw (flat_int .u32) b9 ((Fz.refl (col := aq)).froz 440) (by decide)
  replace cn := cn.thaw (flat_int .u32) b9 ((Fz.refl (col := aq)).froz 440) (by decide)
  replace b9 := b9.thawR (col := aq)
  generalize colR a6.heap.size aq ex = ey at *
  refine lM (.tuple #[(.agg #[(.bool ai.1.1.1), (.slice bx ai.1.1.2.length bz), (.slice b0 ai.1.2.length b1)]), (.int .i64 ai.2)]) <| lV (.agg #[(.bool ai.1.1.1), (.slice bx ai.1.1.2.length bz), (.slice b0 ai.1.2.length b1)]) (r_extract rfl rfl) <| lV (.int .i64 ai.2) (r_extract rfl rfl) ?_
  refine l_alloc (col := ey) (v := (.agg #[(.bool false), (.slice none (([] : List Int).length) 0), (.slice none (([] : List Int).length) 0)])) 14 rfl Tryz.zeroValue40 ?_
  intro d2 ez c3 co c4
  replace c4 : Box 40 14 c3 ez d2 #[(.bool false), (.slice none (([] : List Int).length) 0), (.slice none (([] : List Int).length) 0)] := c4
  refine l_bstore (v := (.agg #[(.bool ai.1.1.1), (.slice bx ai.1.1.2.length bz), (.slice b0 ai.1.2.length b1)])) c4 Tryz.sizeOf40 rfl rfl (by intro u hu; simp only [Value.cells, List.mem_cons, List.not_mem_nil, or_false] at hu; rcases hu with rfl | rfl | rfl <;> rfl) rfl rfl ?_
  intro e0 cp e1 du
  clear c4
  replace du : Box 40 14 c3 e0 d2 #[(.bool ai.1.1.1), (.slice bx ai.1.1.2.length bz), (.slice b0 ai.1.2.length b1)] := du
  refine lA (.int .i64 ai.2) <| lN <| wS <| wR <| lV (.agg #[(.bool ai.1.1.1), (.slice bx ai.1.1.2.length bz), (.slice b0 ai.1.2.length b1)]) (r_ldN Tryz.isAgg40 Tryz.sizeOf40 rfl rfl du.atN) ?_
  replace ab := ((ab.gr b9).gr co).kp cp
  refine l_bstore (v := (.agg #[(.bool ai.1.1.1), (.slice bx ai.1.1.2.length bz), (.slice b0 ai.1.2.length b1)])) ab Tryz.sizeOf40 rfl rfl (by intro u hu; simp only [Value.cells, List.mem_cons, List.not_mem_nil, or_false] at hu; rcases hu with rfl | rfl | rfl <;> rfl) rfl rfl ?_
  intro e2 c5 e3 dv
  clear ab
  replace dv : Box 40 2 c3 e2 b2 #[(.bool ai.1.1.1), (.slice bx ai.1.1.2.length bz), (.slice b0 ai.1.2.length b1)] := dv
  refine lN ?_
  refine wret ?_
  cases hm
  replace bg := (((bg.gr b9).gr co).kp cp).kp c5
  replace hst := (((hst.grow b9).grow co).kp cp e1).kp c5 e3
  replace cm := ((cm.gr co).kp cp).kp c5
  replace cn := ((cn.gr co).kp cp).kp c5
  exact ⟨rfl, _, res_a rfl rfl Tryz.isAgg40 Tryz.sizeOf40 rfl rfl dv.atN, colFL w0.heap.size [qc1] col c3 (fun n => bif Nat.beq n 12 then c1 else bif Nat.beq n 13 then c2 else bif Nat.beq n 440 then qc1 else 0), bx, bz, b0, b1, rfl, hst.finL rfl (fun n => bif Nat.beq n 12 then c1 else bif Nat.beq n 13 then c2 else bif Nat.beq n 440 then qc1 else 0), hst.finOwnL (g := (fun n => bif Nat.beq n 12 then c1 else bif Nat.beq n 13 then c2 else bif Nat.beq n 440 then qc1 else 0)) rfl cm (by decide) (by decide) rfl, hst.finOwnL (g := (fun n => bif Nat.beq n 12 then c1 else bif Nat.beq n 13 then c2 else bif Nat.beq n 440 then qc1 else 0)) rfl cn (by decide) (by decide) rfl, hst.finOwnL (g := (fun n => bif Nat.beq n 12 then c1 else bif Nat.beq n 13 then c2 else bif Nat.beq n 440 then qc1 else 0)) rfl bg (by decide) (by decide) rfl, c6⟩
def m_data_sum_R (N : Nat) : Nat → (ByteArray × (List ByteArray) × (List (List ByteArray)) × (List (List Int)) × (List (List ((Bool × (List Int)) × (List Int))))) → (List Int) → Int → Option (((Bool × (List Int)) × (List Int)) × (List Int))
  | 0, _, _, _ => none
  | n + 1, aa, ab, ac => m_data_sum_B N (m_data_sum_R N n) aa ab ac
theorem c_data_sum_R (N : Nat) : ∀ (n : Nat) (c1 : Nat) (c2 : Nat) (col : Col) (w0 : World) (qc1 : Nat) (hd : dstB [qc1] = true) (ac : Option Addr) (ad : Nat) (ae : Option Addr) (af : Nat) (ag : Option Addr) (ah : Nat) (ai : Option Addr) (aj : Nat) (aa : (ByteArray × (List ByteArray) × (List (List ByteArray)) × (List (List Int)) × (List (List ((Bool × (List Int)) × (List Int)))))) (a1 : Option Addr) (cap1 : Nat) (ab : (List Int)) (ak : Int) (al : Sl Rep.str col w0 ac ad aa.2.1) (am : Sl (Rep.slice Rep.str) col w0 ae af aa.2.2.1) (an : Sl (Rep.slice (Rep.int .i64)) col w0 ag ah aa.2.2.2.1) (ao : Sl (Rep.slice (Rep.pair (Rep.pair Rep.bool (Rep.slice (Rep.int .u32))) (Rep.slice (Rep.int .u32)))) col w0 ai aj aa.2.2.2.2) (h1 : Own (Rep.int .i64) 3 qc1 col w0 a1 cap1 ab) (r : (((Bool × (List Int)) × (List Int)) × (List Int))) (hm : m_data_sum_R N n aa ab ak = some r), Calls Tryz.prog 84 #[(.agg #[(.string aa.1), (.slice ac aa.2.1.length ad), (.slice ae aa.2.2.1.length af), (.slice ag aa.2.2.2.1.length ah), (.slice ai aa.2.2.2.2.length aj)]), (.slice a1 ab.length cap1), (.int .i64 ak)] w0 (fun e w' => ∃ (col' : Col) (ra1 : Option Addr) (rc2 : Nat) (ra4 : Option Addr) (rc5 : Nat), e = .returned ((.agg #[(.bool r.1.1.1), (.slice ra1 r.1.1.2.length rc2), (.slice ra4 r.1.2.length rc5)])) ∧ KeepP (pS [qc1]) col w0 col' w' ∧ Own (Rep.int .u32) 114 c1 col' w' ra1 rc2 r.1.1.2 ∧ Own (Rep.int .u32) 114 c2 col' w' ra4 rc5 r.1.2 ∧ Own (Rep.int .i64) 3 qc1 col' w' a1 cap1 r.2 ∧ r.2.length = ab.length) := by
 intro n
 induction n with
 | zero => intro c1 c2 col w0 qc1 hd ac ad ae af ag ah ai aj aa a1 cap1 ab ak al am an ao h1 r hm; rw [m_data_sum_R.eq_1] at hm; cases hm
 | succ n ih => intro c1 c2 col w0 qc1 hd ac ad ae af ag ah ai aj aa a1 cap1 ab ak al am an ao h1 r hm; rw [m_data_sum_R.eq_2] at hm; exact c_data_sum_B N (m_data_sum_R N n) ih c1 c2 col w0 qc1 hd ac ad ae af ag ah ai aj aa a1 cap1 ab ak al am an ao h1 r hm
def m_data_sum (N : Nat) (aa : (ByteArray × (List ByteArray) × (List (List ByteArray)) × (List (List Int)) × (List (List ((Bool × (List Int)) × (List Int)))))) (ab : (List Int)) (ac : Int) : Option (((Bool × (List Int)) × (List Int)) × (List Int)) := m_data_sum_R N N aa ab ac
theorem c_data_sum (N : Nat) (c1 : Nat) (c2 : Nat) (col : Col) (w0 : World) (qc1 : Nat) (hd : dstB [qc1] = true) (ac : Option Addr) (ad : Nat) (ae : Option Addr) (af : Nat) (ag : Option Addr) (ah : Nat) (ai : Option Addr) (aj : Nat) (aa : (ByteArray × (List ByteArray) × (List (List ByteArray)) × (List (List Int)) × (List (List ((Bool × (List Int)) × (List Int)))))) (a1 : Option Addr) (cap1 : Nat) (ab : (List Int)) (ak : Int) (al : Sl Rep.str col w0 ac ad aa.2.1) (am : Sl (Rep.slice Rep.str) col w0 ae af aa.2.2.1) (an : Sl (Rep.slice (Rep.int .i64)) col w0 ag ah aa.2.2.2.1) (ao : Sl (Rep.slice (Rep.pair (Rep.pair Rep.bool (Rep.slice (Rep.int .u32))) (Rep.slice (Rep.int .u32)))) col w0 ai aj aa.2.2.2.2) (h1 : Own (Rep.int .i64) 3 qc1 col w0 a1 cap1 ab) (r : (((Bool × (List Int)) × (List Int)) × (List Int))) (hm : m_data_sum N aa ab ak = some r) :
    Calls Tryz.prog 84 #[(.agg #[(.string aa.1), (.slice ac aa.2.1.length ad), (.slice ae aa.2.2.1.length af), (.slice ag aa.2.2.2.1.length ah), (.slice ai aa.2.2.2.2.length aj)]), (.slice a1 ab.length cap1), (.int .i64 ak)] w0 (fun e w' => ∃ (col' : Col) (ra1 : Option Addr) (rc2 : Nat) (ra4 : Option Addr) (rc5 : Nat), e = .returned ((.agg #[(.bool r.1.1.1), (.slice ra1 r.1.1.2.length rc2), (.slice ra4 r.1.2.length rc5)])) ∧ KeepP (pS [qc1]) col w0 col' w' ∧ Own (Rep.int .u32) 114 c1 col' w' ra1 rc2 r.1.1.2 ∧ Own (Rep.int .u32) 114 c2 col' w' ra4 rc5 r.1.2 ∧ Own (Rep.int .i64) 3 qc1 col' w' a1 cap1 r.2 ∧ r.2.length = ab.length) := c_data_sum_R N N c1 c2 col w0 qc1 hd ac ad ae af ag ah ai aj aa a1 cap1 ab ak al am an ao h1 r hm
def m_data_open_J1 (aa : Nat) (kk_L1 : (Nat → Int → Option Int)) (ab : Int) : Option Int :=
  kk_L1 (aa + 1) ab
def m_data_open_L1 (ac : (ByteArray × (List ByteArray) × (List (List ByteArray)) × (List (List Int)) × (List (List ((Bool × (List Int)) × (List Int)))))) : List Int → Nat → Int → Option Int
  | [], ab, aa => some aa
  | af :: ad, ab, aa => if (decide (af < 0)) = true then ((at? ac.2.2.1 (ab : Int)).bind fun ae => m_data_open_J1 ab (m_data_open_L1 ac ad) (if 65537 < (IntKind.i64.wrap (aa * (ae.length : Int))) then 65537 else (IntKind.i64.wrap (aa * (ae.length : Int))))) else (m_data_open_J1 ab (m_data_open_L1 ac ad) aa)
termination_by structural x => x
def m_data_open (aa : (ByteArray × (List ByteArray) × (List (List ByteArray)) × (List (List Int)) × (List (List ((Bool × (List Int)) × (List Int)))))) (ab : (List Int)) : Option Int :=
  m_data_open_L1 aa ab 0 1
theorem c_data_open (col : Col) (w0 : World) (aj : Option Addr) (ak : Nat) (ae : Option Addr) (af : Nat) (al : Option Addr) (am : Nat) (an : Option Addr) (ao : Nat) (aa : (ByteArray × (List ByteArray) × (List (List ByteArray)) × (List (List Int)) × (List (List ((Bool × (List Int)) × (List Int)))))) (a1 : Option Addr) (cap1 : Nat) (ab : (List Int)) (ar : Sl Rep.str col w0 aj ak aa.2.1) (ah : Sl (Rep.slice Rep.str) col w0 ae af aa.2.2.1) (au : Sl (Rep.slice (Rep.int .i64)) col w0 al am aa.2.2.2.1) (av : Sl (Rep.slice (Rep.pair (Rep.pair Rep.bool (Rep.slice (Rep.int .u32))) (Rep.slice (Rep.int .u32)))) col w0 an ao aa.2.2.2.2) (h1 : Sl (Rep.int .i64) col w0 a1 cap1 ab) (r : Int) (hm : m_data_open aa ab = some r) :
    Calls Tryz.prog 83 #[(.agg #[(.string aa.1), (.slice aj aa.2.1.length ak), (.slice ae aa.2.2.1.length af), (.slice al aa.2.2.2.1.length am), (.slice an aa.2.2.2.2.length ao)]), (.slice a1 ab.length cap1)] w0 (fun e w' => e = .returned ((.int .i64 r)) ∧ Below w0.heap.size w0 w') := by
 refine calls_of1 4 (m := 28) (args := [(.agg #[(.string aa.1), (.slice aj aa.2.1.length ak), (.slice ae aa.2.2.1.length af), (.slice al aa.2.2.2.1.length am), (.slice an aa.2.2.2.2.length ao)]), (.slice a1 ab.length cap1)]) Tryz.func83 rfl rfl rfl rfl rfl ?_
 rw [m_data_open.eq_1] at hm
 have hst := St.start col w0
 refine wS <| wR ?_
 refine l_box (col := (col0 col)) (v := (.agg #[(.string aa.1), (.slice aj aa.2.1.length ak), (.slice ae aa.2.2.1.length af), (.slice al aa.2.2.2.1.length am), (.slice an aa.2.2.2.2.length ao)])) 1 rfl rfl ?_
 intro ay a7 a6 az ap
 replace ap : Box 28 1 a6 a7 ay #[(.string aa.1), (.slice aj aa.2.1.length ak), (.slice ae aa.2.2.1.length af), (.slice al aa.2.2.2.1.length am), (.slice an aa.2.2.2.2.length ao)] := ap
 refine lA (.int .i64 0) <| lN <| wS <| wR <| lA (.int .i64 1) <| lN <| wS <| wS <| wR <| lM (.slice a1 ab.length cap1) <| lV (.int .i64 (ab.length : Int)) (r_len Tryz.underlying33 rfl) <| lM (.int .i64 0) <| lN <| wB ?_
 replace ar := (ar.keep (Stay.start col w0)).gr az
 replace ah := (ah.keep (Stay.start col w0)).gr az
 replace au := (au.keep (Stay.start col w0)).gr az
 replace av := (av.keep (Stay.start col w0)).gr az
 replace h1 := (h1.keep (Stay.start col w0)).gr az
 replace hst := hst.grow az
 refine wloop (fun n f aw => ∃ (ai : Col) (ac : Nat) (ad : Int) (a2 : List Int), n = a2.length ∧ ab.drop ac = a2 ∧ m_data_open_L1 aa a2 ac ad = some r ∧ St w0 (col0 col) ai aw ∧ Sl Rep.str ai aw aj ak aa.2.1 ∧ Sl (Rep.slice Rep.str) ai aw ae af aa.2.2.1 ∧ Sl (Rep.slice (Rep.int .i64)) ai aw al am aa.2.2.2.1 ∧ Sl (Rep.slice (Rep.pair (Rep.pair Rep.bool (Rep.slice (Rep.int .u32))) (Rep.slice (Rep.int .u32)))) ai aw an ao aa.2.2.2.2 ∧ Box 28 1 ai aw ay #[(.string aa.1), (.slice aj aa.2.1.length ak), (.slice ae aa.2.2.1.length af), (.slice al aa.2.2.2.1.length am), (.slice an aa.2.2.2.2.length ao)] ∧ Sl (Rep.int .i64) ai aw a1 cap1 ab ∧ f 10 = (.int .i64 (ac : Int)) ∧ f 2 = (.pointer (some ⟨ay, 0, none⟩)) ∧ f 5 = (.int .i64 ad) ∧ f 8 = (.slice a1 ab.length cap1) ∧ f 9 = (.int .i64 (ab.length : Int)) ∧ f 1000000 = (enc [])) ab.length ⟨a6, 0, 1, ab, rfl, rfl, hm, hst, ar, ah, au, av, ap, h1, rfl, rfl, rfl, rfl, rfl, rfl⟩ ?_
 clear hm; intro n f aw hI
 obtain ⟨ai, ac, ad, a2, hn, hl, hm, hst, ar, ah, au, av, ap, h1, hs10, hs2, hs5, hs8, hs9, hs1000000⟩ := hI
 subst hn
 refine .lD 10 hs10 <| .lD 2 hs2 <| .lD 5 hs5 <| .lD 8 hs8 <| .lD 9 hs9 <| .lD 1000000 hs1000000 ?_
 clear hs10 hs2 hs5 hs8 hs9 hs1000000
 cases a2 with
 | nil =>
  have hk : ¬ ((ac : Int) < (ab.length : Int)) := by have := List.drop_eq_nil_iff.1 hl; omega
  have hkb := decide_eq_false hk
  rw [m_data_open_L1.eq_1] at hm
  refine wS <| wR <| lV (.bool (decide ((ac : Int) < (ab.length : Int)))) (r_lss (ac : Int) (ab.length : Int) rfl rfl) <| lN <| wS ?_
  refine wcondF (congrArg Value.bool hkb) ?_
  refine wexit (inB_hit ?_)
  refine wS <| wR <| lM (.int .i64 ad) <| lA (.int .i64 ad) <| lN ?_
  refine wret ?_
  cases hm
  exact ⟨rfl, rfl, hst.below⟩
 | cons a0 a5 =>
  obtain ⟨hat, hl2_L1, hlt_L1⟩ := drop_get hl
  have hk : (ac : Int) < (ab.length : Int) := by omega
  have hkb := decide_eq_true hk
  rw [m_data_open_L1.eq_2] at hm
  refine wS <| wR <| lV (.bool (decide ((ac : Int) < (ab.length : Int)))) (r_lss (ac : Int) (ab.length : Int) rfl rfl) <| lN <| wS ?_
  refine wcondT (congrArg Value.bool hkb) ?_
  refine wK <| wS ?_
  refine Wp.cut (fun f ax => ∃ (aq : Col) (a3 : Int), m_data_open_J1 ac (m_data_open_L1 aa a5) a3 = some r ∧ St w0 (col0 col) aq ax ∧ Sl Rep.str aq ax aj ak aa.2.1 ∧ Sl (Rep.slice Rep.str) aq ax ae af aa.2.2.1 ∧ Sl (Rep.slice (Rep.int .i64)) aq ax al am aa.2.2.2.1 ∧ Sl (Rep.slice (Rep.pair (Rep.pair Rep.bool (Rep.slice (Rep.int .u32))) (Rep.slice (Rep.int .u32)))) aq ax an ao aa.2.2.2.2 ∧ Box 28 1 aq ax ay #[(.string aa.1), (.slice aj aa.2.1.length ak), (.slice ae aa.2.2.1.length af), (.slice al aa.2.2.2.1.length am), (.slice an aa.2.2.2.2.length ao)] ∧ Sl (Rep.int .i64) aq ax a1 cap1 ab ∧ f 10 = (.int .i64 (ac : Int)) ∧ f 2 = (.pointer (some ⟨ay, 0, none⟩)) ∧ f 5 = (.int .i64 a3) ∧ f 8 = (.slice a1 ab.length cap1) ∧ f 9 = (.int .i64 (ab.length : Int)) ∧ f 1000000 = (enc [])) ?_ ?_
  ·intro f ax hJ
   obtain ⟨aq, a3, hm, hst, ar, ah, au, av, ap, h1, hs10, hs2, hs5, hs8, hs9, hs1000000⟩ := hJ
   rw [m_data_open_J1.eq_1] at hm
   refine .lD 10 hs10 <| .lD 2 hs2 <| .lD 5 hs5 <| .lD 8 hs8 <| .lD 9 hs9 <| .lD 1000000 hs1000000 ?_
   clear hs10 hs2 hs5 hs8 hs9 hs1000000
   refine wR <| lV (.int .i64 (IntKind.i64.wrap ((ac : Int) + 1))) (r_add (ac : Int) 1 rfl rfl) <| lM (.int .i64 (IntKind.i64.wrap ((ac : Int) + 1))) <| lN ?_
   exact ⟨a5.length, by simp, ⟨aq, (ac + 1), a3, a5, rfl, hl2_L1, hm, hst, ar, ah, au, av, ap, h1, (congrArg (Value.int .i64) (wrap_succ (Nat.lt_of_lt_of_le hlt_L1 h1.1.1))), rfl, rfl, rfl, rfl, rfl⟩⟩
  refine wB <| wS <| wR <| lM (.int .i64 (ac : Int)) ?_
  refine lV (sptr a1 (Int.toNat (ac : Int) * 1)) (r_idx Tryz.underlying33 Tryz.sizeOf3 rfl rfl (at?_some hat).1 (at?_some hat).2.1 (h1.addr hat)) ?_
  refine lV (.int .i64 a0) (r_ld Tryz.isAgg3 rfl (h1.atInt hat)) <| lA (.int .i64 (ac : Int)) <| lA (.int .i64 a0) <| lN <| wS <| wR <| lM (.int .i64 a0) <| lV (.bool (decide (a0 < 0))) (r_lss a0 0 rfl rfl) <| lN ?_
  refine wcond (decide (a0 < 0)) rfl (fun hb => ?_) (fun hb => ?_)
  ·rw [if_pos hb] at hm
   clear hb
   refine wR <| lM (.int .i64 ad) <| lV (.pointer ((some (⟨ay, 0, none⟩ : Addr)).map (·.add 2))) (rF (sz := 1) (off := 2) Tryz.underlying28 rfl Tryz.sizeOf24 (by decide) rfl rfl ⟨_, _, rfl⟩) <| lV (.slice ae aa.2.2.1.length af) (r_ld Tryz.isAgg24 rfl ((ap.atN).nth (q := 2) (v := (.slice ae aa.2.2.1.length af)) rfl)) <| lM (.int .i64 (ac : Int)) ?_
   obtain ⟨ag, a4, hm⟩ := bS hm
   refine lV (sptr ae (Int.toNat (ac : Int) * 1)) (r_idx Tryz.underlying24 Tryz.sizeOf23 rfl rfl (at?_some a4).1 (at?_some a4).2.1 (ah.addr a4)) ?_
   obtain ⟨_, a8, a9⟩ := ah.atN a4
   obtain ⟨⟨ba, bb, rfl, bc⟩, _⟩ := a8
   refine lV (.slice ba ag.length bb) (r_ld Tryz.isAgg23 rfl a9.one) <| lV (.int .i64 (ag.length : Int)) (r_len Tryz.underlying23 rfl) <| lV (.int .i64 (IntKind.i64.wrap (ad * (ag.length : Int)))) (r_mul ad (ag.length : Int) rfl rfl) <| lV (.int .i64 (if 65537 < (IntKind.i64.wrap (ad * (ag.length : Int))) then 65537 else (IntKind.i64.wrap (ad * (ag.length : Int))))) (r_min (IntKind.i64.wrap (ad * (ag.length : Int))) 65537 rfl rfl) <| lA (.int .i64 (if 65537 < (IntKind.i64.wrap (ad * (ag.length : Int))) then 65537 else (IntKind.i64.wrap (ad * (ag.length : Int))))) <| lN ?_
   exact ⟨ai, (if 65537 < (IntKind.i64.wrap (ad * (ag.length : Int))) then 65537 else (IntKind.i64.wrap (ad * (ag.length : Int)))), hm, hst, ar, ah, au, av, ap, h1, rfl, rfl, rfl, rfl, rfl, rfl⟩
  rw [if_neg (by rw [hb]; decide)] at hm
  clear hb
  refine wK ?_
  exact ⟨ai, ad, hm, hst, ar, ah, au, av, ap, h1, rfl, rfl, rfl, rfl, rfl, rfl⟩
def m_data_Chance_L2 (N : Nat) (aa : (ByteArray × (List ByteArray) × (List (List ByteArray)) × (List (List Int)) × (List (List ((Bool × (List Int)) × (List Int)))))) : List (List Int) → Bool → (List Int) → (List Int) → Option (((Bool × (List Int)) × (List Int)) × Int)
  | [], ab, ac, ad => some (((ab, ac), ad), 0)
  | ag :: ah, ab, ac, ad => (m_slices_Clone_int_int ag).bind fun ai => (m_data_sum N (aa.1, aa.2.1, aa.2.2.1, aa.2.2.2.1, aa.2.2.2.2) ai 0).bind fun ae => (m_frac_Mul N ((ab, ac), ad) ((ae.1.1.1, ae.1.1.2), ae.1.2)).bind fun af => (m_data_Chance_L2 N aa ah) af.1.1 af.1.2 af.2
termination_by structural x => x
def m_data_Chance_L1 (N : Nat) (aa : (ByteArray × (List ByteArray) × (List (List ByteArray)) × (List (List Int)) × (List (List ((Bool × (List Int)) × (List Int)))))) (ac : (List (List Int))) : List (List Int) → Bool → (List Int) → (List Int) → Option (((Bool × (List Int)) × (List Int)) × Int)
  | [], ad, ae, af => (m_frac_Of N 1 1).bind fun ab => m_data_Chance_L2 N aa ac ab.1.1.1 ab.1.1.2 ab.1.2
  | ag :: ah, ad, ae, af => (m_data_open (aa.1, aa.2.1, aa.2.2.1, aa.2.2.2.1, aa.2.2.2.2) ag).bind fun ai => if (decide (65536 < ai)) = true then none else ((m_data_Chance_L1 N aa ac ah) ad ae af)
termination_by structural x => x
def m_data_Chance (N : Nat) (aa : (ByteArray × (List ByteArray) × (List (List ByteArray)) × (List (List Int)) × (List (List ((Bool × (List Int)) × (List Int)))))) (ab : (List (List Int))) : Option (((Bool × (List Int)) × (List Int)) × Int) :=
  (m_data_wrong N (aa.1, aa.2.1, aa.2.2.1, aa.2.2.2.1, aa.2.2.2.2) ab).bind fun ac => if (!decide (ac = 0)) = true then none else (m_data_Chance_L1 N aa ab ab false ([] : List Int) ([] : List Int))
theorem c_data_Chance (N : Nat) (c1 : Nat) (c2 : Nat) (col : Col) (w0 : World) (aq : Option Addr) (ar : Nat) (au : Option Addr) (av : Nat) (aw : Option Addr) (ax : Nat) (ay : Option Addr) (az : Nat) (aa : (ByteArray × (List ByteArray) × (List (List ByteArray)) × (List (List Int)) × (List (List ((Bool × (List Int)) × (List Int)))))) (a1 : Option Addr) (cap1 : Nat) (ab : (List (List Int))) (ad : Sl Rep.str col w0 aq ar aa.2.1) (ae : Sl (Rep.slice Rep.str) col w0 au av aa.2.2.1) (af : Sl (Rep.slice (Rep.int .i64)) col w0 aw ax aa.2.2.2.1) (ag : Sl (Rep.slice (Rep.pair (Rep.pair Rep.bool (Rep.slice (Rep.int .u32))) (Rep.slice (Rep.int .u32)))) col w0 ay az aa.2.2.2.2) (h1 : Sl (Rep.slice (Rep.int .i64)) col w0 a1 cap1 ab) (r : (((Bool × (List Int)) × (List Int)) × Int)) (hm : m_data_Chance N aa ab = some r) :
    Calls Tryz.prog 31 #[(.agg #[(.string aa.1), (.slice aq aa.2.1.length ar), (.slice au aa.2.2.1.length av), (.slice aw aa.2.2.2.1.length ax), (.slice ay aa.2.2.2.2.length az)]), (.slice a1 ab.length cap1)] w0 (fun e w' => ∃ (col' : Col) (ra1 : Option Addr) (rc2 : Nat) (ra4 : Option Addr) (rc5 : Nat), e = .returned (.tuple #[(.agg #[(.bool r.1.1.1), (.slice ra1 r.1.1.2.length rc2), (.slice ra4 r.1.2.length rc5)]), (.int .i64 r.2)]) ∧ Grow col w0 col' w' ∧ Own (Rep.int .u32) 114 c1 col' w' ra1 rc2 r.1.1.2 ∧ Own (Rep.int .u32) 114 c2 col' w' ra4 rc5 r.1.2) := by
 refine calls_ofR (m := 50) (args := [(.agg #[(.string aa.1), (.slice aq aa.2.1.length ar), (.slice au aa.2.2.1.length av), (.slice aw aa.2.2.2.1.length ax), (.slice ay aa.2.2.2.2.length az)]), (.slice a1 ab.length cap1)]) Tryz.func31 rfl rfl rfl ?_
 rw [m_data_Chance.eq_1] at hm
 have hst := St.start col w0
 refine wS <| wR ?_
 refine l_box (col := (col0 col)) (v := (.agg #[(.string aa.1), (.slice aq aa.2.1.length ar), (.slice au aa.2.2.1.length av), (.slice aw aa.2.2.2.1.length ax), (.slice ay aa.2.2.2.2.length az)])) 1 rfl rfl ?_
 intro b4 dj dd bv ac
 replace ac : Box 28 1 dd dj b4 #[(.string aa.1), (.slice aq aa.2.1.length ar), (.slice au aa.2.2.1.length av), (.slice aw aa.2.2.2.1.length ax), (.slice ay aa.2.2.2.2.length az)] := ac
 refine l_alloc (col := dd) (v := (.agg #[(.bool false), (.slice none (([] : List Int).length) 0), (.slice none (([] : List Int).length) 0)])) 2 rfl Tryz.zeroValue40 ?_
 intro bw de b5 bs ah
 replace ah : Box 40 2 b5 de bw #[(.bool false), (.slice none (([] : List Int).length) 0), (.slice none (([] : List Int).length) 0)] := ah
 refine lA (.int .i64 0) <| lN <| wS <| wS <| wR ?_
 replace ac := ac.gr bs
 refine lV (.agg #[(.string aa.1), (.slice aq aa.2.1.length ar), (.slice au aa.2.2.1.length av), (.slice aw aa.2.2.2.1.length ax), (.slice ay aa.2.2.2.2.length az)]) (r_ldN Tryz.isAgg28 Tryz.sizeOf28 rfl rfl ac.atN) <| lM (.slice a1 ab.length cap1) ?_
 obtain ⟨bx, dl, hm⟩ := bS hm
 replace ad := ((ad.keep (Stay.start col w0)).gr bv).gr bs
 replace ae := ((ae.keep (Stay.start col w0)).gr bv).gr bs
 replace af := ((af.keep (Stay.start col w0)).gr bv).gr bs
 replace ag := ((ag.keep (Stay.start col w0)).gr bv).gr bs
 replace h1 := ((h1.keep (Stay.start col w0)).gr bv).gr bs
 refine lc rfl rfl (r_call2 Tryz.call79 rfl rfl) (c_data_wrong N b5 _ aq ar au av aw ax ay az (aa.1, aa.2.1, aa.2.2.1, aa.2.2.2.1, aa.2.2.2.2) a1 cap1 ab ad ae af ag h1 bx dl) ?_
 rintro _ dm ⟨rfl, bg⟩
 refine ⟨_, rfl, ?_⟩
 replace bg : Grow b5 de b5 dm := .of_below bg
 refine lA (.int .i64 bx) <| lN <| wS <| wR <| lM (.int .i64 bx) <| lV (.bool (!decide (bx = 0))) (r_neq bx 0 rfl rfl) <| lN ?_
 replace hst := ((hst.grow bv).grow bs).grow bg
 replace h1 := h1.gr bg
 replace ad := ad.gr bg
 replace ae := ae.gr bg
 replace af := af.gr bg
 replace ag := ag.gr bg
 replace ac := ac.gr bg
 replace ah := ah.gr bg
 refine wcond (!decide (bx = 0)) rfl (fun hb => ?_) (fun hb => ?_)
 ·rw [if_pos hb] at hm
  clear hb
  cases hm
 rw [if_neg (by rw [hb]; decide)] at hm
 clear hb
 refine wK <| wS <| wS <| wR <| lM (.slice a1 ab.length cap1) <| lV (.int .i64 (ab.length : Int)) (r_len Tryz.underlying34 rfl) <| lM (.int .i64 0) <| lN <| wB ?_
 refine wloop (fun n f a5 => ∃ (ao : Col) (a2 : Nat) (b6 : Bool) (bz : Option Addr) (b0 : Nat) (bt : List Int) (b1 : Option Addr) (b2 : Nat) (bu : List Int) (b7 : List (List Int)), n = b7.length ∧ ab.drop a2 = b7 ∧ m_data_Chance_L1 N aa ab b7 b6 bt bu = some r ∧ St w0 (col0 col) ao a5 ∧ Sl (Rep.slice (Rep.int .i64)) ao a5 a1 cap1 ab ∧ Sl Rep.str ao a5 aq ar aa.2.1 ∧ Sl (Rep.slice Rep.str) ao a5 au av aa.2.2.1 ∧ Sl (Rep.slice (Rep.int .i64)) ao a5 aw ax aa.2.2.2.1 ∧ Sl (Rep.slice (Rep.pair (Rep.pair Rep.bool (Rep.slice (Rep.int .u32))) (Rep.slice (Rep.int .u32)))) ao a5 ay az aa.2.2.2.2 ∧ Box 28 1 ao a5 b4 #[(.string aa.1), (.slice aq aa.2.1.length ar), (.slice au aa.2.2.1.length av), (.slice aw aa.2.2.2.1.length ax), (.slice ay aa.2.2.2.2.length az)] ∧ Own (Rep.int .u32) 114 3 ao a5 bz b0 bt ∧ Own (Rep.int .u32) 114 4 ao a5 b1 b2 bu ∧ Box 40 2 ao a5 bw #[(.bool b6), (.slice bz bt.length b0), (.slice b1 bu.length b2)] ∧ f 22 = (.int .i64 (a2 : Int)) ∧ f 1 = (.slice a1 ab.length cap1) ∧ f 2 = (.pointer (some ⟨b4, 0, none⟩)) ∧ f 20 = (.slice a1 ab.length cap1) ∧ f 21 = (.int .i64 (ab.length : Int)) ∧ f 4 = (.pointer (some ⟨bw, 0, none⟩)) ∧ f 1000000 = (enc [])) ab.length ⟨b5, 0, false, none, 0, ([] : List Int), none, 0, ([] : List Int), ab, rfl, rfl, hm, hst, h1, ad, ae, af, ag, ac, Own.nil, Own.nil, ah, rfl, rfl, rfl, rfl, rfl, rfl, rfl⟩ ?_
 clear hm; intro n f a5 hI
 obtain ⟨ao, a2, b6, bz, b0, bt, b1, b2, bu, b7, hn, hl, hm, hst, h1, ad, ae, af, ag, ac, ai, aj, ah, hs22, hs1, hs2, hs20, hs21, hs4, hs1000000⟩ := hI
 subst hn
 refine .lD 22 hs22 <| .lD 1 hs1 <| .lD 2 hs2 <| .lD 20 hs20 <| .lD 21 hs21 <| .lD 4 hs4 <| .lD 1000000 hs1000000 ?_
 clear hs22 hs1 hs2 hs20 hs21 hs4 hs1000000
 cases b7 with
 | nil =>
  have hk : ¬ ((a2 : Int) < (ab.length : Int)) := by have := List.drop_eq_nil_iff.1 hl; omega
  have hkb := decide_eq_false hk
  rw [m_data_Chance_L1.eq_1] at hm
  refine wS <| wR <| lV (.bool (decide ((a2 : Int) < (ab.length : Int)))) (r_lss (a2 : Int) (ab.length : Int) rfl rfl) <| lN <| wS ?_
  refine wcondF (congrArg Value.bool hkb) ?_
  refine wexit (inB_hit ?_)
  refine wS <| wR ?_
  obtain ⟨al, dn, hm⟩ := bS hm
  refine lc rfl rfl (r_call2 Tryz.call30 rfl rfl) (c_frac_Of N 5 6 ao _ 1 1 al dn) ?_
  rintro _ ee ⟨dp, b8, b9, ca, cb, rfl, bh, cq, cr⟩
  refine ⟨_, rfl, ?_⟩
  refine lM (.tuple #[(.agg #[(.bool al.1.1.1), (.slice b8 al.1.1.2.length b9), (.slice ca al.1.2.length cb)]), (.int .i64 al.2)]) <| lV (.agg #[(.bool al.1.1.1), (.slice b8 al.1.1.2.length b9), (.slice ca al.1.2.length cb)]) (r_extract rfl rfl) <| lV (.int .i64 al.2) (r_extract rfl rfl) ?_
  refine l_alloc (col := dp) (v := (.agg #[(.bool false), (.slice none (([] : List Int).length) 0), (.slice none (([] : List Int).length) 0)])) 7 rfl Tryz.zeroValue40 ?_
  intro cc dq cs a6 ce
  replace ce : Box 40 7 cs dq cc #[(.bool false), (.slice none (([] : List Int).length) 0), (.slice none (([] : List Int).length) 0)] := ce
  refine l_bstore (v := (.agg #[(.bool al.1.1.1), (.slice b8 al.1.1.2.length b9), (.slice ca al.1.2.length cb)])) ce Tryz.sizeOf40 rfl rfl (by intro u hu; simp only [Value.cells, List.mem_cons, List.not_mem_nil, or_false] at hu; rcases hu with rfl | rfl | rfl <;> rfl) rfl rfl ?_
  intro dr a7 ds am
  clear ce
  replace am : Box 40 7 cs dr cc #[(.bool al.1.1.1), (.slice b8 al.1.1.2.length b9), (.slice ca al.1.2.length cb)] := am
  refine lA (.int .i64 al.2) <| lN <| wS <| wS <| wR <| lM (.slice a1 ab.length cap1) <| lV (.int .i64 (ab.length : Int)) (r_len Tryz.underlying34 rfl) <| lM (.int .i64 0) <| lN <| wB ?_
  replace h1 := ((h1.gr bh).gr a6).kp a7
  replace ad := ((ad.gr bh).gr a6).kp a7
  replace ae := ((ae.gr bh).gr a6).kp a7
  replace af := ((af.gr bh).gr a6).kp a7
  replace ag := ((ag.gr bh).gr a6).kp a7
  replace ai := ((ai.gr bh).gr a6).kp a7
  replace aj := ((aj.gr bh).gr a6).kp a7
  replace ac := ((ac.gr bh).gr a6).kp a7
  replace ah := ((ah.gr bh).gr a6).kp a7
  replace hst := ((hst.grow bh).grow a6).kp a7 ds
  replace cq := (cq.gr a6).kp a7
  replace cr := (cr.gr a6).kp a7
  refine wloop (fun n f ap => ∃ (ak : Col) (a3 : Nat) (bq : Bool) (bj : Option Addr) (bk : Nat) (bl : List Int) (bm : Option Addr) (bn : Nat) (bo : List Int) (cd : List (List Int)), n = cd.length ∧ ab.drop a3 = cd ∧ m_data_Chance_L2 N aa cd bq bl bo = some r ∧ St w0 (col0 col) ak ap ∧ Sl Rep.str ak ap aq ar aa.2.1 ∧ Sl (Rep.slice Rep.str) ak ap au av aa.2.2.1 ∧ Sl (Rep.slice (Rep.int .i64)) ak ap aw ax aa.2.2.2.1 ∧ Sl (Rep.slice (Rep.pair (Rep.pair Rep.bool (Rep.slice (Rep.int .u32))) (Rep.slice (Rep.int .u32)))) ak ap ay az aa.2.2.2.2 ∧ Box 28 1 ak ap b4 #[(.string aa.1), (.slice aq aa.2.1.length ar), (.slice au aa.2.2.1.length av), (.slice aw aa.2.2.2.1.length ax), (.slice ay aa.2.2.2.2.length az)] ∧ Sl (Rep.slice (Rep.int .i64)) ak ap a1 cap1 ab ∧ Own (Rep.int .u32) 114 3 ak ap bz b0 bt ∧ Own (Rep.int .u32) 114 4 ak ap b1 b2 bu ∧ Box 40 2 ak ap bw #[(.bool b6), (.slice bz bt.length b0), (.slice b1 bu.length b2)] ∧ Own (Rep.int .u32) 114 5 ak ap bj bk bl ∧ Own (Rep.int .u32) 114 6 ak ap bm bn bo ∧ Box 40 7 ak ap cc #[(.bool bq), (.slice bj bl.length bk), (.slice bm bo.length bn)] ∧ f 38 = (.int .i64 (a3 : Int)) ∧ f 2 = (.pointer (some ⟨b4, 0, none⟩)) ∧ f 36 = (.slice a1 ab.length cap1) ∧ f 37 = (.int .i64 (ab.length : Int)) ∧ f 4 = (.pointer (some ⟨bw, 0, none⟩)) ∧ f 9 = (.pointer (some ⟨cc, 0, none⟩)) ∧ f 1000000 = (enc [])) ab.length ⟨cs, 0, al.1.1.1, b8, b9, al.1.1.2, ca, cb, al.1.2, ab, rfl, rfl, hm, hst, ad, ae, af, ag, ac, h1, ai, aj, ah, cq, cr, am, rfl, rfl, rfl, rfl, rfl, rfl, rfl⟩ ?_
  clear hm; intro n f ap hI
  obtain ⟨ak, a3, bq, bj, bk, bl, bm, bn, bo, cd, hn, hl, hm, hst, ad, ae, af, ag, ac, h1, ai, aj, ah, a8, a9, am, hs38, hs2, hs36, hs37, hs4, hs9, hs1000000⟩ := hI
  subst hn
  refine .lD 38 hs38 <| .lD 2 hs2 <| .lD 36 hs36 <| .lD 37 hs37 <| .lD 4 hs4 <| .lD 9 hs9 <| .lD 1000000 hs1000000 ?_
  clear hs38 hs2 hs36 hs37 hs4 hs9 hs1000000
  cases cd with
  | nil =>
   have hk : ¬ ((a3 : Int) < (ab.length : Int)) := by have := List.drop_eq_nil_iff.1 hl; omega
   have hkb := decide_eq_false hk
   rw [m_data_Chance_L2.eq_1] at hm
   refine wS <| wR <| lV (.bool (decide ((a3 : Int) < (ab.length : Int)))) (r_lss (a3 : Int) (ab.length : Int) rfl rfl) <| lN <| wS ?_
   refine wcondF (congrArg Value.bool hkb) ?_
   refine wexit (inB_hit ?_)
   refine wS <| wR <| lV (.agg #[(.bool bq), (.slice bj bl.length bk), (.slice bm bo.length bn)]) (r_ldN Tryz.isAgg40 Tryz.sizeOf40 rfl rfl am.atN) ?_
   refine l_bstore (v := (.agg #[(.bool bq), (.slice bj bl.length bk), (.slice bm bo.length bn)])) ah Tryz.sizeOf40 rfl rfl (by intro u hu; simp only [Value.cells, List.mem_cons, List.not_mem_nil, or_false] at hu; rcases hu with rfl | rfl | rfl <;> rfl) rfl rfl ?_
   intro dt ct du cu
   clear ah
   replace cu : Box 40 2 ak dt bw #[(.bool bq), (.slice bj bl.length bk), (.slice bm bo.length bn)] := cu
   refine lA (.int .i64 0) <| lN ?_
   refine wret ?_
   cases hm
   replace a8 := a8.kp ct
   replace a9 := a9.kp ct
   replace hst := hst.kp ct du
   exact ⟨rfl, _, res_at rfl rfl Tryz.isAgg40 Tryz.sizeOf40 rfl rfl cu.atN rfl rfl, colF w0.heap.size col ak (fun n => bif Nat.beq n 5 then c1 else bif Nat.beq n 6 then c2 else 0), bj, bk, bm, bn, rfl, hst.fin (fun n => bif Nat.beq n 5 then c1 else bif Nat.beq n 6 then c2 else 0), hst.finOwn (g := (fun n => bif Nat.beq n 5 then c1 else bif Nat.beq n 6 then c2 else 0)) rfl a8 (by decide) (by decide) rfl, hst.finOwn (g := (fun n => bif Nat.beq n 5 then c1 else bif Nat.beq n 6 then c2 else 0)) rfl a9 (by decide) (by decide) rfl⟩
  | cons cf df =>
   obtain ⟨hat, hl2_L2, hlt_L2⟩ := drop_get hl
   have hk : (a3 : Int) < (ab.length : Int) := by omega
   have hkb := decide_eq_true hk
   rw [m_data_Chance_L2.eq_2] at hm
   refine wS <| wR <| lV (.bool (decide ((a3 : Int) < (ab.length : Int)))) (r_lss (a3 : Int) (ab.length : Int) rfl rfl) <| lN <| wS ?_
   refine wcondT (congrArg Value.bool hkb) ?_
   refine wK <| wS <| wB <| wS <| wR ?_
   refine lV (sptr a1 (Int.toNat (a3 : Int) * 1)) (r_idx Tryz.underlying34 Tryz.sizeOf33 rfl rfl (at?_some hat).1 (at?_some hat).2.1 (h1.addr hat)) ?_
   obtain ⟨_, dv, dw⟩ := h1.atN hat
   obtain ⟨⟨cg, ch, rfl, cv⟩, _⟩ := dv
   refine lV (.slice cg cf.length ch) (r_ld Tryz.isAgg33 rfl dw.one) <| lA (.slice cg cf.length ch) <| lN ?_
   refine wmixD (col := ak) (pS [8]) [(0, 5), (1, 0), (2, 1), (3, 3), (4, 4), (5, 3), (6, 2)] (by kernel_rfl) (by kernel_rfl) ?_
   refine xsD (v := (.agg #[(.bool bq), (.slice bj bl.length bk), (.slice bm bo.length bn)])) rfl rfl (fun _ hC => r_ldN Tryz.isAgg40 Tryz.sizeOf40 rfl rfl (am.dk hC rfl rfl).atN) ?_
   refine xvD (v := (.agg #[(.string aa.1), (.slice aq aa.2.1.length ar), (.slice au aa.2.2.1.length av), (.slice aw aa.2.2.2.1.length ax), (.slice ay aa.2.2.2.2.length az)])) rfl rfl (fun _ hC => r_ldN Tryz.isAgg28 Tryz.sizeOf28 rfl rfl (ac.atN.gr (Grow.of_below (col := ak) hC.below))) ?_
   refine xuD (v := (.slice cg cf.length ch)) rfl rfl (fun _ => r_move rfl) ?_
   refine xeD rfl rfl ?_
   intro dg hC0
   have hC : Grow ak ap ak dg := .of_below hC0.below
   replace ad := ad.gr hC
   replace ae := ae.gr hC
   replace af := af.gr hC
   replace ag := ag.gr hC
   replace h1 := h1.gr hC
   replace ai := ai.gr hC
   replace aj := aj.gr hC
   replace a8 := a8.gr hC
   replace a9 := a9.gr hC
   replace cv := cv.gr hC
   replace ac := ac.gr hC
   replace ah := ah.gr hC
   replace am := am.gr hC
   replace hst := hst.grow hC
   have cw : KeepP (pS [8]) ak ap ak dg := hC.toP
   obtain ⟨cx, dx, hm⟩ := bS hm
   refine lc rfl rfl (r_call1 Tryz.call78 rfl) (c_slices_Clone_int_int 8 ak _ cg ch cf cv cx dx) ?_
   rintro _ ci ⟨br, cy, cz, rfl, a0, cj⟩
   refine ⟨_, rfl, ?_⟩
   replace cw := cw.gr a0
   refine lN ⟨fun w' => Grow br ci br w', fun w' => ∃ c', KeepP (pS [8]) br ci c' w', Grow.refl _ _, fun _ h => ⟨_, h.toP⟩, fun _ _ h => cls hC0 a0 h, fun _ _ ⟨c9, h⟩ => ⟨c9, cw.trans h⟩, ?_⟩
   refine xeD rfl rfl ?_
   intro dh hC0
   have hC : Grow br ci br dh := .of_below hC0.below
   replace ad := (ad.gr a0).gr hC
   replace ae := (ae.gr a0).gr hC
   replace af := (af.gr a0).gr hC
   replace ag := (ag.gr a0).gr hC
   replace h1 := (h1.gr a0).gr hC
   replace ai := (ai.gr a0).gr hC
   replace aj := (aj.gr a0).gr hC
   replace a8 := (a8.gr a0).gr hC
   replace a9 := (a9.gr a0).gr hC
   replace ac := (ac.gr a0).gr hC
   replace ah := (ah.gr a0).gr hC
   replace am := (am.gr a0).gr hC
   replace hst := (hst.grow a0).grow hC
   replace cj := cj.gr hC
   have c0 : KeepP (pS [8]) br ci br dh := hC.toP
   obtain ⟨b3, dy, hm⟩ := bS hm
   refine lc rfl rfl (r_call3 Tryz.call84 rfl rfl rfl) (c_data_sum N 9 10 br _ 8 rfl aq ar au av aw ax ay az (aa.1, aa.2.1, aa.2.2.1, aa.2.2.2.1, aa.2.2.2.2) cy cz cx 0 ad ae af ag cj b3 dy) ?_
   rintro _ ck ⟨ba, dz, d0, d1, d2, rfl, a4, c3, c4, ef, d3⟩
   refine ⟨_, rfl, ?_⟩
   replace ad := ad.kpp a4
   replace ae := ae.kpp a4
   replace af := af.kpp a4
   replace ag := ag.kpp a4
   replace h1 := h1.kpp a4
   replace ai := ai.kpp a4
   replace aj := aj.kpp a4
   replace a8 := a8.kpp a4
   replace a9 := a9.kpp a4
   replace ac := ac.kpp a4
   replace ah := ah.kpp a4
   replace am := am.kpp a4
   replace c0 := c0.trans (a4.mono (by first | exact pS_p2 rfl | exact pS_p1 rfl | exact pS_pS rfl))
   clear cj
   refine .ld (d := 45) (v := (.slice cy b3.2.length cz)) (congrArg (fun n => Value.slice cy n cz) (show cx.length = b3.2.length from d3.symm)) ?_
   refine lN ⟨fun w' => Grow ba ck ba w', fun w' => ∃ c', KeepP (pS [8]) ba ck c' w', Grow.refl _ _, fun _ h => ⟨_, h.toP⟩, fun h => absurd h (by decide), fun _ _ ⟨c9, h⟩ => ⟨c9, c0.trans h⟩, ?_⟩
   refine xeD rfl rfl ?_
   intro c5 hC0
   have hC : Grow ba ck ba c5 := .of_below hC0.below
   replace hst := (hst.kpp a4).grow hC
   replace ad := ad.gr hC
   replace ae := ae.gr hC
   replace af := af.gr hC
   replace ag := ag.gr hC
   replace h1 := h1.gr hC
   replace ai := ai.gr hC
   replace aj := aj.gr hC
   replace a8 := a8.gr hC
   replace a9 := a9.gr hC
   replace c3 := c3.gr hC
   replace c4 := c4.gr hC
   replace ac := ac.gr hC
   replace ah := ah.gr hC
   replace am := am.gr hC
   have c6 : KeepP (pS [8]) ba ck ba c5 := hC.toP
   obtain ⟨bi, d4, hm⟩ := bS hm
   refine lc rfl rfl (r_call2 Tryz.call35 rfl rfl) (c_frac_Mul N 11 12 (frC 10 (frC 9 (frC 6 (frC 5 ba)))) _ bj bk bm bn ((bq, bl), bo) dz d0 d1 d2 ((b3.1.1.1, b3.1.1.2), b3.1.2) ((((a8.toSlF (Froz.int .u32)).froz 6).froz 9).froz 10) ((((a9.froz 5 (by decide)).toSlF (Froz.int .u32)).froz 9).froz 10) ((((c3.froz 5 (by decide)).froz 6 (by decide)).toSlF (Froz.int .u32)).froz 10) ((((c4.froz 5 (by decide)).froz 6 (by decide)).froz 9 (by decide)).toSlF (Froz.int .u32)) bi d4) ?_
   rintro _ c7 ⟨d5, c8, da, db, dc, rfl, an, be, bf⟩
   refine ⟨_, rfl, ?_⟩
   replace be := be.thaw (flat_int .u32) an (((((Fz.refl (col := ba)).froz 5).froz 6).froz 9).froz 10) (by decide)
   replace bf := bf.thaw (flat_int .u32) an (((((Fz.refl (col := ba)).froz 5).froz 6).froz 9).froz 10) (by decide)
   replace an := an.thawR (col := ba)
   generalize colR c5.heap.size ba d5 = bb at *
   replace c6 := c6.gr an
   refine lN ⟨fun w' => Grow bb c7 bb w', fun w' => ∃ c', KeepP (pS [8]) bb c7 c' w', Grow.refl _ _, fun _ h => ⟨_, h.toP⟩, fun _ _ h => cls hC0 an h, fun _ _ ⟨c9, h⟩ => ⟨c9, c6.trans h⟩, ?_⟩
   refine xeD rfl rfl ?_
   intro d6 hC0
   have hC : Grow bb c7 bb d6 := .of_below hC0.below
   replace am := (am.gr an).gr hC
   refine l_bstore (v := (.agg #[(.bool bi.1.1), (.slice c8 bi.1.2.length da), (.slice db bi.2.length dc)])) am Tryz.sizeOf40 rfl rfl (by intro u hu; simp only [Value.cells, List.mem_cons, List.not_mem_nil, or_false] at hu; rcases hu with rfl | rfl | rfl <;> rfl) rfl rfl ?_
   intro cl bc d7 bp
   clear am
   replace bp : Box 40 7 bb cl cc #[(.bool bi.1.1), (.slice c8 bi.1.2.length da), (.slice db bi.2.length dc)] := bp
   refine lN ⟨fun w' => Grow bb cl bb w', fun w' => ∃ c', KeepP (pS [8]) bb cl c' w', Grow.refl _ _, fun _ h => ⟨_, h.toP⟩, fun h => absurd h (by decide), fun h => absurd h (by decide), ?_⟩
   refine xnilD ?_
   replace ad := ((ad.gr an).gr hC).kp bc
   replace ae := ((ae.gr an).gr hC).kp bc
   replace af := ((af.gr an).gr hC).kp bc
   replace ag := ((ag.gr an).gr hC).kp bc
   replace h1 := ((h1.gr an).gr hC).kp bc
   replace ai := ((ai.gr an).gr hC).kp bc
   replace aj := ((aj.gr an).gr hC).kp bc
   replace ac := ((ac.gr an).gr hC).kp bc
   replace ah := ((ah.gr an).gr hC).kp bc
   replace hst := ((hst.grow an).grow hC).kp bc d7
   replace be := (be.gr hC).kp bc
   replace bf := (bf.gr hC).kp bc
   intro d8 hC
   replace hC : Grow bb cl bb d8 := .of_below hC.below
   refine wR <| lV (.int .i64 (IntKind.i64.wrap ((a3 : Int) + 1))) (r_add (a3 : Int) 1 rfl rfl) <| lM (.int .i64 (IntKind.i64.wrap ((a3 : Int) + 1))) <| lN ?_
   replace ad := ad.gr hC
   replace ad := ad.recol 11 5 (by decide)
   replace ae := ae.gr hC
   replace ae := ae.recol 11 5 (by decide)
   replace af := af.gr hC
   replace af := af.recol 11 5 (by decide)
   replace ag := ag.gr hC
   replace ag := ag.recol 11 5 (by decide)
   replace h1 := h1.gr hC
   replace h1 := h1.recol 11 5 (by decide)
   replace ai := ai.gr hC
   replace ai := ai.recol 11 5 (by decide)
   replace aj := aj.gr hC
   replace aj := aj.recol 11 5 (by decide)
   replace be := be.gr hC
   replace be := be.recolSelf 5 (by decide)
   replace bf := bf.gr hC
   replace bf := bf.recol 11 5 (by decide)
   replace ac := ac.gr hC
   replace ac := ac.recol 11 5 (by decide)
   replace ah := ah.gr hC
   replace ah := ah.recol 11 5 (by decide)
   replace bp := bp.gr hC
   replace bp := bp.recol 11 5 (by decide)
   replace hst := hst.grow hC
   replace hst := hst.recol 11 5 (by decide) (by decide)
   replace ad := ad.recol 12 6 (by decide)
   replace ae := ae.recol 12 6 (by decide)
   replace af := af.recol 12 6 (by decide)
   replace ag := ag.recol 12 6 (by decide)
   replace h1 := h1.recol 12 6 (by decide)
   replace ai := ai.recol 12 6 (by decide)
   replace aj := aj.recol 12 6 (by decide)
   replace be := be.recol 12 6 (by decide)
   replace bf := bf.recolSelf 6 (by decide)
   replace ac := ac.recol 12 6 (by decide)
   replace ah := ah.recol 12 6 (by decide)
   replace bp := bp.recol 12 6 (by decide)
   replace hst := hst.recol 12 6 (by decide) (by decide)
   exact ⟨df.length, by simp, ⟨(rcC 12 6 (rcC 11 5 bb)), (a3 + 1), bi.1.1, c8, da, bi.1.2, db, dc, bi.2, df, rfl, hl2_L2, hm, hst, ad, ae, af, ag, ac, h1, ai, aj, ah, be, bf, bp, (congrArg (Value.int .i64) (wrap_succ (Nat.lt_of_lt_of_le hlt_L2 h1.1.1))), rfl, rfl, rfl, rfl, rfl, rfl⟩⟩
 | cons cm di =>
  obtain ⟨hat, hl2_L1, hlt_L1⟩ := drop_get hl
  have hk : (a2 : Int) < (ab.length : Int) := by omega
  have hkb := decide_eq_true hk
  rw [m_data_Chance_L1.eq_2] at hm
  refine wS <| wR <| lV (.bool (decide ((a2 : Int) < (ab.length : Int)))) (r_lss (a2 : Int) (ab.length : Int) rfl rfl) <| lN <| wS ?_
  refine wcondT (congrArg Value.bool hkb) ?_
  refine wK <| wS <| wB <| wS <| wR ?_
  refine lV (sptr a1 (Int.toNat (a2 : Int) * 1)) (r_idx Tryz.underlying34 Tryz.sizeOf33 rfl rfl (at?_some hat).1 (at?_some hat).2.1 (h1.addr hat)) ?_
  obtain ⟨_, d9, ea⟩ := h1.atN hat
  obtain ⟨⟨cn, co, rfl, eb⟩, _⟩ := d9
  refine lV (.slice cn cm.length co) (r_ld Tryz.isAgg33 rfl ea.one) <| lA (.slice cn cm.length co) <| lN <| wS <| wR <| lV (.agg #[(.string aa.1), (.slice aq aa.2.1.length ar), (.slice au aa.2.2.1.length av), (.slice aw aa.2.2.2.1.length ax), (.slice ay aa.2.2.2.2.length az)]) (r_ldN Tryz.isAgg28 Tryz.sizeOf28 rfl rfl ac.atN) <| lM (.slice cn cm.length co) ?_
  obtain ⟨cp, ec, hm⟩ := bS hm
  refine lc rfl rfl (r_call2 Tryz.call83 rfl rfl) (c_data_open ao _ aq ar au av aw ax ay az (aa.1, aa.2.1, aa.2.2.1, aa.2.2.2.1, aa.2.2.2.2) cn co cm ad ae af ag eb cp ec) ?_
  rintro _ ed ⟨rfl, bd⟩
  refine ⟨_, rfl, ?_⟩
  replace bd : Grow ao a5 ao ed := .of_below bd
  refine lV (.bool (decide (65536 < cp))) (r_gtr cp 65536 rfl rfl) <| lN ?_
  replace h1 := h1.gr bd
  replace ad := ad.gr bd
  replace ae := ae.gr bd
  replace af := af.gr bd
  replace ag := ag.gr bd
  replace ai := ai.gr bd
  replace aj := aj.gr bd
  replace ac := ac.gr bd
  replace ah := ah.gr bd
  replace hst := hst.grow bd
  refine wcond (decide (65536 < cp)) rfl (fun hb => ?_) (fun hb => ?_)
  ·rw [if_pos hb] at hm
   clear hb
   cases hm
  rw [if_neg (by rw [hb]; decide)] at hm
  clear hb
  refine wK <| wR <| lV (.int .i64 (IntKind.i64.wrap ((a2 : Int) + 1))) (r_add (a2 : Int) 1 rfl rfl) <| lM (.int .i64 (IntKind.i64.wrap ((a2 : Int) + 1))) <| lN ?_
  exact ⟨di.length, by simp, ⟨ao, (a2 + 1), b6, bz, b0, bt, b1, b2, bu, di, rfl, hl2_L1, hm, hst, h1, ad, ae, af, ag, ac, ai, aj, ah, (congrArg (Value.int .i64) (wrap_succ (Nat.lt_of_lt_of_le hlt_L1 h1.1.1))), rfl, rfl, rfl, rfl, rfl, rfl⟩⟩
def m_radix_Count_int_L2  : List Int → Int → Option (Int × Int)
  | [], aa => some (aa, 0)
  | ab :: ac, aa => chk (aa ≠ 0) (if (decide ((IntKind.i64.wrap (Int.tdiv 2147483647 aa)) < ab)) = true then none else ((m_radix_Count_int_L2 ac) (IntKind.i64.wrap (aa * ab))))
termination_by structural x => x
def m_radix_Count_int_J1 (kk_L1 : (Bool → Option (Int × Int))) (aa : Bool) : Option (Int × Int) :=
  kk_L1 aa
def m_radix_Count_int_L1 (aa : (List Int)) : List Int → Bool → Option (Int × Int)
  | [], ab => if ab = true then none else (m_radix_Count_int_L2 aa 1)
  | ac :: ad, ab => if (decide (ac < 0)) = true then none else (if ab = true then (m_radix_Count_int_J1 (m_radix_Count_int_L1 aa ad) true) else (m_radix_Count_int_J1 (m_radix_Count_int_L1 aa ad) (decide (ac = 0))))
termination_by structural x => x
def m_radix_Count_int (aa : (List Int)) : Option (Int × Int) :=
  m_radix_Count_int_L1 aa aa false
theorem c_radix_Count_int (col : Col) (w0 : World) (a0 : Option Addr) (cap0 : Nat) (aa : (List Int)) (h0 : Sl (Rep.int .i64) col w0 a0 cap0 aa) (r : (Int × Int)) (hm : m_radix_Count_int aa = some r) :
    Calls Tryz.prog 50 #[(.slice a0 aa.length cap0)] w0 (fun e w' => e = .returned (.tuple #[(.int .i64 r.1), (.int .i64 r.2)]) ∧ Below w0.heap.size w0 w') := by
 refine calls_of2 2 3 (m := 40) (args := [(.slice a0 aa.length cap0)]) Tryz.func50 rfl rfl rfl rfl rfl ?_
 rw [m_radix_Count_int.eq_1] at hm
 have hst := St.start col w0
 refine wS <| wR <| lA (.int .i64 0) <| lA (.int .i64 0) <| lN <| wS <| wR <| lA (.bool false) <| lN <| wS <| wS <| wR <| lM (.slice a0 aa.length cap0) <| lV (.int .i64 (aa.length : Int)) (r_len Tryz.underlying33 rfl) <| lM (.int .i64 0) <| lN <| wB ?_
 replace h0 := h0.keep (Stay.start col w0)
 refine wloop (fun n f ao => ∃ (ai : Col) (ac : Nat) (ae : Bool) (aj : List Int), n = aj.length ∧ aa.drop ac = aj ∧ m_radix_Count_int_L1 aa aj ae = some r ∧ St w0 (col0 col) ai ao ∧ Sl (Rep.int .i64) ai ao a0 cap0 aa ∧ f 12 = (.int .i64 (ac : Int)) ∧ f 0 = (.slice a0 aa.length cap0) ∧ f 10 = (.slice a0 aa.length cap0) ∧ f 11 = (.int .i64 (aa.length : Int)) ∧ f 4 = (.bool ae) ∧ f 1000000 = (enc [])) aa.length ⟨(col0 col), 0, false, aa, rfl, rfl, hm, hst, h0, rfl, rfl, rfl, rfl, rfl, rfl⟩ ?_
 clear hm; intro n f ao hI
 obtain ⟨ai, ac, ae, aj, hn, hl, hm, hst, h0, hs12, hs0, hs10, hs11, hs4, hs1000000⟩ := hI
 subst hn
 refine .lD 12 hs12 <| .lD 0 hs0 <| .lD 10 hs10 <| .lD 11 hs11 <| .lD 4 hs4 <| .lD 1000000 hs1000000 ?_
 clear hs12 hs0 hs10 hs11 hs4 hs1000000
 cases aj with
 | nil =>
  have hk : ¬ ((ac : Int) < (aa.length : Int)) := by have := List.drop_eq_nil_iff.1 hl; omega
  have hkb := decide_eq_false hk
  rw [m_radix_Count_int_L1.eq_1] at hm
  refine wS <| wR <| lV (.bool (decide ((ac : Int) < (aa.length : Int)))) (r_lss (ac : Int) (aa.length : Int) rfl rfl) <| lN <| wS ?_
  refine wcondF (congrArg Value.bool hkb) ?_
  refine wexit (inB_hit ?_)
  refine wS <| wS <| wR <| lM (.bool ae) <| lN ?_
  refine wcond (ae) rfl (fun hb => ?_) (fun hb => ?_)
  ·rw [if_pos hb] at hm
   clear hb
   cases hm
  rw [if_neg (by rw [hb]; decide)] at hm
  clear hb
  refine wK <| wS <| wR <| lA (.int .i64 1) <| lN <| wS <| wS <| wR <| lM (.slice a0 aa.length cap0) <| lV (.int .i64 (aa.length : Int)) (r_len Tryz.underlying33 rfl) <| lM (.int .i64 0) <| lN <| wB ?_
  refine wloop (fun n f ap => ∃ (al : Col) (ad : Nat) (ab : Int) (ak : List Int), n = ak.length ∧ aa.drop ad = ak ∧ m_radix_Count_int_L2 ak ab = some r ∧ St w0 (col0 col) al ap ∧ Sl (Rep.int .i64) al ap a0 cap0 aa ∧ f 27 = (.int .i64 (ad : Int)) ∧ f 25 = (.slice a0 aa.length cap0) ∧ f 26 = (.int .i64 (aa.length : Int)) ∧ f 7 = (.int .i64 ab) ∧ f 1000000 = (enc [])) aa.length ⟨ai, 0, 1, aa, rfl, rfl, hm, hst, h0, rfl, rfl, rfl, rfl, rfl⟩ ?_
  clear hm; intro n f ap hI
  obtain ⟨al, ad, ab, ak, hn, hl, hm, hst, h0, hs27, hs25, hs26, hs7, hs1000000⟩ := hI
  subst hn
  refine .lD 27 hs27 <| .lD 25 hs25 <| .lD 26 hs26 <| .lD 7 hs7 <| .lD 1000000 hs1000000 ?_
  clear hs27 hs25 hs26 hs7 hs1000000
  cases ak with
  | nil =>
   have hk : ¬ ((ad : Int) < (aa.length : Int)) := by have := List.drop_eq_nil_iff.1 hl; omega
   have hkb := decide_eq_false hk
   rw [m_radix_Count_int_L2.eq_1] at hm
   refine wS <| wR <| lV (.bool (decide ((ad : Int) < (aa.length : Int)))) (r_lss (ad : Int) (aa.length : Int) rfl rfl) <| lN <| wS ?_
   refine wcondF (congrArg Value.bool hkb) ?_
   refine wexit (inB_hit ?_)
   refine wS <| wR <| lM (.int .i64 ab) <| lA (.int .i64 ab) <| lA (.int .i64 0) <| lN ?_
   refine wret ?_
   cases hm
   exact ⟨rfl, rfl, hst.below⟩
  | cons ag au =>
   obtain ⟨hat, hl2_L2, hlt_L2⟩ := drop_get hl
   have hk : (ad : Int) < (aa.length : Int) := by omega
   have hkb := decide_eq_true hk
   rw [m_radix_Count_int_L2.eq_2] at hm
   refine wS <| wR <| lV (.bool (decide ((ad : Int) < (aa.length : Int)))) (r_lss (ad : Int) (aa.length : Int) rfl rfl) <| lN <| wS ?_
   refine wcondT (congrArg Value.bool hkb) ?_
   refine wK <| wS <| wB <| wS <| wR ?_
   refine lV (sptr a0 (Int.toNat (ad : Int) * 1)) (r_idx Tryz.underlying33 Tryz.sizeOf3 rfl rfl (at?_some hat).1 (at?_some hat).2.1 (h0.addr hat)) ?_
   refine lV (.int .i64 ag) (r_ld Tryz.isAgg3 rfl (h0.atInt hat)) <| lA (.int .i64 ag) <| lN <| wS <| wS <| wR <| lM (.int .i64 ag) <| lM (.int .i64 ab) ?_
   obtain ⟨av, hm⟩ := cS hm
   refine lV (.int .i64 (IntKind.i64.wrap (Int.tdiv 2147483647 ab))) (r_quo 2147483647 ab rfl rfl av) <| lV (.bool (decide ((IntKind.i64.wrap (Int.tdiv 2147483647 ab)) < ag))) (r_gtr ag (IntKind.i64.wrap (Int.tdiv 2147483647 ab)) rfl rfl) <| lN ?_
   refine wcond (decide ((IntKind.i64.wrap (Int.tdiv 2147483647 ab)) < ag)) rfl (fun hb => ?_) (fun hb => ?_)
   ·rw [if_pos hb] at hm
    clear hb
    cases hm
   rw [if_neg (by rw [hb]; decide)] at hm
   clear hb
   refine wK <| wR <| lM (.int .i64 ab) <| lM (.int .i64 ag) <| lV (.int .i64 (IntKind.i64.wrap (ab * ag))) (r_mul ab ag rfl rfl) <| lA (.int .i64 (IntKind.i64.wrap (ab * ag))) <| lN <| wR <| lV (.int .i64 (IntKind.i64.wrap ((ad : Int) + 1))) (r_add (ad : Int) 1 rfl rfl) <| lM (.int .i64 (IntKind.i64.wrap ((ad : Int) + 1))) <| lN ?_
   exact ⟨au.length, by simp, ⟨al, (ad + 1), (IntKind.i64.wrap (ab * ag)), au, rfl, hl2_L2, hm, hst, h0, (congrArg (Value.int .i64) (wrap_succ (Nat.lt_of_lt_of_le hlt_L2 h0.1.1))), rfl, rfl, rfl, rfl⟩⟩
 | cons af aq =>
  obtain ⟨hat, hl2_L1, hlt_L1⟩ := drop_get hl
  have hk : (ac : Int) < (aa.length : Int) := by omega
  have hkb := decide_eq_true hk
  rw [m_radix_Count_int_L1.eq_2] at hm
  refine wS <| wR <| lV (.bool (decide ((ac : Int) < (aa.length : Int)))) (r_lss (ac : Int) (aa.length : Int) rfl rfl) <| lN <| wS ?_
  refine wcondT (congrArg Value.bool hkb) ?_
  refine wK <| wS ?_
  refine Wp.cut (fun f ar => ∃ (am : Col) (an : Bool), m_radix_Count_int_J1 (m_radix_Count_int_L1 aa aq) an = some r ∧ St w0 (col0 col) am ar ∧ Sl (Rep.int .i64) am ar a0 cap0 aa ∧ f 0 = (.slice a0 aa.length cap0) ∧ f 10 = (.slice a0 aa.length cap0) ∧ f 11 = (.int .i64 (aa.length : Int)) ∧ f 12 = (.int .i64 (ac : Int)) ∧ f 4 = (.bool an) ∧ f 1000000 = (enc [])) ?_ ?_
  ·intro f ar hJ
   obtain ⟨am, an, hm, hst, h0, hs0, hs10, hs11, hs12, hs4, hs1000000⟩ := hJ
   rw [m_radix_Count_int_J1.eq_1] at hm
   refine .lD 0 hs0 <| .lD 10 hs10 <| .lD 11 hs11 <| .lD 12 hs12 <| .lD 4 hs4 <| .lD 1000000 hs1000000 ?_
   clear hs0 hs10 hs11 hs12 hs4 hs1000000
   refine wR <| lV (.int .i64 (IntKind.i64.wrap ((ac : Int) + 1))) (r_add (ac : Int) 1 rfl rfl) <| lM (.int .i64 (IntKind.i64.wrap ((ac : Int) + 1))) <| lN ?_
   exact ⟨aq.length, by simp, ⟨am, (ac + 1), an, aq, rfl, hl2_L1, hm, hst, h0, (congrArg (Value.int .i64) (wrap_succ (Nat.lt_of_lt_of_le hlt_L1 h0.1.1))), rfl, rfl, rfl, rfl, rfl⟩⟩
  refine wB <| wS <| wR ?_
  refine lV (sptr a0 (Int.toNat (ac : Int) * 1)) (r_idx Tryz.underlying33 Tryz.sizeOf3 rfl rfl (at?_some hat).1 (at?_some hat).2.1 (h0.addr hat)) ?_
  refine lV (.int .i64 af) (r_ld Tryz.isAgg3 rfl (h0.atInt hat)) <| lA (.int .i64 af) <| lN <| wS <| wS <| wR <| lM (.int .i64 af) <| lV (.bool (decide (af < 0))) (r_lss af 0 rfl rfl) <| lN ?_
  refine wcond (decide (af < 0)) rfl (fun hb => ?_) (fun hb => ?_)
  ·rw [if_pos hb] at hm
   clear hb
   cases hm
  rw [if_neg (by rw [hb]; decide)] at hm
  clear hb
  refine wK <| wR <| lM (.bool ae) <| lM (.bool ae) ?_
  by_cases ah : ae = true
  ·rw [if_pos ah] at hm
   refine lp (b := ae) 19 rfl rfl rfl rfl (by rw [ah]; rfl) ?_
   refine lp (b := ae) 19 rfl rfl rfl rfl (by rw [ah]; rfl) ?_
   refine lV (.bool true) (r_pickT (congrArg Value.bool ah) rfl) <| lA (.bool true) <| lN ?_
   exact ⟨ai, true, hm, hst, h0, rfl, rfl, rfl, rfl, rfl, rfl⟩
  rw [if_neg ah] at hm
  replace ah := Bool.eq_false_iff.2 ah
  refine lg (b := ae) 19 rfl rfl rfl (by rw [ah]; rfl) ?_
  refine lM (.int .i64 af) ?_
  refine lg (b := ae) 19 rfl rfl rfl (by rw [ah]; rfl) ?_
  refine lV (.bool (decide (af = 0))) (r_eql af 0 rfl rfl) <| lV (.bool (decide (af = 0))) (r_pickF (congrArg Value.bool ah) rfl) <| lA (.bool (decide (af = 0))) <| lN ?_
  exact ⟨ai, (decide (af = 0)), hm, hst, h0, rfl, rfl, rfl, rfl, rfl, rfl⟩
def m_slices_Backward_int_int_1_L1 (N : Nat) (ab : List Int) : Nat → Int → Option (List (Int × Int))
  | 0, _ => none
  | ac + 1, aa => if (decide (0 ≤ aa)) = true then ((at? ab aa).bind fun ad => ((m_slices_Backward_int_int_1_L1 N ab ac) (IntKind.i64.wrap (aa - 1))).bind fun ae => some ((aa, ad) :: ae)) else (some [])
termination_by structural x => x
def m_slices_Backward_int_int_1 (N : Nat) (aa : List Int) : Option (List (Int × Int)) :=
  m_slices_Backward_int_int_1_L1 N aa N (IntKind.i64.wrap ((aa.length : Int) - 1))
theorem c_slices_Backward_int_int_1 (N : Nat) (col : Col) (w0 : World) (g0 : Nat) (af0 : Option Addr) (capf0 : Nat) (ab : List Int) (hf0 : Sl (Rep.int .i64) col w0 af0 capf0 ab) (hb0 : Box 33 450 col w0 g0 #[(.slice af0 ab.length capf0)]) (r : List (Int × Int)) (hm : m_slices_Backward_int_int_1 N ab = some r) :
    Goes Tryz.prog 176 [(.pointer (some ⟨g0, 0, none⟩))] (fun (y : Int × Int) (col : Col) (w : World) (args : List Value) => args = [.int .i64 y.1, .int .i64 y.2]) r col w0 := by
 intro l J X hjs hxs hy hst
 refine calls_of0 (m := 19) (args := [.func (.yield l) #[] #[], (.pointer (some ⟨g0, 0, none⟩))]) Tryz.func176 rfl rfl rfl rfl ?_
 rw [m_slices_Backward_int_int_1.eq_1] at hm
 refine wS <| wR <| lV (.slice af0 ab.length capf0) (r_ld Tryz.isAgg33 rfl hb0.at1) <| lV (.int .i64 (ab.length : Int)) (r_len Tryz.underlying33 rfl) <| lV (.int .i64 (IntKind.i64.wrap ((ab.length : Int) - 1))) (r_sub (ab.length : Int) 1 rfl rfl) <| lA (.int .i64 (IntKind.i64.wrap ((ab.length : Int) - 1))) <| lN <| wB ?_
 refine wloop (fun n f ad => ∃ (ae : Col) (r : List (Int × Int)) (aa : Int) (ac : Nat), ac = n ∧ m_slices_Backward_int_int_1_L1 N ab ac aa = some r ∧ J r ae ad ∧ Sl (Rep.int .i64) ae ad af0 capf0 ab ∧ Box 33 450 ae ad g0 #[(.slice af0 ab.length capf0)] ∧ f 0 = (.func (.yield l) #[] #[]) ∧ f 1 = (.pointer (some ⟨g0, 0, none⟩)) ∧ f 3 = (.int .i64 aa) ∧ f 1000000 = (enc [])) N ⟨col, r, (IntKind.i64.wrap ((ab.length : Int) - 1)), N, rfl, hm, hst, hf0, hb0, rfl, rfl, rfl, rfl⟩ ?_
 clear hm; intro n f ad hI
 obtain ⟨ae, r, aa, ac, hn, hm, hst, hf0, hb0, hs0, hs1, hs3, hs1000000⟩ := hI
 subst hn
 refine .lD 0 hs0 <| .lD 1 hs1 <| .lD 3 hs3 <| .lD 1000000 hs1000000 ?_
 clear hs0 hs1 hs3 hs1000000
 cases ac with
 | zero => rw [m_slices_Backward_int_int_1_L1.eq_1] at hm; cases hm
 | succ ac =>
  rw [m_slices_Backward_int_int_1_L1.eq_2] at hm
  refine wS <| wS <| wR <| lM (.int .i64 aa) <| lV (.bool (decide (0 ≤ aa))) (r_geq aa 0 rfl rfl) <| lN ?_
  refine wcond (decide (0 ≤ aa)) rfl (fun hb => ?_) (fun hb => ?_)
  ·rw [if_pos hb] at hm
   clear hb
   refine wK <| wS <| wB <| wS <| wR <| lM (.func (.yield l) #[] #[]) <| lM (.int .i64 aa) <| lV (.slice af0 ab.length capf0) (r_ld Tryz.isAgg33 rfl hb0.at1) <| lM (.int .i64 aa) ?_
   obtain ⟨ag, af, hm⟩ := bS hm
   refine lV (sptr af0 (Int.toNat aa * 1)) (r_idx Tryz.underlying33 Tryz.sizeOf3 rfl rfl (at?_some af).1 (at?_some af).2.1 (hf0.addr af)) ?_
   refine lV (.int .i64 ag) (r_ld Tryz.isAgg3 rfl (hf0.atInt af)) ?_
   obtain ⟨ai, hc_8m, aj⟩ := bS hm
   cases aj
   have hm := hc_8m
   clear hc_8m
   refine ly2 rfl rfl rfl rfl (hy _ _ _ _ [(.int .i64 aa), (.int .i64 ag)] hst rfl) ?_
   rintro _ al ⟨ak, ah, ⟨rfl, hJ⟩ | ⟨rfl, hX⟩⟩
   ·refine ⟨_, rfl, ?_⟩
    clear hst
    have hst := hJ
    clear hJ
    refine lV (.bool false) (r_not true rfl) <| lN ?_
    refine wcondF rfl ?_
    refine wK <| wR <| lM (.int .i64 aa) <| lV (.int .i64 (IntKind.i64.wrap (aa - 1))) (r_sub aa 1 rfl rfl) <| lA (.int .i64 (IntKind.i64.wrap (aa - 1))) <| lN ?_
    replace hf0 := hf0.kpp ah
    replace hb0 := hb0.kpp ah
    exact ⟨ac, by omega, ⟨ak, ai, (IntKind.i64.wrap (aa - 1)), ac, rfl, hm, hst, hf0, hb0, rfl, rfl, rfl, rfl⟩⟩
   clear hm
   refine ⟨_, rfl, ?_⟩
   clear hst
   have hst := hX
   clear hX
   refine lV (.bool true) (r_not false rfl) <| lN ?_
   refine wcondT rfl ?_
   refine wret ?_
   exact ⟨rfl, ⟨_, rfl⟩, _, .inr hst⟩
  rw [if_neg (by rw [hb]; decide)] at hm
  clear hb
  refine wexit (inB_hit ?_)
  cases hm
  exact ⟨rfl, ⟨_, rfl⟩, _, .inl hst⟩
def m_slices_Backward_int_int (N : Nat) (aa : (List Int)) : Option (List (Int × Int)) :=
  m_slices_Backward_int_int_1 N aa
theorem c_slices_Backward_int_int (N : Nat) (col : Col) (w0 : World) (a0 : Option Addr) (cap0 : Nat) (aa : (List Int)) (h0 : Sl (Rep.int .i64) col w0 a0 cap0 aa) (r : (List (Int × Int))) (hm : m_slices_Backward_int_int N aa = some r) :
    Calls Tryz.prog 154 #[(.slice a0 aa.length cap0)] w0 (fun e w' => ∃ (col' : Col) (rv1 : Value), e = .returned (rv1) ∧ Grow col w0 col' w' ∧ It Tryz.prog rv1 (fun (y : Int × Int) (col : Col) (w : World) (args : List Value) => args = [.int .i64 y.1, .int .i64 y.2]) r q0 col' w') := by
 refine calls_of1 2 (m := 4) (args := [(.slice a0 aa.length cap0)]) Tryz.func154 rfl rfl rfl rfl rfl ?_
 rw [m_slices_Backward_int_int.eq_1] at hm
 have hst := St.start col w0
 refine wS <| wR ?_
 refine l_box (col := (col0 col)) (v := (.slice a0 aa.length cap0)) 1 rfl rfl ?_
 intro ab ag ae af ac
 replace ac : Box 33 1 ae ag ab #[(.slice a0 aa.length cap0)] := ac
 refine lv (v := _) rfl rfl (r_assign rfl) ?_
 refine lN <| wS <| wR <| lV (.func (.func 176) #[] #[(.pointer (some ⟨ab, 0, none⟩))]) (r_func1 rfl) <| lA (.func (.func 176) #[] #[(.pointer (some ⟨ab, 0, none⟩))]) <| lN ?_
 refine wret ?_
 replace hst := hst.grow af
 have ad := hst.finBox (G := (fun n => bif Nat.beq n 1 then 450 else 0)) ac (by decide) (by decide) (show (fun n => bif Nat.beq n 1 then 450 else 0) 1 = 450 from rfl)
 replace h0 := (h0.keep (Stay.start col w0)).gr af
 have h0f := hst.finSl (g := (fun n => bif Nat.beq n 1 then 450 else 0)) rfl h0
 refine ⟨rfl, colF w0.heap.size col ae (fun n => bif Nat.beq n 1 then 450 else 0), _, rfl, hst.fin (fun n => bif Nat.beq n 1 then 450 else 0), 176, [(.pointer (some ⟨ab, 0, none⟩))], rfl, Tryz.call176, ?_⟩
 intro col9 w9 hs9 hk9
 replace ad := ad.itk hs9 hk9 rfl
 replace h0f := h0f.itk hs9 hk9 rfl
 exact c_slices_Backward_int_int_1 N col9 w9 ab a0 cap0 aa h0f ad r hm
def m_radix_digits_int_L1  : List (Int × Int) → Int → (List Int) → Option (List Int)
  | [], ac, ab => some ab
  | aa :: ad, ac, ab => chk (aa.2 ≠ 0) ((at? ab aa.1).bind fun af => (some (ab.set (Int.toNat aa.1) (Int.tmod ac aa.2))).bind fun ae => chk (aa.2 ≠ 0) ((m_radix_digits_int_L1 ad) (IntKind.i64.wrap (Int.tdiv ac aa.2)) ae))
termination_by structural x => x
def m_radix_digits_int (N : Nat) (aa : (List Int)) (ab : Int) : Option (List Int) :=
  if (decide ((aa.length : Int) = 0)) = true then (some ([] : List Int)) else (chk (aa.length * 8 ≤ 281474976710656 ∧ aa.length ≤ maxLen) ((m_slices_Backward_int_int N aa).bind fun ac => m_radix_digits_int_L1 ac ab (List.replicate aa.length (0 : Int))))
theorem c_radix_digits_int (N : Nat) (c1 : Nat) (col : Col) (w0 : World) (a0 : Option Addr) (cap0 : Nat) (aa : (List Int)) (al : Int) (h0 : Sl (Rep.int .i64) col w0 a0 cap0 aa) (r : (List Int)) (hm : m_radix_digits_int N aa al = some r) :
    Calls Tryz.prog 129 #[(.slice a0 aa.length cap0), (.int .i64 al)] w0 (fun e w' => ∃ (col' : Col) (ra1 : Option Addr) (rc2 : Nat), e = .returned ((.slice ra1 r.length rc2)) ∧ Grow col w0 col' w' ∧ Own (Rep.int .i64) 3 c1 col' w' ra1 rc2 r) := by
 refine calls_ofM1 4 (m := 28) (args := [(.slice a0 aa.length cap0), (.int .i64 al)]) Tryz.func129 rfl rfl rfl rfl rfl ?_
 rw [m_radix_digits_int.eq_1] at hm
 have hst := St.start col w0
 replace h0 := h0.keep (Stay.start col w0)
 have hmk : Marks (col0 col) w0 [] := .nil
 refine wS <| wR ?_
 refine l_box (col := (col0 col)) (v := (.int .i64 al)) 1 rfl rfl ?_
 intro a2 ba a3 a4 ad
 replace ad : Box 3 1 a3 ba a2 #[(.int .i64 al)] := ad
 refine lA (.slice none (([] : List Int).length) 0) <| lN <| wS <| wS <| wR <| lM (.slice a0 aa.length cap0) <| lV (.int .i64 (aa.length : Int)) (r_len Tryz.underlying33 rfl) <| lV (.bool (decide ((aa.length : Int) = 0))) (r_eql (aa.length : Int) 0 rfl rfl) <| lN ?_
 replace h0 := h0.gr a4
 replace hmk := hmk.gr a4
 replace hst := hst.grow a4
 refine wcond (decide ((aa.length : Int) = 0)) rfl (fun hb => ?_) (fun hb => ?_)
 ·rw [if_pos hb] at hm
  clear hb
  refine wS <| wR <| lA (.slice none (([] : List Int).length) 0) <| lN ?_
  refine wret ?_
  cases hm
  refine ⟨_, [], rfl, hmk, ?_⟩
  intro bz bh bi
  clear hmk
  replace hst := hst.kp bh bi
  exact ⟨colF w0.heap.size col a3 (fun n => 0), none, 0, rfl, hst.fin (fun n => 0), Own.nil⟩
 rw [if_neg (by rw [hb]; decide)] at hm
 clear hb
 refine wK <| wS <| wR <| lM (.slice a0 aa.length cap0) <| lV (.int .i64 (aa.length : Int)) (r_len Tryz.underlying33 rfl) ?_
 obtain ⟨bb, hm⟩ := cS hm
 refine l_make (col := a3) (w := ba) (r := (Rep.int .i64)) (n := aa.length) (x0 := 0) 2 rfl Tryz.underlying33 Tryz.t3 rfl rfl rfl rfl rfl rfl rfl bb.1 bb.2 (rd_int .i64 0) ?_
 intro a5 b0 bj au a6
 refine l_alloc (col := bj) (v := (.slice none (([] : List Int).length) 0)) 3 rfl Tryz.zeroValue33 ?_
 intro av bk a7 ap aw
 replace aw : Box 33 3 a7 bk av #[(.slice none (([] : List Int).length) 0)] := aw
 refine l_bstore (v := (.slice a5 ((List.replicate aa.length (0 : Int)).length) aa.length)) aw Tryz.sizeOf33 rfl rfl (by intro u hu; simp only [Value.cells, List.mem_cons, List.not_mem_nil, or_false] at hu; subst hu; rfl) rfl rfl ?_
 intro bl aq bm ab
 clear aw
 replace ab : Box 33 3 a7 bl av #[(.slice a5 ((List.replicate aa.length (0 : Int)).length) aa.length)] := ab
 refine lN <| wS <| wS <| wR <| lM (.slice a0 aa.length cap0) ?_
 obtain ⟨bc, bn, hm⟩ := bS hm
 replace h0 := ((h0.gr au).gr ap).kp aq
 refine lc rfl rfl (r_call1 Tryz.call154 rfl) (c_slices_Backward_int_int N a7 _ a0 cap0 aa h0 bc bn) ?_
 rintro _ b1 ⟨bo, b2, rfl, ar, bp⟩
 refine ⟨_, rfl, ?_⟩
 refine lN <| wB ?_
 replace ad := (((ad.gr au).gr ap).kp aq).gr ar
 replace hmk := (((hmk.gr au).gr ap).kp aq).gr ar
 replace hst := (((hst.grow au).grow ap).kp aq bm).grow ar
 replace a6 := ((a6.gr ap).kp aq).gr ar
 replace ab := ab.gr ar
 refine wrange (psl := [16, 17]) (arr := (fun (y : Int × Int) (col : Col) (w : World) (args : List Value) => args = [.int .i64 y.1, .int .i64 y.2])) (ys := bc) (col := bo) 498 rfl bp rfl hmk rfl rfl (by rintro _ _ _ _ rfl; rfl) (fun ys_ ac ak => ∃ (ae : Int) (ag : Option Addr) (ai : Nat) (aj : List Int), m_radix_digits_int_L1 ys_ ae aj = some r ∧ St w0 (col0 col) ac ak ∧ Box 3 1 ac ak a2 #[(.int .i64 ae)] ∧ Own (Rep.int .i64) 3 2 ac ak ag ai aj ∧ Box 33 3 ac ak av #[(.slice ag aj.length ai)]) (fun _ _ _ => False) ?_ ?_ ⟨al, a5, aa.length, (List.replicate aa.length (0 : Int)), hm, hst, ad, a6, ab⟩ ?_ ?_ ?_
 ·intro ys_ ac ak col2_ w2_ hJ hk
  obtain ⟨ae, ag, ai, aj, hm, hst, ad, ah, ab⟩ := hJ
  exact ⟨ae, ag, ai, aj, hm, hst.kpp hk rfl rfl, ad.kpp hk rfl, ah.kpp hk rfl rfl, ab.kpp hk rfl⟩
 ·intro _ _ _ _ _ h _
  exact h
 ·intro b3 b4 b5 af b6 ac ak args hJ hrec hmk harr
  obtain ⟨ae, ag, ai, aj, hm, hst, ad, ah, ab⟩ := hJ
  rw [m_radix_digits_int_L1.eq_2] at hm
  have hki := KeepP.refl pCo ac ak
  subst harr
  refine wS <| wR <| lA (.int .i64 af.1) <| lN <| wR <| lA (.int .i64 af.2) <| lN ?_
  refine ⟨_, hrec, ?_⟩
  intro bq b7 am bd hrec2
  clear hrec
  have hrec := hrec2
  clear hrec2
  refine wB <| wS ?_
  refine wmix (col := ac) [(0, 0), (1, 1), (2, 0), (3, 1), (4, 1), (5, 1), (6, 2)] (by kernel_rfl) (by kernel_rfl) ?_
  replace ab := ab.kp am
  refine xv (v := (.slice ag aj.length ai)) rfl rfl (fun _ hC => r_ld Tryz.isAgg33 rfl (ab.at1.gr (Grow.of_below (col := ac) hC.below))) ?_
  refine xu (v := (.int .i64 af.1)) rfl rfl (fun _ => r_move rfl) ?_
  replace ad := ad.kp am
  refine xv (v := (.int .i64 ae)) rfl rfl (fun _ hC => r_ld Tryz.isAgg3 rfl (ad.at1.gr (Grow.of_below (col := ac) hC.below))) ?_
  refine xu (v := (.int .i64 af.2)) rfl rfl (fun _ => r_move rfl) ?_
  obtain ⟨br, hm⟩ := cS hm
  refine xu (v := (.int .i64 (Int.tmod ae af.2))) rfl rfl (fun _ => r_rem ae af.2 rfl rfl br) ?_
  obtain ⟨b8, ax, hm⟩ := bS hm
  replace ah := ah.kp am
  refine xu (v := (sptr ag (Int.toNat af.1 * 1))) rfl rfl (fun _ => r_idx Tryz.underlying33 Tryz.sizeOf3 rfl rfl (at?_some ax).1 (at?_some ax).2.1 (ah.addr ax)) ?_
  refine xe rfl rfl ?_
  intro bs hC0
  have hC : Grow ac bq ac bs := .of_below hC0.below
  obtain ⟨ay, az, hm⟩ := bS hm
  have az : ay = aj.set (Int.toNat af.1) (Int.tmod ae af.2) := (Option.some.inj az).symm
  replace ah := ah.gr hC
  refine l_store (x1 := Int.tmod ae af.2) (v := (.int .i64 (Int.tmod ae af.2))) ah ax rfl Tryz.sizeOf3 (rd_int .i64 (Int.tmod ae af.2)) rfl rfl (by decide) ?_
  intro a8 an be a1
  rw [← az] at a1
  replace ab := (ab.gr hC).kp an
  replace ab : Box 33 3 ac a8 av #[(.slice ag ay.length ai)] := by rw [← (show aj.length = ay.length by rw [az, List.length_set])]; exact ab
  clear ah
  refine lN ⟨fun w' => Grow ac a8 ac w', Grow.refl _ _, fun h => absurd h (by decide), ?_⟩
  refine xnil ?_
  replace hmk := ((hmk.kp am).gr hC).kp an
  replace hki := ((hki.kp am bd rfl).gr hC).kp an be rfl
  replace hst := ((hst.kp am bd).grow hC).kp an be
  replace ad := (ad.gr hC).kp an
  replace hrec := (hrec.gr hC).kp an
  intro bt hC
  replace hC : Grow ac a8 ac bt := .of_below hC.below
  refine wR ?_
  replace ad := ad.gr hC
  refine lV (.int .i64 ae) (r_ld Tryz.isAgg3 rfl ad.at1) <| lM (.int .i64 af.2) ?_
  obtain ⟨bu, hm⟩ := cS hm
  refine lV (.int .i64 (IntKind.i64.wrap (Int.tdiv ae af.2))) (r_quo ae af.2 rfl rfl bu) ?_
  refine l_bstore (v := (.int .i64 (IntKind.i64.wrap (Int.tdiv ae af.2)))) ad Tryz.sizeOf3 rfl rfl (by intro u hu; simp only [Value.cells, List.mem_cons, List.not_mem_nil, or_false] at hu; subst hu; rfl) rfl rfl ?_
  intro bv ao bf a9
  clear ad
  replace a9 : Box 3 1 ac bv a2 #[(.int .i64 (IntKind.i64.wrap (Int.tdiv ae af.2)))] := a9
  refine lN ?_
  replace a1 := (a1.gr hC).kp ao
  replace ab := (ab.gr hC).kp ao
  replace hrec := (hrec.gr hC).kp ao
  replace hmk := (hmk.gr hC).kp ao
  replace hki := (hki.gr hC).kp ao bf rfl
  replace hst := (hst.grow hC).kp ao bf
  exact ⟨_, hki, ⟨(IntKind.i64.wrap (Int.tdiv ae af.2)), ag, ai, ay, hm, hst, a9, a1, ab⟩, hrec, hmk⟩
 ·clear hmk
  intro bw ac ak hJ hmk
  obtain ⟨ae, ag, ai, aj, hm, hst, ad, ah, ab⟩ := hJ
  rw [m_radix_digits_int_L1.eq_1] at hm
  refine wS <| wR <| lV (.slice ag aj.length ai) (r_ld Tryz.isAgg33 rfl ab.at1) <| lA (.slice ag aj.length ai) <| lN ?_
  refine wret ?_
  cases hm
  refine ⟨_, (bw :: []), rfl, hmk, ?_⟩
  intro b9 bg bx
  clear hmk
  replace ah := ah.kp bg
  replace hst := hst.kp bg bx
  exact ⟨colF w0.heap.size col ac (fun n => bif Nat.beq n 2 then c1 else 0), ag, ai, rfl, hst.fin (fun n => bif Nat.beq n 2 then c1 else 0), hst.finOwn (g := (fun n => bif Nat.beq n 2 then c1 else 0)) rfl ah (by decide) (by decide) rfl⟩
 intro _ _ _ _ h
 exact h.elim
def m_radix_All_int_1_L1 (N : Nat) (ab : Int) (ac : List Int) : Nat → Int → Option (List (Int × (List Int)))
  | 0, _ => none
  | ad + 1, aa => if (decide (aa < ab)) = true then ((m_radix_digits_int N ac aa).bind fun ae => ((m_radix_All_int_1_L1 N ab ac ad) (IntKind.i64.wrap (aa + 1))).bind fun af => some ((aa, ae) :: af)) else (some [])
termination_by structural x => x
def m_radix_All_int_1 (N : Nat) (aa : Int) (ab : List Int) : Option (List (Int × (List Int))) :=
  m_radix_All_int_1_L1 N aa ab N 0
theorem c_radix_All_int_1 (N : Nat) (cy : Nat) (col : Col) (w0 : World) (g0 : Nat) (ab : Int) (hb0 : Box 3 450 col w0 g0 #[(.int .i64 ab)]) (g1 : Nat) (af1 : Option Addr) (capf1 : Nat) (ad : List Int) (hf1 : Own (Rep.int .i64) 3 450 col w0 af1 capf1 ad) (hb1 : Box 33 450 col w0 g1 #[(.slice af1 ad.length capf1)]) (r : List (Int × (List Int))) (hm : m_radix_All_int_1 N ab ad = some r) :
    Goes Tryz.prog 128 [(.pointer (some ⟨g0, 0, none⟩)), (.pointer (some ⟨g1, 0, none⟩))] (fun (y : Int × (List Int)) (col : Col) (w : World) (args : List Value) => ∃ (a1 : Option Addr) (cap1 : Nat), args = [.int .i64 y.1, .slice a1 y.2.length cap1] ∧ Own (Rep.int .i64) 3 cy col w a1 cap1 y.2) r col w0 := by
 intro l J X hjs hxs hy hst
 refine calls_of0 (m := 17) (args := [.func (.yield l) #[] #[], (.pointer (some ⟨g0, 0, none⟩)), (.pointer (some ⟨g1, 0, none⟩))]) Tryz.func128 rfl rfl rfl rfl ?_
 rw [m_radix_All_int_1.eq_1] at hm
 refine wS <| wR <| lV (.int .i64 ab) (r_ld Tryz.isAgg3 rfl hb0.at1) <| lM (.int .i64 0) <| lN <| wB ?_
 refine wloop (fun n f ag => ∃ (ac : Col) (r : List (Int × (List Int))) (aa : Int) (ae : Nat), ae = n ∧ m_radix_All_int_1_L1 N ab ad ae aa = some r ∧ J r ac ag ∧ Own (Rep.int .i64) 3 450 ac ag af1 capf1 ad ∧ Box 33 450 ac ag g1 #[(.slice af1 ad.length capf1)] ∧ Box 3 450 ac ag g0 #[(.int .i64 ab)] ∧ f 0 = (.func (.yield l) #[] #[]) ∧ f 2 = (.pointer (some ⟨g1, 0, none⟩)) ∧ f 5 = (.int .i64 ab) ∧ f 6 = (.int .i64 aa) ∧ f 1000000 = (enc [])) N ⟨col, r, 0, N, rfl, hm, hst, hf1, hb1, hb0, rfl, rfl, rfl, rfl, rfl⟩ ?_
 clear hm; intro n f ag hI
 obtain ⟨ac, r, aa, ae, hn, hm, hst, hf1, hb1, hb0, hs0, hs2, hs5, hs6, hs1000000⟩ := hI
 subst hn
 refine .lD 0 hs0 <| .lD 2 hs2 <| .lD 5 hs5 <| .lD 6 hs6 <| .lD 1000000 hs1000000 ?_
 clear hs0 hs2 hs5 hs6 hs1000000
 cases ae with
 | zero => rw [m_radix_All_int_1_L1.eq_1] at hm; cases hm
 | succ ae =>
  rw [m_radix_All_int_1_L1.eq_2] at hm
  refine wS <| wR <| lV (.bool (decide (aa < ab))) (r_lss aa ab rfl rfl) <| lN <| wS ?_
  refine wcond (decide (aa < ab)) rfl (fun hb => ?_) (fun hb => ?_)
  ·rw [if_pos hb] at hm
   clear hb
   refine wK <| wS <| wB <| wS <| wR <| lM (.int .i64 aa) <| lA (.int .i64 aa) <| lN <| wS <| wR <| lM (.func (.yield l) #[] #[]) <| lM (.int .i64 aa) <| lV (.slice af1 ad.length capf1) (r_ld Tryz.isAgg33 rfl hb1.at1) <| lM (.int .i64 aa) ?_
   obtain ⟨aj, am, hm⟩ := bS hm
   refine lc rfl rfl (r_call2 Tryz.call129 rfl rfl) (c_radix_digits_int N 501 (frC 450 ac) _ af1 capf1 ad aa (hf1.toSlF (Froz.int .i64)) aj am) ?_
   rintro _ ar ⟨an, ak, al, rfl, af, ah⟩
   refine ⟨_, rfl, ?_⟩
   replace ah := ah.thaw (flat_int .i64) af ((Fz.refl (col := ac)).froz 450) (by decide)
   replace af := af.thawR (col := ac)
   generalize colR ag.heap.size ac an = au at *
   replace hf1 := hf1.gr af
   replace hb1 := hb1.gr af
   replace hb0 := hb0.gr af
   replace hst := hjs _ _ _ _ _ hst af.toP
   replace hf1 := hf1.recol 501 cy (by decide)
   replace ah := ah.recolSelf cy (by decide)
   replace hb1 := hb1.recol 501 cy (by decide)
   replace hb0 := hb0.recol 501 cy (by decide)
   replace hst := hjs _ _ _ _ _ hst ((KeepP.refl _ _ _).recol 501 cy rfl)
   obtain ⟨ao, hc_15m, ap⟩ := bS hm
   cases ap
   have hm := hc_15m
   clear hc_15m
   refine ly2 rfl rfl rfl rfl (hy _ _ _ _ [(.int .i64 aa), (.slice ak aj.length al)] hst ⟨ak, al, rfl, ah⟩) ?_
   rintro _ av ⟨aq, ai, ⟨rfl, hJ⟩ | ⟨rfl, hX⟩⟩
   ·refine ⟨_, rfl, ?_⟩
    clear hst
    have hst := hJ
    clear hJ
    refine lV (.bool false) (r_not true rfl) <| lN ?_
    refine wcondF rfl ?_
    refine wK <| wR <| lV (.int .i64 (IntKind.i64.wrap (aa + 1))) (r_add aa 1 rfl rfl) <| lM (.int .i64 (IntKind.i64.wrap (aa + 1))) <| lN ?_
    replace hf1 := hf1.kpp ai
    replace hb1 := hb1.kpp ai
    replace hb0 := hb0.kpp ai
    exact ⟨ae, by omega, ⟨aq, ao, (IntKind.i64.wrap (aa + 1)), ae, rfl, hm, hst, hf1, hb1, hb0, rfl, rfl, rfl, rfl, rfl⟩⟩
   clear hm
   refine ⟨_, rfl, ?_⟩
   clear hst
   have hst := hX
   clear hX
   refine lV (.bool true) (r_not false rfl) <| lN ?_
   refine wcondT rfl ?_
   refine wret ?_
   exact ⟨rfl, ⟨_, rfl⟩, _, .inr hst⟩
  rw [if_neg (by rw [hb]; decide)] at hm
  clear hb
  refine wexit (inB_hit ?_)
  cases hm
  exact ⟨rfl, ⟨_, rfl⟩, _, .inl hst⟩
def m_radix_All_int (N : Nat) (ab : (List Int)) : Option (List (Int × (List Int))) :=
  (m_slices_Clone_int_int ab).bind fun aa => (m_radix_Count_int aa).bind fun ac => m_radix_All_int_1 N ac.1 aa
theorem c_radix_All_int (N : Nat) (cy : Nat) (col : Col) (w0 : World) (a0 : Option Addr) (cap0 : Nat) (ab : (List Int)) (h0 : Sl (Rep.int .i64) col w0 a0 cap0 ab) (r : (List (Int × (List Int)))) (hm : m_radix_All_int N ab = some r) :
    Calls Tryz.prog 85 #[(.slice a0 ab.length cap0)] w0 (fun e w' => ∃ (col' : Col) (rv1 : Value), e = .returned (rv1) ∧ Grow col w0 col' w' ∧ It Tryz.prog rv1 (fun (y : Int × (List Int)) (col : Col) (w : World) (args : List Value) => ∃ (a1 : Option Addr) (cap1 : Nat), args = [.int .i64 y.1, .slice a1 y.2.length cap1] ∧ Own (Rep.int .i64) 3 cy col w a1 cap1 y.2) r q1 col' w') := by
 refine calls_of1 2 (m := 14) (args := [(.slice a0 ab.length cap0)]) Tryz.func85 rfl rfl rfl rfl rfl ?_
 rw [m_radix_All_int.eq_1] at hm
 have hst := St.start col w0
 refine wS <| wR ?_
 refine lv (v := _) rfl rfl (r_assign rfl) ?_
 refine lN <| wS <| wR <| lM (.slice a0 ab.length cap0) ?_
 obtain ⟨ac, az, hm⟩ := bS hm
 replace h0 := h0.keep (Stay.start col w0)
 refine lc rfl rfl (r_call1 Tryz.call78 rfl) (c_slices_Clone_int_int 1 (col0 col) _ a0 cap0 ab h0 ac az) ?_
 rintro _ bb ⟨a2, ai, aj, rfl, a3, ad⟩
 refine ⟨_, rfl, ?_⟩
 refine l_alloc (col := a2) (v := (.slice none (([] : List Int).length) 0)) 2 rfl Tryz.zeroValue33 ?_
 intro ae a4 af aw al
 replace al : Box 33 2 af a4 ae #[(.slice none (([] : List Int).length) 0)] := al
 refine l_bstore (v := (.slice ai ac.length aj)) al Tryz.sizeOf33 rfl rfl (by intro u hu; simp only [Value.cells, List.mem_cons, List.not_mem_nil, or_false] at hu; subst hu; rfl) rfl rfl ?_
 intro ax ay a5 ag
 clear al
 replace ag : Box 33 2 af ax ae #[(.slice ai ac.length aj)] := ag
 refine lN <| wS <| wR <| lV (.slice ai ac.length aj) (r_ld Tryz.isAgg33 rfl ag.at1) ?_
 obtain ⟨aa, a6, hm⟩ := bS hm
 replace ad := (ad.gr aw).kp ay
 refine lc rfl rfl (r_call1 Tryz.call50 rfl) (c_radix_Count_int (frC 1 af) _ ai aj ac (ad.toSlF (Froz.int .i64)) aa a6) ?_
 rintro _ a7 ⟨rfl, ak⟩
 refine ⟨_, rfl, ?_⟩
 replace ak : Grow af ax af a7 := .of_below ak
 refine lM (.tuple #[(.int .i64 aa.1), (.int .i64 aa.2)]) <| lV (.int .i64 aa.1) (r_extract rfl rfl) <| lV (.int .i64 aa.2) (r_extract rfl rfl) ?_
 refine l_alloc (col := af) (v := (.int .i64 0)) 3 rfl Tryz.zeroValue3 ?_
 intro ah a8 an ao am
 replace am : Box 3 3 an a8 ah #[(.int .i64 0)] := am
 refine l_bstore (v := (.int .i64 aa.1)) am Tryz.sizeOf3 rfl rfl (by intro u hu; simp only [Value.cells, List.mem_cons, List.not_mem_nil, or_false] at hu; subst hu; rfl) rfl rfl ?_
 intro a9 ap ba aq
 clear am
 replace aq : Box 3 3 an a9 ah #[(.int .i64 aa.1)] := aq
 refine lA (.int .i64 aa.2) <| lN <| wS <| wR <| lV (.func (.func 128) #[] #[(.pointer (some ⟨ah, 0, none⟩)), (.pointer (some ⟨ae, 0, none⟩))]) (r_func2 rfl rfl) <| lA (.func (.func 128) #[] #[(.pointer (some ⟨ah, 0, none⟩)), (.pointer (some ⟨ae, 0, none⟩))]) <| lN ?_
 refine wret ?_
 replace hst := (((((hst.grow a3).grow aw).kp ay a5).grow ak).grow ao).kp ap ba
 have ar := hst.finBox (G := (fun n => bif Nat.beq n 3 then 450 else bif Nat.beq n 2 then 450 else bif Nat.beq n 1 then 450 else 0)) aq (by decide) (by decide) (show (fun n => bif Nat.beq n 3 then 450 else bif Nat.beq n 2 then 450 else bif Nat.beq n 1 then 450 else 0) 3 = 450 from rfl)
 replace ag := ((ag.gr ak).gr ao).kp ap
 have au := hst.finBox (G := (fun n => bif Nat.beq n 3 then 450 else bif Nat.beq n 2 then 450 else bif Nat.beq n 1 then 450 else 0)) ag (by decide) (by decide) (show (fun n => bif Nat.beq n 3 then 450 else bif Nat.beq n 2 then 450 else bif Nat.beq n 1 then 450 else 0) 2 = 450 from rfl)
 replace ad := ((ad.gr ak).gr ao).kp ap
 have av := hst.finOwn (g := (fun n => bif Nat.beq n 3 then 450 else bif Nat.beq n 2 then 450 else bif Nat.beq n 1 then 450 else 0)) rfl ad (by decide) (by decide) (show (fun n => bif Nat.beq n 3 then 450 else bif Nat.beq n 2 then 450 else bif Nat.beq n 1 then 450 else 0) 1 = 450 from rfl)
 refine ⟨rfl, colF w0.heap.size col an (fun n => bif Nat.beq n 3 then 450 else bif Nat.beq n 2 then 450 else bif Nat.beq n 1 then 450 else 0), _, rfl, hst.fin (fun n => bif Nat.beq n 3 then 450 else bif Nat.beq n 2 then 450 else bif Nat.beq n 1 then 450 else 0), 128, [(.pointer (some ⟨ah, 0, none⟩)), (.pointer (some ⟨ae, 0, none⟩))], rfl, Tryz.call128, ?_⟩
 intro col9 w9 hs9 hk9
 replace ar := ar.itk hs9 hk9 rfl
 replace au := au.itk hs9 hk9 rfl
 replace av := av.itk hs9 hk9 rfl (flat_int .i64)
 exact c_radix_All_int_1 N cy col9 w9 ah aa.1 ar ae ai aj ac av au r hm
theorem el3_34 : ElemOk Tryz.prog 3 1 8 := ⟨Tryz.t3, _, rfl, rfl, rfl, rfl, rfl⟩
def m_learn_places_L2 (ad : (ByteArray × (List ByteArray) × (List (List ByteArray)) × (List (List Int)) × (List (List ((Bool × (List Int)) × (List Int)))))) (ae : (List Int)) (ab : Int) (ac : List Int) (kk_L1 : (Int → (List Int) → Option (List Int))) : List Int → Int → Option (List Int)
  | [], aa => (at? ad.2.2.1 ab).bind fun af => (at? ae ab).bind fun ag => chk ((ac.length + [IntKind.i64.wrap ((IntKind.i64.wrap (aa * (af.length : Int))) + ag)].length) * 8 ≤ 140737488355328 ∧ ac.length + [IntKind.i64.wrap ((IntKind.i64.wrap (aa * (af.length : Int))) + ag)].length ≤ maxLen) (kk_L1 (IntKind.i64.wrap (ab + 1)) (ac ++ [IntKind.i64.wrap ((IntKind.i64.wrap (aa * (af.length : Int))) + ag)]))
  | ah :: ai, aa => (at? ad.2.2.1 ah).bind fun aj => (at? ae ah).bind fun ak => (m_learn_places_L2 ad ae ab ac kk_L1 ai) (IntKind.i64.wrap ((IntKind.i64.wrap (aa * (aj.length : Int))) + ak))
termination_by structural x => x
def m_learn_places_L1 (N : Nat) (aa : (ByteArray × (List ByteArray) × (List (List ByteArray)) × (List (List Int)) × (List (List ((Bool × (List Int)) × (List Int)))))) (ac : (List Int)) : Nat → Int → (List Int) → Option (List Int)
  | 0, _, _ => none
  | ae + 1, ab, ad => if (decide (ab < (aa.2.1.length : Int))) = true then ((at? aa.2.2.2.1 ab).bind fun af => m_learn_places_L2 aa ac ab ad (m_learn_places_L1 N aa ac ae) af 0) else (some ad)
termination_by structural x => x
def m_learn_places (N : Nat) (aa : (ByteArray × (List ByteArray) × (List (List ByteArray)) × (List (List Int)) × (List (List ((Bool × (List Int)) × (List Int)))))) (ab : (List Int)) : Option (List Int) :=
  m_learn_places_L1 N aa ab N 0 ([] : List Int)
theorem c_learn_places (N : Nat) (c1 : Nat) (col : Col) (w0 : World) (av : Option Addr) (aw : Nat) (aj : Option Addr) (am : Nat) (ap : Option Addr) (ax : Nat) (a0 : Option Addr) (a2 : Nat) (aa : (ByteArray × (List ByteArray) × (List (List ByteArray)) × (List (List Int)) × (List (List ((Bool × (List Int)) × (List Int)))))) (a1 : Option Addr) (cap1 : Nat) (an : (List Int)) (ah : Sl Rep.str col w0 av aw aa.2.1) (ae : Sl (Rep.slice Rep.str) col w0 aj am aa.2.2.1) (ag : Sl (Rep.slice (Rep.int .i64)) col w0 ap ax aa.2.2.2.1) (ai : Sl (Rep.slice (Rep.pair (Rep.pair Rep.bool (Rep.slice (Rep.int .u32))) (Rep.slice (Rep.int .u32)))) col w0 a0 a2 aa.2.2.2.2) (h1 : Sl (Rep.int .i64) col w0 a1 cap1 an) (r : (List Int)) (hm : m_learn_places N aa an = some r) :
    Calls Tryz.prog 34 #[(.agg #[(.string aa.1), (.slice av aa.2.1.length aw), (.slice aj aa.2.2.1.length am), (.slice ap aa.2.2.2.1.length ax), (.slice a0 aa.2.2.2.2.length a2)]), (.slice a1 an.length cap1)] w0 (fun e w' => ∃ (col' : Col) (ra1 : Option Addr) (rc2 : Nat), e = .returned ((.slice ra1 r.length rc2)) ∧ Grow col w0 col' w' ∧ Own (Rep.int .i64) 3 c1 col' w' ra1 rc2 r) := by
 refine calls_of1 4 (m := 58) (args := [(.agg #[(.string aa.1), (.slice av aa.2.1.length aw), (.slice aj aa.2.2.1.length am), (.slice ap aa.2.2.2.1.length ax), (.slice a0 aa.2.2.2.2.length a2)]), (.slice a1 an.length cap1)]) Tryz.func34 rfl rfl rfl rfl rfl ?_
 rw [m_learn_places.eq_1] at hm
 have hst := St.start col w0
 refine wS <| wR ?_
 refine l_box (col := (col0 col)) (v := (.agg #[(.string aa.1), (.slice av aa.2.1.length aw), (.slice aj aa.2.2.1.length am), (.slice ap aa.2.2.2.1.length ax), (.slice a0 aa.2.2.2.2.length a2)])) 1 rfl rfl ?_
 intro a3 b1 br bc af
 replace af : Box 28 1 br b1 a3 #[(.string aa.1), (.slice av aa.2.1.length aw), (.slice aj aa.2.2.1.length am), (.slice ap aa.2.2.2.1.length ax), (.slice a0 aa.2.2.2.2.length a2)] := af
 refine lA (.slice none (([] : List Int).length) 0) <| lN <| wS <| wR <| lA (.slice none (([] : List Int).length) 0) <| lN <| wS <| wS <| wR <| lV (.pointer ((some (⟨a3, 0, none⟩ : Addr)).map (·.add 1))) (rF (sz := 1) (off := 1) Tryz.underlying28 rfl Tryz.sizeOf23 (by decide) rfl rfl ⟨_, _, rfl⟩) <| lV (.slice av aa.2.1.length aw) (r_ld Tryz.isAgg23 rfl ((af.atN).nth (q := 1) (v := (.slice av aa.2.1.length aw)) rfl)) <| lV (.int .i64 (aa.2.1.length : Int)) (r_len Tryz.underlying23 rfl) <| lM (.int .i64 0) <| lN <| wB ?_
 replace ah := (ah.keep (Stay.start col w0)).gr bc
 replace ae := (ae.keep (Stay.start col w0)).gr bc
 replace ag := (ag.keep (Stay.start col w0)).gr bc
 replace ai := (ai.keep (Stay.start col w0)).gr bc
 replace h1 := (h1.keep (Stay.start col w0)).gr bc
 replace hst := hst.grow bc
 refine wloop (fun n f a4 => ∃ (ay : Col) (ad : Int) (a5 : Option Addr) (a6 : Nat) (aq : List Int) (a8 : Nat), a8 = n ∧ m_learn_places_L1 N aa an a8 ad aq = some r ∧ St w0 (col0 col) ay a4 ∧ Sl (Rep.int .i64) ay a4 a1 cap1 an ∧ Sl Rep.str ay a4 av aw aa.2.1 ∧ Sl (Rep.slice Rep.str) ay a4 aj am aa.2.2.1 ∧ Sl (Rep.slice (Rep.int .i64)) ay a4 ap ax aa.2.2.2.1 ∧ Sl (Rep.slice (Rep.pair (Rep.pair Rep.bool (Rep.slice (Rep.int .u32))) (Rep.slice (Rep.int .u32)))) ay a4 a0 a2 aa.2.2.2.2 ∧ Box 28 1 ay a4 a3 #[(.string aa.1), (.slice av aa.2.1.length aw), (.slice aj aa.2.2.1.length am), (.slice ap aa.2.2.2.1.length ax), (.slice a0 aa.2.2.2.2.length a2)] ∧ Own (Rep.int .i64) 3 2 ay a4 a5 a6 aq ∧ f 1 = (.slice a1 an.length cap1) ∧ f 12 = (.int .i64 (aa.2.1.length : Int)) ∧ f 13 = (.int .i64 ad) ∧ f 2 = (.pointer (some ⟨a3, 0, none⟩)) ∧ f 5 = (.slice a5 aq.length a6) ∧ f 1000000 = (enc [])) N ⟨br, 0, none, 0, ([] : List Int), N, rfl, hm, hst, h1, ah, ae, ag, ai, af, Own.nil, rfl, rfl, rfl, rfl, rfl, rfl⟩ ?_
 clear hm; intro n f a4 hI
 obtain ⟨ay, ad, a5, a6, aq, a8, hn, hm, hst, h1, ah, ae, ag, ai, af, ar, hs1, hs12, hs13, hs2, hs5, hs1000000⟩ := hI
 subst hn
 refine .lD 1 hs1 <| .lD 12 hs12 <| .lD 13 hs13 <| .lD 2 hs2 <| .lD 5 hs5 <| .lD 1000000 hs1000000 ?_
 clear hs1 hs12 hs13 hs2 hs5 hs1000000
 cases a8 with
 | zero => rw [m_learn_places_L1.eq_1] at hm; cases hm
 | succ a8 =>
  rw [m_learn_places_L1.eq_2] at hm
  refine wS <| wR <| lV (.bool (decide (ad < (aa.2.1.length : Int)))) (r_lss ad (aa.2.1.length : Int) rfl rfl) <| lN <| wS ?_
  refine wcond (decide (ad < (aa.2.1.length : Int))) rfl (fun hb => ?_) (fun hb => ?_)
  ·rw [if_pos hb] at hm
   clear hb
   refine wK <| wS <| wB <| wS <| wR <| lM (.int .i64 ad) <| lA (.int .i64 ad) <| lN <| wS <| wR <| lA (.int .i64 0) <| lN <| wS <| wS <| wR <| lV (.pointer ((some (⟨a3, 0, none⟩ : Addr)).map (·.add 3))) (rF (sz := 1) (off := 3) Tryz.underlying28 rfl Tryz.sizeOf25 (by decide) rfl rfl ⟨_, _, rfl⟩) <| lV (.slice ap aa.2.2.2.1.length ax) (r_ld Tryz.isAgg25 rfl ((af.atN).nth (q := 3) (v := (.slice ap aa.2.2.2.1.length ax)) rfl)) <| lM (.int .i64 ad) ?_
   obtain ⟨ak, bi, hm⟩ := bS hm
   refine lV (sptr ap (Int.toNat ad * 1)) (r_idx Tryz.underlying25 Tryz.sizeOf33 rfl rfl (at?_some bi).1 (at?_some bi).2.1 (ag.addr bi)) ?_
   obtain ⟨_, b2, b3⟩ := ag.atN bi
   obtain ⟨⟨bj, bo, rfl, a9⟩, _⟩ := b2
   refine lV (.slice bj ak.length bo) (r_ld Tryz.isAgg33 rfl b3.one) <| lV (.int .i64 (ak.length : Int)) (r_len Tryz.underlying33 rfl) <| lM (.int .i64 0) <| lN <| wB ?_
   refine wloop (fun n f au => ∃ (ab : Col) (al : Nat) (ac : Int) (be : List Int), n = be.length ∧ ak.drop al = be ∧ m_learn_places_L2 aa an ad aq (m_learn_places_L1 N aa an a8) be ac = some r ∧ St w0 (col0 col) ab au ∧ Sl (Rep.int .i64) ab au a1 cap1 an ∧ Sl Rep.str ab au av aw aa.2.1 ∧ Sl (Rep.slice Rep.str) ab au aj am aa.2.2.1 ∧ Sl (Rep.slice (Rep.int .i64)) ab au ap ax aa.2.2.2.1 ∧ Sl (Rep.slice (Rep.pair (Rep.pair Rep.bool (Rep.slice (Rep.int .u32))) (Rep.slice (Rep.int .u32)))) ab au a0 a2 aa.2.2.2.2 ∧ Box 28 1 ab au a3 #[(.string aa.1), (.slice av aa.2.1.length aw), (.slice aj aa.2.2.1.length am), (.slice ap aa.2.2.2.1.length ax), (.slice a0 aa.2.2.2.2.length a2)] ∧ Sl (Rep.int .i64) ab au bj bo ak ∧ Own (Rep.int .i64) 3 2 ab au a5 a6 aq ∧ f 22 = (.int .i64 (al : Int)) ∧ f 1 = (.slice a1 an.length cap1) ∧ f 12 = (.int .i64 (aa.2.1.length : Int)) ∧ f 13 = (.int .i64 ad) ∧ f 2 = (.pointer (some ⟨a3, 0, none⟩)) ∧ f 20 = (.slice bj ak.length bo) ∧ f 21 = (.int .i64 (ak.length : Int)) ∧ f 5 = (.slice a5 aq.length a6) ∧ f 6 = (.int .i64 ad) ∧ f 7 = (.int .i64 ac) ∧ f 1000000 = (enc [])) ak.length ⟨ay, 0, 0, ak, rfl, rfl, hm, hst, h1, ah, ae, ag, ai, af, a9, ar, rfl, rfl, rfl, rfl, rfl, rfl, rfl, rfl, rfl, rfl, rfl⟩ ?_
   clear hm; intro n f au hI
   obtain ⟨ab, al, ac, be, hn, hl, hm, hst, h1, ah, ae, ag, ai, af, a9, ar, hs22, hs1, hs12, hs13, hs2, hs20, hs21, hs5, hs6, hs7, hs1000000⟩ := hI
   subst hn
   refine .lD 22 hs22 <| .lD 1 hs1 <| .lD 12 hs12 <| .lD 13 hs13 <| .lD 2 hs2 <| .lD 20 hs20 <| .lD 21 hs21 <| .lD 5 hs5 <| .lD 6 hs6 <| .lD 7 hs7 <| .lD 1000000 hs1000000 ?_
   clear hs22 hs1 hs12 hs13 hs2 hs20 hs21 hs5 hs6 hs7 hs1000000
   cases be with
   | nil =>
    have hk : ¬ ((al : Int) < (ak.length : Int)) := by have := List.drop_eq_nil_iff.1 hl; omega
    have hkb := decide_eq_false hk
    rw [m_learn_places_L2.eq_1] at hm
    refine wS <| wR <| lV (.bool (decide ((al : Int) < (ak.length : Int)))) (r_lss (al : Int) (ak.length : Int) rfl rfl) <| lN <| wS ?_
    refine wcondF (congrArg Value.bool hkb) ?_
    refine wexit (inB_hit ?_)
    refine wmix (col := ab) [(0, 1), (1, 1), (2, 1), (3, 0), (4, 1), (5, 1), (6, 0), (7, 1), (8, 1), (9, 1), (10, 1), (11, 1), (12, 0), (13, 1), (14, 3), (15, 2), (16, 1)] (by kernel_rfl) (by kernel_rfl) ?_
    refine xu (v := (.slice a5 aq.length a6)) rfl rfl (fun _ => r_move rfl) ?_
    refine xu (v := (.int .i64 ac)) rfl rfl (fun _ => r_move rfl) ?_
    refine xu (v := (.pointer ((some (⟨a3, 0, none⟩ : Addr)).map (·.add 2)))) rfl rfl (fun _ => rF (sz := 1) (off := 2) Tryz.underlying28 rfl Tryz.sizeOf24 (by decide) rfl rfl ⟨_, _, rfl⟩) ?_
    refine xv (v := (.slice aj aa.2.2.1.length am)) rfl rfl (fun _ hC => r_ld Tryz.isAgg24 rfl (((af.atN).nth (q := 2) (v := (.slice aj aa.2.2.1.length am)) rfl).gr (Grow.of_below (col := ab) hC.below))) ?_
    refine xu (v := (.int .i64 ad)) rfl rfl (fun _ => r_move rfl) ?_
    obtain ⟨ao, bk, hm⟩ := bS hm
    refine xu (v := (sptr aj (Int.toNat ad * 1))) rfl rfl (fun _ => r_idx Tryz.underlying24 Tryz.sizeOf23 rfl rfl (at?_some bk).1 (at?_some bk).2.1 (ae.addr bk)) ?_
    obtain ⟨_, b4, b5⟩ := ae.atN bk
    obtain ⟨⟨b6, b7, rfl, cf⟩, _⟩ := b4
    refine xv (v := (.slice b6 ao.length b7)) rfl rfl (fun _ hC => r_ld Tryz.isAgg23 rfl (b5.one.gr (Grow.of_below (col := ab) hC.below))) ?_
    refine xu (v := (.int .i64 (ao.length : Int))) rfl rfl (fun _ => r_len Tryz.underlying23 rfl) ?_
    refine xu (v := (.int .i64 (IntKind.i64.wrap (ac * (ao.length : Int))))) rfl rfl (fun _ => r_mul ac (ao.length : Int) rfl rfl) ?_
    refine xu (v := (.slice a1 an.length cap1)) rfl rfl (fun _ => r_move rfl) ?_
    refine xu (v := (.int .i64 ad)) rfl rfl (fun _ => r_move rfl) ?_
    obtain ⟨az, bl, hm⟩ := bS hm
    refine xu (v := (sptr a1 (Int.toNat ad * 1))) rfl rfl (fun _ => r_idx Tryz.underlying33 Tryz.sizeOf3 rfl rfl (at?_some bl).1 (at?_some bl).2.1 (h1.addr bl)) ?_
    refine xv (v := (.int .i64 az)) rfl rfl (fun _ hC => r_ld Tryz.isAgg3 rfl ((h1.gr (Grow.of_below (col := ab) hC.below)).atInt bl)) ?_
    refine xu (v := (.int .i64 (IntKind.i64.wrap ((IntKind.i64.wrap (ac * (ao.length : Int))) + az)))) rfl rfl (fun _ => r_add (IntKind.i64.wrap (ac * (ao.length : Int))) az rfl rfl) ?_
    refine xe rfl rfl ?_
    intro b8 hC0
    have hC : Grow ab au ab b8 := .of_below hC0.below
    refine l_lit (col := ab) (r := (Rep.int .i64)) (xs := [IntKind.i64.wrap ((IntKind.i64.wrap (ac * (ao.length : Int))) + az)]) [(.int .i64 (IntKind.i64.wrap ((IntKind.i64.wrap (ac * (ao.length : Int))) + az)))] 3 rfl Tryz.underlying33 el3_34 rfl rfl rfl rfl rfl rfl (by intro v hv; simp only [List.mem_cons, List.not_mem_nil, or_false] at hv; subst hv; rfl) (RowsH.ofF (Rows.consF (r := (Rep.int .i64)) (x := IntKind.i64.wrap ((IntKind.i64.wrap (ac * (ao.length : Int))) + az)) (cs := [(.int .i64 (IntKind.i64.wrap ((IntKind.i64.wrap (ac * (ao.length : Int))) + az)))]) (rd_int .i64 (IntKind.i64.wrap ((IntKind.i64.wrap (ac * (ao.length : Int))) + az))) Rows.nil0)) ?_
    intro cg bs bf a7 bp
    refine lN ⟨fun w' => Grow bf bs bf w', Grow.refl _ _, fun _ _ h => cls hC0 a7 h, ?_⟩
    refine xe rfl rfl ?_
    intro bt hC0
    replace h1 := (h1.gr hC).gr a7
    replace ah := (ah.gr hC).gr a7
    replace ae := (ae.gr hC).gr a7
    replace ag := (ag.gr hC).gr a7
    replace ai := (ai.gr hC).gr a7
    replace ar := (ar.gr hC).gr a7
    replace af := (af.gr hC).gr a7
    replace hst := (hst.grow hC).grow a7
    have hC : Grow bf bs bf bt := .of_below hC0.below
    obtain ⟨bu, hm⟩ := cS hm
    replace ar := ar.gr hC
    replace bp := bp.gr hC
    refine l_ext (col := bf) (w := bt) (r := (Rep.int .i64)) (c := 2) (c2 := 2) (ar.ex) (bp.srcN (NB.int (k := .i64))) rfl Tryz.underlying33 el3_34 rfl rfl rfl bu.1 bu.2 (by decide) ?_
    intro bv bw bx bg bb bz
    clear ar
    refine lN ⟨fun w' => Grow bg bx bg w', Grow.refl _ _, fun h => absurd h (by decide), ?_⟩
    refine xu (v := (.slice bv ((aq ++ [IntKind.i64.wrap ((IntKind.i64.wrap (ac * (ao.length : Int))) + az)]).length) bw)) rfl rfl (fun _ => r_assign rfl) ?_
    have bq := bz.new
    clear bz
    refine xnil ?_
    replace h1 := (h1.gr hC).kpp bb
    replace ah := (ah.gr hC).kpp bb
    replace ae := (ae.gr hC).kpp bb
    replace ag := (ag.gr hC).kpp bb
    replace ai := (ai.gr hC).kpp bb
    replace af := (af.gr hC).kpp bb
    replace hst := (hst.grow hC).kpp bb
    intro b9 hC
    replace hC : Grow bg bx bg b9 := .of_below hC.below
    refine wR <| lV (.int .i64 (IntKind.i64.wrap (ad + 1))) (r_add ad 1 rfl rfl) <| lM (.int .i64 (IntKind.i64.wrap (ad + 1))) <| lN ?_
    replace h1 := h1.gr hC
    replace ah := ah.gr hC
    replace ae := ae.gr hC
    replace ag := ag.gr hC
    replace ai := ai.gr hC
    replace bq := bq.gr hC
    replace af := af.gr hC
    replace hst := hst.grow hC
    exact ⟨a8, by omega, ⟨bg, (IntKind.i64.wrap (ad + 1)), bv, bw, (aq ++ [IntKind.i64.wrap ((IntKind.i64.wrap (ac * (ao.length : Int))) + az)]), a8, rfl, hm, hst, h1, ah, ae, ag, ai, af, bq, rfl, rfl, rfl, rfl, rfl, rfl⟩⟩
   | cons bd b0 =>
    obtain ⟨hat, hl2_L2, hlt_L2⟩ := drop_get hl
    have hk : (al : Int) < (ak.length : Int) := by omega
    have hkb := decide_eq_true hk
    rw [m_learn_places_L2.eq_2] at hm
    refine wS <| wR <| lV (.bool (decide ((al : Int) < (ak.length : Int)))) (r_lss (al : Int) (ak.length : Int) rfl rfl) <| lN <| wS ?_
    refine wcondT (congrArg Value.bool hkb) ?_
    refine wK <| wS <| wB <| wS <| wR ?_
    refine lV (sptr bj (Int.toNat (al : Int) * 1)) (r_idx Tryz.underlying33 Tryz.sizeOf3 rfl rfl (at?_some hat).1 (at?_some hat).2.1 (a9.addr hat)) ?_
    refine lV (.int .i64 bd) (r_ld Tryz.isAgg3 rfl (a9.atInt hat)) <| lA (.int .i64 bd) <| lN ?_
    refine wquiet (col := ab) (by kernel_rfl) (by kernel_rfl) ?_
    refine qv (v := (.int .i64 ac)) rfl (fun _ hC => r_move rfl) ?_
    refine qv (v := (.pointer ((some (⟨a3, 0, none⟩ : Addr)).map (·.add 2)))) rfl (fun _ hC => rF (sz := 1) (off := 2) Tryz.underlying28 rfl Tryz.sizeOf24 (by decide) rfl rfl ⟨_, _, rfl⟩) ?_
    refine qv (v := (.slice aj aa.2.2.1.length am)) rfl (fun _ hC => r_ld Tryz.isAgg24 rfl (((af.atN).nth (q := 2) (v := (.slice aj aa.2.2.1.length am)) rfl).gr (Grow.of_below (col := ab) hC.below))) ?_
    refine qv (v := (.int .i64 bd)) rfl (fun _ hC => r_move rfl) ?_
    obtain ⟨ba, bm, hm⟩ := bS hm
    refine qv (v := (sptr aj (Int.toNat bd * 1))) rfl (fun _ hC => r_idx Tryz.underlying24 Tryz.sizeOf23 rfl rfl (at?_some bm).1 (at?_some bm).2.1 (ae.addr bm)) ?_
    obtain ⟨_, ca, cb⟩ := ae.atN bm
    obtain ⟨⟨cc, cd, rfl, ch⟩, _⟩ := ca
    refine qv (v := (.slice cc ba.length cd)) rfl (fun _ hC => r_ld Tryz.isAgg23 rfl (cb.one.gr (Grow.of_below (col := ab) hC.below))) ?_
    refine qv (v := (.int .i64 (ba.length : Int))) rfl (fun _ hC => r_len Tryz.underlying23 rfl) ?_
    refine qv (v := (.int .i64 (IntKind.i64.wrap (ac * (ba.length : Int))))) rfl (fun _ hC => r_mul ac (ba.length : Int) rfl rfl) ?_
    refine qv (v := (.slice a1 an.length cap1)) rfl (fun _ hC => r_move rfl) ?_
    refine qv (v := (.int .i64 bd)) rfl (fun _ hC => r_move rfl) ?_
    obtain ⟨bh, bn, hm⟩ := bS hm
    refine qv (v := (sptr a1 (Int.toNat bd * 1))) rfl (fun _ hC => r_idx Tryz.underlying33 Tryz.sizeOf3 rfl rfl (at?_some bn).1 (at?_some bn).2.1 (h1.addr bn)) ?_
    refine qv (v := (.int .i64 bh)) rfl (fun _ hC => r_ld Tryz.isAgg3 rfl ((h1.gr (Grow.of_below (col := ab) hC.below)).atInt bn)) ?_
    refine qv (v := (.int .i64 (IntKind.i64.wrap ((IntKind.i64.wrap (ac * (ba.length : Int))) + bh)))) rfl (fun _ hC => r_add (IntKind.i64.wrap (ac * (ba.length : Int))) bh rfl rfl) ?_
    refine qv (v := (.int .i64 (IntKind.i64.wrap ((IntKind.i64.wrap (ac * (ba.length : Int))) + bh)))) rfl (fun _ hC => r_assign rfl) ?_
    refine qnil ?_
    intro ce hC
    replace hC : Grow ab au ab ce := .of_below hC.below
    refine wR <| lV (.int .i64 (IntKind.i64.wrap ((al : Int) + 1))) (r_add (al : Int) 1 rfl rfl) <| lM (.int .i64 (IntKind.i64.wrap ((al : Int) + 1))) <| lN ?_
    replace h1 := h1.gr hC
    replace ah := ah.gr hC
    replace ae := ae.gr hC
    replace ag := ag.gr hC
    replace ai := ai.gr hC
    replace a9 := a9.gr hC
    replace ar := ar.gr hC
    replace af := af.gr hC
    replace hst := hst.grow hC
    exact ⟨b0.length, by simp, ⟨ab, (al + 1), (IntKind.i64.wrap ((IntKind.i64.wrap (ac * (ba.length : Int))) + bh)), b0, rfl, hl2_L2, hm, hst, h1, ah, ae, ag, ai, af, a9, ar, (congrArg (Value.int .i64) (wrap_succ (Nat.lt_of_lt_of_le hlt_L2 a9.1.1))), rfl, rfl, rfl, rfl, rfl, rfl, rfl, rfl, rfl, rfl⟩⟩
  rw [if_neg (by rw [hb]; decide)] at hm
  clear hb
  refine wexit (inB_hit ?_)
  refine wS <| wR <| lM (.slice a5 aq.length a6) <| lA (.slice a5 aq.length a6) <| lN ?_
  refine wret ?_
  cases hm
  exact ⟨rfl, colF w0.heap.size col ay (fun n => bif Nat.beq n 2 then c1 else 0), a5, a6, rfl, hst.fin (fun n => bif Nat.beq n 2 then c1 else 0), hst.finOwn (g := (fun n => bif Nat.beq n 2 then c1 else 0)) rfl ar (by decide) (by decide) rfl⟩
def m_learn_Step_1_v0l_v1sssss_v4sr_L2 (N : Nat) (aa : (((Bool × (List Int)) × (List Int)) × Int)) : List Int → Nat → (List (List ((Bool × (List Int)) × (List Int)))) → Option (List (List ((Bool × (List Int)) × (List Int))))
  | [], ab, ac => some ac
  | af :: ah, ab, ac => (at? ac (ab : Int)).bind fun ag => (at? ag af).bind fun ad => (m_frac_Add N ((ad.1.1, ad.1.2), ad.2) ((aa.1.1.1, aa.1.1.2), aa.1.2)).bind fun ae => (some (ag.set (Int.toNat af) ((ae.1.1, ae.1.2), ae.2))).bind fun ai => (m_learn_Step_1_v0l_v1sssss_v4sr_L2 N aa ah) (ab + 1) (ac.set (Int.toNat (ab : Int)) ai)
termination_by structural x => x
def m_learn_Step_1_v0l_v1sssss_v4sr_L1 (N : Nat) (ah : (ByteArray × (List ByteArray) × (List (List ByteArray)) × (List (List Int)) × (List (List ((Bool × (List Int)) × (List Int)))))) (aa : ((Bool × (List Int)) × (List Int))) (ai : (List (List ((Bool × (List Int)) × (List Int))))) (aj : (List Int)) : List Int → Nat → Bool → (List Int) → (List Int) → Option (List (List ((Bool × (List Int)) × (List Int))))
  | [], ab, ac, ad, ae => (m_frac_Div N ((ac, ad), ae) ((aa.1.1, aa.1.2), aa.2)).bind fun ak => m_learn_Step_1_v0l_v1sssss_v4sr_L2 N ak aj 0 ai
  | al :: am, ab, ac, ad, ae => (at? ah.2.2.2.2 (ab : Int)).bind fun an => (at? an al).bind fun af => (m_frac_Mul N ((ac, ad), ae) ((af.1.1, af.1.2), af.2)).bind fun ag => (m_learn_Step_1_v0l_v1sssss_v4sr_L1 N ah aa ai aj am) (ab + 1) ag.1.1 ag.1.2 ag.2
termination_by structural x => x
def m_learn_Step_1_v0l_v1sssss_v4sr (N : Nat) (ad : (List Int)) (aa : (ByteArray × (List ByteArray) × (List (List ByteArray)) × (List (List Int)) × (List (List ((Bool × (List Int)) × (List Int)))))) (ae : (ByteArray × (List ByteArray) × (List (List ByteArray)) × (List (List Int)) × (List (List ((Bool × (List Int)) × (List Int)))))) (af : ((Bool × (List Int)) × (List Int))) (ag : (List (List ((Bool × (List Int)) × (List Int))))) : Option (List (List ((Bool × (List Int)) × (List Int)))) :=
  (m_learn_places N (aa.1, aa.2.1, aa.2.2.1, aa.2.2.2.1, aa.2.2.2.2) ad).bind fun ac => (m_learn_whole N 1).bind fun ab => m_learn_Step_1_v0l_v1sssss_v4sr_L1 N ae af ag ac ac 0 ab.1.1 ab.1.2 ab.2
theorem c_learn_Step_1_v0l_v1sssss_v4sr (N : Nat) (col : Col) (w0 : World) (qc0 : Nat) (qc1 : Nat) (qc2 : Nat) (dj : Nat) (dk : Nat) (dl : Nat) (dm : Nat) (qc3 : Nat) (dn : Nat) (dp : Nat) (qc4 : Nat) (ap : Nat) (hd : dstB [qc4, ap] = true) (hqqc0 : qc0 ≠ 0 ∧ pS [qc4, ap] qc0 = false) (hqqc1 : qc1 ≠ 0 ∧ pS [qc4, ap] qc1 = false) (hqqc2 : qc2 ≠ 0 ∧ pS [qc4, ap] qc2 = false) (d7 : dj ≠ 0 ∧ pS [qc4, ap] dj = false) (d8 : dk ≠ 0 ∧ pS [qc4, ap] dk = false) (d9 : dl ≠ 0 ∧ pS [qc4, ap] dl = false) (ea : dm ≠ 0 ∧ pS [qc4, ap] dm = false) (hqqc3 : qc3 ≠ 0 ∧ pS [qc4, ap] qc3 = false) (eb : dn ≠ 0 ∧ pS [qc4, ap] dn = false) (ec : dp ≠ 0 ∧ pS [qc4, ap] dp = false) (a0 : Option Addr) (cap0 : Nat) (cs : (List Int)) (g1 : Nat) (ab : (ByteArray × (List ByteArray) × (List (List ByteArray)) × (List (List Int)) × (List (List ((Bool × (List Int)) × (List Int)))))) (bz : Option Addr) (b0 : Nat) (b1 : Option Addr) (b2 : Nat) (b3 : Option Addr) (b4 : Nat) (b5 : Option Addr) (b6 : Nat) (g2 : Nat) (ao : (ByteArray × (List ByteArray) × (List (List ByteArray)) × (List (List Int)) × (List (List ((Bool × (List Int)) × (List Int)))))) (ct : Option Addr) (cu : Nat) (cv : Option Addr) (cw : Nat) (cx : Option Addr) (cy : Nat) (bu : Option Addr) (b7 : Nat) (g3 : Nat) (aw : ((Bool × (List Int)) × (List Int))) (b8 : Option Addr) (b9 : Nat) (ca : Option Addr) (cb : Nat) (g4 : Nat) (cl : (List (List ((Bool × (List Int)) × (List Int))))) (c4 : Option Addr) (c5 : Nat) (h0 : Own (Rep.int .i64) 3 qc0 col w0 a0 cap0 cs) (ae : Sl Rep.str col w0 bz b0 ab.2.1) (af : Sl (Rep.slice Rep.str) col w0 b1 b2 ab.2.2.1) (ag : Sl (Rep.slice (Rep.int .i64)) col w0 b3 b4 ab.2.2.2.1) (ah : Sl (Rep.slice (Rep.pair (Rep.pair Rep.bool (Rep.slice (Rep.int .u32))) (Rep.slice (Rep.int .u32)))) col w0 b5 b6 ab.2.2.2.2) (hb1 : Box 28 qc1 col w0 g1 #[(.string ab.1), (.slice bz ab.2.1.length b0), (.slice b1 ab.2.2.1.length b2), (.slice b3 ab.2.2.2.1.length b4), (.slice b5 ab.2.2.2.2.length b6)]) (ak : Own Rep.str 9 dj col w0 ct cu ao.2.1) (al : Own (Rep.row 9 Rep.str) 23 dk col w0 cv cw ao.2.2.1) (am : Own (Rep.row 3 (Rep.int .i64)) 33 dl col w0 cx cy ao.2.2.2.1) (ac : Own (Rep.row 40 (Rep.pair (Rep.pair Rep.bool (Rep.row 114 (Rep.int .u32))) (Rep.row 114 (Rep.int .u32)))) 51 dm col w0 bu b7 ao.2.2.2.2) (hb2 : Box 28 qc2 col w0 g2 #[(.string ao.1), (.slice ct ao.2.1.length cu), (.slice cv ao.2.2.1.length cw), (.slice cx ao.2.2.2.1.length cy), (.slice bu ao.2.2.2.2.length b7)]) (ai : Own (Rep.int .u32) 114 dn col w0 b8 b9 aw.1.2) (aj : Own (Rep.int .u32) 114 dp col w0 ca cb aw.2) (hb3 : Box 40 qc3 col w0 g3 #[(.bool aw.1.1), (.slice b8 aw.1.2.length b9), (.slice ca aw.2.length cb)]) (a5 : Own (Rep.row 40 (Rep.pair (Rep.pair Rep.bool (Rep.slice (Rep.int .u32))) (Rep.slice (Rep.int .u32)))) 51 ap col w0 c4 c5 cl) (hb4 : Box 26 qc4 col w0 g4 #[(.slice c4 cl.length c5)]) (r : (List (List ((Bool × (List Int)) × (List Int))))) (hm : m_learn_Step_1_v0l_v1sssss_v4sr N cs ab ao aw cl = some r) :
    Calls Tryz.prog 33 #[(.slice a0 cs.length cap0), (.pointer (some ⟨g1, 0, none⟩)), (.pointer (some ⟨g2, 0, none⟩)), (.pointer (some ⟨g3, 0, none⟩)), (.pointer (some ⟨g4, 0, none⟩))] w0 (fun e w' => ∃ (col' : Col) (oa1 : Option Addr) (oc2 : Nat), e = .returned (.tuple #[]) ∧ KeepP (pS [qc4, ap]) col w0 col' w' ∧ Own (Rep.row 40 (Rep.pair (Rep.pair Rep.bool (Rep.slice (Rep.int .u32))) (Rep.slice (Rep.int .u32)))) 51 ap col' w' oa1 oc2 r ∧ Box 26 qc4 col' w' g4 #[(.slice oa1 r.length oc2)]) := by
 refine calls_of0  (m := 63) (args := [(.slice a0 cs.length cap0), (.pointer (some ⟨g1, 0, none⟩)), (.pointer (some ⟨g2, 0, none⟩)), (.pointer (some ⟨g3, 0, none⟩)), (.pointer (some ⟨g4, 0, none⟩))]) Tryz.func33 rfl rfl rfl rfl ?_
 rw [m_learn_Step_1_v0l_v1sssss_v4sr.eq_1] at hm
 have hst := St.startL (l := [qc4, ap]) rfl col w0
 replace h0 := h0.startB hqqc0.1 hqqc0.2
 replace hb1 := hb1.startB hqqc1.1 hqqc1.2
 replace hb2 := hb2.startB hqqc2.1 hqqc2.2
 replace ak := ak.startB d7.1 d7.2
 replace al := al.startB d8.1 d8.2
 replace am := am.startB d9.1 d9.2
 replace ac := ac.startB ea.1 ea.2
 replace hb3 := hb3.startB hqqc3.1 hqqc3.2
 replace ai := ai.startB eb.1 eb.2
 replace aj := aj.startB ec.1 ec.2
 replace ae := ae.keep (Stay.startL [qc4, ap] col w0)
 replace af := af.keep (Stay.startL [qc4, ap] col w0)
 replace ag := ag.keep (Stay.startL [qc4, ap] col w0)
 replace ah := ah.keep (Stay.startL [qc4, ap] col w0)
 replace hb4 := hb4.startL (dst_nz hd 0 rfl) (dst_ix hd 0 rfl)
 replace a5 := a5.startL (dst_nz hd 1 rfl) (dst_ix hd 1 rfl)
 refine wS <| wR <| lV (.agg #[(.string ab.1), (.slice bz ab.2.1.length b0), (.slice b1 ab.2.2.1.length b2), (.slice b3 ab.2.2.2.1.length b4), (.slice b5 ab.2.2.2.2.length b6)]) (r_ldN Tryz.isAgg28 Tryz.sizeOf28 rfl rfl hb1.atN) <| lM (.slice a0 cs.length cap0) ?_
 obtain ⟨an, ev, hm⟩ := bS hm
 refine lc rfl rfl (r_call2 Tryz.call34 rfl rfl) (c_learn_places N 1 (frC 999 (colL [qc4, ap] col)) _ bz b0 b1 b2 b3 b4 b5 b6 (ab.1, ab.2.1, ab.2.2.1, ab.2.2.2.1, ab.2.2.2.2) a0 cap0 cs (ae.froz 999) (af.froz 999) (ag.froz 999) (ah.froz 999) (h0.toSlF (Froz.int .i64)) an ev) ?_
 rintro _ f2 ⟨ew, bq, cc, rfl, a7, aa⟩
 refine ⟨_, rfl, ?_⟩
 replace aa := aa.thaw (flat_int .i64) a7 ((Fz.refl (col := (colL [qc4, ap] col))).froz 999) (by decide)
 replace a7 := a7.thawR (col := (colL [qc4, ap] col))
 generalize colR w0.heap.size (colL [qc4, ap] col) ew = ex at *
 refine lA (.slice bq an.length cc) <| lN <| wS <| wR ?_
 obtain ⟨br, ey, hm⟩ := bS hm
 refine lc rfl rfl (r_call1 Tryz.call28 rfl) (c_learn_whole N 2 3 ex _ 1 br ey) ?_
 rintro _ f3 ⟨ez, dq, dr, ds, dt, rfl, bf, du, dv⟩
 refine ⟨_, rfl, ?_⟩
 refine l_alloc (col := ez) (v := (.agg #[(.bool false), (.slice none (([] : List Int).length) 0), (.slice none (([] : List Int).length) 0)])) 4 rfl Tryz.zeroValue40 ?_
 intro cd e0 dw a8 da
 replace da : Box 40 4 dw e0 cd #[(.bool false), (.slice none (([] : List Int).length) 0), (.slice none (([] : List Int).length) 0)] := da
 refine l_bstore (v := (.agg #[(.bool br.1.1), (.slice dq br.1.2.length dr), (.slice ds br.2.length dt)])) da Tryz.sizeOf40 rfl rfl (by intro u hu; simp only [Value.cells, List.mem_cons, List.not_mem_nil, or_false] at hu; rcases hu with rfl | rfl | rfl <;> rfl) rfl rfl ?_
 intro e1 a9 e2 bg
 clear da
 replace bg : Box 40 4 dw e1 cd #[(.bool br.1.1), (.slice dq br.1.2.length dr), (.slice ds br.2.length dt)] := bg
 refine lN <| wS <| wS <| wR <| lM (.slice bq an.length cc) <| lV (.int .i64 (an.length : Int)) (r_len Tryz.underlying33 rfl) <| lM (.int .i64 0) <| lN <| wB ?_
 replace ak := (((ak.gr a7).gr bf).gr a8).kp a9
 replace al := (((al.gr a7).gr bf).gr a8).kp a9
 replace am := (((am.gr a7).gr bf).gr a8).kp a9
 replace ac := (((ac.gr a7).gr bf).gr a8).kp a9
 replace ai := (((ai.gr a7).gr bf).gr a8).kp a9
 replace aj := (((aj.gr a7).gr bf).gr a8).kp a9
 replace a5 := (((a5.gr a7).gr bf).gr a8).kp a9
 replace ae := (((ae.gr a7).gr bf).gr a8).kp a9
 replace af := (((af.gr a7).gr bf).gr a8).kp a9
 replace ag := (((ag.gr a7).gr bf).gr a8).kp a9
 replace ah := (((ah.gr a7).gr bf).gr a8).kp a9
 replace hb1 := (((hb1.gr a7).gr bf).gr a8).kp a9
 replace hb2 := (((hb2.gr a7).gr bf).gr a8).kp a9
 replace hb3 := (((hb3.gr a7).gr bf).gr a8).kp a9
 replace hb4 := (((hb4.gr a7).gr bf).gr a8).kp a9
 replace hst := (((hst.grow a7).grow bf).grow a8).kp a9 e2
 replace aa := ((aa.gr bf).gr a8).kp a9
 replace du := (du.gr a8).kp a9
 replace dv := (dv.gr a8).kp a9
 refine wloop (fun n f ax => ∃ (ad : Col) (ba : Nat) (cm : Bool) (cn : Option Addr) (co : Nat) (ce : List Int) (cp : Option Addr) (cq : Nat) (cf : List Int) (c6 : List Int), n = c6.length ∧ an.drop ba = c6 ∧ m_learn_Step_1_v0l_v1sssss_v4sr_L1 N ao aw cl an c6 ba cm ce cf = some r ∧ St w0 (colL [qc4, ap] col) ad ax ∧ Own (Rep.int .i64) 3 1 ad ax bq cc an ∧ Own Rep.str 9 999 ad ax ct cu ao.2.1 ∧ Own (Rep.row 9 Rep.str) 23 999 ad ax cv cw ao.2.2.1 ∧ Own (Rep.row 3 (Rep.int .i64)) 33 999 ad ax cx cy ao.2.2.2.1 ∧ Own (Rep.row 40 (Rep.pair (Rep.pair Rep.bool (Rep.row 114 (Rep.int .u32))) (Rep.row 114 (Rep.int .u32)))) 51 999 ad ax bu b7 ao.2.2.2.2 ∧ Box 28 999 ad ax g2 #[(.string ao.1), (.slice ct ao.2.1.length cu), (.slice cv ao.2.2.1.length cw), (.slice cx ao.2.2.2.1.length cy), (.slice bu ao.2.2.2.2.length b7)] ∧ Own (Rep.int .u32) 114 999 ad ax b8 b9 aw.1.2 ∧ Own (Rep.int .u32) 114 999 ad ax ca cb aw.2 ∧ Box 40 999 ad ax g3 #[(.bool aw.1.1), (.slice b8 aw.1.2.length b9), (.slice ca aw.2.length cb)] ∧ Own (Rep.row 40 (Rep.pair (Rep.pair Rep.bool (Rep.slice (Rep.int .u32))) (Rep.slice (Rep.int .u32)))) 51 441 ad ax c4 c5 cl ∧ Box 26 440 ad ax g4 #[(.slice c4 cl.length c5)] ∧ Own (Rep.int .u32) 114 2 ad ax cn co ce ∧ Own (Rep.int .u32) 114 3 ad ax cp cq cf ∧ Box 40 4 ad ax cd #[(.bool cm), (.slice cn ce.length co), (.slice cp cf.length cq)] ∧ Sl Rep.str ad ax bz b0 ab.2.1 ∧ Sl (Rep.slice Rep.str) ad ax b1 b2 ab.2.2.1 ∧ Sl (Rep.slice (Rep.int .i64)) ad ax b3 b4 ab.2.2.2.1 ∧ Sl (Rep.slice (Rep.pair (Rep.pair Rep.bool (Rep.slice (Rep.int .u32))) (Rep.slice (Rep.int .u32)))) ad ax b5 b6 ab.2.2.2.2 ∧ Box 28 999 ad ax g1 #[(.string ab.1), (.slice bz ab.2.1.length b0), (.slice b1 ab.2.2.1.length b2), (.slice b3 ab.2.2.2.1.length b4), (.slice b5 ab.2.2.2.2.length b6)] ∧ f 18 = (.int .i64 (ba : Int)) ∧ f 16 = (.slice bq an.length cc) ∧ f 17 = (.int .i64 (an.length : Int)) ∧ f 2 = (.pointer (some ⟨g2, 0, none⟩)) ∧ f 3 = (.pointer (some ⟨g3, 0, none⟩)) ∧ f 4 = (.pointer (some ⟨g4, 0, none⟩)) ∧ f 6 = (.slice bq an.length cc) ∧ f 7 = (.pointer (some ⟨cd, 0, none⟩)) ∧ f 1000000 = (enc [])) an.length ⟨dw, 0, br.1.1, dq, dr, br.1.2, ds, dt, br.2, an, rfl, rfl, hm, hst, aa, ak, al, am, ac, hb2, ai, aj, hb3, a5, hb4, du, dv, bg, ae, af, ag, ah, hb1, rfl, rfl, rfl, rfl, rfl, rfl, rfl, rfl, rfl⟩ ?_
 clear hm; intro n f ax hI
 obtain ⟨ad, ba, cm, cn, co, ce, cp, cq, cf, c6, hn, hl, hm, hst, aa, ak, al, am, ac, hb2, ai, aj, hb3, a5, hb4, db, dc, bg, ae, af, ag, ah, hb1, hs18, hs16, hs17, hs2, hs3, hs4, hs6, hs7, hs1000000⟩ := hI
 subst hn
 refine .lD 18 hs18 <| .lD 16 hs16 <| .lD 17 hs17 <| .lD 2 hs2 <| .lD 3 hs3 <| .lD 4 hs4 <| .lD 6 hs6 <| .lD 7 hs7 <| .lD 1000000 hs1000000 ?_
 clear hs18 hs16 hs17 hs2 hs3 hs4 hs6 hs7 hs1000000
 cases c6 with
 | nil =>
  have hk : ¬ ((ba : Int) < (an.length : Int)) := by have := List.drop_eq_nil_iff.1 hl; omega
  have hkb := decide_eq_false hk
  rw [m_learn_Step_1_v0l_v1sssss_v4sr_L1.eq_1] at hm
  refine wS <| wR <| lV (.bool (decide ((ba : Int) < (an.length : Int)))) (r_lss (ba : Int) (an.length : Int) rfl rfl) <| lN <| wS ?_
  refine wcondF (congrArg Value.bool hkb) ?_
  refine wexit (inB_hit ?_)
  refine wS <| wR <| lV (.agg #[(.bool cm), (.slice cn ce.length co), (.slice cp cf.length cq)]) (r_ldN Tryz.isAgg40 Tryz.sizeOf40 rfl rfl bg.atN) <| lV (.agg #[(.bool aw.1.1), (.slice b8 aw.1.2.length b9), (.slice ca aw.2.length cb)]) (r_ldN Tryz.isAgg40 Tryz.sizeOf40 rfl rfl hb3.atN) ?_
  obtain ⟨aq, e3, hm⟩ := bS hm
  refine lc rfl rfl (r_call2 Tryz.call36 rfl rfl) (c_frac_Div N 5 6 (frC 999 (frC 3 (frC 2 ad))) _ cn co cp cq ((cm, ce), cf) b8 b9 ca cb ((aw.1.1, aw.1.2), aw.2) (((db.toSlF (Froz.int .u32)).froz 3).froz 999) (((dc.froz 2 (by decide)).toSlF (Froz.int .u32)).froz 999) (((ai.froz 2 (by decide)).froz 3 (by decide)).toSlF (Froz.int .u32)) (((aj.froz 2 (by decide)).froz 3 (by decide)).toSlF (Froz.int .u32)) aq e3) ?_
  rintro _ f4 ⟨e4, cg, ch, ci, cj, rfl, a1, a2, a3⟩
  refine ⟨_, rfl, ?_⟩
  replace a2 := a2.thaw (flat_int .u32) a1 ((((Fz.refl (col := ad)).froz 2).froz 3).froz 999) (by decide)
  replace a3 := a3.thaw (flat_int .u32) a1 ((((Fz.refl (col := ad)).froz 2).froz 3).froz 999) (by decide)
  replace a1 := a1.thawR (col := ad)
  generalize colR ax.heap.size ad e4 = ed at *
  refine lM (.tuple #[(.agg #[(.bool aq.1.1.1), (.slice cg aq.1.1.2.length ch), (.slice ci aq.1.2.length cj)]), (.int .i64 aq.2)]) <| lV (.agg #[(.bool aq.1.1.1), (.slice cg aq.1.1.2.length ch), (.slice ci aq.1.2.length cj)]) (r_extract rfl rfl) <| lV (.int .i64 aq.2) (r_extract rfl rfl) ?_
  replace bg := bg.gr a1
  refine l_bstore (v := (.agg #[(.bool aq.1.1.1), (.slice cg aq.1.1.2.length ch), (.slice ci aq.1.2.length cj)])) bg Tryz.sizeOf40 rfl rfl (by intro u hu; simp only [Value.cells, List.mem_cons, List.not_mem_nil, or_false] at hu; rcases hu with rfl | rfl | rfl <;> rfl) rfl rfl ?_
  intro e5 bb e6 a4
  clear bg
  replace a4 : Box 40 4 ed e5 cd #[(.bool aq.1.1.1), (.slice cg aq.1.1.2.length ch), (.slice ci aq.1.2.length cj)] := a4
  refine lN <| wS <| wR <| lM (.slice bq an.length cc) <| lV (.int .i64 (an.length : Int)) (r_len Tryz.underlying33 rfl) <| lM (.int .i64 0) <| lN <| wB ?_
  replace a5 := (a5.gr a1).kp bb
  replace aa := (aa.gr a1).kp bb
  replace ai := (ai.gr a1).kp bb
  replace aj := (aj.gr a1).kp bb
  replace ak := (ak.gr a1).kp bb
  replace al := (al.gr a1).kp bb
  replace am := (am.gr a1).kp bb
  replace ac := (ac.gr a1).kp bb
  replace ae := (ae.gr a1).kp bb
  replace af := (af.gr a1).kp bb
  replace ag := (ag.gr a1).kp bb
  replace ah := (ah.gr a1).kp bb
  replace hb2 := (hb2.gr a1).kp bb
  replace hb3 := (hb3.gr a1).kp bb
  replace hb4 := (hb4.gr a1).kp bb
  replace hb1 := (hb1.gr a1).kp bb
  replace hst := (hst.grow a1).kp bb e6
  replace a2 := a2.kp bb
  replace a3 := a3.kp bb
  refine wloop (fun n f ay => ∃ (av : Col) (bh : Option Addr) (bm : Nat) (bi : List (List ((Bool × (List Int)) × (List Int)))) (ar : Nat) (c7 : List Int), n = c7.length ∧ an.drop ar = c7 ∧ m_learn_Step_1_v0l_v1sssss_v4sr_L2 N aq c7 ar bi = some r ∧ St w0 (colL [qc4, ap] col) av ay ∧ Own (Rep.row 40 (Rep.pair (Rep.pair Rep.bool (Rep.slice (Rep.int .u32))) (Rep.slice (Rep.int .u32)))) 51 441 av ay bh bm bi ∧ Box 26 440 av ay g4 #[(.slice bh bi.length bm)] ∧ Own (Rep.int .i64) 3 1 av ay bq cc an ∧ Own (Rep.int .u32) 114 5 av ay cg ch aq.1.1.2 ∧ Own (Rep.int .u32) 114 6 av ay ci cj aq.1.2 ∧ Box 40 4 av ay cd #[(.bool aq.1.1.1), (.slice cg aq.1.1.2.length ch), (.slice ci aq.1.2.length cj)] ∧ Own Rep.str 9 999 av ay ct cu ao.2.1 ∧ Own (Rep.row 9 Rep.str) 23 999 av ay cv cw ao.2.2.1 ∧ Own (Rep.row 3 (Rep.int .i64)) 33 999 av ay cx cy ao.2.2.2.1 ∧ Own (Rep.row 40 (Rep.pair (Rep.pair Rep.bool (Rep.row 114 (Rep.int .u32))) (Rep.row 114 (Rep.int .u32)))) 51 999 av ay bu b7 ao.2.2.2.2 ∧ Box 28 999 av ay g2 #[(.string ao.1), (.slice ct ao.2.1.length cu), (.slice cv ao.2.2.1.length cw), (.slice cx ao.2.2.2.1.length cy), (.slice bu ao.2.2.2.2.length b7)] ∧ Own (Rep.int .u32) 114 999 av ay b8 b9 aw.1.2 ∧ Own (Rep.int .u32) 114 999 av ay ca cb aw.2 ∧ Box 40 999 av ay g3 #[(.bool aw.1.1), (.slice b8 aw.1.2.length b9), (.slice ca aw.2.length cb)] ∧ Sl Rep.str av ay bz b0 ab.2.1 ∧ Sl (Rep.slice Rep.str) av ay b1 b2 ab.2.2.1 ∧ Sl (Rep.slice (Rep.int .i64)) av ay b3 b4 ab.2.2.2.1 ∧ Sl (Rep.slice (Rep.pair (Rep.pair Rep.bool (Rep.slice (Rep.int .u32))) (Rep.slice (Rep.int .u32)))) av ay b5 b6 ab.2.2.2.2 ∧ Box 28 999 av ay g1 #[(.string ab.1), (.slice bz ab.2.1.length b0), (.slice b1 ab.2.2.1.length b2), (.slice b3 ab.2.2.2.1.length b4), (.slice b5 ab.2.2.2.2.length b6)] ∧ f 42 = (.int .i64 (ar : Int)) ∧ f 4 = (.pointer (some ⟨g4, 0, none⟩)) ∧ f 40 = (.slice bq an.length cc) ∧ f 41 = (.int .i64 (an.length : Int)) ∧ f 7 = (.pointer (some ⟨cd, 0, none⟩)) ∧ f 1000000 = (enc [])) an.length ⟨ed, c4, c5, cl, 0, an, rfl, rfl, hm, hst, a5, hb4, aa, a2, a3, a4, ak, al, am, ac, hb2, ai, aj, hb3, ae, af, ag, ah, hb1, rfl, rfl, rfl, rfl, rfl, rfl⟩ ?_
  clear hm; intro n f ay hI
  obtain ⟨av, bh, bm, bi, ar, c7, hn, hl, hm, hst, dd, hb4, aa, a2, a3, a4, ak, al, am, ac, hb2, ai, aj, hb3, ae, af, ag, ah, hb1, hs42, hs4, hs40, hs41, hs7, hs1000000⟩ := hI
  subst hn
  refine .lD 42 hs42 <| .lD 4 hs4 <| .lD 40 hs40 <| .lD 41 hs41 <| .lD 7 hs7 <| .lD 1000000 hs1000000 ?_
  clear hs42 hs4 hs40 hs41 hs7 hs1000000
  cases c7 with
  | nil =>
   have hk : ¬ ((ar : Int) < (an.length : Int)) := by have := List.drop_eq_nil_iff.1 hl; omega
   have hkb := decide_eq_false hk
   rw [m_learn_Step_1_v0l_v1sssss_v4sr_L2.eq_1] at hm
   refine wS <| wR <| lV (.bool (decide ((ar : Int) < (an.length : Int)))) (r_lss (ar : Int) (an.length : Int) rfl rfl) <| lN <| wS ?_
   refine wcondF (congrArg Value.bool hkb) ?_
   refine wexit (inB_hit ?_)
   cases hm
   exact ⟨rfl, colFL w0.heap.size [qc4, ap] col av (fun n => bif Nat.beq n 441 then ap else bif Nat.beq n 440 then qc4 else 0), bh, bm, rfl, hst.finL rfl (fun n => bif Nat.beq n 441 then ap else bif Nat.beq n 440 then qc4 else 0), hst.finOwnL (g := (fun n => bif Nat.beq n 441 then ap else bif Nat.beq n 440 then qc4 else 0)) rfl dd (by decide) (by decide) rfl, hst.finBoxL (g := (fun n => bif Nat.beq n 441 then ap else bif Nat.beq n 440 then qc4 else 0)) hb4 (by decide) (by decide) rfl⟩
  | cons cr ee =>
   obtain ⟨hat, hl2_L2, hlt_L2⟩ := drop_get hl
   have hk : (ar : Int) < (an.length : Int) := by omega
   have hkb := decide_eq_true hk
   rw [m_learn_Step_1_v0l_v1sssss_v4sr_L2.eq_2] at hm
   refine wS <| wR <| lV (.bool (decide ((ar : Int) < (an.length : Int)))) (r_lss (ar : Int) (an.length : Int) rfl rfl) <| lN <| wS ?_
   refine wcondT (congrArg Value.bool hkb) ?_
   refine wK <| wS <| wB <| wS <| wR <| lM (.int .i64 (ar : Int)) ?_
   refine lV (sptr bq (Int.toNat (ar : Int) * 1)) (r_idx Tryz.underlying33 Tryz.sizeOf3 rfl rfl (at?_some hat).1 (at?_some hat).2.1 (aa.addr hat)) ?_
   refine lV (.int .i64 cr) (r_ld Tryz.isAgg3 rfl (aa.atInt hat)) <| lA (.int .i64 (ar : Int)) <| lA (.int .i64 cr) <| lN ?_
   refine wmix (col := av) [(0, 0), (1, 1), (2, 1), (3, 0), (4, 1), (5, 0), (6, 1), (7, 1), (8, 0), (9, 1), (10, 1), (11, 0), (12, 0), (13, 3), (14, 1), (15, 2)] (by kernel_rfl) (by kernel_rfl) ?_
   refine xv (v := (.slice bh bi.length bm)) rfl rfl (fun _ hC => r_ld Tryz.isAgg26 rfl (hb4.at1.gr (Grow.of_below (col := av) hC.below))) ?_
   refine xu (v := (.int .i64 (ar : Int))) rfl rfl (fun _ => r_move rfl) ?_
   obtain ⟨c8, cz, hm⟩ := bS hm
   refine xu (v := (sptr bh (Int.toNat (ar : Int) * 1))) rfl rfl (fun _ => r_idx Tryz.underlying26 Tryz.sizeOf51 rfl rfl (at?_some cz).1 (at?_some cz).2.1 (dd.addr cz)) ?_
   obtain ⟨_, bj, bc, bd, e7⟩ := dd.open_ 7 (by decide) cz
   obtain ⟨c0, de, rfl, bk⟩ := e7.row
   clear dd
   replace bd : Hole (Rep.row 40 (Rep.pair (Rep.pair Rep.bool (Rep.slice (Rep.int .u32))) (Rep.slice (Rep.int .u32)))) 51 441 bj ay bh bm bi (Int.toNat (ar : Int)) [(.slice c0 c8.length de)] := bd
   refine xv (v := (.slice c0 c8.length de)) rfl rfl (fun _ hC => r_ld Tryz.isAgg51 rfl (bd.atN.one.gr (Grow.of_below (col := bj) hC.below))) ?_
   refine xu (v := (.int .i64 cr)) rfl rfl (fun _ => r_move rfl) ?_
   replace hb4 := hb4.kpp bc
   refine xv (v := (.slice bh bi.length bm)) rfl rfl (fun _ hC => r_ld Tryz.isAgg26 rfl (hb4.at1.gr (Grow.of_below (col := bj) hC.below))) ?_
   refine xu (v := (.int .i64 (ar : Int))) rfl rfl (fun _ => r_move rfl) ?_
   refine xu (v := (sptr bh (Int.toNat (ar : Int) * 1))) rfl rfl (fun _ => r_idx Tryz.underlying26 Tryz.sizeOf51 rfl rfl (at?_some cz).1 (at?_some cz).2.1 (bd.addr)) ?_
   refine xv (v := (.slice c0 c8.length de)) rfl rfl (fun _ hC => r_ld Tryz.isAgg51 rfl (bd.atN.one.gr (Grow.of_below (col := bj) hC.below))) ?_
   refine xu (v := (.int .i64 cr)) rfl rfl (fun _ => r_move rfl) ?_
   obtain ⟨c1, ck, hm⟩ := bS hm
   refine xu (v := (sptr c0 (Int.toNat cr * 3))) rfl rfl (fun _ => r_idx Tryz.underlying51 Tryz.sizeOf40 rfl rfl (at?_some ck).1 (at?_some ck).2.1 (bk.addr ck)) ?_
   obtain ⟨_, e8, e9⟩ := bk.atN ck
   obtain ⟨_, _, rfl, fa, fb⟩ := e8.parts
   obtain ⟨_, _, rfl, fc, fd⟩ := fa.parts
   obtain rfl := fc.bool
   obtain ⟨ef, eg, rfl, dx⟩ := fd.slice
   obtain ⟨eh, ei, rfl, dy⟩ := fb.slice
   refine xv (v := (.agg #[(.bool c1.1.1), (.slice ef c1.1.2.length eg), (.slice eh c1.2.length ei)])) rfl rfl (fun _ hC => r_ldN Tryz.isAgg40 Tryz.sizeOf40 rfl rfl (e9.gr (Grow.of_below (col := bj) hC.below))) ?_
   replace a4 := a4.kpp bc
   refine xv (v := (.agg #[(.bool aq.1.1.1), (.slice cg aq.1.1.2.length ch), (.slice ci aq.1.2.length cj)])) rfl rfl (fun _ hC => r_ldN Tryz.isAgg40 Tryz.sizeOf40 rfl rfl (a4.atN.gr (Grow.of_below (col := bj) hC.below))) ?_
   refine xe rfl rfl ?_
   intro ej hC0
   have hC : Grow bj ay bj ej := .of_below hC0.below
   obtain ⟨bn, fe, hm⟩ := bS hm
   replace a2 := (a2.kpp bc).gr hC
   replace a3 := (a3.kpp bc).gr hC
   replace dx := dx.gr hC
   replace dy := dy.gr hC
   refine lc rfl rfl (r_call2 Tryz.call27 rfl rfl) (c_frac_Add N 8 9 (frC 6 (frC 5 bj)) _ ef eg eh ei ((c1.1.1, c1.1.2), c1.2) cg ch ci cj ((aq.1.1.1, aq.1.1.2), aq.1.2) ((dx.froz 5).froz 6) ((dy.froz 5).froz 6) ((a2.toSlF (Froz.int .u32)).froz 6) ((a3.froz 5 (by decide)).toSlF (Froz.int .u32)) bn fe) ?_
   rintro _ ek ⟨ff, fg, fh, fi, fj, rfl, au, bv, bw⟩
   refine ⟨_, rfl, ?_⟩
   replace bv := bv.thaw (flat_int .u32) au (((Fz.refl (col := bj)).froz 5).froz 6) (by decide)
   replace bw := bw.thaw (flat_int .u32) au (((Fz.refl (col := bj)).froz 5).froz 6) (by decide)
   replace au := au.thawR (col := bj)
   generalize colR ej.heap.size bj ff = bl at *
   refine lN ⟨fun w' => Grow bl ek bl w', Grow.refl _ _, fun _ _ h => cls hC0 au h, ?_⟩
   replace bk := (bk.gr hC).gr au
   refine xu (v := (sptr c0 (Int.toNat cr * 3))) rfl rfl (fun _ => r_idx Tryz.underlying51 Tryz.sizeOf40 rfl rfl (at?_some ck).1 (at?_some ck).2.1 (bk.addr ck)) ?_
   refine xe rfl rfl ?_
   intro fk hC0
   replace aa := ((aa.kpp bc).gr hC).gr au
   replace ak := ((ak.kpp bc).gr hC).gr au
   replace al := ((al.kpp bc).gr hC).gr au
   replace am := ((am.kpp bc).gr hC).gr au
   replace ac := ((ac.kpp bc).gr hC).gr au
   replace ai := ((ai.kpp bc).gr hC).gr au
   replace aj := ((aj.kpp bc).gr hC).gr au
   replace ae := ((ae.kpp bc).gr hC).gr au
   replace af := ((af.kpp bc).gr hC).gr au
   replace ag := ((ag.kpp bc).gr hC).gr au
   replace ah := ((ah.kpp bc).gr hC).gr au
   replace hb2 := ((hb2.kpp bc).gr hC).gr au
   replace hb3 := ((hb3.kpp bc).gr hC).gr au
   replace hb1 := ((hb1.kpp bc).gr hC).gr au
   replace hst := ((hst.kpp bc).grow hC).grow au
   replace bd := (bd.gr hC).gr au
   replace hb4 := (hb4.gr hC).gr au
   replace a4 := (a4.gr hC).gr au
   have hC : Grow bl ek bl fk := .of_below hC0.below
   replace bd := bd.gr hC
   replace bd := bd.froz 9 (by decide)
   replace bk := bk.gr hC
   replace bk := bk.froz 9 (by decide)
   replace aa := aa.gr hC
   replace aa := aa.froz 9 (by decide)
   replace a2 := (a2.gr au).gr hC
   replace a2 := a2.froz 9 (by decide)
   replace a3 := (a3.gr au).gr hC
   replace a3 := a3.froz 9 (by decide)
   replace bv := bv.gr hC
   replace bv := bv.froz 9 (by decide)
   replace bw := bw.gr hC
   replace bw := (bw).toSlF (Froz.int .u32)
   replace ak := ak.gr hC
   replace ak := ak.froz 9 (by decide)
   replace al := al.gr hC
   replace al := al.froz 9 (by decide)
   replace am := am.gr hC
   replace am := am.froz 9 (by decide)
   replace ac := ac.gr hC
   replace ac := ac.froz 9 (by decide)
   replace ai := ai.gr hC
   replace ai := ai.froz 9 (by decide)
   replace aj := aj.gr hC
   replace aj := aj.froz 9 (by decide)
   replace ae := ae.gr hC
   replace ae := ae.froz 9
   replace af := af.gr hC
   replace af := af.froz 9
   replace ag := ag.gr hC
   replace ag := ag.froz 9
   replace ah := ah.gr hC
   replace ah := ah.froz 9
   replace hb4 := hb4.gr hC
   replace hb4 := hb4.froz 9 (by decide)
   replace a4 := a4.gr hC
   replace a4 := a4.froz 9 (by decide)
   replace hb2 := hb2.gr hC
   replace hb2 := hb2.froz 9 (by decide)
   replace hb3 := hb3.gr hC
   replace hb3 := hb3.froz 9 (by decide)
   replace hb1 := hb1.gr hC
   replace hb1 := hb1.froz 9 (by decide)
   replace hst := hst.grow hC
   replace hst := hst.froz 9 (by decide) (by decide)
   replace bd := bd.froz 8 (by decide)
   replace bk := bk.froz 8 (by decide)
   replace aa := aa.froz 8 (by decide)
   replace a2 := a2.froz 8 (by decide)
   replace a3 := a3.froz 8 (by decide)
   replace bv := (bv).toSlF (Froz.int .u32)
   replace bw := bw.froz 8
   replace ak := ak.froz 8 (by decide)
   replace al := al.froz 8 (by decide)
   replace am := am.froz 8 (by decide)
   replace ac := ac.froz 8 (by decide)
   replace ai := ai.froz 8 (by decide)
   replace aj := aj.froz 8 (by decide)
   replace ae := ae.froz 8
   replace af := af.froz 8
   replace ag := ag.froz 8
   replace ah := ah.froz 8
   replace hb4 := hb4.froz 8 (by decide)
   replace a4 := a4.froz 8 (by decide)
   replace hb2 := hb2.froz 8 (by decide)
   replace hb3 := hb3.froz 8 (by decide)
   replace hb1 := hb1.froz 8 (by decide)
   replace hst := hst.froz 8 (by decide) (by decide)
   obtain ⟨c2, df, hm⟩ := bS hm
   have df : c2 = c8.set (Int.toNat cr) ((bn.1.1, bn.1.2), bn.2) := (Option.some.inj df).symm
   refine l_store (x1 := ((bn.1.1, bn.1.2), bn.2)) (v := (.agg #[(.bool bn.1.1), (.slice fg bn.1.2.length fh), (.slice fi bn.2.length fj)])) bk ck rfl Tryz.sizeOf40 (rd_pairI (rd_pairI (rd_bool bn.1.1) (rd_slI bv)) (rd_slI bw)) rfl rfl (by decide) ?_
   intro c9 a6 fl el
   rw [← df] at el
   replace hb4 := hb4.kp a6
   replace hb4 : Box 26 440 (frC 8 (frC 9 bl)) c9 g4 #[(.slice bh bi.length bm)] := by rw []; exact hb4
   replace bd := bd.kp a6
   replace bd : Hole (Rep.row 40 (Rep.pair (Rep.pair Rep.bool (Rep.slice (Rep.int .u32))) (Rep.slice (Rep.int .u32)))) 51 441 (frC 8 (frC 9 bl)) c9 bh bm bi (Int.toNat (ar : Int)) [(.slice c0 c2.length de)] := by rw [← (show c8.length = c2.length by rw [df, List.length_set])]; exact bd
   clear bk
   refine lN ⟨fun w' => Grow (frC 8 (frC 9 bl)) c9 (frC 8 (frC 9 bl)) w', Grow.refl _ _, fun h => absurd h (by decide), ?_⟩
   have dz := bd.close el.has (by decide) (by decide)
   replace aa := aa.kp a6
   replace aa := aa.recol 7 441 (by decide)
   replace a2 := a2.kp a6
   replace a2 := a2.recol 7 441 (by decide)
   replace a3 := a3.kp a6
   replace a3 := a3.recol 7 441 (by decide)
   replace ak := ak.kp a6
   replace ak := ak.recol 7 441 (by decide)
   replace al := al.kp a6
   replace al := al.recol 7 441 (by decide)
   replace am := am.kp a6
   replace am := am.recol 7 441 (by decide)
   replace ac := ac.kp a6
   replace ac := ac.recol 7 441 (by decide)
   replace ai := ai.kp a6
   replace ai := ai.recol 7 441 (by decide)
   replace aj := aj.kp a6
   replace aj := aj.recol 7 441 (by decide)
   replace ae := ae.kp a6
   replace ae := ae.recol 7 441 (by decide)
   replace af := af.kp a6
   replace af := af.recol 7 441 (by decide)
   replace ag := ag.kp a6
   replace ag := ag.recol 7 441 (by decide)
   replace ah := ah.kp a6
   replace ah := ah.recol 7 441 (by decide)
   replace hb4 := hb4.recol 7 441 (by decide)
   replace a4 := a4.kp a6
   replace a4 := a4.recol 7 441 (by decide)
   replace hb2 := hb2.kp a6
   replace hb2 := hb2.recol 7 441 (by decide)
   replace hb3 := hb3.kp a6
   replace hb3 := hb3.recol 7 441 (by decide)
   replace hb1 := hb1.kp a6
   replace hb1 := hb1.recol 7 441 (by decide)
   replace hst := hst.kp a6 fl
   replace hst := hst.recol 7 441 (by decide) (by decide)
   clear bd
   replace hb4 : Box 26 440 (rcC 7 441 (frC 8 (frC 9 bl))) c9 g4 #[(.slice bh ((bi.set (Int.toNat (ar : Int)) c2).length) bm)] := by rw [← (show bi.length = (bi.set (Int.toNat (ar : Int)) c2).length by simp only [List.length_set])]; exact hb4
   refine xnil ?_
   intro fm hC
   replace hC : Grow (rcC 7 441 (frC 8 (frC 9 bl))) c9 (rcC 7 441 (frC 8 (frC 9 bl))) fm := .of_below hC.below
   refine wR <| lV (.int .i64 (IntKind.i64.wrap ((ar : Int) + 1))) (r_add (ar : Int) 1 rfl rfl) <| lM (.int .i64 (IntKind.i64.wrap ((ar : Int) + 1))) <| lN ?_
   replace dz := dz.gr hC
   replace aa := aa.gr hC
   replace a2 := a2.gr hC
   replace a3 := a3.gr hC
   replace ak := ak.gr hC
   replace al := al.gr hC
   replace am := am.gr hC
   replace ac := ac.gr hC
   replace ai := ai.gr hC
   replace aj := aj.gr hC
   replace ae := ae.gr hC
   replace af := af.gr hC
   replace ag := ag.gr hC
   replace ah := ah.gr hC
   replace hb4 := hb4.gr hC
   replace a4 := a4.gr hC
   replace hb2 := hb2.gr hC
   replace hb3 := hb3.gr hC
   replace hb1 := hb1.gr hC
   replace hst := hst.grow hC
   exact ⟨ee.length, by simp, ⟨(rcC 7 441 (frC 8 (frC 9 bl))), bh, bm, (bi.set (Int.toNat (ar : Int)) c2), (ar + 1), ee, rfl, hl2_L2, hm, hst, dz, hb4, aa, a2, a3, a4, ak, al, am, ac, hb2, ai, aj, hb3, ae, af, ag, ah, hb1, (congrArg (Value.int .i64) (wrap_succ (Nat.lt_of_lt_of_le hlt_L2 aa.len))), rfl, rfl, rfl, rfl, rfl⟩⟩
 | cons dg em =>
  obtain ⟨hat, hl2_L1, hlt_L1⟩ := drop_get hl
  have hk : (ba : Int) < (an.length : Int) := by omega
  have hkb := decide_eq_true hk
  rw [m_learn_Step_1_v0l_v1sssss_v4sr_L1.eq_2] at hm
  refine wS <| wR <| lV (.bool (decide ((ba : Int) < (an.length : Int)))) (r_lss (ba : Int) (an.length : Int) rfl rfl) <| lN <| wS ?_
  refine wcondT (congrArg Value.bool hkb) ?_
  refine wK <| wS <| wB <| wS <| wR <| lM (.int .i64 (ba : Int)) ?_
  refine lV (sptr bq (Int.toNat (ba : Int) * 1)) (r_idx Tryz.underlying33 Tryz.sizeOf3 rfl rfl (at?_some hat).1 (at?_some hat).2.1 (aa.addr hat)) ?_
  refine lV (.int .i64 dg) (r_ld Tryz.isAgg3 rfl (aa.atInt hat)) <| lA (.int .i64 (ba : Int)) <| lA (.int .i64 dg) <| lN ?_
  refine wmix (col := ad) [(0, 0), (1, 1), (2, 0), (3, 1), (4, 1), (5, 0), (6, 1), (7, 1), (8, 0), (9, 3), (10, 2)] (by kernel_rfl) (by kernel_rfl) ?_
  refine xv (v := (.agg #[(.bool cm), (.slice cn ce.length co), (.slice cp cf.length cq)])) rfl rfl (fun _ hC => r_ldN Tryz.isAgg40 Tryz.sizeOf40 rfl rfl (bg.atN.gr (Grow.of_below (col := ad) hC.below))) ?_
  refine xu (v := (.pointer ((some (⟨g2, 0, none⟩ : Addr)).map (·.add 4)))) rfl rfl (fun _ => rF (sz := 1) (off := 4) Tryz.underlying28 rfl Tryz.sizeOf26 (by decide) rfl rfl ⟨_, _, rfl⟩) ?_
  refine xv (v := (.slice bu ao.2.2.2.2.length b7)) rfl rfl (fun _ hC => r_ld Tryz.isAgg26 rfl (((hb2.atN).nth (q := 4) (v := (.slice bu ao.2.2.2.2.length b7)) rfl).gr (Grow.of_below (col := ad) hC.below))) ?_
  refine xu (v := (.int .i64 (ba : Int))) rfl rfl (fun _ => r_move rfl) ?_
  obtain ⟨fn, dh, hm⟩ := bS hm
  refine xu (v := (sptr bu (Int.toNat (ba : Int) * 1))) rfl rfl (fun _ => r_idx Tryz.underlying26 Tryz.sizeOf51 rfl rfl (at?_some dh).1 (at?_some dh).2.1 (ac.addr dh)) ?_
  obtain ⟨_, fo, fp⟩ := ac.atN dh
  obtain ⟨en, fq, rfl, eo⟩ := fo.row
  refine xv (v := (.slice en fn.length fq)) rfl rfl (fun _ hC => r_ld Tryz.isAgg51 rfl (fp.one.gr (Grow.of_below (col := ad) hC.below))) ?_
  refine xu (v := (.int .i64 dg)) rfl rfl (fun _ => r_move rfl) ?_
  obtain ⟨c3, di, hm⟩ := bS hm
  refine xu (v := (sptr en (Int.toNat dg * 3))) rfl rfl (fun _ => r_idx Tryz.underlying51 Tryz.sizeOf40 rfl rfl (at?_some di).1 (at?_some di).2.1 (eo.addr di)) ?_
  obtain ⟨_, fr, fs⟩ := eo.atN di
  obtain ⟨_, _, rfl, ft, fu⟩ := fr.parts
  obtain ⟨_, _, rfl, fv, fw⟩ := ft.parts
  obtain rfl := fv.bool
  obtain ⟨ep, eq, rfl, d0⟩ := fw.row
  obtain ⟨er, es, rfl, d1⟩ := fu.row
  refine xv (v := (.agg #[(.bool c3.1.1), (.slice ep c3.1.2.length eq), (.slice er c3.2.length es)])) rfl rfl (fun _ hC => r_ldN Tryz.isAgg40 Tryz.sizeOf40 rfl rfl (fs.gr (Grow.of_below (col := ad) hC.below))) ?_
  refine xe rfl rfl ?_
  intro et hC0
  have hC : Grow ad ax ad et := .of_below hC0.below
  obtain ⟨bs, fx, hm⟩ := bS hm
  replace db := db.gr hC
  replace dc := dc.gr hC
  replace d0 := d0.gr hC
  replace d1 := d1.gr hC
  refine lc rfl rfl (r_call2 Tryz.call35 rfl rfl) (c_frac_Mul N 10 11 (frC 999 (frC 3 (frC 2 ad))) _ cn co cp cq ((cm, ce), cf) ep eq er es ((c3.1.1, c3.1.2), c3.2) (((db.toSlF (Froz.int .u32)).froz 3).froz 999) (((dc.froz 2 (by decide)).toSlF (Froz.int .u32)).froz 999) (((d0.froz 2 (by decide)).froz 3 (by decide)).toSlF (Froz.int .u32)) (((d1.froz 2 (by decide)).froz 3 (by decide)).toSlF (Froz.int .u32)) bs fx) ?_
  rintro _ eu ⟨fy, d2, d3, d4, d5, rfl, az, bo, bp⟩
  refine ⟨_, rfl, ?_⟩
  replace bo := bo.thaw (flat_int .u32) az ((((Fz.refl (col := ad)).froz 2).froz 3).froz 999) (by decide)
  replace bp := bp.thaw (flat_int .u32) az ((((Fz.refl (col := ad)).froz 2).froz 3).froz 999) (by decide)
  replace az := az.thawR (col := ad)
  generalize colR et.heap.size ad fy = bt at *
  refine lN ⟨fun w' => Grow bt eu bt w', Grow.refl _ _, fun _ _ h => cls hC0 az h, ?_⟩
  refine xe rfl rfl ?_
  intro fz hC0
  replace aa := (aa.gr hC).gr az
  replace ak := (ak.gr hC).gr az
  replace al := (al.gr hC).gr az
  replace am := (am.gr hC).gr az
  replace ac := (ac.gr hC).gr az
  replace ai := (ai.gr hC).gr az
  replace aj := (aj.gr hC).gr az
  replace a5 := (a5.gr hC).gr az
  replace ae := (ae.gr hC).gr az
  replace af := (af.gr hC).gr az
  replace ag := (ag.gr hC).gr az
  replace ah := (ah.gr hC).gr az
  replace hb2 := (hb2.gr hC).gr az
  replace hb3 := (hb3.gr hC).gr az
  replace hb4 := (hb4.gr hC).gr az
  replace bg := (bg.gr hC).gr az
  replace hb1 := (hb1.gr hC).gr az
  replace hst := (hst.grow hC).grow az
  have hC : Grow bt eu bt fz := .of_below hC0.below
  replace bg := bg.gr hC
  refine l_bstore (v := (.agg #[(.bool bs.1.1), (.slice d2 bs.1.2.length d3), (.slice d4 bs.2.length d5)])) bg Tryz.sizeOf40 rfl rfl (by intro u hu; simp only [Value.cells, List.mem_cons, List.not_mem_nil, or_false] at hu; rcases hu with rfl | rfl | rfl <;> rfl) rfl rfl ?_
  intro d6 be f0 bx
  clear bg
  replace bx : Box 40 4 bt d6 cd #[(.bool bs.1.1), (.slice d2 bs.1.2.length d3), (.slice d4 bs.2.length d5)] := bx
  refine lN ⟨fun w' => Grow bt d6 bt w', Grow.refl _ _, fun h => absurd h (by decide), ?_⟩
  refine xnil ?_
  replace aa := (aa.gr hC).kp be
  replace ak := (ak.gr hC).kp be
  replace al := (al.gr hC).kp be
  replace am := (am.gr hC).kp be
  replace ac := (ac.gr hC).kp be
  replace ai := (ai.gr hC).kp be
  replace aj := (aj.gr hC).kp be
  replace a5 := (a5.gr hC).kp be
  replace bo := (bo.gr hC).kp be
  replace bp := (bp.gr hC).kp be
  replace ae := (ae.gr hC).kp be
  replace af := (af.gr hC).kp be
  replace ag := (ag.gr hC).kp be
  replace ah := (ah.gr hC).kp be
  replace hb2 := (hb2.gr hC).kp be
  replace hb3 := (hb3.gr hC).kp be
  replace hb4 := (hb4.gr hC).kp be
  replace hb1 := (hb1.gr hC).kp be
  replace hst := (hst.grow hC).kp be f0
  intro f1 hC
  replace hC : Grow bt d6 bt f1 := .of_below hC.below
  refine wR <| lV (.int .i64 (IntKind.i64.wrap ((ba : Int) + 1))) (r_add (ba : Int) 1 rfl rfl) <| lM (.int .i64 (IntKind.i64.wrap ((ba : Int) + 1))) <| lN ?_
  replace aa := aa.gr hC
  replace aa := aa.recol 10 2 (by decide)
  replace ak := ak.gr hC
  replace ak := ak.recol 10 2 (by decide)
  replace al := al.gr hC
  replace al := al.recol 10 2 (by decide)
  replace am := am.gr hC
  replace am := am.recol 10 2 (by decide)
  replace ac := ac.gr hC
  replace ac := ac.recol 10 2 (by decide)
  replace ai := ai.gr hC
  replace ai := ai.recol 10 2 (by decide)
  replace aj := aj.gr hC
  replace aj := aj.recol 10 2 (by decide)
  replace a5 := a5.gr hC
  replace a5 := a5.recol 10 2 (by decide)
  replace bo := bo.gr hC
  replace bo := bo.recolSelf 2 (by decide)
  replace bp := bp.gr hC
  replace bp := bp.recol 10 2 (by decide)
  replace ae := ae.gr hC
  replace ae := ae.recol 10 2 (by decide)
  replace af := af.gr hC
  replace af := af.recol 10 2 (by decide)
  replace ag := ag.gr hC
  replace ag := ag.recol 10 2 (by decide)
  replace ah := ah.gr hC
  replace ah := ah.recol 10 2 (by decide)
  replace hb2 := hb2.gr hC
  replace hb2 := hb2.recol 10 2 (by decide)
  replace hb3 := hb3.gr hC
  replace hb3 := hb3.recol 10 2 (by decide)
  replace hb4 := hb4.gr hC
  replace hb4 := hb4.recol 10 2 (by decide)
  replace bx := bx.gr hC
  replace bx := bx.recol 10 2 (by decide)
  replace hb1 := hb1.gr hC
  replace hb1 := hb1.recol 10 2 (by decide)
  replace hst := hst.grow hC
  replace hst := hst.recol 10 2 (by decide) (by decide)
  replace aa := aa.recol 11 3 (by decide)
  replace ak := ak.recol 11 3 (by decide)
  replace al := al.recol 11 3 (by decide)
  replace am := am.recol 11 3 (by decide)
  replace ac := ac.recol 11 3 (by decide)
  replace ai := ai.recol 11 3 (by decide)
  replace aj := aj.recol 11 3 (by decide)
  replace a5 := a5.recol 11 3 (by decide)
  replace bo := bo.recol 11 3 (by decide)
  replace bp := bp.recolSelf 3 (by decide)
  replace ae := ae.recol 11 3 (by decide)
  replace af := af.recol 11 3 (by decide)
  replace ag := ag.recol 11 3 (by decide)
  replace ah := ah.recol 11 3 (by decide)
  replace hb2 := hb2.recol 11 3 (by decide)
  replace hb3 := hb3.recol 11 3 (by decide)
  replace hb4 := hb4.recol 11 3 (by decide)
  replace bx := bx.recol 11 3 (by decide)
  replace hb1 := hb1.recol 11 3 (by decide)
  replace hst := hst.recol 11 3 (by decide) (by decide)
  exact ⟨em.length, by simp, ⟨(rcC 11 3 (rcC 10 2 bt)), (ba + 1), bs.1.1, d2, d3, bs.1.2, d4, d5, bs.2, em, rfl, hl2_L1, hm, hst, aa, ak, al, am, ac, hb2, ai, aj, hb3, a5, hb4, bo, bp, bx, ae, af, ag, ah, hb1, (congrArg (Value.int .i64) (wrap_succ (Nat.lt_of_lt_of_le hlt_L1 aa.len))), rfl, rfl, rfl, rfl, rfl, rfl, rfl, rfl⟩⟩

end Go.Proofs.YtonkjfnjadofpaaGreat
